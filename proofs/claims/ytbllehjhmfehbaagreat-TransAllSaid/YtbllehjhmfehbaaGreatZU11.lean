/- My texts, joined for the claim: R19Lacks R19ClashM R19Clash. -/
import Derived.Test.YtbllehjhmfehbaaGreatZU1
import Derived.Test.YtbllehjhmfehbaaGreatZU9
import Derived.Test.YtbllehjhmfehbaaGreatZU7
import Derived.Test.YtbllehjhmfehbaaGreatZU10

section
/- lacks of the reference of layer 19: the first job whose needs are not there. (bel2) -/
namespace Go.Proofs.YtbllehjhmfehbaaGreat
open Go.RowKit Go.Sort
set_option linter.unusedSimpArgs false
namespace Od
theorem stop17_any (A : Option Addr) (c : Nat) (l : List Pl) (u : Str) (w : World) (hr : Rd w w.heap.size 4 A l.length (plsC l)) (hl : l.length ≤ 1000000) :
  Calls Tryz.prog 111 #[.slice A l.length c, sv u, .int .i64 2] w fun e w' => ∃ p : Pl, e = .returned (.tuple #[plV p, .bool (stopL l u)]) ∧ Below w.heap.size w w' :=
 (find17_any A c l u 2 w hr hl).mono fun e w' ⟨h, hb⟩ => ⟨(l.find? (isP u 2)).getD ([], 0, false, []), by rw [h, stop_find]; rfl, hb⟩
theorem missP_is {es : List Ed} {up : List Str} {l : List Pl} {u : Str} : missP es up l u = ((outR es u 3).any (missU up l 3) || (outR es u 1 ++ outR es u 4).any (missU up l 1)) := by
 rw [List.any_append, ← outR_eq, ← outR_eq, ← outR_eq]
 have : missU up l 4 = missU up l 1 := by funext v; rfl
 unfold missP
 rw [this]
set_option maxRecDepth 100000 in
set_option maxHeartbeats 32000000 in
theorem lacks17_any (An Ae Au Ah A : Option Addr) (nn cn ce cu ch c : Nat) (es : List Ed) (up half : List Str) (l : List Pl) (w : World) (hr : Rd w w.heap.size 3 Ae es.length (edsC es)) (hel : es.length ≤ 10000) (hn : NIn w Au Ah up half) (hp : Rd w w.heap.size 4 A l.length (plsC l)) (hl : l.length ≤ 1000000) :
  Calls Tryz.prog 73 #[gV An nn cn Ae es.length ce, nowV Au up.length cu Ah half.length ch, .slice A l.length c] w fun e w' => e = .returned (pullV (l.find? (lackP es up l))) ∧ Below w.heap.size w w' := by
 obtain ⟨s0, hs, hs0, hs1, hs2⟩ := info_parts infoS
 have Hr := Lib.hid hr
 have Hp := Lib.hid hp
 have Hn := Lib.hid hn
 clear hr hn hp
 go_enter Tryz.func73, Tryz.ntmps73
 go_wp2_with fail
 first | (refine wp_named ?_; intro W1 hW) | (refine calls_named ?_; intro W1 hW)
 have B1 : Below w.heap.size w W1 := by rw [hW]; exact bq2
 replace Hr := Lib.hid (Hr.out.at B1)
 replace Hp := Lib.hid (Hp.out.at B1)
 replace Hn := Lib.hid (Hn.out.at B1)
 have n1 : w.heap.size < W1.heap.size := by rw [hW]; simp <;> omega
 have n2 : (w.heap.size + 1) < W1.heap.size := by rw [hW]; simp <;> omega
 have n3 : (w.heap.size + 1 + 1) < W1.heap.size := by rw [hW]; simp <;> omega
 have g0 : W1.cell? ⟨w.heap.size, 0, none⟩ = some (.slice An nn cn) := by rw [hW]; go_simp
 have g1 : W1.cell? ⟨w.heap.size, 1, none⟩ = some (.slice Ae es.length ce) := by rw [hW]; go_simp
 have h0 : W1.cell? ⟨(w.heap.size + 1), 0, none⟩ = some (.slice Au up.length cu) := by rw [hW]; go_simp
 have h1 : W1.cell? ⟨(w.heap.size + 1), 1, none⟩ = some (.slice Ah half.length ch) := by rw [hW]; go_simp
 have r0 : W1.cell? ⟨(w.heap.size + 1 + 1), 0, none⟩ = some (.string ⟨#[]⟩) := by rw [hW]; go_simp
 have r1 : W1.cell? ⟨(w.heap.size + 1 + 1), 1, none⟩ = some (.int .i64 0) := by rw [hW]; go_simp
 have r2 : W1.cell? ⟨(w.heap.size + 1 + 1), 2, none⟩ = some (.bool false) := by rw [hW]; go_simp
 have r3 : W1.cell? ⟨(w.heap.size + 1 + 1), 3, none⟩ = some (.string ⟨#[]⟩) := by rw [hW]; go_simp
 have z0 : W1.frozen? ⟨(w.heap.size + 1 + 1), 0, none⟩ = false := by rw [hW]; go_simp
 have z1 : W1.frozen? ⟨(w.heap.size + 1 + 1), 1, none⟩ = false := by rw [hW]; go_simp
 have z2 : W1.frozen? ⟨(w.heap.size + 1 + 1), 2, none⟩ = false := by rw [hW]; go_simp
 have z3 : W1.frozen? ⟨(w.heap.size + 1 + 1), 3, none⟩ = false := by rw [hW]; go_simp
 clear hW
 have HB1 := Lib.hid B1
 have hzz : w.heap.size ≤ W1.heap.size := B1.size
 clear B1
 go_loopw [20] (fun i wr => ∃ k : Nat, k ≤ l.length ∧ i = .int .i64 k ∧ Hid ((l.take k).any (lackP es up l) = false) ∧ Below W1.heap.size W1 wr) (fun i _ => l.length - (intOf i).toNat)
 case atStart => exact ⟨0, Nat.zero_le _, rfl, by simp [Hid], Below.refl _ _⟩
 case round =>
  obtain ⟨k, hk, rfl, HK, hbl⟩ := hrel
  obtain ⟨w2, rfl⟩ : ∃ wo : World, wo = wr := ⟨_, rfl⟩
  have HBl := Lib.hid hbl
  clear hbl
  replace g0 := cellAt g0 HBl.out (by omega)
  replace g1 := cellAt g1 HBl.out (by omega)
  replace h0 := cellAt h0 HBl.out (by omega)
  replace h1 := cellAt h1 HBl.out (by omega)
  replace r0 := cellAt r0 HBl.out (by omega)
  replace r1 := cellAt r1 HBl.out (by omega)
  replace r2 := cellAt r2 HBl.out (by omega)
  replace r3 := cellAt r3 HBl.out (by omega)
  replace z0 := froAt z0 HBl.out (by omega)
  replace z1 := froAt z1 HBl.out (by omega)
  replace z2 := froAt z2 HBl.out (by omega)
  replace z3 := froAt z3 HBl.out (by omega)
  replace Hr := Lib.hid (Hr.out.at HBl.out)
  replace Hp := Lib.hid (Hp.out.at HBl.out)
  replace Hn := Lib.hid (Hn.out.at HBl.out)
  replace n1 : w.heap.size < w2.heap.size := ltAt n1 HBl.out
  replace n2 : (w.heap.size + 1) < w2.heap.size := ltAt n2 HBl.out
  replace n3 : (w.heap.size + 1 + 1) < w2.heap.size := ltAt n3 HBl.out
  have hzw := HBl.out.size
  by_cases hlt : k < l.length
  ·obtain ⟨b2, o2, hA, hB2, x0, x1, x2, x3⟩ := Hp.out.pl hlt
   subst hA
   have hnx := find_at (p := lackP es up l) hlt HK.out
   have hany := any_take_succ (p := lackP es up l) hlt
   rw [HK.out, Bool.false_or] at hany
   generalize l[k] = p at x0 x1 x2 x3 hnx hany
   obtain ⟨s', t', n', b'⟩ := p
   have hlk : lackP es up l (s', t', n', b') = ((t' == 1 || t' == 3) && missP es up l s') := rfl
   rw [hlk, missP_is] at hnx hany
   simp only at x0 x1 x2 x3
   have i1 : (0 : Int) ≤ (k : Int) := by omega
   have i2 : (k : Int) < (l.length : Int) := by omega
   clear hlk
   by_cases t1 : t' = 1
   ·subst t1
    rw [show (((1 : Int) == 1 || (1 : Int) == 3)) = true from rfl, Bool.true_and] at hnx hany
    have HA := Lib.hid hany
    have HX := Lib.hid hnx
    clear hany hnx
    go_wp2_with fail
    first | (refine wp_named ?_; intro W4 hW) | (refine calls_named ?_; intro W4 hW)
    have B4 : Below w2.heap.size w2 W4 := by rw [hW]; exact bq2
    replace g0 := cellAt g0 B4 (by omega)
    replace g1 := cellAt g1 B4 (by omega)
    replace h0 := cellAt h0 B4 (by omega)
    replace h1 := cellAt h1 B4 (by omega)
    replace r0 := cellAt r0 B4 (by omega)
    replace r1 := cellAt r1 B4 (by omega)
    replace r2 := cellAt r2 B4 (by omega)
    replace r3 := cellAt r3 B4 (by omega)
    replace z0 := froAt z0 B4 (by omega)
    replace z1 := froAt z1 B4 (by omega)
    replace z2 := froAt z2 B4 (by omega)
    replace z3 := froAt z3 B4 (by omega)
    replace Hr := Lib.hid (Hr.out.at B4)
    replace Hp := Lib.hid (Hp.out.at B4)
    replace Hn := Lib.hid (Hn.out.at B4)
    replace n1 : w.heap.size < W4.heap.size := ltAt n1 B4
    replace n2 : (w.heap.size + 1) < W4.heap.size := ltAt n2 B4
    replace n3 : (w.heap.size + 1 + 1) < W4.heap.size := ltAt n3 B4
    have m4 : w2.heap.size < W4.heap.size := by rw [hW]; simp <;> omega
    have y0 : W4.cell? ⟨w2.heap.size, 0, none⟩ = some (sv s') := by rw [hW]; go_simp
    have y1 : W4.cell? ⟨w2.heap.size, 1, none⟩ = some (.int .i64 1) := by rw [hW]; go_simp
    have y2 : W4.cell? ⟨w2.heap.size, 2, none⟩ = some (.bool n') := by rw [hW]; go_simp
    have y3 : W4.cell? ⟨w2.heap.size, 3, none⟩ = some (sv b') := by rw [hW]; go_simp
    clear hW
    have HB4 := Lib.hid B4
    clear B4 x0 x1 x2 x3
    refine (Out15_any An Ae nn cn ce es s' 3 W4 Hr.out (by omega)).mono ?_
    rintro e w5 ⟨A3, c3, rfl, hc3, hr3, hb⟩
    have H3 := Lib.hid hr3
    have HB5 := Lib.hid (lift HB4.out hb)
    replace g0 := cellAt g0 hb (by omega)
    replace g1 := cellAt g1 hb (by omega)
    replace h0 := cellAt h0 hb (by omega)
    replace h1 := cellAt h1 hb (by omega)
    replace r0 := cellAt r0 hb (by omega)
    replace r1 := cellAt r1 hb (by omega)
    replace r2 := cellAt r2 hb (by omega)
    replace r3 := cellAt r3 hb (by omega)
    replace z0 := froAt z0 hb (by omega)
    replace z1 := froAt z1 hb (by omega)
    replace z2 := froAt z2 hb (by omega)
    replace z3 := froAt z3 hb (by omega)
    replace y0 := cellAt y0 hb (by omega)
    replace y1 := cellAt y1 hb (by omega)
    replace y2 := cellAt y2 hb (by omega)
    replace y3 := cellAt y3 hb (by omega)
    replace Hr := Lib.hid (Hr.out.at hb)
    replace Hp := Lib.hid (Hp.out.at hb)
    replace Hn := Lib.hid (Hn.out.at hb)
    replace n1 : w.heap.size < w5.heap.size := ltAt n1 hb
    replace n2 : (w.heap.size + 1) < w5.heap.size := ltAt n2 hb
    replace n3 : (w.heap.size + 1 + 1) < w5.heap.size := ltAt n3 hb
    replace m4 : w2.heap.size < w5.heap.size := ltAt m4 hb
    have hO3 := outR_le es s' 3
    have hO1 := outR_le es s' 1
    have hO4 := outR_le es s' 4
    have HC1 := Lib.hid (fun W hr => Out15o_any An Ae nn cn ce es s' 1 W hr (by omega))
    have HC4 := Lib.hid (fun W hr => Out15_any An Ae nn cn ce es s' 4 W hr (by omega))
    clear hb hr3
    generalize outR es s' 3 = O3 at *
    generalize outR es s' 1 = O1 at *
    generalize outR es s' 4 = O4 at *
    go_wp2_with fail
    go_loopw [37] (fun i wr => ∃ j : Nat, j ≤ O3.length ∧ i = .int .i64 j ∧ Hid ((O3.take j).any (missU up l 3) = false) ∧ Below w5.heap.size w5 wr) (fun i _ => O3.length - (intOf i).toNat)
    case atStart => exact ⟨0, Nat.zero_le _, rfl, by simp [Hid], Below.refl _ _⟩
    case round =>
     obtain ⟨j, hj, rfl, HJ, hbj⟩ := hrel
     obtain ⟨w6, rfl⟩ : ∃ wo : World, wo = wr := ⟨_, rfl⟩
     have HBj := Lib.hid hbj
     clear hbj
     replace g0 := cellAt g0 HBj.out (by omega)
     replace g1 := cellAt g1 HBj.out (by omega)
     replace h0 := cellAt h0 HBj.out (by omega)
     replace h1 := cellAt h1 HBj.out (by omega)
     replace r0 := cellAt r0 HBj.out (by omega)
     replace r1 := cellAt r1 HBj.out (by omega)
     replace r2 := cellAt r2 HBj.out (by omega)
     replace r3 := cellAt r3 HBj.out (by omega)
     replace z0 := froAt z0 HBj.out (by omega)
     replace z1 := froAt z1 HBj.out (by omega)
     replace z2 := froAt z2 HBj.out (by omega)
     replace z3 := froAt z3 HBj.out (by omega)
     replace y0 := cellAt y0 HBj.out (by omega)
     replace y1 := cellAt y1 HBj.out (by omega)
     replace y2 := cellAt y2 HBj.out (by omega)
     replace y3 := cellAt y3 HBj.out (by omega)
     replace Hr := Lib.hid (Hr.out.at HBj.out)
     replace Hp := Lib.hid (Hp.out.at HBj.out)
     replace Hn := Lib.hid (Hn.out.at HBj.out)
     replace n1 : w.heap.size < w6.heap.size := ltAt n1 HBj.out
     replace n2 : (w.heap.size + 1) < w6.heap.size := ltAt n2 HBj.out
     replace n3 : (w.heap.size + 1 + 1) < w6.heap.size := ltAt n3 HBj.out
     replace m4 : w2.heap.size < w6.heap.size := ltAt m4 HBj.out
     replace H3 := Lib.hid (H3.out.at HBj.out)
     have hz6 := HBj.out.size
     by_cases hlt2 : j < O3.length
     ·skip
      obtain ⟨b3, o3, hA3, hB3, v0⟩ := H3.out.str hlt2
      subst hA3
      have hja := any_take_succ (p := missU up l 3) hlt2
      rw [HJ.out, Bool.false_or] at hja
      have hjx := any_of_at (p := missU up l 3) hlt2
      generalize O3[j] = v at v0 hja hjx
      have hmu := missU_eq up l 3 v
      rw [hmu] at hja hjx
      have HJa := Lib.hid hja
      have HJx := Lib.hid hjx
      have HSt := Lib.hid (fun W hr => stop17_any (some ⟨b2, o2, none⟩) c l v W hr hl)
      have HBg := Lib.hid (fun W hr => begins17_any (some ⟨b2, o2, none⟩) c l v W hr hl)
      have HHs := Lib.hid (fun W h1 h2 => HasS_any Au cu up v W h1 h2)
      have i3 : (0 : Int) ≤ (j : Int) := by omega
      have i4 : (j : Int) < (O3.length : Int) := by omega
      clear hja hjx hmu
      generalize startL l v = sa at *
      generalize stopL l v = so at *
      generalize hasB up v = hu at *
      go_wp2_with fail
      refine (HSt.out w6 Hp.out).mono ?_
      rintro e w7 ⟨⟨s2, t2, n2', q2⟩, rfl, hb⟩
      have hb7 := lift HBj.out hb
      have HB7 := Lib.hid hb7
      replace g0 := cellAt g0 hb (by omega)
      replace g1 := cellAt g1 hb (by omega)
      replace h0 := cellAt h0 hb (by omega)
      replace h1 := cellAt h1 hb (by omega)
      replace r0 := cellAt r0 hb (by omega)
      replace r1 := cellAt r1 hb (by omega)
      replace r2 := cellAt r2 hb (by omega)
      replace r3 := cellAt r3 hb (by omega)
      replace z0 := froAt z0 hb (by omega)
      replace z1 := froAt z1 hb (by omega)
      replace z2 := froAt z2 hb (by omega)
      replace z3 := froAt z3 hb (by omega)
      replace y0 := cellAt y0 hb (by omega)
      replace y1 := cellAt y1 hb (by omega)
      replace y2 := cellAt y2 hb (by omega)
      replace y3 := cellAt y3 hb (by omega)
      replace Hr := Lib.hid (Hr.out.at hb)
      replace Hp := Lib.hid (Hp.out.at hb)
      replace Hn := Lib.hid (Hn.out.at hb)
      replace n1 : w.heap.size < w7.heap.size := ltAt n1 hb
      replace n2 : (w.heap.size + 1) < w7.heap.size := ltAt n2 hb
      replace n3 : (w.heap.size + 1 + 1) < w7.heap.size := ltAt n3 hb
      replace m4 : w2.heap.size < w7.heap.size := ltAt m4 hb
      replace H3 := Lib.hid (H3.out.at hb)
      clear hb v0
      cases so
      ·go_wp2_with fail
       first | (refine wp_named ?_; intro W8 hW) | (refine calls_named ?_; intro W8 hW)
       have B8 : Below w7.heap.size w7 W8 := by rw [hW]; exact bq2
       replace g0 := cellAt g0 B8 (by omega)
       replace g1 := cellAt g1 B8 (by omega)
       replace h0 := cellAt h0 B8 (by omega)
       replace h1 := cellAt h1 B8 (by omega)
       replace r0 := cellAt r0 B8 (by omega)
       replace r1 := cellAt r1 B8 (by omega)
       replace r2 := cellAt r2 B8 (by omega)
       replace r3 := cellAt r3 B8 (by omega)
       replace z0 := froAt z0 B8 (by omega)
       replace z1 := froAt z1 B8 (by omega)
       replace z2 := froAt z2 B8 (by omega)
       replace z3 := froAt z3 B8 (by omega)
       replace y0 := cellAt y0 B8 (by omega)
       replace y1 := cellAt y1 B8 (by omega)
       replace y2 := cellAt y2 B8 (by omega)
       replace y3 := cellAt y3 B8 (by omega)
       replace Hr := Lib.hid (Hr.out.at B8)
       replace Hp := Lib.hid (Hp.out.at B8)
       replace Hn := Lib.hid (Hn.out.at B8)
       replace n1 : w.heap.size < W8.heap.size := ltAt n1 B8
       replace n2 : (w.heap.size + 1) < W8.heap.size := ltAt n2 B8
       replace n3 : (w.heap.size + 1 + 1) < W8.heap.size := ltAt n3 B8
       replace m4 : w2.heap.size < W8.heap.size := ltAt m4 B8
       replace H3 := Lib.hid (H3.out.at B8)
       clear hW
       have hb8 := lift hb7 B8
       have HB8 := Lib.hid hb8
       clear B8 hb7
       refine (HHs.out W8 Hn.out.u.rd Hn.out.u.len).mono ?_
       rintro e w9 ⟨rfl, rfl⟩
       cases hu
       ·go_wp2_with fail
        refine (HBg.out W8 Hp.out).mono ?_
        rintro e w9 ⟨rfl, hb⟩
        have hb9 := lift hb8 hb
        have HB9 := Lib.hid hb9
        replace g0 := cellAt g0 hb (by omega)
        replace g1 := cellAt g1 hb (by omega)
        replace h0 := cellAt h0 hb (by omega)
        replace h1 := cellAt h1 hb (by omega)
        replace r0 := cellAt r0 hb (by omega)
        replace r1 := cellAt r1 hb (by omega)
        replace r2 := cellAt r2 hb (by omega)
        replace r3 := cellAt r3 hb (by omega)
        replace z0 := froAt z0 hb (by omega)
        replace z1 := froAt z1 hb (by omega)
        replace z2 := froAt z2 hb (by omega)
        replace z3 := froAt z3 hb (by omega)
        replace y0 := cellAt y0 hb (by omega)
        replace y1 := cellAt y1 hb (by omega)
        replace y2 := cellAt y2 hb (by omega)
        replace y3 := cellAt y3 hb (by omega)
        replace Hr := Lib.hid (Hr.out.at hb)
        replace Hp := Lib.hid (Hp.out.at hb)
        replace Hn := Lib.hid (Hn.out.at hb)
        replace n1 : w.heap.size < w9.heap.size := ltAt n1 hb
        replace n2 : (w.heap.size + 1) < w9.heap.size := ltAt n2 hb
        replace n3 : (w.heap.size + 1 + 1) < w9.heap.size := ltAt n3 hb
        replace m4 : w2.heap.size < w9.heap.size := ltAt m4 hb
        replace H3 := Lib.hid (H3.out.at hb)
        clear hb
        cases sa
        ·skip
         have HX2 := Lib.hid (HX.out (by rw [HJx.out (by simp [missB])]; rfl))
         clear HX HA
         go_wp2_with fail
         have hB0 := lift HB1.out (lift HBl.out (lift HB5.out HB9.out))
         refine bodyPost_ret (v := .tuple #[plV (s', 1, n', b'), .bool true]) (by simp only [results, Tryz.results73]; go_simp) rfl ⟨by rw [HX2.out]; rfl, bq2⟩
        ·skip
         go_wp2_with fail
         go_roundw
         case rel => exact ⟨j + 1, by omega, by go_num, by show _ = false; rw [HJa.out]; simp [missB], bq2⟩
         case measure => simp [intOf]; omega
       ·skip
        go_wp2_with fail
        go_roundw
        case rel => exact ⟨j + 1, by omega, by go_num, by show _ = false; rw [HJa.out]; simp [missB], bq2⟩
        case measure => simp [intOf]; omega
      ·skip
       have HX2 := Lib.hid (HX.out (by rw [HJx.out (by simp [missB])]; rfl))
       clear HX HA
       go_wp2_with fail
       have hB0 := lift HB1.out (lift HBl.out (lift HB5.out HB7.out))
       refine bodyPost_ret (v := .tuple #[plV (s', 1, n', b'), .bool true]) (by simp only [results, Tryz.results73]; go_simp) rfl ⟨by rw [HX2.out]; rfl, bq2⟩
     ·obtain rfl : j = O3.length := by omega
      rw [List.take_length] at HJ
      rw [HJ.out, Bool.false_or] at HX HA
      have HB11 := Lib.hid (lift HB5.out HBj.out)
      clear HJ HBj
      have h63 := Lib.hid (show O1.length + O4.length ≤ maxLen by unfold maxLen; omega)
      have hby := Lib.hid (show (O1.length + O4.length) * 16 ≤ 140737488355328 by omega)
      go_upto_region 12 with fail
      try go_wp2_with fail
      refine wp_region_held_drew (S := fun w' => Below w6.heap.size w6 w') (by kernel_rfl) (Below.drew (Below.refl _ _)) (fun hHeld => ?_)
      refine tV 0 ?_ ?zq ?_; (case zq => intro w' hSw; have hCell := fun (b o : Nat) (h : b < w6.heap.size) => hSw.cell (p := ⟨b, o, none⟩) h; clear hSw; go_simp; try with_reducible rfl); try simp only [Act.put, zn1, zn2, zn3]
      refine tV 1 ?_ ?zq ?_; (case zq => rintro _ -; go_simp; try with_reducible rfl); try simp only [Act.put, zn1, zn2, zn3]
      refine tV 2 ?_ ?zq ?_; (case zq => intro w' hSw; have hCell := fun (b o : Nat) (h : b < w6.heap.size) => hSw.cell (p := ⟨b, o, none⟩) h; clear hSw; go_simp; try with_reducible rfl); try simp only [Act.put, zn1, zn2, zn3]
      refine tV 4 ?_ ?zq ?_; (case zq => intro w' hSw; have hCell := fun (b o : Nat) (h : b < w6.heap.size) => hSw.cell (p := ⟨b, o, none⟩) h; clear hSw; go_simp; try with_reducible rfl); try simp only [Act.put, zn1, zn2, zn3]
      refine tV 5 ?_ ?zq ?_; (case zq => rintro _ -; go_simp; try with_reducible rfl); try simp only [Act.put, zn1, zn2, zn3]
      refine tV 6 ?_ ?zq ?_; (case zq => intro w' hSw; have hCell := fun (b o : Nat) (h : b < w6.heap.size) => hSw.cell (p := ⟨b, o, none⟩) h; clear hSw; go_simp; try with_reducible rfl); try simp only [Act.put, zn1, zn2, zn3]
      refine tV 10 ?_ ?zq ?_; (case zq => rintro _ -; go_simp; try with_reducible rfl); try simp only [Act.put, zn1, zn2, zn3]
      refine ready_one (i := 3) rfl (by kernel_rfl) (fun K hK => ?_)
      go_simp
      refine (HC1.out _ (Hr.out.at hHeld)).mono ?_
      rintro e ya ⟨A1, c1', rfl, ho1, hb⟩
      have HO1 := Lib.hid (own_base ho1 hHeld.size)
      clear ho1
      refine hK.out _ _ ?_ (fun hHeld2 => ?_)
      ·(try dsimp only); first | exact Below.trans hHeld (Below.mono hb hHeld.size) | exact hHeld | exact Below.drew hHeld | exact bq2
      clear hK K hHeld; have hHeld := hHeld2; clear hHeld2; (try simp only [Act.put, zn1, zn2, zn3])
      refine ready_one (i := 7) rfl (by kernel_rfl) (fun K hK => ?_)
      go_simp
      refine (HC4.out _ (Hr.out.at hHeld)).mono ?_
      rintro e yb ⟨A2, c2', rfl, hc2, hr2, hb⟩
      have HO2 := Lib.hid (own_on HO1.out hb)
      have HS2 := Lib.hid hr2
      clear hr2
      refine hK.out _ _ ?_ (fun hHeld2 => ?_)
      ·(try dsimp only); first | exact Below.trans hHeld (Below.mono hb hHeld.size) | exact hHeld | exact Below.drew hHeld | exact bq2
      clear hK K hHeld; have hHeld := hHeld2; clear hHeld2; (try simp only [Act.put, zn1, zn2, zn3])
      refine ready_one (i := 8) rfl (by kernel_rfl) (fun K hK => ?_)
      refine step_append_rd _ (by rfl) (.tmp 66) (.tmp 70) 26 (by rfl) w6.heap.size 9 s0 _ 1 16 Tryz.underlying26 hs hs0 hs1 hs2 rfl (by decide) _ O1.length (svs O1) (by rfl) HO2.out _ A2 O4.length c2' (svs O4) (by rfl) HS2.out (one_svs _) h63.out hby.out hHeld.size ?_
      intro A7 c7 w12 ho7 hg7 hat7
      replace hHeld := hHeld.grown hg7 hHeld.size (fun j hj => (HO2.out.lt j hj).1)
      have HO7 := Lib.hid ho7
      clear ho7 hg7 hat7
      refine hK.out _ _ ?_ (fun hHeld2 => ?_)
      ·(try dsimp only); first | exact Below.trans hHeld (Below.mono hb hHeld.size) | exact hHeld | exact Below.drew hHeld | exact bq2
      clear hK K hHeld; have hHeld := hHeld2; clear hHeld2; (try simp only [Act.put, zn1, zn2, zn3])
      refine tV 9 ?_ ?zq ?_; (case zq => rintro _ -; go_simp; try with_reducible rfl); try simp only [Act.put, zn1, zn2, zn3]
      refine wpAnyH_done (by kernel_rfl) ?_ _
      have HB12 := Lib.hid (lift HB11.out hHeld)
      replace g0 := cellAt g0 hHeld (by omega)
      replace g1 := cellAt g1 hHeld (by omega)
      replace h0 := cellAt h0 hHeld (by omega)
      replace h1 := cellAt h1 hHeld (by omega)
      replace r0 := cellAt r0 hHeld (by omega)
      replace r1 := cellAt r1 hHeld (by omega)
      replace r2 := cellAt r2 hHeld (by omega)
      replace r3 := cellAt r3 hHeld (by omega)
      replace z0 := froAt z0 hHeld (by omega)
      replace z1 := froAt z1 hHeld (by omega)
      replace z2 := froAt z2 hHeld (by omega)
      replace z3 := froAt z3 hHeld (by omega)
      replace y0 := cellAt y0 hHeld (by omega)
      replace y1 := cellAt y1 hHeld (by omega)
      replace y2 := cellAt y2 hHeld (by omega)
      replace y3 := cellAt y3 hHeld (by omega)
      replace Hr := Lib.hid (Hr.out.at hHeld)
      replace Hp := Lib.hid (Hp.out.at hHeld)
      replace Hn := Lib.hid (Hn.out.at hHeld)
      replace n1 : w.heap.size < w12.heap.size := ltAt n1 hHeld
      replace n2 : (w.heap.size + 1) < w12.heap.size := ltAt n2 hHeld
      replace n3 : (w.heap.size + 1 + 1) < w12.heap.size := ltAt n3 hHeld
      replace m4 : w2.heap.size < w12.heap.size := ltAt m4 hHeld
      replace H3 := Lib.hid (H3.out.at hHeld)
      clear hHeld
      have hrd : Rd w12 w12.heap.size 1 A7 (O1.length + O4.length) (svs (O1 ++ O4)) := by rw [svs_app]; exact own_rd' HO7.out
      have hOl : O1.length + O4.length = (O1 ++ O4).length := by rw [List.length_append]
      have hOm : (O1 ++ O4).length ≤ 20000 := by rw [← hOl]; omega
      have hOc : ((O1.length : Int) + (O4.length : Int)) = ((O1 ++ O4).length : Int) := by rw [List.length_append]; omega
      generalize O1 ++ O4 = O14 at *
      generalize ((O1.length : Int) + (O4.length : Int)) = mz at *
      subst hOc
      generalize O1.length + O4.length = m14 at *
      subst hOl
      have HR7 := Lib.hid hrd
      clear hrd HC1 HC4 H3 hO1 hO4 hO3
      go_wp2_with fail
      go_loopw [73] (fun i wr => ∃ j : Nat, j ≤ O14.length ∧ i = .int .i64 j ∧ Hid ((O14.take j).any (missU up l 1) = false) ∧ Below w12.heap.size w12 wr) (fun i _ => O14.length - (intOf i).toNat)
      case atStart => exact ⟨0, Nat.zero_le _, rfl, by simp [Hid], Below.refl _ _⟩
      case round =>
       obtain ⟨j, hj, rfl, HJ, hbj⟩ := hrel
       obtain ⟨w13, rfl⟩ : ∃ wo : World, wo = wr := ⟨_, rfl⟩
       have HBj := Lib.hid hbj
       clear hbj
       replace g0 := cellAt g0 HBj.out (by omega)
       replace g1 := cellAt g1 HBj.out (by omega)
       replace h0 := cellAt h0 HBj.out (by omega)
       replace h1 := cellAt h1 HBj.out (by omega)
       replace r0 := cellAt r0 HBj.out (by omega)
       replace r1 := cellAt r1 HBj.out (by omega)
       replace r2 := cellAt r2 HBj.out (by omega)
       replace r3 := cellAt r3 HBj.out (by omega)
       replace z0 := froAt z0 HBj.out (by omega)
       replace z1 := froAt z1 HBj.out (by omega)
       replace z2 := froAt z2 HBj.out (by omega)
       replace z3 := froAt z3 HBj.out (by omega)
       replace y0 := cellAt y0 HBj.out (by omega)
       replace y1 := cellAt y1 HBj.out (by omega)
       replace y2 := cellAt y2 HBj.out (by omega)
       replace y3 := cellAt y3 HBj.out (by omega)
       replace Hr := Lib.hid (Hr.out.at HBj.out)
       replace Hp := Lib.hid (Hp.out.at HBj.out)
       replace Hn := Lib.hid (Hn.out.at HBj.out)
       replace n1 : w.heap.size < w13.heap.size := ltAt n1 HBj.out
       replace n2 : (w.heap.size + 1) < w13.heap.size := ltAt n2 HBj.out
       replace n3 : (w.heap.size + 1 + 1) < w13.heap.size := ltAt n3 HBj.out
       replace m4 : w2.heap.size < w13.heap.size := ltAt m4 HBj.out
       replace HR7 := Lib.hid (HR7.out.at HBj.out)
       have hz13 := HBj.out.size
       by_cases hlt2 : j < O14.length
       ·skip
        obtain ⟨b3, o3, hA3, hB3, v0⟩ := HR7.out.str hlt2
        subst hA3
        have hja := any_take_succ (p := missU up l 1) hlt2
        rw [HJ.out, Bool.false_or] at hja
        have hjx := any_of_at (p := missU up l 1) hlt2
        generalize O14[j] = v at v0 hja hjx
        have hmu := missU_eq up l 1 v
        rw [hmu] at hja hjx
        have HJa := Lib.hid hja
        have HJx := Lib.hid hjx
        have HSt := Lib.hid (fun W hr => stop17_any (some ⟨b2, o2, none⟩) c l v W hr hl)
        have HBg := Lib.hid (fun W hr => begins17_any (some ⟨b2, o2, none⟩) c l v W hr hl)
        have HHs := Lib.hid (fun W h1 h2 => HasS_any Au cu up v W h1 h2)
        have i3 : (0 : Int) ≤ (j : Int) := by omega
        have i4 : (j : Int) < (O14.length : Int) := by omega
        clear hja hjx hmu
        generalize startL l v = sa at *
        generalize stopL l v = so at *
        generalize hasB up v = hu at *
        go_wp2_with fail
        refine (HSt.out w13 Hp.out).mono ?_
        rintro e w7 ⟨⟨s2, t2, n2', q2⟩, rfl, hb⟩
        have hb7 := lift HBj.out hb
        have HB7 := Lib.hid hb7
        replace g0 := cellAt g0 hb (by omega)
        replace g1 := cellAt g1 hb (by omega)
        replace h0 := cellAt h0 hb (by omega)
        replace h1 := cellAt h1 hb (by omega)
        replace r0 := cellAt r0 hb (by omega)
        replace r1 := cellAt r1 hb (by omega)
        replace r2 := cellAt r2 hb (by omega)
        replace r3 := cellAt r3 hb (by omega)
        replace z0 := froAt z0 hb (by omega)
        replace z1 := froAt z1 hb (by omega)
        replace z2 := froAt z2 hb (by omega)
        replace z3 := froAt z3 hb (by omega)
        replace y0 := cellAt y0 hb (by omega)
        replace y1 := cellAt y1 hb (by omega)
        replace y2 := cellAt y2 hb (by omega)
        replace y3 := cellAt y3 hb (by omega)
        replace Hr := Lib.hid (Hr.out.at hb)
        replace Hp := Lib.hid (Hp.out.at hb)
        replace Hn := Lib.hid (Hn.out.at hb)
        replace n1 : w.heap.size < w7.heap.size := ltAt n1 hb
        replace n2 : (w.heap.size + 1) < w7.heap.size := ltAt n2 hb
        replace n3 : (w.heap.size + 1 + 1) < w7.heap.size := ltAt n3 hb
        replace m4 : w2.heap.size < w7.heap.size := ltAt m4 hb
        replace HR7 := Lib.hid (HR7.out.at hb)
        clear hb v0
        go_wp2_with fail
        first | (refine wp_named ?_; intro W8 hW) | (refine calls_named ?_; intro W8 hW)
        have B8 : Below w7.heap.size w7 W8 := by rw [hW]; exact bq2
        replace g0 := cellAt g0 B8 (by omega)
        replace g1 := cellAt g1 B8 (by omega)
        replace h0 := cellAt h0 B8 (by omega)
        replace h1 := cellAt h1 B8 (by omega)
        replace r0 := cellAt r0 B8 (by omega)
        replace r1 := cellAt r1 B8 (by omega)
        replace r2 := cellAt r2 B8 (by omega)
        replace r3 := cellAt r3 B8 (by omega)
        replace z0 := froAt z0 B8 (by omega)
        replace z1 := froAt z1 B8 (by omega)
        replace z2 := froAt z2 B8 (by omega)
        replace z3 := froAt z3 B8 (by omega)
        replace y0 := cellAt y0 B8 (by omega)
        replace y1 := cellAt y1 B8 (by omega)
        replace y2 := cellAt y2 B8 (by omega)
        replace y3 := cellAt y3 B8 (by omega)
        replace Hr := Lib.hid (Hr.out.at B8)
        replace Hp := Lib.hid (Hp.out.at B8)
        replace Hn := Lib.hid (Hn.out.at B8)
        replace n1 : w.heap.size < W8.heap.size := ltAt n1 B8
        replace n2 : (w.heap.size + 1) < W8.heap.size := ltAt n2 B8
        replace n3 : (w.heap.size + 1 + 1) < W8.heap.size := ltAt n3 B8
        replace m4 : w2.heap.size < W8.heap.size := ltAt m4 B8
        replace HR7 := Lib.hid (HR7.out.at B8)
        clear hW
        have hb8 := lift hb7 B8
        have HB8 := Lib.hid hb8
        clear B8 hb7
        refine (HBg.out W8 Hp.out).mono ?_
        rintro e w9 ⟨rfl, hb⟩
        have hb9 := lift hb8 hb
        have HB9 := Lib.hid hb9
        replace g0 := cellAt g0 hb (by omega)
        replace g1 := cellAt g1 hb (by omega)
        replace h0 := cellAt h0 hb (by omega)
        replace h1 := cellAt h1 hb (by omega)
        replace r0 := cellAt r0 hb (by omega)
        replace r1 := cellAt r1 hb (by omega)
        replace r2 := cellAt r2 hb (by omega)
        replace r3 := cellAt r3 hb (by omega)
        replace z0 := froAt z0 hb (by omega)
        replace z1 := froAt z1 hb (by omega)
        replace z2 := froAt z2 hb (by omega)
        replace z3 := froAt z3 hb (by omega)
        replace y0 := cellAt y0 hb (by omega)
        replace y1 := cellAt y1 hb (by omega)
        replace y2 := cellAt y2 hb (by omega)
        replace y3 := cellAt y3 hb (by omega)
        replace Hr := Lib.hid (Hr.out.at hb)
        replace Hp := Lib.hid (Hp.out.at hb)
        replace Hn := Lib.hid (Hn.out.at hb)
        replace n1 : w.heap.size < w9.heap.size := ltAt n1 hb
        replace n2 : (w.heap.size + 1) < w9.heap.size := ltAt n2 hb
        replace n3 : (w.heap.size + 1 + 1) < w9.heap.size := ltAt n3 hb
        replace m4 : w2.heap.size < w9.heap.size := ltAt m4 hb
        replace HR7 := Lib.hid (HR7.out.at hb)
        clear hb hb8
        cases sa
        ·cases so
         ·go_wp2_with fail
          refine (HHs.out w9 Hn.out.u.rd Hn.out.u.len).mono ?_
          rintro e wz ⟨rfl, rfl⟩
          cases hu
          ·skip
           have HX2 := Lib.hid (HX.out (by rw [HJx.out (by simp [missB])]))
           clear HX HA
           go_wp2_with fail
           have hB0 := lift HB1.out (lift HBl.out (lift HB12.out HB9.out))
           refine bodyPost_ret (v := .tuple #[plV (s', 1, n', b'), .bool true]) (by simp only [results, Tryz.results73]; go_simp) rfl ⟨by rw [HX2.out]; rfl, bq2⟩
          ·skip
           go_wp2_with fail
           go_roundw
           case rel => exact ⟨j + 1, by omega, by go_num, by show _ = false; rw [HJa.out]; simp [missB], bq2⟩
           case measure => simp [intOf]; omega
         ·skip
          have HX2 := Lib.hid (HX.out (by rw [HJx.out (by simp [missB])]))
          clear HX HA
          go_wp2_with fail
          have hB0 := lift HB1.out (lift HBl.out (lift HB12.out HB9.out))
          refine bodyPost_ret (v := .tuple #[plV (s', 1, n', b'), .bool true]) (by simp only [results, Tryz.results73]; go_simp) rfl ⟨by rw [HX2.out]; rfl, bq2⟩
        ·skip
         go_wp2_with fail
         go_roundw
         case rel => exact ⟨j + 1, by omega, by go_num, by show _ = false; rw [HJa.out]; simp [missB], bq2⟩
         case measure => simp [intOf]; omega
       ·obtain rfl : j = O14.length := by omega
        rw [List.take_length] at HJ
        rw [HJ.out] at HA
        have hbz := lift HBl.out (lift HB12.out HBj.out)
        go_wp2_with fail
        go_roundw
        case rel => exact ⟨k + 1, by omega, by go_num, HA.out, hbz⟩
        case measure => simp [intOf]; omega
   ·have m1 : (t' == 1) = false := by simpa using t1
    by_cases t3 : t' = 3
    ·subst t3
     rw [show (((3 : Int) == 1 || (3 : Int) == 3)) = true from rfl, Bool.true_and] at hnx hany
     have HA := Lib.hid hany
     have HX := Lib.hid hnx
     clear hany hnx
     go_wp2_with fail
     first | (refine wp_named ?_; intro W4 hW) | (refine calls_named ?_; intro W4 hW)
     have B4 : Below w2.heap.size w2 W4 := by rw [hW]; exact bq2
     replace g0 := cellAt g0 B4 (by omega)
     replace g1 := cellAt g1 B4 (by omega)
     replace h0 := cellAt h0 B4 (by omega)
     replace h1 := cellAt h1 B4 (by omega)
     replace r0 := cellAt r0 B4 (by omega)
     replace r1 := cellAt r1 B4 (by omega)
     replace r2 := cellAt r2 B4 (by omega)
     replace r3 := cellAt r3 B4 (by omega)
     replace z0 := froAt z0 B4 (by omega)
     replace z1 := froAt z1 B4 (by omega)
     replace z2 := froAt z2 B4 (by omega)
     replace z3 := froAt z3 B4 (by omega)
     replace Hr := Lib.hid (Hr.out.at B4)
     replace Hp := Lib.hid (Hp.out.at B4)
     replace Hn := Lib.hid (Hn.out.at B4)
     replace n1 : w.heap.size < W4.heap.size := ltAt n1 B4
     replace n2 : (w.heap.size + 1) < W4.heap.size := ltAt n2 B4
     replace n3 : (w.heap.size + 1 + 1) < W4.heap.size := ltAt n3 B4
     have m4 : w2.heap.size < W4.heap.size := by rw [hW]; simp <;> omega
     have y0 : W4.cell? ⟨w2.heap.size, 0, none⟩ = some (sv s') := by rw [hW]; go_simp
     have y1 : W4.cell? ⟨w2.heap.size, 1, none⟩ = some (.int .i64 3) := by rw [hW]; go_simp
     have y2 : W4.cell? ⟨w2.heap.size, 2, none⟩ = some (.bool n') := by rw [hW]; go_simp
     have y3 : W4.cell? ⟨w2.heap.size, 3, none⟩ = some (sv b') := by rw [hW]; go_simp
     clear hW
     have HB4 := Lib.hid B4
     clear B4 x0 x1 x2 x3
     refine (Out15_any An Ae nn cn ce es s' 3 W4 Hr.out (by omega)).mono ?_
     rintro e w5 ⟨A3, c3, rfl, hc3, hr3, hb⟩
     have H3 := Lib.hid hr3
     have HB5 := Lib.hid (lift HB4.out hb)
     replace g0 := cellAt g0 hb (by omega)
     replace g1 := cellAt g1 hb (by omega)
     replace h0 := cellAt h0 hb (by omega)
     replace h1 := cellAt h1 hb (by omega)
     replace r0 := cellAt r0 hb (by omega)
     replace r1 := cellAt r1 hb (by omega)
     replace r2 := cellAt r2 hb (by omega)
     replace r3 := cellAt r3 hb (by omega)
     replace z0 := froAt z0 hb (by omega)
     replace z1 := froAt z1 hb (by omega)
     replace z2 := froAt z2 hb (by omega)
     replace z3 := froAt z3 hb (by omega)
     replace y0 := cellAt y0 hb (by omega)
     replace y1 := cellAt y1 hb (by omega)
     replace y2 := cellAt y2 hb (by omega)
     replace y3 := cellAt y3 hb (by omega)
     replace Hr := Lib.hid (Hr.out.at hb)
     replace Hp := Lib.hid (Hp.out.at hb)
     replace Hn := Lib.hid (Hn.out.at hb)
     replace n1 : w.heap.size < w5.heap.size := ltAt n1 hb
     replace n2 : (w.heap.size + 1) < w5.heap.size := ltAt n2 hb
     replace n3 : (w.heap.size + 1 + 1) < w5.heap.size := ltAt n3 hb
     replace m4 : w2.heap.size < w5.heap.size := ltAt m4 hb
     have hO3 := outR_le es s' 3
     have hO1 := outR_le es s' 1
     have hO4 := outR_le es s' 4
     have HC1 := Lib.hid (fun W hr => Out15o_any An Ae nn cn ce es s' 1 W hr (by omega))
     have HC4 := Lib.hid (fun W hr => Out15_any An Ae nn cn ce es s' 4 W hr (by omega))
     clear hb hr3
     generalize outR es s' 3 = O3 at *
     generalize outR es s' 1 = O1 at *
     generalize outR es s' 4 = O4 at *
     go_wp2_with fail
     go_loopw [37] (fun i wr => ∃ j : Nat, j ≤ O3.length ∧ i = .int .i64 j ∧ Hid ((O3.take j).any (missU up l 3) = false) ∧ Below w5.heap.size w5 wr) (fun i _ => O3.length - (intOf i).toNat)
     case atStart => exact ⟨0, Nat.zero_le _, rfl, by simp [Hid], Below.refl _ _⟩
     case round =>
      obtain ⟨j, hj, rfl, HJ, hbj⟩ := hrel
      obtain ⟨w6, rfl⟩ : ∃ wo : World, wo = wr := ⟨_, rfl⟩
      have HBj := Lib.hid hbj
      clear hbj
      replace g0 := cellAt g0 HBj.out (by omega)
      replace g1 := cellAt g1 HBj.out (by omega)
      replace h0 := cellAt h0 HBj.out (by omega)
      replace h1 := cellAt h1 HBj.out (by omega)
      replace r0 := cellAt r0 HBj.out (by omega)
      replace r1 := cellAt r1 HBj.out (by omega)
      replace r2 := cellAt r2 HBj.out (by omega)
      replace r3 := cellAt r3 HBj.out (by omega)
      replace z0 := froAt z0 HBj.out (by omega)
      replace z1 := froAt z1 HBj.out (by omega)
      replace z2 := froAt z2 HBj.out (by omega)
      replace z3 := froAt z3 HBj.out (by omega)
      replace y0 := cellAt y0 HBj.out (by omega)
      replace y1 := cellAt y1 HBj.out (by omega)
      replace y2 := cellAt y2 HBj.out (by omega)
      replace y3 := cellAt y3 HBj.out (by omega)
      replace Hr := Lib.hid (Hr.out.at HBj.out)
      replace Hp := Lib.hid (Hp.out.at HBj.out)
      replace Hn := Lib.hid (Hn.out.at HBj.out)
      replace n1 : w.heap.size < w6.heap.size := ltAt n1 HBj.out
      replace n2 : (w.heap.size + 1) < w6.heap.size := ltAt n2 HBj.out
      replace n3 : (w.heap.size + 1 + 1) < w6.heap.size := ltAt n3 HBj.out
      replace m4 : w2.heap.size < w6.heap.size := ltAt m4 HBj.out
      replace H3 := Lib.hid (H3.out.at HBj.out)
      have hz6 := HBj.out.size
      by_cases hlt2 : j < O3.length
      ·skip
       obtain ⟨b3, o3, hA3, hB3, v0⟩ := H3.out.str hlt2
       subst hA3
       have hja := any_take_succ (p := missU up l 3) hlt2
       rw [HJ.out, Bool.false_or] at hja
       have hjx := any_of_at (p := missU up l 3) hlt2
       generalize O3[j] = v at v0 hja hjx
       have hmu := missU_eq up l 3 v
       rw [hmu] at hja hjx
       have HJa := Lib.hid hja
       have HJx := Lib.hid hjx
       have HSt := Lib.hid (fun W hr => stop17_any (some ⟨b2, o2, none⟩) c l v W hr hl)
       have HBg := Lib.hid (fun W hr => begins17_any (some ⟨b2, o2, none⟩) c l v W hr hl)
       have HHs := Lib.hid (fun W h1 h2 => HasS_any Au cu up v W h1 h2)
       have i3 : (0 : Int) ≤ (j : Int) := by omega
       have i4 : (j : Int) < (O3.length : Int) := by omega
       clear hja hjx hmu
       generalize startL l v = sa at *
       generalize stopL l v = so at *
       generalize hasB up v = hu at *
       go_wp2_with fail
       refine (HSt.out w6 Hp.out).mono ?_
       rintro e w7 ⟨⟨s2, t2, n2', q2⟩, rfl, hb⟩
       have hb7 := lift HBj.out hb
       have HB7 := Lib.hid hb7
       replace g0 := cellAt g0 hb (by omega)
       replace g1 := cellAt g1 hb (by omega)
       replace h0 := cellAt h0 hb (by omega)
       replace h1 := cellAt h1 hb (by omega)
       replace r0 := cellAt r0 hb (by omega)
       replace r1 := cellAt r1 hb (by omega)
       replace r2 := cellAt r2 hb (by omega)
       replace r3 := cellAt r3 hb (by omega)
       replace z0 := froAt z0 hb (by omega)
       replace z1 := froAt z1 hb (by omega)
       replace z2 := froAt z2 hb (by omega)
       replace z3 := froAt z3 hb (by omega)
       replace y0 := cellAt y0 hb (by omega)
       replace y1 := cellAt y1 hb (by omega)
       replace y2 := cellAt y2 hb (by omega)
       replace y3 := cellAt y3 hb (by omega)
       replace Hr := Lib.hid (Hr.out.at hb)
       replace Hp := Lib.hid (Hp.out.at hb)
       replace Hn := Lib.hid (Hn.out.at hb)
       replace n1 : w.heap.size < w7.heap.size := ltAt n1 hb
       replace n2 : (w.heap.size + 1) < w7.heap.size := ltAt n2 hb
       replace n3 : (w.heap.size + 1 + 1) < w7.heap.size := ltAt n3 hb
       replace m4 : w2.heap.size < w7.heap.size := ltAt m4 hb
       replace H3 := Lib.hid (H3.out.at hb)
       clear hb v0
       cases so
       ·go_wp2_with fail
        first | (refine wp_named ?_; intro W8 hW) | (refine calls_named ?_; intro W8 hW)
        have B8 : Below w7.heap.size w7 W8 := by rw [hW]; exact bq2
        replace g0 := cellAt g0 B8 (by omega)
        replace g1 := cellAt g1 B8 (by omega)
        replace h0 := cellAt h0 B8 (by omega)
        replace h1 := cellAt h1 B8 (by omega)
        replace r0 := cellAt r0 B8 (by omega)
        replace r1 := cellAt r1 B8 (by omega)
        replace r2 := cellAt r2 B8 (by omega)
        replace r3 := cellAt r3 B8 (by omega)
        replace z0 := froAt z0 B8 (by omega)
        replace z1 := froAt z1 B8 (by omega)
        replace z2 := froAt z2 B8 (by omega)
        replace z3 := froAt z3 B8 (by omega)
        replace y0 := cellAt y0 B8 (by omega)
        replace y1 := cellAt y1 B8 (by omega)
        replace y2 := cellAt y2 B8 (by omega)
        replace y3 := cellAt y3 B8 (by omega)
        replace Hr := Lib.hid (Hr.out.at B8)
        replace Hp := Lib.hid (Hp.out.at B8)
        replace Hn := Lib.hid (Hn.out.at B8)
        replace n1 : w.heap.size < W8.heap.size := ltAt n1 B8
        replace n2 : (w.heap.size + 1) < W8.heap.size := ltAt n2 B8
        replace n3 : (w.heap.size + 1 + 1) < W8.heap.size := ltAt n3 B8
        replace m4 : w2.heap.size < W8.heap.size := ltAt m4 B8
        replace H3 := Lib.hid (H3.out.at B8)
        clear hW
        have hb8 := lift hb7 B8
        have HB8 := Lib.hid hb8
        clear B8 hb7
        refine (HHs.out W8 Hn.out.u.rd Hn.out.u.len).mono ?_
        rintro e w9 ⟨rfl, rfl⟩
        cases hu
        ·go_wp2_with fail
         refine (HBg.out W8 Hp.out).mono ?_
         rintro e w9 ⟨rfl, hb⟩
         have hb9 := lift hb8 hb
         have HB9 := Lib.hid hb9
         replace g0 := cellAt g0 hb (by omega)
         replace g1 := cellAt g1 hb (by omega)
         replace h0 := cellAt h0 hb (by omega)
         replace h1 := cellAt h1 hb (by omega)
         replace r0 := cellAt r0 hb (by omega)
         replace r1 := cellAt r1 hb (by omega)
         replace r2 := cellAt r2 hb (by omega)
         replace r3 := cellAt r3 hb (by omega)
         replace z0 := froAt z0 hb (by omega)
         replace z1 := froAt z1 hb (by omega)
         replace z2 := froAt z2 hb (by omega)
         replace z3 := froAt z3 hb (by omega)
         replace y0 := cellAt y0 hb (by omega)
         replace y1 := cellAt y1 hb (by omega)
         replace y2 := cellAt y2 hb (by omega)
         replace y3 := cellAt y3 hb (by omega)
         replace Hr := Lib.hid (Hr.out.at hb)
         replace Hp := Lib.hid (Hp.out.at hb)
         replace Hn := Lib.hid (Hn.out.at hb)
         replace n1 : w.heap.size < w9.heap.size := ltAt n1 hb
         replace n2 : (w.heap.size + 1) < w9.heap.size := ltAt n2 hb
         replace n3 : (w.heap.size + 1 + 1) < w9.heap.size := ltAt n3 hb
         replace m4 : w2.heap.size < w9.heap.size := ltAt m4 hb
         replace H3 := Lib.hid (H3.out.at hb)
         clear hb
         cases sa
         ·skip
          have HX2 := Lib.hid (HX.out (by rw [HJx.out (by simp [missB])]; rfl))
          clear HX HA
          go_wp2_with fail
          have hB0 := lift HB1.out (lift HBl.out (lift HB5.out HB9.out))
          refine bodyPost_ret (v := .tuple #[plV (s', 3, n', b'), .bool true]) (by simp only [results, Tryz.results73]; go_simp) rfl ⟨by rw [HX2.out]; rfl, bq2⟩
         ·skip
          go_wp2_with fail
          go_roundw
          case rel => exact ⟨j + 1, by omega, by go_num, by show _ = false; rw [HJa.out]; simp [missB], bq2⟩
          case measure => simp [intOf]; omega
        ·skip
         go_wp2_with fail
         go_roundw
         case rel => exact ⟨j + 1, by omega, by go_num, by show _ = false; rw [HJa.out]; simp [missB], bq2⟩
         case measure => simp [intOf]; omega
       ·skip
        have HX2 := Lib.hid (HX.out (by rw [HJx.out (by simp [missB])]; rfl))
        clear HX HA
        go_wp2_with fail
        have hB0 := lift HB1.out (lift HBl.out (lift HB5.out HB7.out))
        refine bodyPost_ret (v := .tuple #[plV (s', 3, n', b'), .bool true]) (by simp only [results, Tryz.results73]; go_simp) rfl ⟨by rw [HX2.out]; rfl, bq2⟩
      ·obtain rfl : j = O3.length := by omega
       rw [List.take_length] at HJ
       rw [HJ.out, Bool.false_or] at HX HA
       have HB11 := Lib.hid (lift HB5.out HBj.out)
       clear HJ HBj
       have h63 := Lib.hid (show O1.length + O4.length ≤ maxLen by unfold maxLen; omega)
       have hby := Lib.hid (show (O1.length + O4.length) * 16 ≤ 140737488355328 by omega)
       go_upto_region 12 with fail
       try go_wp2_with fail
       refine wp_region_held_drew (S := fun w' => Below w6.heap.size w6 w') (by kernel_rfl) (Below.drew (Below.refl _ _)) (fun hHeld => ?_)
       refine tV 0 ?_ ?zq ?_; (case zq => intro w' hSw; have hCell := fun (b o : Nat) (h : b < w6.heap.size) => hSw.cell (p := ⟨b, o, none⟩) h; clear hSw; go_simp; try with_reducible rfl); try simp only [Act.put, zn1, zn2, zn3]
       refine tV 1 ?_ ?zq ?_; (case zq => rintro _ -; go_simp; try with_reducible rfl); try simp only [Act.put, zn1, zn2, zn3]
       refine tV 2 ?_ ?zq ?_; (case zq => intro w' hSw; have hCell := fun (b o : Nat) (h : b < w6.heap.size) => hSw.cell (p := ⟨b, o, none⟩) h; clear hSw; go_simp; try with_reducible rfl); try simp only [Act.put, zn1, zn2, zn3]
       refine tV 4 ?_ ?zq ?_; (case zq => intro w' hSw; have hCell := fun (b o : Nat) (h : b < w6.heap.size) => hSw.cell (p := ⟨b, o, none⟩) h; clear hSw; go_simp; try with_reducible rfl); try simp only [Act.put, zn1, zn2, zn3]
       refine tV 5 ?_ ?zq ?_; (case zq => rintro _ -; go_simp; try with_reducible rfl); try simp only [Act.put, zn1, zn2, zn3]
       refine tV 6 ?_ ?zq ?_; (case zq => intro w' hSw; have hCell := fun (b o : Nat) (h : b < w6.heap.size) => hSw.cell (p := ⟨b, o, none⟩) h; clear hSw; go_simp; try with_reducible rfl); try simp only [Act.put, zn1, zn2, zn3]
       refine tV 10 ?_ ?zq ?_; (case zq => rintro _ -; go_simp; try with_reducible rfl); try simp only [Act.put, zn1, zn2, zn3]
       refine ready_one (i := 3) rfl (by kernel_rfl) (fun K hK => ?_)
       go_simp
       refine (HC1.out _ (Hr.out.at hHeld)).mono ?_
       rintro e ya ⟨A1, c1', rfl, ho1, hb⟩
       have HO1 := Lib.hid (own_base ho1 hHeld.size)
       clear ho1
       refine hK.out _ _ ?_ (fun hHeld2 => ?_)
       ·(try dsimp only); first | exact Below.trans hHeld (Below.mono hb hHeld.size) | exact hHeld | exact Below.drew hHeld | exact bq2
       clear hK K hHeld; have hHeld := hHeld2; clear hHeld2; (try simp only [Act.put, zn1, zn2, zn3])
       refine ready_one (i := 7) rfl (by kernel_rfl) (fun K hK => ?_)
       go_simp
       refine (HC4.out _ (Hr.out.at hHeld)).mono ?_
       rintro e yb ⟨A2, c2', rfl, hc2, hr2, hb⟩
       have HO2 := Lib.hid (own_on HO1.out hb)
       have HS2 := Lib.hid hr2
       clear hr2
       refine hK.out _ _ ?_ (fun hHeld2 => ?_)
       ·(try dsimp only); first | exact Below.trans hHeld (Below.mono hb hHeld.size) | exact hHeld | exact Below.drew hHeld | exact bq2
       clear hK K hHeld; have hHeld := hHeld2; clear hHeld2; (try simp only [Act.put, zn1, zn2, zn3])
       refine ready_one (i := 8) rfl (by kernel_rfl) (fun K hK => ?_)
       refine step_append_rd _ (by rfl) (.tmp 66) (.tmp 70) 26 (by rfl) w6.heap.size 9 s0 _ 1 16 Tryz.underlying26 hs hs0 hs1 hs2 rfl (by decide) _ O1.length (svs O1) (by rfl) HO2.out _ A2 O4.length c2' (svs O4) (by rfl) HS2.out (one_svs _) h63.out hby.out hHeld.size ?_
       intro A7 c7 w12 ho7 hg7 hat7
       replace hHeld := hHeld.grown hg7 hHeld.size (fun j hj => (HO2.out.lt j hj).1)
       have HO7 := Lib.hid ho7
       clear ho7 hg7 hat7
       refine hK.out _ _ ?_ (fun hHeld2 => ?_)
       ·(try dsimp only); first | exact Below.trans hHeld (Below.mono hb hHeld.size) | exact hHeld | exact Below.drew hHeld | exact bq2
       clear hK K hHeld; have hHeld := hHeld2; clear hHeld2; (try simp only [Act.put, zn1, zn2, zn3])
       refine tV 9 ?_ ?zq ?_; (case zq => rintro _ -; go_simp; try with_reducible rfl); try simp only [Act.put, zn1, zn2, zn3]
       refine wpAnyH_done (by kernel_rfl) ?_ _
       have HB12 := Lib.hid (lift HB11.out hHeld)
       replace g0 := cellAt g0 hHeld (by omega)
       replace g1 := cellAt g1 hHeld (by omega)
       replace h0 := cellAt h0 hHeld (by omega)
       replace h1 := cellAt h1 hHeld (by omega)
       replace r0 := cellAt r0 hHeld (by omega)
       replace r1 := cellAt r1 hHeld (by omega)
       replace r2 := cellAt r2 hHeld (by omega)
       replace r3 := cellAt r3 hHeld (by omega)
       replace z0 := froAt z0 hHeld (by omega)
       replace z1 := froAt z1 hHeld (by omega)
       replace z2 := froAt z2 hHeld (by omega)
       replace z3 := froAt z3 hHeld (by omega)
       replace y0 := cellAt y0 hHeld (by omega)
       replace y1 := cellAt y1 hHeld (by omega)
       replace y2 := cellAt y2 hHeld (by omega)
       replace y3 := cellAt y3 hHeld (by omega)
       replace Hr := Lib.hid (Hr.out.at hHeld)
       replace Hp := Lib.hid (Hp.out.at hHeld)
       replace Hn := Lib.hid (Hn.out.at hHeld)
       replace n1 : w.heap.size < w12.heap.size := ltAt n1 hHeld
       replace n2 : (w.heap.size + 1) < w12.heap.size := ltAt n2 hHeld
       replace n3 : (w.heap.size + 1 + 1) < w12.heap.size := ltAt n3 hHeld
       replace m4 : w2.heap.size < w12.heap.size := ltAt m4 hHeld
       replace H3 := Lib.hid (H3.out.at hHeld)
       clear hHeld
       have hrd : Rd w12 w12.heap.size 1 A7 (O1.length + O4.length) (svs (O1 ++ O4)) := by rw [svs_app]; exact own_rd' HO7.out
       have hOl : O1.length + O4.length = (O1 ++ O4).length := by rw [List.length_append]
       have hOm : (O1 ++ O4).length ≤ 20000 := by rw [← hOl]; omega
       have hOc : ((O1.length : Int) + (O4.length : Int)) = ((O1 ++ O4).length : Int) := by rw [List.length_append]; omega
       generalize O1 ++ O4 = O14 at *
       generalize ((O1.length : Int) + (O4.length : Int)) = mz at *
       subst hOc
       generalize O1.length + O4.length = m14 at *
       subst hOl
       have HR7 := Lib.hid hrd
       clear hrd HC1 HC4 H3 hO1 hO4 hO3
       go_wp2_with fail
       go_loopw [73] (fun i wr => ∃ j : Nat, j ≤ O14.length ∧ i = .int .i64 j ∧ Hid ((O14.take j).any (missU up l 1) = false) ∧ Below w12.heap.size w12 wr) (fun i _ => O14.length - (intOf i).toNat)
       case atStart => exact ⟨0, Nat.zero_le _, rfl, by simp [Hid], Below.refl _ _⟩
       case round =>
        obtain ⟨j, hj, rfl, HJ, hbj⟩ := hrel
        obtain ⟨w13, rfl⟩ : ∃ wo : World, wo = wr := ⟨_, rfl⟩
        have HBj := Lib.hid hbj
        clear hbj
        replace g0 := cellAt g0 HBj.out (by omega)
        replace g1 := cellAt g1 HBj.out (by omega)
        replace h0 := cellAt h0 HBj.out (by omega)
        replace h1 := cellAt h1 HBj.out (by omega)
        replace r0 := cellAt r0 HBj.out (by omega)
        replace r1 := cellAt r1 HBj.out (by omega)
        replace r2 := cellAt r2 HBj.out (by omega)
        replace r3 := cellAt r3 HBj.out (by omega)
        replace z0 := froAt z0 HBj.out (by omega)
        replace z1 := froAt z1 HBj.out (by omega)
        replace z2 := froAt z2 HBj.out (by omega)
        replace z3 := froAt z3 HBj.out (by omega)
        replace y0 := cellAt y0 HBj.out (by omega)
        replace y1 := cellAt y1 HBj.out (by omega)
        replace y2 := cellAt y2 HBj.out (by omega)
        replace y3 := cellAt y3 HBj.out (by omega)
        replace Hr := Lib.hid (Hr.out.at HBj.out)
        replace Hp := Lib.hid (Hp.out.at HBj.out)
        replace Hn := Lib.hid (Hn.out.at HBj.out)
        replace n1 : w.heap.size < w13.heap.size := ltAt n1 HBj.out
        replace n2 : (w.heap.size + 1) < w13.heap.size := ltAt n2 HBj.out
        replace n3 : (w.heap.size + 1 + 1) < w13.heap.size := ltAt n3 HBj.out
        replace m4 : w2.heap.size < w13.heap.size := ltAt m4 HBj.out
        replace HR7 := Lib.hid (HR7.out.at HBj.out)
        have hz13 := HBj.out.size
        by_cases hlt2 : j < O14.length
        ·skip
         obtain ⟨b3, o3, hA3, hB3, v0⟩ := HR7.out.str hlt2
         subst hA3
         have hja := any_take_succ (p := missU up l 1) hlt2
         rw [HJ.out, Bool.false_or] at hja
         have hjx := any_of_at (p := missU up l 1) hlt2
         generalize O14[j] = v at v0 hja hjx
         have hmu := missU_eq up l 1 v
         rw [hmu] at hja hjx
         have HJa := Lib.hid hja
         have HJx := Lib.hid hjx
         have HSt := Lib.hid (fun W hr => stop17_any (some ⟨b2, o2, none⟩) c l v W hr hl)
         have HBg := Lib.hid (fun W hr => begins17_any (some ⟨b2, o2, none⟩) c l v W hr hl)
         have HHs := Lib.hid (fun W h1 h2 => HasS_any Au cu up v W h1 h2)
         have i3 : (0 : Int) ≤ (j : Int) := by omega
         have i4 : (j : Int) < (O14.length : Int) := by omega
         clear hja hjx hmu
         generalize startL l v = sa at *
         generalize stopL l v = so at *
         generalize hasB up v = hu at *
         go_wp2_with fail
         refine (HSt.out w13 Hp.out).mono ?_
         rintro e w7 ⟨⟨s2, t2, n2', q2⟩, rfl, hb⟩
         have hb7 := lift HBj.out hb
         have HB7 := Lib.hid hb7
         replace g0 := cellAt g0 hb (by omega)
         replace g1 := cellAt g1 hb (by omega)
         replace h0 := cellAt h0 hb (by omega)
         replace h1 := cellAt h1 hb (by omega)
         replace r0 := cellAt r0 hb (by omega)
         replace r1 := cellAt r1 hb (by omega)
         replace r2 := cellAt r2 hb (by omega)
         replace r3 := cellAt r3 hb (by omega)
         replace z0 := froAt z0 hb (by omega)
         replace z1 := froAt z1 hb (by omega)
         replace z2 := froAt z2 hb (by omega)
         replace z3 := froAt z3 hb (by omega)
         replace y0 := cellAt y0 hb (by omega)
         replace y1 := cellAt y1 hb (by omega)
         replace y2 := cellAt y2 hb (by omega)
         replace y3 := cellAt y3 hb (by omega)
         replace Hr := Lib.hid (Hr.out.at hb)
         replace Hp := Lib.hid (Hp.out.at hb)
         replace Hn := Lib.hid (Hn.out.at hb)
         replace n1 : w.heap.size < w7.heap.size := ltAt n1 hb
         replace n2 : (w.heap.size + 1) < w7.heap.size := ltAt n2 hb
         replace n3 : (w.heap.size + 1 + 1) < w7.heap.size := ltAt n3 hb
         replace m4 : w2.heap.size < w7.heap.size := ltAt m4 hb
         replace HR7 := Lib.hid (HR7.out.at hb)
         clear hb v0
         go_wp2_with fail
         first | (refine wp_named ?_; intro W8 hW) | (refine calls_named ?_; intro W8 hW)
         have B8 : Below w7.heap.size w7 W8 := by rw [hW]; exact bq2
         replace g0 := cellAt g0 B8 (by omega)
         replace g1 := cellAt g1 B8 (by omega)
         replace h0 := cellAt h0 B8 (by omega)
         replace h1 := cellAt h1 B8 (by omega)
         replace r0 := cellAt r0 B8 (by omega)
         replace r1 := cellAt r1 B8 (by omega)
         replace r2 := cellAt r2 B8 (by omega)
         replace r3 := cellAt r3 B8 (by omega)
         replace z0 := froAt z0 B8 (by omega)
         replace z1 := froAt z1 B8 (by omega)
         replace z2 := froAt z2 B8 (by omega)
         replace z3 := froAt z3 B8 (by omega)
         replace y0 := cellAt y0 B8 (by omega)
         replace y1 := cellAt y1 B8 (by omega)
         replace y2 := cellAt y2 B8 (by omega)
         replace y3 := cellAt y3 B8 (by omega)
         replace Hr := Lib.hid (Hr.out.at B8)
         replace Hp := Lib.hid (Hp.out.at B8)
         replace Hn := Lib.hid (Hn.out.at B8)
         replace n1 : w.heap.size < W8.heap.size := ltAt n1 B8
         replace n2 : (w.heap.size + 1) < W8.heap.size := ltAt n2 B8
         replace n3 : (w.heap.size + 1 + 1) < W8.heap.size := ltAt n3 B8
         replace m4 : w2.heap.size < W8.heap.size := ltAt m4 B8
         replace HR7 := Lib.hid (HR7.out.at B8)
         clear hW
         have hb8 := lift hb7 B8
         have HB8 := Lib.hid hb8
         clear B8 hb7
         refine (HBg.out W8 Hp.out).mono ?_
         rintro e w9 ⟨rfl, hb⟩
         have hb9 := lift hb8 hb
         have HB9 := Lib.hid hb9
         replace g0 := cellAt g0 hb (by omega)
         replace g1 := cellAt g1 hb (by omega)
         replace h0 := cellAt h0 hb (by omega)
         replace h1 := cellAt h1 hb (by omega)
         replace r0 := cellAt r0 hb (by omega)
         replace r1 := cellAt r1 hb (by omega)
         replace r2 := cellAt r2 hb (by omega)
         replace r3 := cellAt r3 hb (by omega)
         replace z0 := froAt z0 hb (by omega)
         replace z1 := froAt z1 hb (by omega)
         replace z2 := froAt z2 hb (by omega)
         replace z3 := froAt z3 hb (by omega)
         replace y0 := cellAt y0 hb (by omega)
         replace y1 := cellAt y1 hb (by omega)
         replace y2 := cellAt y2 hb (by omega)
         replace y3 := cellAt y3 hb (by omega)
         replace Hr := Lib.hid (Hr.out.at hb)
         replace Hp := Lib.hid (Hp.out.at hb)
         replace Hn := Lib.hid (Hn.out.at hb)
         replace n1 : w.heap.size < w9.heap.size := ltAt n1 hb
         replace n2 : (w.heap.size + 1) < w9.heap.size := ltAt n2 hb
         replace n3 : (w.heap.size + 1 + 1) < w9.heap.size := ltAt n3 hb
         replace m4 : w2.heap.size < w9.heap.size := ltAt m4 hb
         replace HR7 := Lib.hid (HR7.out.at hb)
         clear hb hb8
         cases sa
         ·cases so
          ·go_wp2_with fail
           refine (HHs.out w9 Hn.out.u.rd Hn.out.u.len).mono ?_
           rintro e wz ⟨rfl, rfl⟩
           cases hu
           ·skip
            have HX2 := Lib.hid (HX.out (by rw [HJx.out (by simp [missB])]))
            clear HX HA
            go_wp2_with fail
            have hB0 := lift HB1.out (lift HBl.out (lift HB12.out HB9.out))
            refine bodyPost_ret (v := .tuple #[plV (s', 3, n', b'), .bool true]) (by simp only [results, Tryz.results73]; go_simp) rfl ⟨by rw [HX2.out]; rfl, bq2⟩
           ·skip
            go_wp2_with fail
            go_roundw
            case rel => exact ⟨j + 1, by omega, by go_num, by show _ = false; rw [HJa.out]; simp [missB], bq2⟩
            case measure => simp [intOf]; omega
          ·skip
           have HX2 := Lib.hid (HX.out (by rw [HJx.out (by simp [missB])]))
           clear HX HA
           go_wp2_with fail
           have hB0 := lift HB1.out (lift HBl.out (lift HB12.out HB9.out))
           refine bodyPost_ret (v := .tuple #[plV (s', 3, n', b'), .bool true]) (by simp only [results, Tryz.results73]; go_simp) rfl ⟨by rw [HX2.out]; rfl, bq2⟩
         ·skip
          go_wp2_with fail
          go_roundw
          case rel => exact ⟨j + 1, by omega, by go_num, by show _ = false; rw [HJa.out]; simp [missB], bq2⟩
          case measure => simp [intOf]; omega
        ·obtain rfl : j = O14.length := by omega
         rw [List.take_length] at HJ
         rw [HJ.out] at HA
         have hbz := lift HBl.out (lift HB12.out HBj.out)
         go_wp2_with fail
         go_roundw
         case rel => exact ⟨k + 1, by omega, by go_num, HA.out, hbz⟩
         case measure => simp [intOf]; omega
    ·have m3 : (t' == 3) = false := by simpa using t3
     have HA2 := Lib.hid (show (l.take (k + 1)).any (lackP es up l) = false by rw [hany, m1, m3]; rfl)
     have hbz := HBl.out
     have q1 : (t' != 1) = true := by unfold bne; rw [m1]; rfl
     have q3 : (t' != 3) = true := by unfold bne; rw [m3]; rfl
     clear hany hnx
     go_wp2_with fail
     go_roundw
     case rel => exact ⟨k + 1, by omega, by go_num, HA2.out, bq2⟩
     case measure => simp [intOf]; omega
  ·have HN := Lib.hid (show l.find? (lackP es up l) = none from find_none_take (by have := HK.out; rwa [List.take_of_length_le (by omega)] at this))
   go_wp2_with fail
   have hB0 := lift HB1.out HBl.out
   refine bodyPost_ret (v := .tuple #[plV ([], 0, false, []), .bool false]) (by simp only [results, Tryz.results73]; go_simp) rfl ⟨by rw [HN.out]; rfl, bq2⟩
end Od
end Go.Proofs.YtbllehjhmfehbaaGreat
end

section
/- clash of the reference of layer 19, as lists: it finds the job that the first one with two finds. No program. -/
namespace Go.Proofs.YtbllehjhmfehbaaGreat
set_option linter.unusedSimpArgs false
namespace Od
def othP (u : Str) (q : Pl) : Bool := q.1 == u && q.2.1 != 2
def freeP (u : Str) (q : Pl) : Bool := othP u q && !q.2.2.1
def bothU (l : List Pl) (p : Pl) : Bool := stopL l p.1 && l.any (othP p.1)
def clashR (l : List Pl) : Option (Pl × Bool) := match l.find? (bothU l) with
 | none => none
 | some p => match l.find? (freeP p.1) with
  | some q => some (q, true)
  | none => (l.find? (isP p.1 2)).map (fun s => (s, !s.2.2.1))
theorem others_find (l : List Pl) (u : Str) : (othersL l u).find? (fun q => !q.2.2.1) = l.find? (freeP u) := by
 unfold othersL; rw [List.find?_filter]
 congr 1
 funext a
 unfold freeP othP
 rw [Bool.eq_iff_iff]; simp
theorem others_any (l : List Pl) (u : Str) : (!(othersL l u).isEmpty) = l.any (othP u) := by
 unfold othersL
 rw [Bool.eq_iff_iff, List.any_eq_true]
 cases h : List.filter (fun p => p.1 == u && p.2.1 != 2) l with
 | nil =>
  constructor
  ·intro h; cases h
  ·rintro ⟨x, hx, hp⟩
   exact absurd hp (List.filter_eq_nil_iff.1 h x hx)
 | cons a r =>
  constructor
  ·intro _
   have : a ∈ List.filter (fun p => p.1 == u && p.2.1 != 2) l := by rw [h]; exact .head _
   exact ⟨a, (List.mem_filter.1 this).1, (List.mem_filter.1 this).2⟩
  ·intro _; rfl
theorem bothP_is (l : List Pl) (p : Pl) : bothP l p = (p.2.1 == 2 && l.any (othP p.1)) := by unfold bothP; rw [others_any]
theorem bothP_U {l : List Pl} {p : Pl} (hm : p ∈ l) (h : bothP l p = true) : bothU l p = true := by
 rw [bothP_is, Bool.and_eq_true] at h
 unfold bothU stopL
 rw [Bool.and_eq_true]
 exact ⟨List.any_eq_true.2 ⟨p, hm, by rw [h.1]; simp⟩, h.2⟩
theorem key_le {l : List Pl} (hs : l.Pairwise (fun p q => ltJ (keyP p) (keyP q) = true)) {i j : Nat} (hi : i < l.length) (hj : j < l.length) (h : i ≤ j) : ltS l[j].1 l[i].1 = false := by
 rcases Nat.lt_or_eq_of_le h with h | h
 ·have := List.pairwise_iff_getElem.1 hs i j hi hj h
  simp only [ltJ, keyP, Bool.or_eq_true, Bool.and_eq_true, beq_iff_eq] at this
  rcases this with h | ⟨h, _⟩
  ·cases h2 : ltS l[j].1 l[i].1
   ·rfl
   ·have := toS.trans h h2
    rw [toS.irrefl] at this; cases this
  ·rw [h]; exact toS.irrefl _
 ·subst h; exact toS.irrefl _
theorem key_one {l : List Pl} (hs : l.Pairwise (fun p q => ltJ (keyP p) (keyP q) = true)) {p q : Pl} (hp : p ∈ l) (hq : q ∈ l) (h : keyP p = keyP q) : p = q := by
 obtain ⟨i, hi, rfl⟩ := List.getElem_of_mem hp
 obtain ⟨j, hj, rfl⟩ := List.getElem_of_mem hq
 rcases Nat.lt_trichotomy i j with hij | rfl | hij
 ·have := List.pairwise_iff_getElem.1 hs i j hi hj hij
  rw [h, toJ.irrefl] at this; cases this
 ·rfl
 ·have := List.pairwise_iff_getElem.1 hs j i hj hi hij
  rw [h, toJ.irrefl] at this; cases this
theorem find_before {l : List Pl} {P Q : Pl → Bool} {p q : Pl} (hp : l.find? P = some p) (hq : l.find? Q = some q) (h : ∀ x ∈ l, Q x = true → P x = true) : ∃ (i j : Nat) (hi : i < l.length) (hj : j < l.length), i ≤ j ∧ l[i] = p ∧ l[j] = q := by
 rw [List.find?_eq_some_iff_getElem] at hp hq
 obtain ⟨_, i, hi, e1, h1⟩ := hp
 obtain ⟨h3, j, hj, e2, h2⟩ := hq
 refine ⟨i, j, hi, hj, ?_, e1, e2⟩
 rcases Nat.lt_or_ge j i with hji | hji
 ·have := h1 j hji
  rw [e2, h q (by rw [← e2]; exact List.getElem_mem hj) h3] at this
  cases this
 ·exact hji
theorem clashR_eq {l : List Pl} (hs : l.Pairwise (fun p q => ltJ (keyP p) (keyP q) = true)) : clashR l = (clashOf l).map (fun p => (p, !p.2.2.1)) := by
 unfold clashR clashOf
 cases h1 : l.find? (bothU l) with
 | none =>
  have h2 : l.find? (bothP l) = none := by
   rw [List.find?_eq_none] at h1 ⊢
   intro x hx hb
   exact h1 x hx (bothP_U hx hb)
  rw [h2]; rfl
 | some p =>
  have hb := List.find?_some h1
  have hpm := List.mem_of_find?_eq_some h1
  have hst : stopL l p.1 = true ∧ l.any (othP p.1) = true := by
   unfold bothU at hb; rwa [Bool.and_eq_true] at hb
  obtain ⟨s, hsm, hse⟩ := List.any_eq_true.1 hst.1
  rw [Bool.and_eq_true, beq_iff_eq, beq_iff_eq] at hse
  have hsb : bothP l s = true := by rw [bothP_is, hse.1, hse.2, hst.2]; rfl
  cases h2 : l.find? (bothP l) with
  | none => exact absurd hsb (by rw [List.find?_eq_none] at h2; exact h2 s hsm)
  | some s' =>
   have hsb' := List.find?_some h2
   have hsm' := List.mem_of_find?_eq_some h2
   rw [bothP_is, Bool.and_eq_true, beq_iff_eq] at hsb'
   obtain ⟨i, j, hi, hj, hij, e1, e2⟩ := find_before h1 h2 (fun x hx h => bothP_U hx h)
   have hk : s'.1 = p.1 := by
    have a1 := key_le hs hi hj hij
    rw [e1, e2] at a1
    rw [List.find?_eq_some_iff_getElem] at h2
    obtain ⟨_, j', hj', e3, h4⟩ := h2
    obtain ⟨m, hm, e4⟩ := List.getElem_of_mem hsm
    have hjm : j' ≤ m := by
     rcases Nat.lt_or_ge m j' with h | h
     ·have := h4 m h
      rw [e4, hsb] at this; cases this
     ·exact h
    have a2 := key_le hs hj' hm hjm
    rw [e3, e4, hse.1] at a2
    exact toS.total a1 a2
   simp only
   rw [others_find, hk]
   cases h5 : l.find? (freeP p.1) with
   | some q =>
    have := List.find?_some h5
    unfold freeP at this
    rw [Bool.and_eq_true] at this
    simp only [Option.map_some, this.2]
   | none =>
    cases h6 : l.find? (isP p.1 2) with
    | none =>
     rw [List.find?_eq_none] at h6
     exact absurd (show isP p.1 2 s = true by unfold isP; rw [hse.1, hse.2]; simp) (h6 s hsm)
    | some r =>
     have hr := List.find?_some h6
     unfold isP at hr
     rw [Bool.and_eq_true, beq_iff_eq, beq_iff_eq] at hr
     have : r = s' := key_one hs (List.mem_of_find?_eq_some h6) hsm' (by unfold keyP; rw [hr.1, hr.2, hk, hsb'.1])
     rw [this]
theorem clashR_free {l : List Pl} {p q : Pl} (h1 : l.find? (bothU l) = some p) (h2 : l.find? (freeP p.1) = some q) : clashR l = some (q, true) := by unfold clashR; rw [h1]; simp only; rw [h2]
theorem clashR_stop {l : List Pl} {p s : Pl} (h1 : l.find? (bothU l) = some p) (h2 : l.find? (freeP p.1) = none) (h3 : l.find? (isP p.1 2) = some s) : clashR l = some (s, !s.2.2.1) := by unfold clashR; rw [h1]; simp only; rw [h2]; simp only; rw [h3]; rfl
theorem clashR_none {l : List Pl} (h : l.any (bothU l) = false) : clashR l = none := by unfold clashR; rw [find_none_take h]
end Od
end Go.Proofs.YtbllehjhmfehbaaGreat
end

section
/- clash of the reference of layer 19. (bel2) -/
namespace Go.Proofs.YtbllehjhmfehbaaGreat
open Go.RowKit Go.Sort
set_option linter.unusedSimpArgs false
namespace Od
def clashV (o : Option (Pl × Bool)) : Value := .tuple #[plV ((o.map (·.1)).getD ([], 0, false, [])), .bool ((o.map (·.2)).getD false), .bool o.isSome]
set_option maxRecDepth 100000 in
set_option maxHeartbeats 16000000 in
theorem clash17_any (A : Option Addr) (c : Nat) (l : List Pl) (w : World) (hr : Rd w w.heap.size 4 A l.length (plsC l)) (hl : l.length ≤ 1000000) :
  Calls Tryz.prog 74 #[.slice A l.length c] w fun e w' => e = .returned (clashV (clashR l)) ∧ Below w.heap.size w w' := by
 have Hr := Lib.hid hr
 clear hr
 go_enter Tryz.func74, Tryz.ntmps74
 go_wp2_with fail
 first | (refine wp_named ?_; intro W1 hW) | (refine calls_named ?_; intro W1 hW)
 have B1 : Below w.heap.size w W1 := by rw [hW]; exact bq2
 replace Hr := Lib.hid (Hr.out.at B1)
 have n1 : w.heap.size < W1.heap.size := by rw [hW]; simp <;> omega
 have r0 : W1.cell? ⟨w.heap.size, 0, none⟩ = some (.string ⟨#[]⟩) := by rw [hW]; go_simp
 have r1 : W1.cell? ⟨w.heap.size, 1, none⟩ = some (.int .i64 0) := by rw [hW]; go_simp
 have r2 : W1.cell? ⟨w.heap.size, 2, none⟩ = some (.bool false) := by rw [hW]; go_simp
 have r3 : W1.cell? ⟨w.heap.size, 3, none⟩ = some (.string ⟨#[]⟩) := by rw [hW]; go_simp
 have z0 : W1.frozen? ⟨w.heap.size, 0, none⟩ = false := by rw [hW]; go_simp
 have z1 : W1.frozen? ⟨w.heap.size, 1, none⟩ = false := by rw [hW]; go_simp
 have z2 : W1.frozen? ⟨w.heap.size, 2, none⟩ = false := by rw [hW]; go_simp
 have z3 : W1.frozen? ⟨w.heap.size, 3, none⟩ = false := by rw [hW]; go_simp
 clear hW
 have HB1 := Lib.hid B1
 have hzz : w.heap.size ≤ W1.heap.size := B1.size
 clear B1
 go_loopw [14] (fun i wr => ∃ k : Nat, k ≤ l.length ∧ i = .int .i64 k ∧ Hid ((l.take k).any (bothU l) = false) ∧ Below W1.heap.size W1 wr) (fun i _ => l.length - (intOf i).toNat)
 case atStart => exact ⟨0, Nat.zero_le _, rfl, by simp [Hid], Below.refl _ _⟩
 case round =>
  obtain ⟨k, hk, rfl, HK, hbl⟩ := hrel
  obtain ⟨w2, rfl⟩ : ∃ wo : World, wo = wr := ⟨_, rfl⟩
  have HBl := Lib.hid hbl
  clear hbl
  replace r0 := cellAt r0 HBl.out (by omega)
  replace r1 := cellAt r1 HBl.out (by omega)
  replace r2 := cellAt r2 HBl.out (by omega)
  replace r3 := cellAt r3 HBl.out (by omega)
  replace z0 := froAt z0 HBl.out (by omega)
  replace z1 := froAt z1 HBl.out (by omega)
  replace z2 := froAt z2 HBl.out (by omega)
  replace z3 := froAt z3 HBl.out (by omega)
  replace Hr := Lib.hid (Hr.out.at HBl.out)
  replace n1 : w.heap.size < w2.heap.size := ltAt n1 HBl.out
  have hzw := HBl.out.size
  by_cases hlt : k < l.length
  ·obtain ⟨b2, o2, hA, hB2, x0, x1, x2, x3⟩ := Hr.out.pl hlt
   subst hA
   have hnx := find_at (p := bothU l) hlt HK.out
   have hany := any_take_succ (p := bothU l) hlt
   rw [HK.out, Bool.false_or] at hany
   generalize l[k] = p at x0 x1 x2 x3 hnx hany
   obtain ⟨s', t', n', b'⟩ := p
   have hlk : bothU l (s', t', n', b') = (stopL l s' && l.any (othP s')) := rfl
   rw [hlk] at hnx hany
   simp only at x0 x1 x2 x3
   have i1 : (0 : Int) ≤ (k : Int) := by omega
   have i2 : (k : Int) < (l.length : Int) := by omega
   have HA := Lib.hid hany
   have HX := Lib.hid hnx
   clear hlk hany hnx
   go_wp2_with fail
   first | (refine wp_named ?_; intro W4 hW) | (refine calls_named ?_; intro W4 hW)
   have B4 : Below w2.heap.size w2 W4 := by rw [hW]; exact bq2
   replace r0 := cellAt r0 B4 (by omega)
   replace r1 := cellAt r1 B4 (by omega)
   replace r2 := cellAt r2 B4 (by omega)
   replace r3 := cellAt r3 B4 (by omega)
   replace z0 := froAt z0 B4 (by omega)
   replace z1 := froAt z1 B4 (by omega)
   replace z2 := froAt z2 B4 (by omega)
   replace z3 := froAt z3 B4 (by omega)
   replace Hr := Lib.hid (Hr.out.at B4)
   replace n1 : w.heap.size < W4.heap.size := ltAt n1 B4
   have m4 : w2.heap.size < W4.heap.size := by rw [hW]; simp <;> omega
   have y0 : W4.cell? ⟨w2.heap.size, 0, none⟩ = some (sv s') := by rw [hW]; go_simp
   have y1 : W4.cell? ⟨w2.heap.size, 1, none⟩ = some (.int .i64 t') := by rw [hW]; go_simp
   have y2 : W4.cell? ⟨w2.heap.size, 2, none⟩ = some (.bool n') := by rw [hW]; go_simp
   have y3 : W4.cell? ⟨w2.heap.size, 3, none⟩ = some (sv b') := by rw [hW]; go_simp
   clear hW
   have HB4 := Lib.hid (lift HBl.out B4)
   clear B4 x0 x1 x2 x3
   refine (find17_any (some ⟨b2, o2, none⟩) c l s' 2 W4 Hr.out hl).mono ?_
   have hsf := stop_find l s'
   rintro e w5 ⟨rfl, hb⟩
   have hb5 := lift HB4.out hb
   have HB5 := Lib.hid hb5
   replace r0 := cellAt r0 hb (by omega)
   replace r1 := cellAt r1 hb (by omega)
   replace r2 := cellAt r2 hb (by omega)
   replace r3 := cellAt r3 hb (by omega)
   replace z0 := froAt z0 hb (by omega)
   replace z1 := froAt z1 hb (by omega)
   replace z2 := froAt z2 hb (by omega)
   replace z3 := froAt z3 hb (by omega)
   replace y0 := cellAt y0 hb (by omega)
   replace y1 := cellAt y1 hb (by omega)
   replace y2 := cellAt y2 hb (by omega)
   replace y3 := cellAt y3 hb (by omega)
   replace Hr := Lib.hid (Hr.out.at hb)
   replace n1 : w.heap.size < w5.heap.size := ltAt n1 hb
   replace m4 : w2.heap.size < w5.heap.size := ltAt m4 hb
   clear hb
   unfold pullV plV
   cases hf : l.find? (isP s' 2) with
   | none =>
    rw [hf] at hsf
    simp only [Option.getD_none, Option.isSome_none]
    have HA2 := Lib.hid (show (l.take (k + 1)).any (bothU l) = false by rw [HA.out]; rw [hsf]; rfl)
    go_wp2_with fail
    go_roundw
    case rel => exact ⟨k + 1, by omega, by go_num, HA2.out, bq2⟩
    case measure => simp [intOf]; omega
   | some ps =>
    obtain ⟨s5, t5, n5, b5⟩ := ps
    rw [hf, Option.isSome_some] at hsf
    rw [hsf, Bool.true_and] at HA HX
    have HFs := Lib.hid hf
    clear hf hsf hb5
    have hlt5 : w.heap.size < w5.heap.size := n1
    have hne5 : ¬ w5.heap.size = w.heap.size := by omega
    have hne6 : ¬ w.heap.size = w5.heap.size := by omega
    simp only [Option.getD_some, Option.isSome_some]
    go_wp2_with fail
    first | (refine wp_named ?_; intro W6 hW) | (refine calls_named ?_; intro W6 hW)
    have B6 : Below w5.heap.size w5 W6 := by rw [hW]; exact bq2
    replace r0 := cellAt r0 B6 (by omega)
    replace r1 := cellAt r1 B6 (by omega)
    replace r2 := cellAt r2 B6 (by omega)
    replace r3 := cellAt r3 B6 (by omega)
    replace z0 := froAt z0 B6 (by omega)
    replace z1 := froAt z1 B6 (by omega)
    replace z2 := froAt z2 B6 (by omega)
    replace z3 := froAt z3 B6 (by omega)
    replace y0 := cellAt y0 B6 (by omega)
    replace y1 := cellAt y1 B6 (by omega)
    replace y2 := cellAt y2 B6 (by omega)
    replace y3 := cellAt y3 B6 (by omega)
    replace Hr := Lib.hid (Hr.out.at B6)
    replace n1 : w.heap.size < W6.heap.size := ltAt n1 B6
    replace m4 : w2.heap.size < W6.heap.size := ltAt m4 B6
    have m6 : w5.heap.size < W6.heap.size := by rw [hW]; simp <;> omega
    have ss0 : W6.cell? ⟨w5.heap.size, 0, none⟩ = some (sv s5) := by rw [hW]; go_simp
    have ss1 : W6.cell? ⟨w5.heap.size, 1, none⟩ = some (.int .i64 t5) := by rw [hW]; go_simp
    have ss2 : W6.cell? ⟨w5.heap.size, 2, none⟩ = some (.bool n5) := by rw [hW]; go_simp
    have ss3 : W6.cell? ⟨w5.heap.size, 3, none⟩ = some (sv b5) := by rw [hW]; go_simp
    clear hW
    have HB6 := Lib.hid (lift HB5.out B6)
    clear B6
    go_loopw [9, 29] (fun o i wr => ∃ j : Nat, j ≤ l.length ∧ o = .bool ((l.take j).any (othP s')) ∧ i = .int .i64 j ∧ Hid ((l.take j).any (freeP s') = false) ∧ Below W6.heap.size W6 wr) (fun _ i _ => l.length - (intOf i).toNat)
    case atStart => exact ⟨0, Nat.zero_le _, rfl, rfl, by simp [Hid], Below.refl _ _⟩
    case round =>
     obtain ⟨j, hj, rfl, rfl, HJ, hbj⟩ := hrel
     obtain ⟨w7, rfl⟩ : ∃ wo : World, wo = wr := ⟨_, rfl⟩
     have HBj := Lib.hid hbj
     replace r0 := cellAt r0 HBj.out (by omega)
     replace r1 := cellAt r1 HBj.out (by omega)
     replace r2 := cellAt r2 HBj.out (by omega)
     replace r3 := cellAt r3 HBj.out (by omega)
     replace z0 := froAt z0 HBj.out (by omega)
     replace z1 := froAt z1 HBj.out (by omega)
     replace z2 := froAt z2 HBj.out (by omega)
     replace z3 := froAt z3 HBj.out (by omega)
     replace y0 := cellAt y0 HBj.out (by omega)
     replace y1 := cellAt y1 HBj.out (by omega)
     replace y2 := cellAt y2 HBj.out (by omega)
     replace y3 := cellAt y3 HBj.out (by omega)
     replace ss0 := cellAt ss0 HBj.out (by omega)
     replace ss1 := cellAt ss1 HBj.out (by omega)
     replace ss2 := cellAt ss2 HBj.out (by omega)
     replace ss3 := cellAt ss3 HBj.out (by omega)
     replace Hr := Lib.hid (Hr.out.at HBj.out)
     replace n1 : w.heap.size < w7.heap.size := ltAt n1 HBj.out
     replace m4 : w2.heap.size < w7.heap.size := ltAt m4 HBj.out
     replace m6 : w5.heap.size < w7.heap.size := ltAt m6 HBj.out
     have hz7 := HBj.out.size
     by_cases hlt2 : j < l.length
     ·obtain ⟨b3, o3, hA3, hB3, v0, v1, v2, v3⟩ := Hr.out.pl hlt2
      injection hA3 with hA3
      injection hA3 with e1 e2
      subst e1 e2
      have haO := any_take_succ (p := othP s') hlt2
      have hjx := any_of_at (p := othP s') hlt2
      have haF := any_take_succ (p := freeP s') hlt2
      rw [HJ.out, Bool.false_or] at haF
      have hxF := find_at (p := freeP s') hlt2 HJ.out
      generalize l[j] = q at v0 v1 v2 v3 haO haF hxF hjx
      generalize (l.take j).any (othP s') = ob at *
      obtain ⟨s2, t2, n2, q2⟩ := q
      have hoq : othP s' (s2, t2, n2, q2) = (s2 == s' && t2 != 2) := rfl
      have hfq : freeP s' (s2, t2, n2, q2) = ((s2 == s' && t2 != 2) && !n2) := rfl
      rw [hfq] at haF hxF
      rw [hoq] at haO hjx
      simp only at v0 v1 v2 v3
      have HaO := Lib.hid haO
      have HaF := Lib.hid haF
      have HxF := Lib.hid hxF
      have HJx := Lib.hid hjx
      have i3 : (0 : Int) ≤ (j : Int) := by omega
      have i4 : (j : Int) < (l.length : Int) := by omega
      clear haO haF hxF hjx hoq hfq
      cases e1 : (s2 == s')
      ·skip
       have HF2 := Lib.hid (show (l.take (j + 1)).any (freeP s') = false by rw [HaF.out]; rw [e1]; rfl)
       have HO2 := Lib.hid (show (l.take (j + 1)).any (othP s') = ob by rw [HaO.out]; rw [e1]; simp)
       go_wp2_with fail
       go_roundw
       case rel => exact ⟨j + 1, by omega, by rw [HO2.out], by go_num, HF2.out, bq2⟩
       case measure => simp [intOf]; omega
      ·cases e2 : (t2 == 2)
       ·have e3 : (t2 != 2) = true := by unfold bne; rw [e2]; rfl
        cases n2
        ·have HQ := Lib.hid (clashR_free (HX.out (HJx.out (by rw [e1, e3]; rfl))) (HxF.out (by rw [e1, e3]; rfl)))
         clear HX HA HxF HaF HaO HJx
         go_wp2_with fail
         have hB0 := lift HB1.out (lift HB6.out HBj.out)
         refine bodyPost_ret (v := .tuple #[plV (s2, t2, false, q2), .bool true, .bool true]) (by simp only [results, Tryz.results74]; go_simp) rfl ⟨by rw [HQ.out]; rfl, bq2⟩
        ·skip
         have HF2 := Lib.hid (show (l.take (j + 1)).any (freeP s') = false by rw [HaF.out]; rw [e1, e3]; rfl)
         have HO2 := Lib.hid (show (l.take (j + 1)).any (othP s') = true by rw [HaO.out]; rw [e1, e3]; simp)
         go_wp2_with fail
         go_roundw
         case rel => exact ⟨j + 1, by omega, by rw [HO2.out], by go_num, HF2.out, bq2⟩
         case measure => simp [intOf]; omega
       ·have e3 : (t2 != 2) = false := by unfold bne; rw [e2]; rfl
        have HF2 := Lib.hid (show (l.take (j + 1)).any (freeP s') = false by rw [HaF.out]; rw [e1, e3]; rfl)
        have HO2 := Lib.hid (show (l.take (j + 1)).any (othP s') = ob by rw [HaO.out]; rw [e1, e3]; simp)
        go_wp2_with fail
        go_roundw
        case rel => exact ⟨j + 1, by omega, by rw [HO2.out], by go_num, HF2.out, bq2⟩
        case measure => simp [intOf]; omega
     ·obtain rfl : j = l.length := by omega
      rw [List.take_length] at HJ ⊢
      have HNf := Lib.hid (find_none_take HJ.out)
      cases ho : l.any (othP s')
      ·have hbz := lift HB6.out HBj.out
       rw [ho] at HA
       have HA2 := Lib.hid (show (l.take (k + 1)).any (bothU l) = false by rw [HA.out]; skip)
       go_wp2_with fail
       go_roundw
       case rel => exact ⟨k + 1, by omega, by go_num, HA2.out, bq2⟩
       case measure => simp [intOf]; omega
      ·have HQ := Lib.hid (clashR_stop (HX.out ho) HNf.out HFs.out)
       clear HX HA HNf HFs
       go_upto_region 16 with fail
       go_region
       all_goals
        go_wp2_with fail
        have hB0 := lift HB1.out (lift HB6.out HBj.out)
        refine bodyPost_ret (v := .tuple #[plV (s5, t5, n5, b5), .bool (!n5), .bool true]) (by simp only [results, Tryz.results74]; go_simp) rfl ⟨by rw [HQ.out]; rfl, bq2⟩
  ·have HN := Lib.hid (show clashR l = none from clashR_none (by have := HK.out; rwa [List.take_of_length_le (by omega)] at this))
   go_wp2_with fail
   have hB0 := lift HB1.out HBl.out
   refine bodyPost_ret (v := .tuple #[plV ([], 0, false, []), .bool false, .bool false]) (by simp only [results, Tryz.results74]; go_simp) rfl ⟨by rw [HN.out]; rfl, bq2⟩
end Od
end Go.Proofs.YtbllehjhmfehbaaGreat
end
