/- My texts, joined for the claim: R19Build PSameP LtAll QMath. -/
import Derived.Test.YtbllehjhmfehbaaGreatZU1
import Derived.Test.YtbllehjhmfehbaaGreatZU13
import Derived.Test.YtbllehjhmfehbaaGreatZU8
import Derived.Test.YtbllehjhmfehbaaGreatZU0
import Derived.Test.YtbllehjhmfehbaaGreatZU3
import Derived.Test.YtbllehjhmfehbaaGreatZU9
import Derived.Test.YtbllehjhmfehbaaGreatZU6
import Derived.Test.YtbllehjhmfehbaaGreatZU2

section
/- Build of the reference of layer 19. (bel2) -/
namespace Go.Proofs.YtbllehjhmfehbaaGreat
open Go.RowKit Go.Sort
set_option linter.unusedSimpArgs false
namespace Od
set_option maxRecDepth 100000 in
set_option maxHeartbeats 32000000 in
theorem Build17_of (An Ae Au Ah : Option Addr) (cn ce cu ch : Nat) (ns : List Nd) (es : List Ed) (up half : List Str) (u : Str) (t : Int) (w : World) (hg : GIw w An Ae ns es) (hn : NIn w Au Ah up half) (hel : es.length ≤ 10000)
  (HMk : Hid (∀ W, GIw W An Ae ns es → NIn W Au Ah up half → Calls Tryz.prog 29 #[gV An ns.length cn Ae es.length ce, nowV Au up.length cu Ah half.length ch, sv u, .int .i64 t] W (MadeR (madeT ns es up half (u, t)) W))) :
  Calls Tryz.prog 28 #[gV An ns.length cn Ae es.length ce, nowV Au up.length cu Ah half.length ch, sv u, .int .i64 t] w (BuildD (madeT ns es up half (u, t)) up half w) := by
 obtain ⟨i0, hi, hz0, hz1, hz2⟩ := info_parts infoJb
 obtain ⟨p0, pi, pz0, pz1, pz2⟩ := info_parts infoPl
 have HG := Lib.hid hg
 have HN := Lib.hid hn
 have HSs := Lib.hid (made_ss ns es up half (u, t))
 have hLl := made_len ns es up half (u, t)
 clear hg hn
 generalize madeT ns es up half (u, t) = T at *
 obtain ⟨er, L, gn⟩ := T
 simp only at HSs hLl
 go_enter Tryz.func28, Tryz.ntmps28
 go_wp2_with fail
 first | (refine wp_named ?_; intro W1 hW) | (refine calls_named ?_; intro W1 hW) | (refine exit_named ?_; intro W1 hW)
 have B1 : Below w.heap.size w W1 := by rw [hW]; exact bq2
 replace HG := Lib.hid (HG.out.at B1)
 replace HN := Lib.hid (HN.out.at B1)
 have n1 : w.heap.size < W1.heap.size := by rw [hW]; simp <;> omega
 have n2 : (w.heap.size + 1) < W1.heap.size := by rw [hW]; simp <;> omega
 have g0 : W1.cell? ⟨w.heap.size, 0, none⟩ = some (.slice An ns.length cn) := by rw [hW]; go_simp
 have g1 : W1.cell? ⟨w.heap.size, 1, none⟩ = some (.slice Ae es.length ce) := by rw [hW]; go_simp
 have h0 : W1.cell? ⟨(w.heap.size + 1), 0, none⟩ = some (.slice Au up.length cu) := by rw [hW]; go_simp
 have h1 : W1.cell? ⟨(w.heap.size + 1), 1, none⟩ = some (.slice Ah half.length ch) := by rw [hW]; go_simp
 clear hW
 have HB1 := Lib.hid B1
 clear B1
 refine (HMk.out W1 HG.out HN.out).mono ?_
 rintro e w2 ⟨AL, cL, AG, cG, rfl, hcL, hrl, hrg, hb⟩
 have HL := Lib.hid hrl
 have HB2 := Lib.hid (lift HB1.out hb)
 replace g0 := cellAt g0 hb (by omega)
 replace g1 := cellAt g1 hb (by omega)
 replace h0 := cellAt h0 hb (by omega)
 replace h1 := cellAt h1 hb (by omega)
 replace HG := Lib.hid (HG.out.at hb)
 replace HN := Lib.hid (HN.out.at hb)
 replace n1 : w.heap.size < w2.heap.size := ltAt n1 hb
 replace n2 : (w.heap.size + 1) < w2.heap.size := ltAt n2 hb
 clear hb hrl hrg HMk
 simp only at hcL HL
 simp only
 go_wp2_with fail
 first | (refine wp_named ?_; intro W3 hW) | (refine calls_named ?_; intro W3 hW) | (refine exit_named ?_; intro W3 hW)
 have B3 : Below w2.heap.size w2 W3 := by rw [hW]; exact bq2
 replace g0 := cellAt g0 B3 (by omega)
 replace g1 := cellAt g1 B3 (by omega)
 replace h0 := cellAt h0 B3 (by omega)
 replace h1 := cellAt h1 B3 (by omega)
 replace HG := Lib.hid (HG.out.at B3)
 replace HN := Lib.hid (HN.out.at B3)
 replace n1 : w.heap.size < W3.heap.size := ltAt n1 B3
 replace n2 : (w.heap.size + 1) < W3.heap.size := ltAt n2 B3
 replace HL := Lib.hid (HL.out.at B3)
 have n3 : w2.heap.size < W3.heap.size := by rw [hW]; simp <;> omega
 have m0 : W3.cell? ⟨w2.heap.size, 0, none⟩ = some (.slice AL L.length cL) := by rw [hW]; go_simp
 have m1 : W3.cell? ⟨w2.heap.size, 1, none⟩ = some (.slice AG gn.length cG) := by rw [hW]; go_simp
 have m2 : W3.cell? ⟨w2.heap.size, 2, none⟩ = some (.int .i64 er) := by rw [hW]; go_simp
 clear hW
 have HB3 := Lib.hid (lift HB2.out B3)
 have hz3 := HB3.out.size
 clear B3
 go_loopw [11, 12] (fun v i wr => ∃ (k : Nat) (A : Option Addr) (c : Nat), k ≤ L.length ∧ v = .slice A (outJ up half L k).length c ∧ i = .int .i64 k ∧ Hid (wr.ownsRow W3.heap.size 60 4 (.slice A (outJ up half L k).length c) (outJ up half L k).length (jbsC (outJ up half L k))) ∧ Hid (Below W3.heap.size W3 wr)) (fun _ i _ => L.length - (intOf i).toNat)
 case atStart => exact ⟨0, none, 0, Nat.zero_le _, rfl, rfl, World.ownsRow_nil _ _ _ _, Below.refl _ _⟩
 case round =>
  obtain ⟨k, A, c, hk, rfl, rfl, HO, HB⟩ := hrel
  obtain ⟨w5, rfl⟩ : ∃ wo : World, wo = wr := ⟨_, rfl⟩
  have hz5 := HB.out.size
  have hb5 := HB.out
  replace g0 := cellAt g0 hb5 (by omega)
  replace g1 := cellAt g1 hb5 (by omega)
  replace h0 := cellAt h0 hb5 (by omega)
  replace h1 := cellAt h1 hb5 (by omega)
  replace m0 := cellAt m0 hb5 (by omega)
  replace m1 := cellAt m1 hb5 (by omega)
  replace m2 := cellAt m2 hb5 (by omega)
  replace HG := Lib.hid (HG.out.at hb5)
  replace HN := Lib.hid (HN.out.at hb5)
  replace n1 : w.heap.size < w5.heap.size := ltAt n1 hb5
  replace n2 : (w.heap.size + 1) < w5.heap.size := ltAt n2 hb5
  replace HL := Lib.hid (HL.out.at hb5)
  replace n3 : w2.heap.size < w5.heap.size := ltAt n3 hb5
  clear hb5
  by_cases hlt : k < L.length
  ·obtain ⟨b3, o3, hA, hB3, x0, x1, x2, x3⟩ := HL.out.pl hlt
   have hdr := HL.out.dropA (m := k + 1) (by omega) hcL
   have hol := outJ_old (up := up) (half := half) hlt
   have hnw := outJ_new (up := up) (half := half) hlt
   have hpos := setU_pos (up := up) (half := half) (l := L) (u := L[k].1)
   have hty := fun (h : L[k].1 ∉ (L.take k).map (·.1)) => (show setU up half L L[k].1 = setT (tyU up L L[k].1) (nowS up half L[k].1) from rfl).trans (by rw [tyU_first (up := up) hlt h])
   have h00 : k = 0 → L[k].1 ∉ (L.take k).map (·.1) := fun e => by subst e; simp
   have hmm : ∀ j (hj : j + 1 = k), (L[k].1 ∈ (L.take k).map (·.1) ↔ (L[j].1 == L[k].1) = true) := fun j hj => by subst hj; exact unit_old HSs.out hlt
   have hOl := outJ_len up half L k
   subst hA
   have hs2 := run_slice_tail (P := Tryz.prog) Tryz.underlying29 pi (some ⟨b3, o3, none⟩) L.length cL (k + 1) (by omega)
   rw [pz1, show L.length - (k + 1) = (L.drop (k + 1)).length by simp, show ((k + 1 : Nat) : Int) = (k : Int) + 1 by omega] at hs2
   rw [show L.length - (k + 1) = (L.drop (k + 1)).length by simp, show (plsC L).drop ((k + 1) * 4) = plsC (L.drop (k + 1)) from (flat_drop plC 4 plC_len L (k + 1)).symm] at hdr
   have hml : (L.drop (k + 1)).length ≤ L.length := by rw [List.length_drop]; omega
   have HDr := Lib.hid hdr
   have i1 : (0 : Int) ≤ (k : Int) := by omega
   have i2 : (k : Int) < (L.length : Int) := by omega
   have hwk : IntKind.i64.wrap ((k : Int) + 1) = (k : Int) + 1 := IntWalk.i64_in _ (by omega)
   clear hdr
   generalize L.drop (k + 1) = M at *
   generalize dropA (some ⟨b3, o3, none⟩) cL (k + 1) 4 = A7 at *
   generalize cL - (k + 1) = c7 at *
   generalize hO : outJ up half L k = O at *
   generalize hp : L[k] = p at *
   obtain ⟨s, t', n', b'⟩ := p
   simp only at x0 x1 x2 x3 hol hnw hty h00 hmm hpos
   generalize setU up half L s = su at *
   by_cases ho : s ∈ (L.take k).map (·.1)
   ·obtain ⟨j, hj⟩ : ∃ j, j + 1 = k := ⟨k - 1, by have : k ≠ 0 := fun e => h00 e ho; omega⟩
    have hjl : j < L.length := by omega
    have hse := (hmm j hj).1 ho
    obtain ⟨b4, o4, hA3, hB4, u0, u1, u2, u3⟩ := HL.out.pl hjl
    injection hA3 with hA3
    injection hA3 with e1 e2
    subst e1 e2
    generalize L[j] = pp at u0 u1 u2 u3 hse
    obtain ⟨sp, tp, np, bp⟩ := pp
    simp only at u0 u1 u2 u3 hse
    have hd0 : decide (0 < k) = true := by rw [decide_eq_true_eq]; omega
    have hw1 : IntKind.i64.wrap ((k : Int) - 1) = (j : Int) := by rw [← hj]; rw [IntWalk.i64_in _ (by omega)]; omega
    have j1 : (0 : Int) ≤ (j : Int) := by omega
    have j2 : (j : Int) < (L.length : Int) := by omega
    clear hmm h00 hp hj hpos
    have HJk := Lib.hid (hol ho)
    clear hol hnw hty
    go_wp2_with fail
    first | (refine wp_named ?_; intro W6 hW) | (refine calls_named ?_; intro W6 hW) | (refine exit_named ?_; intro W6 hW)
    have B6 : Below w5.heap.size w5 W6 := by rw [hW]; exact bq2
    replace g0 := cellAt g0 B6 (by omega)
    replace g1 := cellAt g1 B6 (by omega)
    replace h0 := cellAt h0 B6 (by omega)
    replace h1 := cellAt h1 B6 (by omega)
    replace m0 := cellAt m0 B6 (by omega)
    replace m1 := cellAt m1 B6 (by omega)
    replace m2 := cellAt m2 B6 (by omega)
    replace HG := Lib.hid (HG.out.at B6)
    replace HN := Lib.hid (HN.out.at B6)
    replace n1 : w.heap.size < W6.heap.size := ltAt n1 B6
    replace n2 : (w.heap.size + 1) < W6.heap.size := ltAt n2 B6
    replace HL := Lib.hid (HL.out.at B6)
    replace n3 : w2.heap.size < W6.heap.size := ltAt n3 B6
    replace HDr := Lib.hid (HDr.out.at B6)
    replace HO := Lib.hid (own_on HO.out B6)
    replace hB3 : b3 < W6.heap.size := ltAt hB3 B6
    have m6 : w5.heap.size < W6.heap.size := by rw [hW]; simp <;> omega
    have y0 : W6.cell? ⟨w5.heap.size, 0, none⟩ = some (sv s) := by rw [hW]; go_simp
    have y1 : W6.cell? ⟨w5.heap.size, 1, none⟩ = some (.int .i64 t') := by rw [hW]; go_simp
    clear hW
    have HB6 := Lib.hid (lift HB.out B6)
    clear x0 x1 x2 x3
    replace u0 := cellAt u0 B6 hB4
    try go_wp2_with fail
    refine wp_region_held_drew (S := fun w' => Below W6.heap.size W6 w') (by kernel_rfl) (Below.drew (Below.refl _ _)) (fun hHeld => ?_)
    refine tV 0 ?_ ?zq ?_; (case zq => rintro _ -; go_simp; try with_reducible rfl); try simp only [Act.put, zn1, zn2, zn3]
    refine tV 1 ?_ ?zq ?_; (case zq => rintro _ -; go_simp; try with_reducible rfl); try simp only [Act.put, zn1, zn2, zn3]
    refine tV 2 ?_ ?zq ?_; (case zq => rintro _ -; go_simp; try with_reducible rfl); try simp only [Act.put, zn1, zn2, zn3]
    refine tV 3 ?_ ?zq ?_; (case zq => rintro _ -; go_simp; try with_reducible rfl); try simp only [Act.put, zn1, zn2, zn3]
    refine tV 4 ?_ ?zq ?_; (case zq => intro w' hSw; have hCell := fun (b o : Nat) (h : b < W6.heap.size) => hSw.cell (p := ⟨b, o, none⟩) h; clear hSw; go_simp; try with_reducible rfl); try simp only [Act.put, zn1, zn2, zn3]
    refine tV 5 ?_ ?zq ?_; (case zq => rintro _ -; go_simp; try with_reducible rfl); try simp only [Act.put, zn1, zn2, zn3]
    refine tV 6 ?_ ?zq ?_; (case zq => rintro _ -; go_simp; try with_reducible rfl); try simp only [Act.put, zn1, zn2, zn3]
    refine tV 7 ?_ ?zq ?_; (case zq => rintro _ -; go_simp; try with_reducible rfl); try simp only [Act.put, zn1, zn2, zn3]
    refine tV 8 ?_ ?zq ?_; (case zq => rintro _ -; go_simp; try with_reducible rfl); try simp only [Act.put, zn1, zn2, zn3]
    refine tV 9 ?_ ?zq ?_; (case zq => intro w' hSw; have hCell := fun (b o : Nat) (h : b < W6.heap.size) => hSw.cell (p := ⟨b, o, none⟩) h; clear hSw; go_simp; try with_reducible rfl); try simp only [Act.put, zn1, zn2, zn3]
    refine tV 10 ?_ ?zq ?_; (case zq => rintro _ -; go_simp; try with_reducible rfl); try simp only [Act.put, zn1, zn2, zn3]
    refine tV 11 ?_ ?zq ?_; (case zq => intro w' hSw; have hCell := fun (b o : Nat) (h : b < W6.heap.size) => hSw.cell (p := ⟨b, o, none⟩) h; clear hSw; go_simp; try with_reducible rfl); try simp only [Act.put, zn1, zn2, zn3]
    refine tV 12 ?_ ?zq ?_; (case zq => rintro _ -; go_simp; try with_reducible rfl); try simp only [Act.put, zn1, zn2, zn3]
    refine tV 13 ?_ ?zq ?_; (case zq => rintro _ -; go_simp; try with_reducible rfl); try simp only [Act.put, zn1, zn2, zn3]
    refine wpAnyH_done (by kernel_rfl) ?_ _
    first | (refine wp_named ?_; intro W7 hW) | (refine calls_named ?_; intro W7 hW) | (refine exit_named ?_; intro W7 hW)
    have B7 : Below W6.heap.size W6 W7 := by rw [hW]; exact bq2
    replace g0 := cellAt g0 B7 (by omega)
    replace g1 := cellAt g1 B7 (by omega)
    replace h0 := cellAt h0 B7 (by omega)
    replace h1 := cellAt h1 B7 (by omega)
    replace m0 := cellAt m0 B7 (by omega)
    replace m1 := cellAt m1 B7 (by omega)
    replace m2 := cellAt m2 B7 (by omega)
    replace y0 := cellAt y0 B7 (by omega)
    replace y1 := cellAt y1 B7 (by omega)
    replace HG := Lib.hid (HG.out.at B7)
    replace HN := Lib.hid (HN.out.at B7)
    replace n1 : w.heap.size < W7.heap.size := ltAt n1 B7
    replace n2 : (w.heap.size + 1) < W7.heap.size := ltAt n2 B7
    replace HL := Lib.hid (HL.out.at B7)
    replace n3 : w2.heap.size < W7.heap.size := ltAt n3 B7
    replace HDr := Lib.hid (HDr.out.at B7)
    replace HO := Lib.hid (own_on HO.out B7)
    replace hB3 : b3 < W7.heap.size := ltAt hB3 B7
    replace m6 : w5.heap.size < W7.heap.size := ltAt m6 B7
    clear hW
    have HB7 := Lib.hid (lift HB6.out B7)
    clear hHeld B6 B7
    go_wp2_with fail
    go_roundw
    case rel => exact ⟨k + 1, A, c, by omega, by rw [HJk.out], by go_num, by rw [HJk.out]; exact HO.out, HB7.out⟩
    case measure => simp [intOf]; omega
   ·have HNw := Lib.hid (hnw ho)
    have HTy := Lib.hid (hty ho)
    by_cases hk0 : k = 0
    ·have hd0 : decide (0 < k) = false := by rw [decide_eq_false_iff_not]; omega
     clear hk0 hmm h00 hp hol hnw hty ho
     go_wp2_with fail
     first | (refine wp_named ?_; intro W6 hW) | (refine calls_named ?_; intro W6 hW) | (refine exit_named ?_; intro W6 hW)
     have B6 : Below w5.heap.size w5 W6 := by rw [hW]; exact bq2
     replace g0 := cellAt g0 B6 (by omega)
     replace g1 := cellAt g1 B6 (by omega)
     replace h0 := cellAt h0 B6 (by omega)
     replace h1 := cellAt h1 B6 (by omega)
     replace m0 := cellAt m0 B6 (by omega)
     replace m1 := cellAt m1 B6 (by omega)
     replace m2 := cellAt m2 B6 (by omega)
     replace HG := Lib.hid (HG.out.at B6)
     replace HN := Lib.hid (HN.out.at B6)
     replace n1 : w.heap.size < W6.heap.size := ltAt n1 B6
     replace n2 : (w.heap.size + 1) < W6.heap.size := ltAt n2 B6
     replace HL := Lib.hid (HL.out.at B6)
     replace n3 : w2.heap.size < W6.heap.size := ltAt n3 B6
     replace HDr := Lib.hid (HDr.out.at B6)
     replace HO := Lib.hid (own_on HO.out B6)
     replace hB3 : b3 < W6.heap.size := ltAt hB3 B6
     have m6 : w5.heap.size < W6.heap.size := by rw [hW]; simp <;> omega
     have y0 : W6.cell? ⟨w5.heap.size, 0, none⟩ = some (sv s) := by rw [hW]; go_simp
     have y1 : W6.cell? ⟨w5.heap.size, 1, none⟩ = some (.int .i64 t') := by rw [hW]; go_simp
     clear hW
     have HB6 := Lib.hid (lift HB.out B6)
     clear x0 x1 x2 x3
     skip
     try go_wp2_with fail
     refine wp_region_held_drew (S := fun w' => Below W6.heap.size W6 w') (by kernel_rfl) (Below.drew (Below.refl _ _)) (fun hHeld => ?_)
     refine tV 0 ?_ ?zq ?_; (case zq => rintro _ -; go_simp; try with_reducible rfl); try simp only [Act.put, zn1, zn2, zn3]
     refine tV 1 ?_ ?zq ?_; (case zq => rintro _ -; go_simp; try with_reducible rfl); try simp only [Act.put, zn1, zn2, zn3]
     refine tV 2 ?_ ?zq ?_; (case zq => rintro _ -; go_simp; try with_reducible rfl); try simp only [Act.put, zn1, zn2, zn3]
     refine tS (i := 3) rfl hHeld ?_; (try simp only [Act.put, zn1, zn2, zn3])
     refine tS (i := 4) rfl hHeld ?_; (try simp only [Act.put, zn1, zn2, zn3])
     refine tS (i := 5) rfl hHeld ?_; (try simp only [Act.put, zn1, zn2, zn3])
     refine tS (i := 6) rfl hHeld ?_; (try simp only [Act.put, zn1, zn2, zn3])
     refine tS (i := 7) rfl hHeld ?_; (try simp only [Act.put, zn1, zn2, zn3])
     refine tS (i := 8) rfl hHeld ?_; (try simp only [Act.put, zn1, zn2, zn3])
     refine tS (i := 9) rfl hHeld ?_; (try simp only [Act.put, zn1, zn2, zn3])
     refine tS (i := 10) rfl hHeld ?_; (try simp only [Act.put, zn1, zn2, zn3])
     refine tS (i := 11) rfl hHeld ?_; (try simp only [Act.put, zn1, zn2, zn3])
     refine tS (i := 12) rfl hHeld ?_; (try simp only [Act.put, zn1, zn2, zn3])
     refine tV 13 ?_ ?zq ?_; (case zq => rintro _ -; go_simp; try with_reducible rfl); try simp only [Act.put, zn1, zn2, zn3]
     refine wpAnyH_done (by kernel_rfl) ?_ _
     first | (refine wp_named ?_; intro W7 hW) | (refine calls_named ?_; intro W7 hW) | (refine exit_named ?_; intro W7 hW)
     have B7 : Below W6.heap.size W6 W7 := by rw [hW]; exact bq2
     replace g0 := cellAt g0 B7 (by omega)
     replace g1 := cellAt g1 B7 (by omega)
     replace h0 := cellAt h0 B7 (by omega)
     replace h1 := cellAt h1 B7 (by omega)
     replace m0 := cellAt m0 B7 (by omega)
     replace m1 := cellAt m1 B7 (by omega)
     replace m2 := cellAt m2 B7 (by omega)
     replace y0 := cellAt y0 B7 (by omega)
     replace y1 := cellAt y1 B7 (by omega)
     replace HG := Lib.hid (HG.out.at B7)
     replace HN := Lib.hid (HN.out.at B7)
     replace n1 : w.heap.size < W7.heap.size := ltAt n1 B7
     replace n2 : (w.heap.size + 1) < W7.heap.size := ltAt n2 B7
     replace HL := Lib.hid (HL.out.at B7)
     replace n3 : w2.heap.size < W7.heap.size := ltAt n3 B7
     replace HDr := Lib.hid (HDr.out.at B7)
     replace HO := Lib.hid (own_on HO.out B7)
     replace hB3 : b3 < W7.heap.size := ltAt hB3 B7
     replace m6 : w5.heap.size < W7.heap.size := ltAt m6 B7
     clear hW
     have HB7 := Lib.hid (lift HB6.out B7)
     have hz7 := HB7.out.size
     clear hHeld B7 B6
     go_wp2_with fail
     go_loopw [14, 56] (fun v i wr => ∃ j : Nat, j ≤ M.length ∧ i = .int .i64 j ∧ v = .int .i64 (joinK up s t' (M.take j)) ∧ Hid (Below W7.heap.size W7 wr)) (fun _ i _ => M.length - (intOf i).toNat)
     case atStart => exact ⟨0, Nat.zero_le _, rfl, rfl, Below.refl _ _⟩
     case round =>
      obtain ⟨j, hj, rfl, rfl, HBv⟩ := hrel
      obtain ⟨w8, rfl⟩ : ∃ wo : World, wo = wr := ⟨_, rfl⟩
      have hb8 := HBv.out
      have hz8 := HBv.out.size
      replace g0 := cellAt g0 hb8 (by omega)
      replace g1 := cellAt g1 hb8 (by omega)
      replace h0 := cellAt h0 hb8 (by omega)
      replace h1 := cellAt h1 hb8 (by omega)
      replace m0 := cellAt m0 hb8 (by omega)
      replace m1 := cellAt m1 hb8 (by omega)
      replace m2 := cellAt m2 hb8 (by omega)
      replace y0 := cellAt y0 hb8 (by omega)
      replace y1 := cellAt y1 hb8 (by omega)
      replace HG := Lib.hid (HG.out.at hb8)
      replace HN := Lib.hid (HN.out.at hb8)
      replace n1 : w.heap.size < w8.heap.size := ltAt n1 hb8
      replace n2 : (w.heap.size + 1) < w8.heap.size := ltAt n2 hb8
      replace HL := Lib.hid (HL.out.at hb8)
      replace n3 : w2.heap.size < w8.heap.size := ltAt n3 hb8
      replace HDr := Lib.hid (HDr.out.at hb8)
      replace HO := Lib.hid (own_on HO.out hb8)
      replace hB3 : b3 < w8.heap.size := ltAt hB3 hb8
      replace m6 : w5.heap.size < w8.heap.size := ltAt m6 hb8
      clear hb8
      by_cases hlt2 : j < M.length
      ·obtain ⟨b5, o5, hA5, hB5, q0, q1, q2, q3⟩ := HDr.out.pl hlt2
       subst hA5
       have hjs := joinK_same (up := up) (u := s) (t := t') hlt2
       have hjo := joinK_other (up := up) (u := s) (t := t') hlt2
       generalize M[j] = q at q0 q1 q2 q3 hjs hjo
       obtain ⟨sq, tq, nq, bq⟩ := q
       simp only at q0 q1 q2 q3 hjs hjo
       have j1 : (0 : Int) ≤ (j : Int) := by omega
       have j2 : (j : Int) < (M.length : Int) := by omega
       generalize joinK up s t' (M.take j) = tj at *
       cases e1 : (sq == s)
       ·have HTk := Lib.hid (hjo e1)
        clear hjs hjo
        go_wp2_with fail
        go_roundw
        case rel => exact ⟨j + 1, by omega, by go_num, by rw [HTk.out], HBv.out.alloc hz8 _⟩
        case measure => simp [intOf]; omega
       ·have HTk := Lib.hid (hjs e1)
        clear hjs hjo
        go_wp2_with fail
        first | (refine wp_named ?_; intro W10 hW) | (refine calls_named ?_; intro W10 hW) | (refine exit_named ?_; intro W10 hW)
        have B10 : Below w8.heap.size w8 W10 := by rw [hW]; exact bq2
        replace g0 := cellAt g0 B10 (by omega)
        replace g1 := cellAt g1 B10 (by omega)
        replace h0 := cellAt h0 B10 (by omega)
        replace h1 := cellAt h1 B10 (by omega)
        replace m0 := cellAt m0 B10 (by omega)
        replace m1 := cellAt m1 B10 (by omega)
        replace m2 := cellAt m2 B10 (by omega)
        replace y0 := cellAt y0 B10 (by omega)
        replace y1 := cellAt y1 B10 (by omega)
        replace HG := Lib.hid (HG.out.at B10)
        replace HN := Lib.hid (HN.out.at B10)
        replace n1 : w.heap.size < W10.heap.size := ltAt n1 B10
        replace n2 : (w.heap.size + 1) < W10.heap.size := ltAt n2 B10
        replace HL := Lib.hid (HL.out.at B10)
        replace n3 : w2.heap.size < W10.heap.size := ltAt n3 B10
        replace HDr := Lib.hid (HDr.out.at B10)
        replace HO := Lib.hid (own_on HO.out B10)
        replace hB3 : b3 < W10.heap.size := ltAt hB3 B10
        replace m6 : w5.heap.size < W10.heap.size := ltAt m6 B10
        have m10 : w8.heap.size < W10.heap.size := by rw [hW]; simp <;> omega
        have z0 : W10.cell? ⟨w8.heap.size, 0, none⟩ = some (sv sq) := by rw [hW]; go_simp
        have z1 : W10.cell? ⟨w8.heap.size, 1, none⟩ = some (.int .i64 tq) := by rw [hW]; go_simp
        clear hW
        have HB10 := Lib.hid (lift HBv.out B10)
        clear B10 q0 q1 q2 q3
        try go_wp2_with fail
        refine wp_region_held_drew (S := fun w' => Below W10.heap.size W10 w') (by kernel_rfl) (Below.drew (Below.refl _ _)) (fun hHeld => ?_)
        refine tV 0 ?_ ?zq ?_; (case zq => rintro _ -; go_simp; try with_reducible rfl); try simp only [Act.put, zn1, zn2, zn3]
        refine tV 1 ?_ ?zq ?_; (case zq => rintro _ -; go_simp; try with_reducible rfl); try simp only [Act.put, zn1, zn2, zn3]
        refine tV 2 ?_ ?zq ?_; (case zq => intro w' hSw; have hCell := fun (b o : Nat) (h : b < W10.heap.size) => hSw.cell (p := ⟨b, o, none⟩) h; clear hSw; go_simp; try with_reducible rfl); try simp only [Act.put, zn1, zn2, zn3]
        refine tV 3 ?_ ?zq ?_; (case zq => rintro _ -; go_simp; try with_reducible rfl); try simp only [Act.put, zn1, zn2, zn3]
        refine tV 4 ?_ ?zq ?_; (case zq => intro w' hSw; have hCell := fun (b o : Nat) (h : b < W10.heap.size) => hSw.cell (p := ⟨b, o, none⟩) h; clear hSw; go_simp; try with_reducible rfl); try simp only [Act.put, zn1, zn2, zn3]
        refine tV 5 ?_ ?zq ?_; (case zq => rintro _ -; go_simp; try with_reducible rfl); try simp only [Act.put, zn1, zn2, zn3]
        refine tV 6 ?_ ?zq ?_; (case zq => intro w' hSw; have hCell := fun (b o : Nat) (h : b < W10.heap.size) => hSw.cell (p := ⟨b, o, none⟩) h; clear hSw; go_simp; try with_reducible rfl); try simp only [Act.put, zn1, zn2, zn3]
        refine ready_one (i := 7) rfl (by kernel_rfl) (fun K hK => ?_)
        go_simp
        refine (HasS_any Au cu up s _ (HN.out.at hHeld).u.rd HN.out.u.len).mono ?_
        rintro e wz ⟨rfl, rfl⟩
        refine hK.out _ _ ?_ (fun hHeld2 => ?_)
        ·(try dsimp only); first | exact Below.trans hHeld (Below.mono hb hHeld.size) | exact hHeld | exact Below.drew hHeld | exact bq2
        clear hK K hHeld; have hHeld := hHeld2; clear hHeld2; (try simp only [Act.put, zn1, zn2, zn3])
        refine ready_one (i := 8) rfl (by kernel_rfl) (fun K hK => ?_)
        go_simp
        refine (Pr.refJoin_any tj tq (hasB up s) _).mono ?_
        rintro e wy ⟨rfl, rfl⟩
        rw [jn_jnT]
        generalize jnT tj tq (hasB up s) = jr at *
        obtain ⟨ja, jb⟩ := jr
        refine hK.out _ _ ?_ (fun hHeld2 => ?_)
        ·(try dsimp only); first | exact Below.trans hHeld (Below.mono hb hHeld.size) | exact hHeld | exact Below.drew hHeld | exact bq2
        clear hK K hHeld; have hHeld := hHeld2; clear hHeld2; (try simp only [Act.put, zn1, zn2, zn3])
        refine tV 9 ?_ ?zq ?_; (case zq => rintro _ -; go_simp; try with_reducible rfl); try simp only [Act.put, zn1, zn2, zn3]
        refine tV 10 ?_ ?zq ?_; (case zq => rintro _ -; go_simp; try with_reducible rfl); try simp only [Act.put, zn1, zn2, zn3]
        refine tV 11 ?_ ?zq ?_; (case zq => rintro _ -; go_simp; try with_reducible rfl); try simp only [Act.put, zn1, zn2, zn3]
        refine tV 12 ?_ ?zq ?_; (case zq => rintro _ -; go_simp; try with_reducible rfl); try simp only [Act.put, zn1, zn2, zn3]
        refine wpAnyH_done (by kernel_rfl) ?_ _
        have HB11 := Lib.hid (lift HB10.out hHeld)
        clear hHeld
        go_wp2_with fail
        go_roundw
        case rel => exact ⟨j + 1, by omega, by go_num, by rw [HTk.out], HB11.out⟩
        case measure => simp [intOf]; omega
      ·obtain rfl : j = M.length := by omega
       rw [List.take_length]
       generalize joinK up s t' M = tt at *
       have HB8 := Lib.hid (lift HB7.out HBv.out)
       go_wp2_with fail
       refine (state17_any Au Ah cu ch up half s w8 HN.out).mono ?_
       rintro e w9 ⟨rfl, hb⟩
       replace g0 := cellAt g0 hb (by omega)
       replace g1 := cellAt g1 hb (by omega)
       replace h0 := cellAt h0 hb (by omega)
       replace h1 := cellAt h1 hb (by omega)
       replace m0 := cellAt m0 hb (by omega)
       replace m1 := cellAt m1 hb (by omega)
       replace m2 := cellAt m2 hb (by omega)
       replace y0 := cellAt y0 hb (by omega)
       replace y1 := cellAt y1 hb (by omega)
       replace HG := Lib.hid (HG.out.at hb)
       replace HN := Lib.hid (HN.out.at hb)
       replace n1 : w.heap.size < w9.heap.size := ltAt n1 hb
       replace n2 : (w.heap.size + 1) < w9.heap.size := ltAt n2 hb
       replace HL := Lib.hid (HL.out.at hb)
       replace n3 : w2.heap.size < w9.heap.size := ltAt n3 hb
       replace HDr := Lib.hid (HDr.out.at hb)
       replace HO := Lib.hid (own_on HO.out hb)
       replace hB3 : b3 < w9.heap.size := ltAt hB3 hb
       replace m6 : w5.heap.size < w9.heap.size := ltAt m6 hb
       have HB9 := Lib.hid (lift HB8.out hb)
       have hz9 := HB9.out.size
       clear hb
       go_wp2_with fail
       refine (Pr.refSettle_any tt (nowS up half s) w9).mono ?_
       rintro e wx ⟨rfl, rfl⟩
       rw [st_setT, ← HTy.out]
       by_cases h0 : su = 0
       ·have hd : decide (0 < su) = false := by rw [hpos]; simp [h0]
        have HNz := Lib.hid (HNw.out.trans (by rw [if_pos h0, List.append_nil]))
        clear h0 hpos HNw HTy
        go_wp2_with fail
        go_roundw
        case rel => exact ⟨k + 1, A, c, by omega, by rw [HNz.out], by go_num, by rw [HNz.out]; exact HO.out, HB9.out⟩
        case measure => simp [intOf]; omega
       ·have hd : decide (0 < su) = true := by rw [hpos]; simp [h0]
        have HNz := Lib.hid (HNw.out.trans (by rw [if_neg h0]))
        have h63 := Lib.hid (show O.length + 1 ≤ maxLen by unfold maxLen; omega)
        have hby := Lib.hid (show (O.length + 1) * 40 ≤ 140737488355328 by omega)
        clear h0 hpos HNw HTy
        go_wp2_with (first | (at_builtin; refine wpList_pushm w9 w9 (by rfl) (.tmp 86) (.tmp 91) 50 (by rfl) W3.heap.size 60 i0 _ 4 40 Tryz.underlying50 hi hz0 hz1 hz2 rfl (by decide) _ _ _ (by rfl) HO.out (jbC (s, su, 1, 0)) w9.heap.size rfl (by rfl) rfl (one_jbC (s, su, 1, 0)) h63.out hby.out hz9 (Below.refl _ _) ?_; intro A10 c10 w10 hown hbel hg hat; have HO10 := Lib.hid hown; have HBa := Lib.hid hbel; clear hown hbel hg hat) | fail)
        go_roundw
        case rel => exact ⟨k + 1, A10, c10, by omega, by rw [HNz.out, List.length_append]; rfl, by go_num, by rw [HNz.out, List.length_append, jbsC_app, jbsC_one]; exact HO10.out, HB9.out.trans HBa.out⟩
        case measure => simp [intOf]; omega
    ·obtain ⟨j, hj⟩ : ∃ j, j + 1 = k := ⟨k - 1, by omega⟩
     have hjl : j < L.length := by omega
     have hse := fun h => ho ((hmm j hj).2 h)
     obtain ⟨b4, o4, hA3, hB4, u0, u1, u2, u3⟩ := HL.out.pl hjl
     injection hA3 with hA3
     injection hA3 with e1 e2
     subst e1 e2
     generalize L[j] = pp at u0 u1 u2 u3 hse
     obtain ⟨sp, tp, np, bp⟩ := pp
     simp only at u0 u1 u2 u3 hse
     have hse2 : (sp == s) = false := by simpa using hse
     have hd0 : decide (0 < k) = true := by rw [decide_eq_true_eq]; omega
     have hw1 : IntKind.i64.wrap ((k : Int) - 1) = (j : Int) := by rw [← hj]; rw [IntWalk.i64_in _ (by omega)]; omega
     have j1 : (0 : Int) ≤ (j : Int) := by omega
     have j2 : (j : Int) < (L.length : Int) := by omega
     clear hse hmm h00 hp hj hol hnw hty ho hk0
     go_wp2_with fail
     first | (refine wp_named ?_; intro W6 hW) | (refine calls_named ?_; intro W6 hW) | (refine exit_named ?_; intro W6 hW)
     have B6 : Below w5.heap.size w5 W6 := by rw [hW]; exact bq2
     replace g0 := cellAt g0 B6 (by omega)
     replace g1 := cellAt g1 B6 (by omega)
     replace h0 := cellAt h0 B6 (by omega)
     replace h1 := cellAt h1 B6 (by omega)
     replace m0 := cellAt m0 B6 (by omega)
     replace m1 := cellAt m1 B6 (by omega)
     replace m2 := cellAt m2 B6 (by omega)
     replace HG := Lib.hid (HG.out.at B6)
     replace HN := Lib.hid (HN.out.at B6)
     replace n1 : w.heap.size < W6.heap.size := ltAt n1 B6
     replace n2 : (w.heap.size + 1) < W6.heap.size := ltAt n2 B6
     replace HL := Lib.hid (HL.out.at B6)
     replace n3 : w2.heap.size < W6.heap.size := ltAt n3 B6
     replace HDr := Lib.hid (HDr.out.at B6)
     replace HO := Lib.hid (own_on HO.out B6)
     replace hB3 : b3 < W6.heap.size := ltAt hB3 B6
     have m6 : w5.heap.size < W6.heap.size := by rw [hW]; simp <;> omega
     have y0 : W6.cell? ⟨w5.heap.size, 0, none⟩ = some (sv s) := by rw [hW]; go_simp
     have y1 : W6.cell? ⟨w5.heap.size, 1, none⟩ = some (.int .i64 t') := by rw [hW]; go_simp
     clear hW
     have HB6 := Lib.hid (lift HB.out B6)
     clear x0 x1 x2 x3
     replace u0 := cellAt u0 B6 hB4
     try go_wp2_with fail
     refine wp_region_held_drew (S := fun w' => Below W6.heap.size W6 w') (by kernel_rfl) (Below.drew (Below.refl _ _)) (fun hHeld => ?_)
     refine tV 0 ?_ ?zq ?_; (case zq => rintro _ -; go_simp; try with_reducible rfl); try simp only [Act.put, zn1, zn2, zn3]
     refine tV 1 ?_ ?zq ?_; (case zq => rintro _ -; go_simp; try with_reducible rfl); try simp only [Act.put, zn1, zn2, zn3]
     refine tV 2 ?_ ?zq ?_; (case zq => rintro _ -; go_simp; try with_reducible rfl); try simp only [Act.put, zn1, zn2, zn3]
     refine tV 3 ?_ ?zq ?_; (case zq => rintro _ -; go_simp; try with_reducible rfl); try simp only [Act.put, zn1, zn2, zn3]
     refine tV 4 ?_ ?zq ?_; (case zq => intro w' hSw; have hCell := fun (b o : Nat) (h : b < W6.heap.size) => hSw.cell (p := ⟨b, o, none⟩) h; clear hSw; go_simp; try with_reducible rfl); try simp only [Act.put, zn1, zn2, zn3]
     refine tV 5 ?_ ?zq ?_; (case zq => rintro _ -; go_simp; try with_reducible rfl); try simp only [Act.put, zn1, zn2, zn3]
     refine tV 6 ?_ ?zq ?_; (case zq => rintro _ -; go_simp; try with_reducible rfl); try simp only [Act.put, zn1, zn2, zn3]
     refine tV 7 ?_ ?zq ?_; (case zq => rintro _ -; go_simp; try with_reducible rfl); try simp only [Act.put, zn1, zn2, zn3]
     refine tV 8 ?_ ?zq ?_; (case zq => rintro _ -; go_simp; try with_reducible rfl); try simp only [Act.put, zn1, zn2, zn3]
     refine tV 9 ?_ ?zq ?_; (case zq => intro w' hSw; have hCell := fun (b o : Nat) (h : b < W6.heap.size) => hSw.cell (p := ⟨b, o, none⟩) h; clear hSw; go_simp; try with_reducible rfl); try simp only [Act.put, zn1, zn2, zn3]
     refine tV 10 ?_ ?zq ?_; (case zq => rintro _ -; go_simp; try with_reducible rfl); try simp only [Act.put, zn1, zn2, zn3]
     refine tV 11 ?_ ?zq ?_; (case zq => intro w' hSw; have hCell := fun (b o : Nat) (h : b < W6.heap.size) => hSw.cell (p := ⟨b, o, none⟩) h; clear hSw; go_simp; try with_reducible rfl); try simp only [Act.put, zn1, zn2, zn3]
     refine tV 12 ?_ ?zq ?_; (case zq => rintro _ -; go_simp; try with_reducible rfl); try simp only [Act.put, zn1, zn2, zn3]
     refine tV 13 ?_ ?zq ?_; (case zq => rintro _ -; go_simp; try with_reducible rfl); try simp only [Act.put, zn1, zn2, zn3]
     refine wpAnyH_done (by kernel_rfl) ?_ _
     first | (refine wp_named ?_; intro W7 hW) | (refine calls_named ?_; intro W7 hW) | (refine exit_named ?_; intro W7 hW)
     have B7 : Below W6.heap.size W6 W7 := by rw [hW]; exact bq2
     replace g0 := cellAt g0 B7 (by omega)
     replace g1 := cellAt g1 B7 (by omega)
     replace h0 := cellAt h0 B7 (by omega)
     replace h1 := cellAt h1 B7 (by omega)
     replace m0 := cellAt m0 B7 (by omega)
     replace m1 := cellAt m1 B7 (by omega)
     replace m2 := cellAt m2 B7 (by omega)
     replace y0 := cellAt y0 B7 (by omega)
     replace y1 := cellAt y1 B7 (by omega)
     replace HG := Lib.hid (HG.out.at B7)
     replace HN := Lib.hid (HN.out.at B7)
     replace n1 : w.heap.size < W7.heap.size := ltAt n1 B7
     replace n2 : (w.heap.size + 1) < W7.heap.size := ltAt n2 B7
     replace HL := Lib.hid (HL.out.at B7)
     replace n3 : w2.heap.size < W7.heap.size := ltAt n3 B7
     replace HDr := Lib.hid (HDr.out.at B7)
     replace HO := Lib.hid (own_on HO.out B7)
     replace hB3 : b3 < W7.heap.size := ltAt hB3 B7
     replace m6 : w5.heap.size < W7.heap.size := ltAt m6 B7
     clear hW
     have HB7 := Lib.hid (lift HB6.out B7)
     have hz7 := HB7.out.size
     clear hHeld B7 B6
     go_wp2_with fail
     go_loopw [14, 56] (fun v i wr => ∃ j : Nat, j ≤ M.length ∧ i = .int .i64 j ∧ v = .int .i64 (joinK up s t' (M.take j)) ∧ Hid (Below W7.heap.size W7 wr)) (fun _ i _ => M.length - (intOf i).toNat)
     case atStart => exact ⟨0, Nat.zero_le _, rfl, rfl, Below.refl _ _⟩
     case round =>
      obtain ⟨j, hj, rfl, rfl, HBv⟩ := hrel
      obtain ⟨w8, rfl⟩ : ∃ wo : World, wo = wr := ⟨_, rfl⟩
      have hb8 := HBv.out
      have hz8 := HBv.out.size
      replace g0 := cellAt g0 hb8 (by omega)
      replace g1 := cellAt g1 hb8 (by omega)
      replace h0 := cellAt h0 hb8 (by omega)
      replace h1 := cellAt h1 hb8 (by omega)
      replace m0 := cellAt m0 hb8 (by omega)
      replace m1 := cellAt m1 hb8 (by omega)
      replace m2 := cellAt m2 hb8 (by omega)
      replace y0 := cellAt y0 hb8 (by omega)
      replace y1 := cellAt y1 hb8 (by omega)
      replace HG := Lib.hid (HG.out.at hb8)
      replace HN := Lib.hid (HN.out.at hb8)
      replace n1 : w.heap.size < w8.heap.size := ltAt n1 hb8
      replace n2 : (w.heap.size + 1) < w8.heap.size := ltAt n2 hb8
      replace HL := Lib.hid (HL.out.at hb8)
      replace n3 : w2.heap.size < w8.heap.size := ltAt n3 hb8
      replace HDr := Lib.hid (HDr.out.at hb8)
      replace HO := Lib.hid (own_on HO.out hb8)
      replace hB3 : b3 < w8.heap.size := ltAt hB3 hb8
      replace m6 : w5.heap.size < w8.heap.size := ltAt m6 hb8
      clear hb8
      by_cases hlt2 : j < M.length
      ·obtain ⟨b5, o5, hA5, hB5, q0, q1, q2, q3⟩ := HDr.out.pl hlt2
       subst hA5
       have hjs := joinK_same (up := up) (u := s) (t := t') hlt2
       have hjo := joinK_other (up := up) (u := s) (t := t') hlt2
       generalize M[j] = q at q0 q1 q2 q3 hjs hjo
       obtain ⟨sq, tq, nq, bq⟩ := q
       simp only at q0 q1 q2 q3 hjs hjo
       have j1 : (0 : Int) ≤ (j : Int) := by omega
       have j2 : (j : Int) < (M.length : Int) := by omega
       generalize joinK up s t' (M.take j) = tj at *
       cases e1 : (sq == s)
       ·have HTk := Lib.hid (hjo e1)
        clear hjs hjo
        go_wp2_with fail
        go_roundw
        case rel => exact ⟨j + 1, by omega, by go_num, by rw [HTk.out], HBv.out.alloc hz8 _⟩
        case measure => simp [intOf]; omega
       ·have HTk := Lib.hid (hjs e1)
        clear hjs hjo
        go_wp2_with fail
        first | (refine wp_named ?_; intro W10 hW) | (refine calls_named ?_; intro W10 hW) | (refine exit_named ?_; intro W10 hW)
        have B10 : Below w8.heap.size w8 W10 := by rw [hW]; exact bq2
        replace g0 := cellAt g0 B10 (by omega)
        replace g1 := cellAt g1 B10 (by omega)
        replace h0 := cellAt h0 B10 (by omega)
        replace h1 := cellAt h1 B10 (by omega)
        replace m0 := cellAt m0 B10 (by omega)
        replace m1 := cellAt m1 B10 (by omega)
        replace m2 := cellAt m2 B10 (by omega)
        replace y0 := cellAt y0 B10 (by omega)
        replace y1 := cellAt y1 B10 (by omega)
        replace HG := Lib.hid (HG.out.at B10)
        replace HN := Lib.hid (HN.out.at B10)
        replace n1 : w.heap.size < W10.heap.size := ltAt n1 B10
        replace n2 : (w.heap.size + 1) < W10.heap.size := ltAt n2 B10
        replace HL := Lib.hid (HL.out.at B10)
        replace n3 : w2.heap.size < W10.heap.size := ltAt n3 B10
        replace HDr := Lib.hid (HDr.out.at B10)
        replace HO := Lib.hid (own_on HO.out B10)
        replace hB3 : b3 < W10.heap.size := ltAt hB3 B10
        replace m6 : w5.heap.size < W10.heap.size := ltAt m6 B10
        have m10 : w8.heap.size < W10.heap.size := by rw [hW]; simp <;> omega
        have z0 : W10.cell? ⟨w8.heap.size, 0, none⟩ = some (sv sq) := by rw [hW]; go_simp
        have z1 : W10.cell? ⟨w8.heap.size, 1, none⟩ = some (.int .i64 tq) := by rw [hW]; go_simp
        clear hW
        have HB10 := Lib.hid (lift HBv.out B10)
        clear B10 q0 q1 q2 q3
        try go_wp2_with fail
        refine wp_region_held_drew (S := fun w' => Below W10.heap.size W10 w') (by kernel_rfl) (Below.drew (Below.refl _ _)) (fun hHeld => ?_)
        refine tV 0 ?_ ?zq ?_; (case zq => rintro _ -; go_simp; try with_reducible rfl); try simp only [Act.put, zn1, zn2, zn3]
        refine tV 1 ?_ ?zq ?_; (case zq => rintro _ -; go_simp; try with_reducible rfl); try simp only [Act.put, zn1, zn2, zn3]
        refine tV 2 ?_ ?zq ?_; (case zq => intro w' hSw; have hCell := fun (b o : Nat) (h : b < W10.heap.size) => hSw.cell (p := ⟨b, o, none⟩) h; clear hSw; go_simp; try with_reducible rfl); try simp only [Act.put, zn1, zn2, zn3]
        refine tV 3 ?_ ?zq ?_; (case zq => rintro _ -; go_simp; try with_reducible rfl); try simp only [Act.put, zn1, zn2, zn3]
        refine tV 4 ?_ ?zq ?_; (case zq => intro w' hSw; have hCell := fun (b o : Nat) (h : b < W10.heap.size) => hSw.cell (p := ⟨b, o, none⟩) h; clear hSw; go_simp; try with_reducible rfl); try simp only [Act.put, zn1, zn2, zn3]
        refine tV 5 ?_ ?zq ?_; (case zq => rintro _ -; go_simp; try with_reducible rfl); try simp only [Act.put, zn1, zn2, zn3]
        refine tV 6 ?_ ?zq ?_; (case zq => intro w' hSw; have hCell := fun (b o : Nat) (h : b < W10.heap.size) => hSw.cell (p := ⟨b, o, none⟩) h; clear hSw; go_simp; try with_reducible rfl); try simp only [Act.put, zn1, zn2, zn3]
        refine ready_one (i := 7) rfl (by kernel_rfl) (fun K hK => ?_)
        go_simp
        refine (HasS_any Au cu up s _ (HN.out.at hHeld).u.rd HN.out.u.len).mono ?_
        rintro e wz ⟨rfl, rfl⟩
        refine hK.out _ _ ?_ (fun hHeld2 => ?_)
        ·(try dsimp only); first | exact Below.trans hHeld (Below.mono hb hHeld.size) | exact hHeld | exact Below.drew hHeld | exact bq2
        clear hK K hHeld; have hHeld := hHeld2; clear hHeld2; (try simp only [Act.put, zn1, zn2, zn3])
        refine ready_one (i := 8) rfl (by kernel_rfl) (fun K hK => ?_)
        go_simp
        refine (Pr.refJoin_any tj tq (hasB up s) _).mono ?_
        rintro e wy ⟨rfl, rfl⟩
        rw [jn_jnT]
        generalize jnT tj tq (hasB up s) = jr at *
        obtain ⟨ja, jb⟩ := jr
        refine hK.out _ _ ?_ (fun hHeld2 => ?_)
        ·(try dsimp only); first | exact Below.trans hHeld (Below.mono hb hHeld.size) | exact hHeld | exact Below.drew hHeld | exact bq2
        clear hK K hHeld; have hHeld := hHeld2; clear hHeld2; (try simp only [Act.put, zn1, zn2, zn3])
        refine tV 9 ?_ ?zq ?_; (case zq => rintro _ -; go_simp; try with_reducible rfl); try simp only [Act.put, zn1, zn2, zn3]
        refine tV 10 ?_ ?zq ?_; (case zq => rintro _ -; go_simp; try with_reducible rfl); try simp only [Act.put, zn1, zn2, zn3]
        refine tV 11 ?_ ?zq ?_; (case zq => rintro _ -; go_simp; try with_reducible rfl); try simp only [Act.put, zn1, zn2, zn3]
        refine tV 12 ?_ ?zq ?_; (case zq => rintro _ -; go_simp; try with_reducible rfl); try simp only [Act.put, zn1, zn2, zn3]
        refine wpAnyH_done (by kernel_rfl) ?_ _
        have HB11 := Lib.hid (lift HB10.out hHeld)
        clear hHeld
        go_wp2_with fail
        go_roundw
        case rel => exact ⟨j + 1, by omega, by go_num, by rw [HTk.out], HB11.out⟩
        case measure => simp [intOf]; omega
      ·obtain rfl : j = M.length := by omega
       rw [List.take_length]
       generalize joinK up s t' M = tt at *
       have HB8 := Lib.hid (lift HB7.out HBv.out)
       go_wp2_with fail
       refine (state17_any Au Ah cu ch up half s w8 HN.out).mono ?_
       rintro e w9 ⟨rfl, hb⟩
       replace g0 := cellAt g0 hb (by omega)
       replace g1 := cellAt g1 hb (by omega)
       replace h0 := cellAt h0 hb (by omega)
       replace h1 := cellAt h1 hb (by omega)
       replace m0 := cellAt m0 hb (by omega)
       replace m1 := cellAt m1 hb (by omega)
       replace m2 := cellAt m2 hb (by omega)
       replace y0 := cellAt y0 hb (by omega)
       replace y1 := cellAt y1 hb (by omega)
       replace HG := Lib.hid (HG.out.at hb)
       replace HN := Lib.hid (HN.out.at hb)
       replace n1 : w.heap.size < w9.heap.size := ltAt n1 hb
       replace n2 : (w.heap.size + 1) < w9.heap.size := ltAt n2 hb
       replace HL := Lib.hid (HL.out.at hb)
       replace n3 : w2.heap.size < w9.heap.size := ltAt n3 hb
       replace HDr := Lib.hid (HDr.out.at hb)
       replace HO := Lib.hid (own_on HO.out hb)
       replace hB3 : b3 < w9.heap.size := ltAt hB3 hb
       replace m6 : w5.heap.size < w9.heap.size := ltAt m6 hb
       have HB9 := Lib.hid (lift HB8.out hb)
       have hz9 := HB9.out.size
       clear hb
       go_wp2_with fail
       refine (Pr.refSettle_any tt (nowS up half s) w9).mono ?_
       rintro e wx ⟨rfl, rfl⟩
       rw [st_setT, ← HTy.out]
       by_cases h0 : su = 0
       ·have hd : decide (0 < su) = false := by rw [hpos]; simp [h0]
        have HNz := Lib.hid (HNw.out.trans (by rw [if_pos h0, List.append_nil]))
        clear h0 hpos HNw HTy
        go_wp2_with fail
        go_roundw
        case rel => exact ⟨k + 1, A, c, by omega, by rw [HNz.out], by go_num, by rw [HNz.out]; exact HO.out, HB9.out⟩
        case measure => simp [intOf]; omega
       ·have hd : decide (0 < su) = true := by rw [hpos]; simp [h0]
        have HNz := Lib.hid (HNw.out.trans (by rw [if_neg h0]))
        have h63 := Lib.hid (show O.length + 1 ≤ maxLen by unfold maxLen; omega)
        have hby := Lib.hid (show (O.length + 1) * 40 ≤ 140737488355328 by omega)
        clear h0 hpos HNw HTy
        go_wp2_with (first | (at_builtin; refine wpList_pushm w9 w9 (by rfl) (.tmp 86) (.tmp 91) 50 (by rfl) W3.heap.size 60 i0 _ 4 40 Tryz.underlying50 hi hz0 hz1 hz2 rfl (by decide) _ _ _ (by rfl) HO.out (jbC (s, su, 1, 0)) w9.heap.size rfl (by rfl) rfl (one_jbC (s, su, 1, 0)) h63.out hby.out hz9 (Below.refl _ _) ?_; intro A10 c10 w10 hown hbel hg hat; have HO10 := Lib.hid hown; have HBa := Lib.hid hbel; clear hown hbel hg hat) | fail)
        go_roundw
        case rel => exact ⟨k + 1, A10, c10, by omega, by rw [HNz.out, List.length_append]; rfl, by go_num, by rw [HNz.out, List.length_append, jbsC_app, jbsC_one]; exact HO10.out, HB9.out.trans HBa.out⟩
        case measure => simp [intOf]; omega
  ·obtain rfl : k = L.length := by omega
   have HAll := Lib.hid (outJ_all (up := up) (half := half) HSs.out)
   go_wp2_with fail
   try go_wp2_with fail
   refine wp_region_held_drew (S := fun w' => Below w5.heap.size w5 w') (by kernel_rfl) (Below.drew (Below.refl _ _)) (fun hHeld => ?_)
   refine tV 0 ?_ ?zq ?_; (case zq => rintro _ -; go_simp; try with_reducible rfl); try simp only [Act.put, zn1, zn2, zn3]
   refine tV 1 ?_ ?zq ?_; (case zq => rintro _ -; go_simp; try with_reducible rfl); try simp only [Act.put, zn1, zn2, zn3]
   refine tV 2 ?_ ?zq ?_; (case zq => intro w' hSw; have hCell := fun (b o : Nat) (h : b < w5.heap.size) => hSw.cell (p := ⟨b, o, none⟩) h; clear hSw; go_simp; try with_reducible rfl); try simp only [Act.put, zn1, zn2, zn3]
   refine tV 3 ?_ ?zq ?_; (case zq => rintro _ -; go_simp; try with_reducible rfl); try simp only [Act.put, zn1, zn2, zn3]
   refine tV 4 ?_ ?zq ?_; (case zq => rintro _ -; go_simp; try with_reducible rfl); try simp only [Act.put, zn1, zn2, zn3]
   refine wpAnyH_done (by kernel_rfl) ?_ _
   have HAo := HAll.out
   have hB0 := lift HB3.out (HB.out.trans (hHeld.mono hz5))
   have ho9 := own_base (own_on HO.out hHeld) hz3
   go_wp2_with fail
   refine bodyPost_ret (v := .tuple #[.slice A (outJ up half L L.length).length c, .int .i64 er]) (by simp [results, Tryz.results28, go_sem]) rfl ⟨A, c, by rw [HAo], ?_, bq2⟩
   rw [HAo] at ho9
   exact ho9
end Od
end Go.Proofs.YtbllehjhmfehbaaGreat
end

section
/- The walk of matinsref17.SamePulls; two pulls compared. (bel2) -/
namespace Go.Proofs.YtbllehjhmfehbaaGreat
open Go.RowKit
set_option linter.unusedSimpArgs false

namespace Od
def plEq (a b : Pl) : Bool := a == b
set_option maxRecDepth 100000 in
theorem pl_eq (s s' b b' : Str) (t t' : Int) (n n' : Bool) (w : World) : (Op.equalIn 10000 37 (.agg #[sv s, .int .i64 t, .bool n, sv b]) (.agg #[sv s', .int .i64 t', .bool n', sv b'])).run Tryz.prog w = .ok (plEq (s, t, n, b) (s', t', n', b')) w := by
 show (Op.equalIn (9999 + 1) _ _ _).run _ w = _
 go_simp
 unfold plEq
 by_cases h1 : s = s' <;> by_cases h2 : t = t' <;> by_cases h3 : n = n' <;> by_cases h4 : b = b' <;> simp [h1, h2, h3, h4]
theorem pl_neq (s s' b b' : Str) (t t' : Int) (n n' : Bool) (w : World) : (binOp .neq 37 (.agg #[sv s, .int .i64 t, .bool n, sv b]) (.agg #[sv s', .int .i64 t', .bool n', sv b'])).run Tryz.prog w = .ok (.bool (!plEq (s, t, n, b) (s', t', n', b'))) w := by
 rw [run_neq_struct, pl_eq]; rfl
set_option maxRecDepth 100000 in
set_option maxHeartbeats 4000000 in
theorem SamePulls_any (A A' : Option Addr) (c c' : Nat) (xs ys : List Pl) (w : World) (hr : Rd w w.heap.size 4 A xs.length (plsC xs)) (hr' : Rd w w.heap.size 4 A' ys.length (plsC ys)) (hb : xs.length ≤ 1000000) :
  Calls Tryz.prog 17 #[.slice A xs.length c, .slice A' ys.length c'] w fun e w' => e = .returned (.bool (decide (xs = ys))) ∧ Below w.heap.size w w' := by
 have Hr := Lib.hid hr
 have Hr' := Lib.hid hr'
 have hq := pl_neq
 clear hr hr'
 by_cases hl : xs.length = ys.length
 ·have Hl := Lib.hid hl
  have hl1 : ((xs.length : Int) != (ys.length : Int)) = false := by simp [hl]
  clear hl
  go_enter Tryz.func17, Tryz.ntmps17
  go_wp2_with fail
  go_loopw [13] (fun i wr => ∃ k : Nat, k ≤ xs.length ∧ i = .int .i64 k ∧ Hid (∀ j (h1 : j < xs.length) (h2 : j < ys.length), j < k → xs[j] = ys[j]) ∧ Below w.heap.size w wr) (fun i _ => xs.length - (intOf i).toNat)
  case atStart => exact ⟨0, Nat.zero_le _, rfl, fun _ _ _ h => absurd h (by omega), Below.refl _ _⟩
  case round =>
   obtain ⟨k, hk, rfl, hall, hb⟩ := hrel
   have HB := Lib.hid hb
   replace Hr := Lib.hid (Hr.out.at hb)
   replace Hr' := Lib.hid (Hr'.out.at hb)
   clear hb
   by_cases hlt : k < xs.length
   ·have hlt' : k < ys.length := by have := Hl.out; omega
    obtain ⟨b, o, rfl, hB, x0, x1, x2, x3⟩ := Hr.out.pl hlt
    obtain ⟨b', o', rfl, hB', y0, y1, y2, y3⟩ := Hr'.out.pl hlt'
    generalize hx : xs[k] = x at x0 x1 x2 x3
    generalize hy : ys[k] = y at y0 y1 y2 y3
    obtain ⟨s, t, n, d⟩ := x
    obtain ⟨s', t', n', d'⟩ := y
    have Hx := Lib.hid hx
    have Hy := Lib.hid hy
    simp only at x0 x1 x2 x3 y0 y1 y2 y3
    clear hx hy
    have hk0 : (0 : Int) ≤ (k : Int) := by omega
    have hk1 : (k : Int) < (xs.length : Int) := by omega
    have hk2 : (k : Int) < (ys.length : Int) := by omega
    cases hne : plEq (s, t, n, d) (s', t', n', d')
    ·have Hne := Lib.hid (show (s, t, n, d) ≠ (s', t', n', d') by simpa [plEq] using hne)
     go_wp2_with fail
     try go_wp2_with fail
     refine wp_region_held_drew (S := fun w' => Below wr.heap.size wr w') (by kernel_rfl) (Below.drew (Below.refl _ _)) (fun hHeld => ?_)
     refine tV 0 ?_ ?zq ?_; (case zq => rintro _ -; go_simp; try with_reducible rfl); try simp only [Act.put, zn1, zn2, zn3]
     refine tV 1 ?_ ?zq ?_; (case zq => rintro _ -; go_simp; try with_reducible rfl); try simp only [Act.put, zn1, zn2, zn3]
     refine tV 2 ?_ ?zq ?_; (case zq => rintro _ -; go_simp; try with_reducible rfl); try simp only [Act.put, zn1, zn2, zn3]
     refine tV 3 ?_ ?zq ?_; (case zq => intro w' hSw; have hCell := fun (b o : Nat) (h : b < wr.heap.size) => hSw.cell (p := ⟨b, o, none⟩) h; clear hSw; go_simp; try with_reducible rfl); try simp only [Act.put, zn1, zn2, zn3]
     refine tV 4 ?_ ?zq ?_; (case zq => rintro _ -; go_simp; try with_reducible rfl); try simp only [Act.put, zn1, zn2, zn3]
     refine tV 5 ?_ ?zq ?_; (case zq => rintro _ -; go_simp; try with_reducible rfl); try simp only [Act.put, zn1, zn2, zn3]
     refine tV 6 ?_ ?zq ?_; (case zq => rintro _ -; go_simp; try with_reducible rfl); try simp only [Act.put, zn1, zn2, zn3]
     refine tV 7 ?_ ?zq ?_; (case zq => intro w' hSw; have hCell := fun (b o : Nat) (h : b < wr.heap.size) => hSw.cell (p := ⟨b, o, none⟩) h; clear hSw; go_simp; try with_reducible rfl); try simp only [Act.put, zn1, zn2, zn3]
     refine tV 8 ?_ ?zq ?_; (case zq => rintro _ -; go_simp; try with_reducible rfl); try simp only [Act.put, zn1, zn2, zn3]
     refine wpAnyH_done (by kernel_rfl) ?_ _
     go_wp2_with fail
     go_ret
     exact ⟨ret_bool (by
      have hd : xs[k] ≠ ys[k] := by rw [Hx.out, Hy.out]; exact Hne.out
      simp [at_ne hlt hlt' hd]), lift HB.out hHeld⟩
    ·have Hne := Lib.hid (show (s, t, n, d) = (s', t', n', d') by simpa [plEq] using hne)
     go_wp2_with fail
     try go_wp2_with fail
     refine wp_region_held_drew (S := fun w' => Below wr.heap.size wr w') (by kernel_rfl) (Below.drew (Below.refl _ _)) (fun hHeld => ?_)
     refine tV 0 ?_ ?zq ?_; (case zq => rintro _ -; go_simp; try with_reducible rfl); try simp only [Act.put, zn1, zn2, zn3]
     refine tV 1 ?_ ?zq ?_; (case zq => rintro _ -; go_simp; try with_reducible rfl); try simp only [Act.put, zn1, zn2, zn3]
     refine tV 2 ?_ ?zq ?_; (case zq => rintro _ -; go_simp; try with_reducible rfl); try simp only [Act.put, zn1, zn2, zn3]
     refine tV 3 ?_ ?zq ?_; (case zq => intro w' hSw; have hCell := fun (b o : Nat) (h : b < wr.heap.size) => hSw.cell (p := ⟨b, o, none⟩) h; clear hSw; go_simp; try with_reducible rfl); try simp only [Act.put, zn1, zn2, zn3]
     refine tV 4 ?_ ?zq ?_; (case zq => rintro _ -; go_simp; try with_reducible rfl); try simp only [Act.put, zn1, zn2, zn3]
     refine tV 5 ?_ ?zq ?_; (case zq => rintro _ -; go_simp; try with_reducible rfl); try simp only [Act.put, zn1, zn2, zn3]
     refine tV 6 ?_ ?zq ?_; (case zq => rintro _ -; go_simp; try with_reducible rfl); try simp only [Act.put, zn1, zn2, zn3]
     refine tV 7 ?_ ?zq ?_; (case zq => intro w' hSw; have hCell := fun (b o : Nat) (h : b < wr.heap.size) => hSw.cell (p := ⟨b, o, none⟩) h; clear hSw; go_simp; try with_reducible rfl); try simp only [Act.put, zn1, zn2, zn3]
     refine tV 8 ?_ ?zq ?_; (case zq => rintro _ -; go_simp; try with_reducible rfl); try simp only [Act.put, zn1, zn2, zn3]
     refine wpAnyH_done (by kernel_rfl) ?_ _
     go_wp2_with fail
     go_roundw
     case rel => exact ⟨k + 1, by omega, by go_num, fun j h1 h2 h3 => by
      by_cases h : j < k
      ·exact hall.out j h1 h2 h
      ·obtain rfl : j = k := by omega
       rw [Hx.out, Hy.out]; exact Hne.out, lift HB.out hHeld⟩
     case measure => simp [intOf]; omega
   ·go_wp2_with fail
    go_ret
    exact ⟨ret_bool (by
     have : xs = ys := eq_of_at Hl.out fun j h1 h2 => hall.out j h1 h2 (by omega)
     simp [this]), HB.out⟩
 ·have hl1 : ((xs.length : Int) != (ys.length : Int)) = true := by rw [bne_iff_ne]; omega
  have Hl := Lib.hid hl
  clear hl
  go_enter Tryz.func17, Tryz.ntmps17
  go_wp2
  go_ret
  exact ⟨ret_bool (by
   have : ¬ xs = ys := fun e => Hl.out (by rw [e])
   simp [this]), Below.refl _ _⟩
end Od
end Go.Proofs.YtbllehjhmfehbaaGreat
end

section
/- The walk of the law TransAll, over what Make of the reference does. (bel2) -/
namespace Go.Proofs.YtbllehjhmfehbaaGreat
open Go.RowKit Go.Sort Go.Maps
set_option linter.unusedSimpArgs false
namespace Od

theorem gone_len (ns : List Nd) (es : List Ed) (up half : List Str) (first : Jp) : (madeT ns es up half first).gone.length ≤ 6 * es.length := by
 by_cases h : (madeT ns es up half first).err = 0
 ·exact (made_left h).ok.len
 ·rw [(made_none h).2]; exact Nat.zero_le _
set_option maxRecDepth 100000 in
set_option maxHeartbeats 16000000 in
theorem transAll_of (An Ae Au Ah : Option Addr) (cn ce cu ch : Nat) (ns : List Nd) (es : List Ed) (up half : List Str) (u : Str) (t : Int) (w : World) (hg : GIw w An Ae ns es) (hn : NIn w Au Ah up half) (hof : okJ (u, t))
  (HMk : Hid (ns.length ≤ 64 → es.length ≤ 200 → ∀ W, GIw W An Ae ns es → NIn W Au Ah up half → Calls Tryz.prog 29 #[gV An ns.length cn Ae es.length ce, nowV Au up.length cu Ah half.length ch, sv u, .int .i64 t] W (MadeR (madeT ns es up half (u, t)) W))) :
  Calls Tryz.prog 9 #[gV An ns.length cn Ae es.length ce, nowV Au up.length cu Ah half.length ch, sv u, .int .i64 t] w fun e w' => e = .returned (.bool true) ∧ Below w.heap.size w w' := by
 have HG := Lib.hid hg
 have HN := Lib.hid hn
 clear hg hn
 go_enter Tryz.func9, Tryz.ntmps9
 go_wp2_with fail
 first | (refine wp_named ?_; intro W1 hW) | (refine calls_named ?_; intro W1 hW) | (refine exit_named ?_; intro W1 hW)
 have B1 : Below w.heap.size w W1 := by rw [hW]; exact bq2
 replace HG := Lib.hid (HG.out.at B1)
 replace HN := Lib.hid (HN.out.at B1)
 have n1 : w.heap.size < W1.heap.size := by rw [hW]; simp <;> omega
 have n2 : (w.heap.size + 1) < W1.heap.size := by rw [hW]; simp <;> omega
 have c0 : W1.cell? ⟨w.heap.size, 0, none⟩ = some (.slice An ns.length cn) := by rw [hW]; go_simp
 have c1 : W1.cell? ⟨w.heap.size, 1, none⟩ = some (.slice Ae es.length ce) := by rw [hW]; go_simp
 have c2 : W1.cell? ⟨(w.heap.size + 1), 0, none⟩ = some (.slice Au up.length cu) := by rw [hW]; go_simp
 have c3 : W1.cell? ⟨(w.heap.size + 1), 1, none⟩ = some (.slice Ah half.length ch) := by rw [hW]; go_simp
 clear hW
 have HB := Lib.hid B1
 clear B1
 refine (shown19_any W1).mono ?_
 rintro e w2 ⟨rfl, hb⟩
 replace c0 := cellAt c0 hb (by omega)
 replace c1 := cellAt c1 hb (by omega)
 replace c2 := cellAt c2 hb (by omega)
 replace c3 := cellAt c3 hb (by omega)
 replace HG := Lib.hid (HG.out.at hb)
 replace HN := Lib.hid (HN.out.at hb)
 replace n1 : w.heap.size < w2.heap.size := ltAt n1 hb
 replace n2 : (w.heap.size + 1) < w2.heap.size := ltAt n2 hb
 replace HB := Lib.hid (lift HB.out hb)
 clear hb
 go_wp2_with fail
 refine (small19_any An Ae cn ce ns es w2).mono ?_
 rintro e w3 ⟨rfl, hb⟩
 replace c0 := cellAt c0 hb (by omega)
 replace c1 := cellAt c1 hb (by omega)
 replace c2 := cellAt c2 hb (by omega)
 replace c3 := cellAt c3 hb (by omega)
 replace HG := Lib.hid (HG.out.at hb)
 replace HN := Lib.hid (HN.out.at hb)
 replace n1 : w.heap.size < w3.heap.size := ltAt n1 hb
 replace n2 : (w.heap.size + 1) < w3.heap.size := ltAt n2 hb
 replace HB := Lib.hid (lift HB.out hb)
 clear hb
 cases hsm : small19 ns es
 ·skip
  go_wp2_with fail
  go_ret
  exact ⟨rfl, HB.out⟩
 ·skip
  obtain ⟨hel, hnl⟩ := small19_iff.1 hsm
  clear hsm
  go_wp2_with fail
  refine (Build_any An Ae Au Ah cn ce cu ch ns es up half u t w3 HG.out HN.out hnl hel hof).mono ?_
  rintro e w4 ⟨A4, c4, rfl, ho4, hb⟩
  have HJ := Lib.hid (own_rd' ho4)
  replace c0 := cellAt c0 hb (by omega)
  replace c1 := cellAt c1 hb (by omega)
  replace c2 := cellAt c2 hb (by omega)
  replace c3 := cellAt c3 hb (by omega)
  replace HG := Lib.hid (HG.out.at hb)
  replace HN := Lib.hid (HN.out.at hb)
  replace n1 : w.heap.size < w4.heap.size := ltAt n1 hb
  replace n2 : (w.heap.size + 1) < w4.heap.size := ltAt n2 hb
  replace HB := Lib.hid (lift HB.out hb)
  clear hb ho4
  replace HMk := Lib.hid (HMk.out hnl hel)
  have hjl := jobsT_len up half (madeT ns es up half (u, t)).l
  have hll := madeT_len ns es up half (u, t)
  have hgl := gone_len ns es up half (u, t)
  have HGone := Lib.hid (fun W hG hN => Gone_any An Ae Au Ah cn ce cu ch ns es up half u t W hG hN hnl hel hof)
  go_wp2_with fail
  refine (Build17_of An Ae Au Ah cn ce cu ch ns es up half u t w4 HG.out HN.out (by omega) HMk).mono ?_
  rintro e w5 ⟨A5, c5, rfl, ho5, hb⟩
  have HK := Lib.hid (own_rd' ho5)
  replace c0 := cellAt c0 hb (by omega)
  replace c1 := cellAt c1 hb (by omega)
  replace c2 := cellAt c2 hb (by omega)
  replace c3 := cellAt c3 hb (by omega)
  replace HG := Lib.hid (HG.out.at hb)
  replace HN := Lib.hid (HN.out.at hb)
  replace n1 : w.heap.size < w5.heap.size := ltAt n1 hb
  replace n2 : (w.heap.size + 1) < w5.heap.size := ltAt n2 hb
  replace HB := Lib.hid (lift HB.out hb)
  replace HJ := Lib.hid (HJ.out.at hb)
  clear hb ho5
  go_wp2_with fail
  refine (HMk.out w5 HG.out HN.out).mono ?_
  rintro e w6 ⟨AL, cL, AG, cG, rfl, hcL, hrl, hrg, hb⟩
  have HR := Lib.hid hrg
  replace c0 := cellAt c0 hb (by omega)
  replace c1 := cellAt c1 hb (by omega)
  replace c2 := cellAt c2 hb (by omega)
  replace c3 := cellAt c3 hb (by omega)
  replace HG := Lib.hid (HG.out.at hb)
  replace HN := Lib.hid (HN.out.at hb)
  replace n1 : w.heap.size < w6.heap.size := ltAt n1 hb
  replace n2 : (w.heap.size + 1) < w6.heap.size := ltAt n2 hb
  replace HB := Lib.hid (lift HB.out hb)
  replace HJ := Lib.hid (HJ.out.at hb)
  replace HK := Lib.hid (HK.out.at hb)
  clear hb hrl hrg hcL HMk
  generalize madeT ns es up half (u, t) = T at *
  generalize hJl : jobsT up half T.l = J at *
  clear hJl
  obtain ⟨er, L, gn⟩ := T
  simp only at hll hjl hgl HR HGone
  simp only
  go_upto_region 8 with fail
  first | (refine wp_named ?_; intro W7 hW) | (refine calls_named ?_; intro W7 hW) | (refine exit_named ?_; intro W7 hW)
  have B7 : Below w6.heap.size w6 W7 := by rw [hW]; exact bq2
  replace c0 := cellAt c0 B7 (by omega)
  replace c1 := cellAt c1 B7 (by omega)
  replace c2 := cellAt c2 B7 (by omega)
  replace c3 := cellAt c3 B7 (by omega)
  replace HG := Lib.hid (HG.out.at B7)
  replace HN := Lib.hid (HN.out.at B7)
  replace n1 : w.heap.size < W7.heap.size := ltAt n1 B7
  replace n2 : (w.heap.size + 1) < W7.heap.size := ltAt n2 B7
  replace HB := Lib.hid (lift HB.out B7)
  replace HJ := Lib.hid (HJ.out.at B7)
  replace HK := Lib.hid (HK.out.at B7)
  replace HR := Lib.hid (HR.out.at B7)
  have n7 : w6.heap.size < W7.heap.size := by rw [hW]; simp <;> omega
  have m1 : W7.cell? ⟨w6.heap.size, 1, none⟩ = some (.slice AG gn.length cG) := by rw [hW]; go_simp
  clear hW
  clear B7
  try go_wp2_with fail
  refine wp_region_held_drew (S := fun w' => Below W7.heap.size W7 w') (by kernel_rfl) (Below.drew (Below.refl _ _)) (fun hHeld => ?_)
  refine tV 0 ?_ ?zq ?_; (case zq => rintro _ -; go_simp; try with_reducible rfl); try simp only [Act.put, zn1, zn2, zn3]
  refine tV 1 ?_ ?zq ?_; (case zq => rintro _ -; go_simp; try with_reducible rfl); try simp only [Act.put, zn1, zn2, zn3]
  refine ready_one (i := 2) rfl (by kernel_rfl) (fun K hK => ?_)
  go_simp
  refine (SameJobs_any A4 A5 c4 c5 J J _ (HJ.out.at hHeld) (HK.out.at hHeld) (by omega)).mono ?_
  rw [decide_eq_true rfl]
  rintro e y1 ⟨rfl, hb⟩
  refine hK.out _ _ ?_ (fun hHeld2 => ?_)
  ·(try dsimp only); first | exact Below.trans hHeld (Below.mono hb hHeld.size) | exact hHeld | exact Below.drew hHeld | exact bq2
  clear hK K hHeld; have hHeld := hHeld2; clear hHeld2; (try simp only [Act.put, zn1, zn2, zn3])
  refine tV 3 ?_ ?zq ?_; (case zq => rintro _ -; go_simp; try with_reducible rfl); try simp only [Act.put, zn1, zn2, zn3]
  refine tV 4 ?_ ?zq ?_; (case zq => rintro _ -; go_simp; try with_reducible rfl); try simp only [Act.put, zn1, zn2, zn3]
  refine tV 5 ?_ ?zq ?_; (case zq => rintro _ -; go_simp; try with_reducible rfl); try simp only [Act.put, zn1, zn2, zn3]
  refine tV 6 ?_ ?zq ?_; (case zq => rintro _ -; go_simp; try with_reducible rfl); try simp only [Act.put, zn1, zn2, zn3]
  refine tV 7 ?_ ?zq ?_; (case zq => rintro _ -; go_simp; try with_reducible rfl); try simp only [Act.put, zn1, zn2, zn3]
  refine tV 8 ?_ ?zq ?_; (case zq => rintro _ -; go_simp; try with_reducible rfl); try simp only [Act.put, zn1, zn2, zn3]
  refine tV 9 ?_ ?zq ?_; (case zq => intro w' hSw; have hCell := fun (b o : Nat) (h : b < W7.heap.size) => hSw.cell (p := ⟨b, o, none⟩) h; clear hSw; go_simp; try with_reducible rfl); try simp only [Act.put, zn1, zn2, zn3]
  refine tV 10 ?_ ?zq ?_; (case zq => intro w' hSw; have hCell := fun (b o : Nat) (h : b < W7.heap.size) => hSw.cell (p := ⟨b, o, none⟩) h; clear hSw; go_simp; try with_reducible rfl); try simp only [Act.put, zn1, zn2, zn3]
  refine tV 11 ?_ ?zq ?_; (case zq => rintro _ -; go_simp; try with_reducible rfl); try simp only [Act.put, zn1, zn2, zn3]
  refine tV 12 ?_ ?zq ?_; (case zq => rintro _ -; go_simp; try with_reducible rfl); try simp only [Act.put, zn1, zn2, zn3]
  refine tV 14 ?_ ?zq ?_; (case zq => rintro _ -; go_simp; try with_reducible rfl); try simp only [Act.put, zn1, zn2, zn3]
  refine tV 15 ?_ ?zq ?_; (case zq => intro w' hSw; have hCell := fun (b o : Nat) (h : b < W7.heap.size) => hSw.cell (p := ⟨b, o, none⟩) h; clear hSw; go_simp; try with_reducible rfl); try simp only [Act.put, zn1, zn2, zn3]
  refine ready_one (i := 13) rfl (by kernel_rfl) (fun K hK => ?_)
  go_simp
  refine (HGone.out _ (HG.out.at hHeld) (HN.out.at hHeld)).mono ?_
  rintro e y2 ⟨A6, c6, rfl, ho6, hb⟩
  have HR6 := Lib.hid (own_rd' ho6)
  clear ho6
  refine hK.out _ _ ?_ (fun hHeld2 => ?_)
  ·(try dsimp only); first | exact Below.trans hHeld (Below.mono hb hHeld.size) | exact hHeld | exact Below.drew hHeld | exact bq2
  clear hK K hHeld; have hHeld := hHeld2; clear hHeld2; (try simp only [Act.put, zn1, zn2, zn3])
  refine ready_one (i := 16) rfl (by kernel_rfl) (fun K hK => ?_)
  go_simp
  refine (SamePulls_any A6 AG c6 cG gn gn _ HR6.out (HR.out.at hHeld) (by omega)).mono ?_
  rw [decide_eq_true rfl]
  rintro e y3 ⟨rfl, hb⟩
  refine hK.out _ _ ?_ (fun hHeld2 => ?_)
  ·(try dsimp only); first | exact Below.trans hHeld (Below.mono hb hHeld.size) | exact hHeld | exact Below.drew hHeld | exact bq2
  clear hK K hHeld; have hHeld := hHeld2; clear hHeld2; (try simp only [Act.put, zn1, zn2, zn3])
  refine tV 17 ?_ ?zq ?_; (case zq => rintro _ -; go_simp; try with_reducible rfl); try simp only [Act.put, zn1, zn2, zn3]
  refine tV 18 ?_ ?zq ?_; (case zq => rintro _ -; go_simp; try with_reducible rfl); try simp only [Act.put, zn1, zn2, zn3]
  refine wpAnyH_done (by kernel_rfl) ?_ _
  have HB9 := Lib.hid (lift HB.out hHeld)
  clear hHeld
  go_wp2_with fail
  go_ret
  exact ⟨rfl, HB9.out⟩
end Od
end Go.Proofs.YtbllehjhmfehbaaGreat
end

section
/- What a queue's functions answer, as lists, and what is true of it. No program. -/
namespace Go.Proofs.YtbllehjhmfehbaaGreat
set_option linter.unusedSimpArgs false
namespace Od
/-- Does a come directly ahead of b? -/
def Ah (es : List Ed) (a b : Str) : Bool := es.any (aheadB a b)
/-! What a queue may be -/
theorem cmpS_lt {a b : Str} : cmpS a b < 0 ↔ ltS a b = true := by
 unfold cmpS
 rw [lessS_lt]
 split
 ·simp_all
 ·split <;> simp_all
/-- Each unit once. -/
def DQ (q : List Jb) : Prop := (q.map (·.1)).Nodup
theorem DQ.eq : ∀ {q : List Jb}, DQ q → ∀ {x y : Jb}, x ∈ q → y ∈ q → x.1 = y.1 → x = y
 | [], _, x, y, hx, _, _ => by cases hx
 | j :: r, h, x, y, hx, hy, he => by
  have h' : (j.1 :: r.map (·.1)).Nodup := h
  obtain ⟨h1, h2⟩ := List.nodup_cons.1 h'
  rcases List.mem_cons.1 hx with ex | hx'
  ·rcases List.mem_cons.1 hy with ey | hy'
   ·rw [ex, ey]
   ·exact absurd (List.mem_map.2 ⟨y, hy', by rw [← he, ex]⟩) h1
  ·rcases List.mem_cons.1 hy with ey | hy'
   ·exact absurd (List.mem_map.2 ⟨x, hx', by rw [he, ey]⟩) h1
   ·exact DQ.eq h2 hx' hy' he
/-! Where a unit's job is -/
/-! Who goes ahead -/
/-! What a begin comes to -/
/-! What an end comes to -/
/-! What stays sound -/
end Od
end Go.Proofs.YtbllehjhmfehbaaGreat
end
