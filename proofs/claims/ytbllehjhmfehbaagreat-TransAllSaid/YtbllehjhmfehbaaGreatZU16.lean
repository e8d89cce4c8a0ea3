/- My texts, joined for the claim: R19Make LtAll2 Frame Frame3 Frame5 FrameP. -/
import Derived.Test.YtbllehjhmfehbaaGreatZU13
import Derived.Test.YtbllehjhmfehbaaGreatZU15
import Derived.Test.YtbllehjhmfehbaaGreatZU1
import Derived.Test.YtbllehjhmfehbaaGreatZU14
import Derived.Test.YtbllehjhmfehbaaGreatRows
import Derived.ProofKit
import Derived.OpenShut
import Derived.Deep.Slices
import Derived.Deep.Fields
import Derived.Lib.SmallJoins
import Derived.SizedLaws
import Derived.Test.YtbllehjhmfehbaaGreatZU6

section
/- Make of the reference of layer 19: the jobs that are left when none goes any more. (bel2) -/
namespace Go.Proofs.YtbllehjhmfehbaaGreat
open Go.RowKit Go.Sort
set_option linter.unusedSimpArgs false
namespace Od
set_option maxRecDepth 100000 in
set_option maxHeartbeats 32000000 in
theorem Make17_any (An Ae Au Ah : Option Addr) (cn ce cu ch : Nat) (ns : List Nd) (es : List Ed) (up half : List Str) (u : Str) (t : Int) (w : World) (hg : GIw w An Ae ns es) (hn : NIn w Au Ah up half) (hnl : ns.length ≤ 1000000) (hel : es.length ≤ 10000) (hof : okJ (u, t)) :
  Calls Tryz.prog 29 #[gV An ns.length cn Ae es.length ce, nowV Au up.length cu Ah half.length ch, sv u, .int .i64 t] w (MadeR (madeT ns es up half (u, t)) w) := by
 obtain ⟨i0, hi, hz0, hz1, hz2⟩ := info_parts infoPl
 have HG := Lib.hid hg
 have HN := Lib.hid hn
 have HOf := Lib.hid hof
 have HMd := Lib.hid (show madeT ns es up half (u, t) = if wrongT ns es up (u, t) = 0 then goT ns es up half (u, t) (fuelT es) [] else ⟨wrongT ns es up (u, t), [], []⟩ from rfl)
 have hwr : wrongT ns es up (u, t) = if mayG ns es = false then 1 else if ¬ (1 ≤ t ∧ t ≤ 4) then 3 else if (nodeOf ns u).isSome = false then 6 else if (t == 4 && !hasB up u) = true then 20 else 0 := rfl
 clear hg hn hof
 generalize madeT ns es up half (u, t) = T at *
 go_enter Tryz.func29, Tryz.ntmps29
 go_wp2_with fail
 first | (refine wp_named ?_; intro W1 hW) | (refine calls_named ?_; intro W1 hW) | (refine exit_named ?_; intro W1 hW)
 have B1 : Below w.heap.size w W1 := by rw [hW]; exact bq2
 replace HG := Lib.hid (HG.out.at B1)
 replace HN := Lib.hid (HN.out.at B1)
 have n1 : w.heap.size < W1.heap.size := by rw [hW]; simp <;> omega
 have n2 : (w.heap.size + 1) < W1.heap.size := by rw [hW]; simp <;> omega
 have n3 : (w.heap.size + 1 + 1) < W1.heap.size := by rw [hW]; simp <;> omega
 have g0 : W1.cell? ⟨w.heap.size, 0, none⟩ = some (.slice An ns.length cn) := by rw [hW]; go_simp
 have g1 : W1.cell? ⟨w.heap.size, 1, none⟩ = some (.slice Ae es.length ce) := by rw [hW]; go_simp
 have h0 : W1.cell? ⟨(w.heap.size + 1), 0, none⟩ = some (.slice Au up.length cu) := by rw [hW]; go_simp
 have h1 : W1.cell? ⟨(w.heap.size + 1), 1, none⟩ = some (.slice Ah half.length ch) := by rw [hW]; go_simp
 have r0 : W1.cell? ⟨(w.heap.size + 1 + 1), 0, none⟩ = some (.slice none 0 0) := by rw [hW]; go_simp
 have r1 : W1.cell? ⟨(w.heap.size + 1 + 1), 1, none⟩ = some (.slice none 0 0) := by rw [hW]; go_simp
 have r2 : W1.cell? ⟨(w.heap.size + 1 + 1), 2, none⟩ = some (.int .i64 0) := by rw [hW]; go_simp
 have z0 : W1.frozen? ⟨(w.heap.size + 1 + 1), 0, none⟩ = false := by rw [hW]; go_simp
 have z1 : W1.frozen? ⟨(w.heap.size + 1 + 1), 1, none⟩ = false := by rw [hW]; go_simp
 have z2 : W1.frozen? ⟨(w.heap.size + 1 + 1), 2, none⟩ = false := by rw [hW]; go_simp
 clear hW
 have HB1 := Lib.hid B1
 clear B1
 refine (Node15_any An Ae es.length cn ce ns u W1 HG.out.rn hnl).mono ?_
 rintro e w2 ⟨rfl, hb⟩
 have HB2 := Lib.hid (lift HB1.out hb)
 replace g0 := cellAt g0 hb (by omega)
 replace g1 := cellAt g1 hb (by omega)
 replace h0 := cellAt h0 hb (by omega)
 replace h1 := cellAt h1 hb (by omega)
 replace r0 := cellAt r0 hb (by omega)
 replace r1 := cellAt r1 hb (by omega)
 replace r2 := cellAt r2 hb (by omega)
 replace z0 := froAt z0 hb (by omega)
 replace z1 := froAt z1 hb (by omega)
 replace z2 := froAt z2 hb (by omega)
 replace HG := Lib.hid (HG.out.at hb)
 replace HN := Lib.hid (HN.out.at hb)
 replace n1 : w.heap.size < w2.heap.size := ltAt n1 hb
 replace n2 : (w.heap.size + 1) < w2.heap.size := ltAt n2 hb
 replace n3 : (w.heap.size + 1 + 1) < w2.heap.size := ltAt n3 hb
 clear hb
 unfold nodeV
 generalize (nodeOf ns u).isSome = is at *
 generalize (nodeOf ns u).getD ([], 0, 0) = nd at *
 obtain ⟨s1, k1, q1⟩ := nd
 go_wp2_with fail
 first | (refine wp_named ?_; intro W3 hW) | (refine calls_named ?_; intro W3 hW) | (refine exit_named ?_; intro W3 hW)
 have B3 : Below w2.heap.size w2 W3 := by rw [hW]; exact bq2
 replace g0 := cellAt g0 B3 (by omega)
 replace g1 := cellAt g1 B3 (by omega)
 replace h0 := cellAt h0 B3 (by omega)
 replace h1 := cellAt h1 B3 (by omega)
 replace r0 := cellAt r0 B3 (by omega)
 replace r1 := cellAt r1 B3 (by omega)
 replace r2 := cellAt r2 B3 (by omega)
 replace z0 := froAt z0 B3 (by omega)
 replace z1 := froAt z1 B3 (by omega)
 replace z2 := froAt z2 B3 (by omega)
 replace HG := Lib.hid (HG.out.at B3)
 replace HN := Lib.hid (HN.out.at B3)
 replace n1 : w.heap.size < W3.heap.size := ltAt n1 B3
 replace n2 : (w.heap.size + 1) < W3.heap.size := ltAt n2 B3
 replace n3 : (w.heap.size + 1 + 1) < W3.heap.size := ltAt n3 B3
 clear hW
 have HB3 := Lib.hid (lift HB2.out B3)
 clear B3
 refine (May15_any An Ae cn ce ns es W3 HG.out.rn HG.out.re (by omega) HG.out.okn).mono ?_
 rintro e w4 ⟨rfl, hb⟩
 have HB4 := Lib.hid (lift HB3.out hb)
 replace g0 := cellAt g0 hb (by omega)
 replace g1 := cellAt g1 hb (by omega)
 replace h0 := cellAt h0 hb (by omega)
 replace h1 := cellAt h1 hb (by omega)
 replace r0 := cellAt r0 hb (by omega)
 replace r1 := cellAt r1 hb (by omega)
 replace r2 := cellAt r2 hb (by omega)
 replace z0 := froAt z0 hb (by omega)
 replace z1 := froAt z1 hb (by omega)
 replace z2 := froAt z2 hb (by omega)
 replace HG := Lib.hid (HG.out.at hb)
 replace HN := Lib.hid (HN.out.at hb)
 replace n1 : w.heap.size < w4.heap.size := ltAt n1 hb
 replace n2 : (w.heap.size + 1) < w4.heap.size := ltAt n2 hb
 replace n3 : (w.heap.size + 1 + 1) < w4.heap.size := ltAt n3 hb
 clear hb
 have HE4 := Lib.hid (show MkE w4 w.heap.size An Ae Au Ah cn ce cu ch ns es up half from ⟨g0, g1, h0, h1, r0, r1, r2, z0, z1, z2, HG.out, HN.out⟩)
 cases hm : mayG ns es
 ·skip
  have hw : wrongT ns es up (u, t) = 1 := by rw [hwr]; rw [hm]; exact if_pos rfl
  have hT : T = ⟨1, [], []⟩ := by rw [HMd.out, hw, if_neg (by decide)]
  subst hT
  clear HMd hw hwr
  go_wp2_with fail
  have hB0 := HB4.out
  refine bodyPost_ret (v := .agg #[.slice none 0 0, .slice none 0 0, .int .i64 1]) (by simp only [results, Tryz.results29]; go_simp) rfl (made_ret bq2)
 ·rw [hm, if_neg (by simp)] at hwr
  clear hm
  by_cases hk : 1 ≤ t ∧ t ≤ 4
  ·rw [if_neg (fun h => h hk)] at hwr
   have d1 : decide (t < 1) = false := by rw [decide_eq_false_iff_not]; omega
   have d2 : decide (4 < t) = false := by rw [decide_eq_false_iff_not]; omega
   clear hk
   cases is
   ·skip
    have hw : wrongT ns es up (u, t) = 6 := by rw [hwr]; exact if_pos rfl
    have hT : T = ⟨6, [], []⟩ := by rw [HMd.out, hw, if_neg (by decide)]
    subst hT
    clear HMd hw hwr
    go_wp2_with fail
    have hB0 := HB4.out
    refine bodyPost_ret (v := .agg #[.slice none 0 0, .slice none 0 0, .int .i64 6]) (by simp only [results, Tryz.results29]; go_simp) rfl (made_ret bq2)
   ·rw [if_neg (by simp)] at hwr
    cases h4 : (t == 4)
    ·skip
     have hw : wrongT ns es up (u, t) = 0 := by rw [hwr]; rw [h4]; rfl
     have HM := Lib.hid (show goT ns es up half (u, t) (fuelT es) [] = T by rw [HMd.out, if_pos hw])
     clear hw hwr HMd
     go_wp2_with fail
     first | (refine wp_named ?_; intro W5 hW) | (refine calls_named ?_; intro W5 hW) | (refine exit_named ?_; intro W5 hW)
     have B5 : Below w4.heap.size w4 W5 := by rw [hW]; exact bq2
     replace g0 := cellAt g0 B5 (by omega)
     replace g1 := cellAt g1 B5 (by omega)
     replace h0 := cellAt h0 B5 (by omega)
     replace h1 := cellAt h1 B5 (by omega)
     replace r0 := cellAt r0 B5 (by omega)
     replace r1 := cellAt r1 B5 (by omega)
     replace r2 := cellAt r2 B5 (by omega)
     replace z0 := froAt z0 B5 (by omega)
     replace z1 := froAt z1 B5 (by omega)
     replace z2 := froAt z2 B5 (by omega)
     replace HG := Lib.hid (HG.out.at B5)
     replace HN := Lib.hid (HN.out.at B5)
     replace n1 : w.heap.size < W5.heap.size := ltAt n1 B5
     replace n2 : (w.heap.size + 1) < W5.heap.size := ltAt n2 B5
     replace n3 : (w.heap.size + 1 + 1) < W5.heap.size := ltAt n3 B5
     have n5 : w4.heap.size < W5.heap.size := by rw [hW]; simp <;> omega
     have m0 : W5.cell? ⟨w4.heap.size, 0, none⟩ = some (.slice none 0 0) := by rw [hW]; go_simp
     have m1 : W5.cell? ⟨w4.heap.size, 1, none⟩ = some (.slice none 0 0) := by rw [hW]; go_simp
     have m2 : W5.cell? ⟨w4.heap.size, 2, none⟩ = some (.int .i64 0) := by rw [hW]; go_simp
     have mf0 : W5.frozen? ⟨w4.heap.size, 0, none⟩ = false := by rw [hW]; go_simp
     have mf1 : W5.frozen? ⟨w4.heap.size, 1, none⟩ = false := by rw [hW]; go_simp
     have mf2 : W5.frozen? ⟨w4.heap.size, 2, none⟩ = false := by rw [hW]; go_simp
     clear hW
     have HC5 := Lib.hid (show MkC W5 w4.heap.size (.slice none 0 0) (.slice none 0 0) from ⟨m0, m1, m2, mf0, mf1, mf2⟩)
     have HB5 := Lib.hid B5
     clear B5 m0 m1 m2 mf0 mf1 mf2
     clear g0 g1 h0 h1 r0 r1 r2 z0 z1 z2 n1 n2 n3
     go_loopg [] (fuelT es) (fun g wr => ∃ (gone : List Pl) (A : Option Addr) (c : Nat) (vL : Value), fuelT es ≤ g + gone.length ∧ Hid (GoneOk es (u, t) gone) ∧ Hid (goT ns es up half (u, t) g gone = T) ∧ Hid (MkC wr w4.heap.size vL (.slice A gone.length c)) ∧ Hid (wr.ownsRow (w4.heap.size + 1) 37 4 (.slice A gone.length c) gone.length (plsC gone)) ∧ Hid (Below w4.heap.size w4 wr))
     case atStart => exact ⟨[], none, 0, .slice none 0 0, by simp, GoneOk.nil _ _, HM, HC5, World.ownsRow_nil _ _ _ _, HB5⟩
     case round =>
      obtain ⟨gone, A, c, vL, hfu, HOk, HT, HC, HRw, HB⟩ := hrel
      obtain ⟨w6, rfl⟩ : ∃ wo : World, wo = wr := ⟨_, rfl⟩
      have hgl := HOk.out.len
      have hgk : ∃ g', gk = g' + 1 := ⟨gk - 1, by unfold fuelT at hfu; omega⟩
      obtain ⟨g', hgk⟩ := hgk
      subst hgk
      have HFu := Lib.hid hfu
      clear hfu HM HC5 HB5 n5
      have he6 := HE4.out.at HB.out
      have hmb := HC.out.lt
      have g0 := he6.g0
      have g1 := he6.g1
      have h0 := he6.h0
      have h1 := he6.h1
      have r0 := he6.r0
      have r1 := he6.r1
      have r2 := he6.r2
      have z0 := he6.z0
      have z1 := he6.z1
      have z2 := he6.z2
      have n3 := he6.lt
      have n1 : w.heap.size < _ := Nat.lt_trans (Nat.lt_trans (Nat.lt_succ_self _) (Nat.lt_succ_self _)) n3
      have n2 : w.heap.size + 1 < _ := Nat.lt_trans (Nat.lt_succ_self _) n3
      have m0 := HC.out.l
      have m1 := HC.out.g
      have m2 := HC.out.e
      have mf0 := HC.out.f0
      have mf1 := HC.out.f1
      have mf2 := HC.out.f2
      have hmx := HC.out.lt
      go_wp2_with fail
      refine (All17_any An Ae Au Ah A cn ce cu ch c ns es up half gone u t w6 he6.gi.rn hnl he6.gi.re hel he6.ni.u he6.ni.h (own_rd' HRw.out) (by omega) he6.gi.oke HOf.out).mono ?_
      rintro e w7 ⟨A5, c5, rfl, ho5, hb⟩
      have hLl := pullQ_len ns es up half (u, t) gone
      have HNo := Lib.hid (fun h => goT_none (ns := ns) (es := es) (up := up) (half := half) (first := (u, t)) (gone := gone) (n := g') h)
      have HNe := Lib.hid (fun (p : Pl) (e : Int) h hn => goT_need (ns := ns) (es := es) (up := up) (half := half) (first := (u, t)) (gone := gone) (n := g') (p := p) (e := e) h hn)
      have HNx := Lib.hid (fun (p : Pl) (e : Int) h hn => goT_next (ns := ns) (es := es) (up := up) (half := half) (first := (u, t)) (gone := gone) (n := g') (p := p) (e := e) h hn)
      have HPu := Lib.hid (fun (p : Pl) hp hn => HOk.out.push (ns := ns) (up := up) (half := half) (p := p) hp hn)
      have HSs := Lib.hid (pullQ_ss ns es up half (u, t) gone)
      generalize pullQ ns es up half (u, t) gone = L at *
      clear g0 g1 h0 h1 r0 r1 r2 z0 z1 z2 n1 n2 n3
      clear m0 m1 m2 mf0 mf1 mf2 he6
      have hc7 := HC.out.on hb
      have hr7 := own_on HRw.out hb
      have hb7 := lift HB.out hb
      have ho7 := own_base ho5 (show w4.heap.size + 1 ≤ w6.heap.size from hmb)
      have he7 := HE4.out.at hb7
      have hm7 := hc7.lt
      have hq0 : ¬ w.heap.size = w4.heap.size := by have := HE4.out.lt; omega
      have hq1 : ¬ w.heap.size + 1 = w4.heap.size := by have := HE4.out.lt; omega
      have hq2 : ¬ w.heap.size + 1 + 1 = w4.heap.size := by have := HE4.out.lt; omega
      have g0 := he7.g0
      have g1 := he7.g1
      have h0 := he7.h0
      have h1 := he7.h1
      have r0 := he7.r0
      have r1 := he7.r1
      have r2 := he7.r2
      have z0 := he7.z0
      have z1 := he7.z1
      have z2 := he7.z2
      have n3 := he7.lt
      have n1 : w.heap.size < _ := Nat.lt_trans (Nat.lt_trans (Nat.lt_succ_self _) (Nat.lt_succ_self _)) n3
      have n2 : w.heap.size + 1 < _ := Nat.lt_trans (Nat.lt_succ_self _) n3
      have m0 := hc7.l
      have m1 := hc7.g
      have m2 := hc7.e
      have mf0 := hc7.f0
      have mf1 := hc7.f1
      have mf2 := hc7.f2
      have hmx := hc7.lt
      go_wp2_with fail
      obtain ⟨w8, hw8⟩ : ∃ x, x = w7.setCell ⟨w4.heap.size, 0, none⟩ (.slice A5 L.length c5) := ⟨_, rfl⟩
      rw [← hw8]
      have HC8 := Lib.hid (show MkC w8 w4.heap.size (.slice A5 L.length c5) (.slice A gone.length c) by rw [hw8]; exact hc7.setL _)
      have HR8 := Lib.hid (show w8.ownsRow (w4.heap.size + 1) 37 4 (.slice A gone.length c) gone.length (plsC gone) by rw [hw8]; exact ownsRow_setCell_below hr7 (Nat.lt_succ_self _) _)
      have HO8 := Lib.hid (show w8.ownsRow (w4.heap.size + 1) 37 4 (.slice A5 L.length c5) L.length (plsC L) by rw [hw8]; exact ownsRow_setCell_below ho7 (Nat.lt_succ_self _) _)
      have HB8 := Lib.hid (show Below w4.heap.size w4 w8 by rw [hw8]; exact hb7.setCell (Nat.le_refl _) _)
      clear g0 g1 h0 h1 r0 r1 r2 z0 z1 z2 n1 n2 n3
      clear m0 m1 m2 mf0 mf1 mf2 he7 hc7 hr7 hb7 ho7 ho5 hb hw8 HC HRw HB
      have he8 := HE4.out.at HB8.out
      refine (sick17_any An Ae A5 es.length cn ce c5 ns L w8 he8.gi.rn hnl (own_rd' HO8.out) (by omega)).mono ?_
      rintro e w9 ⟨rfl, hb⟩
      have HC9 := Lib.hid (HC8.out.on hb)
      have HR9 := Lib.hid (own_on HR8.out hb)
      have HO9 := Lib.hid (own_on HO8.out hb)
      have HB9 := Lib.hid (lift HB8.out hb)
      have he9 := HE4.out.at HB9.out
      have hm9 := HC9.out.lt
      have hq3 : ¬ w.heap.size + 1 + 1 = w9.heap.size := by have := HE4.out.lt; omega
      have hq4 : ¬ w.heap.size + 1 = w9.heap.size := by have := HE4.out.lt; omega
      have hq5 : ¬ w.heap.size = w9.heap.size := by have := HE4.out.lt; omega
      have hq6 : ¬ w4.heap.size = w9.heap.size := by omega
      clear hb he8 HC8 HR8 HO8 HB8
      have g0 := he9.g0
      have g1 := he9.g1
      have h0 := he9.h0
      have h1 := he9.h1
      have r0 := he9.r0
      have r1 := he9.r1
      have r2 := he9.r2
      have z0 := he9.z0
      have z1 := he9.z1
      have z2 := he9.z2
      have n3 := he9.lt
      have n1 : w.heap.size < _ := Nat.lt_trans (Nat.lt_trans (Nat.lt_succ_self _) (Nat.lt_succ_self _)) n3
      have n2 : w.heap.size + 1 < _ := Nat.lt_trans (Nat.lt_succ_self _) n3
      have m0 := HC9.out.l
      have m1 := HC9.out.g
      have m2 := HC9.out.e
      have mf0 := HC9.out.f0
      have mf1 := HC9.out.f1
      have mf2 := HC9.out.f2
      have hmx := HC9.out.lt
      unfold sickV
      cases hs : L.find? (sickP ns) with
      | some p =>
       obtain ⟨sp, tp, np, bp⟩ := p
       have hbad := bad_s (es := es) (up := up) hs
       simp only at hbad
       simp only [Option.getD_some, Option.isSome_some]
       generalize sickE ns sp = er at *
       clear hs
       cases np
       ·skip
        have HT2 := Lib.hid ((HNx.out _ _ hbad rfl).symm.trans HT.out)
        have HP2 := Lib.hid (HPu.out _ (bad_mem hbad) (by simp))
        have hbx := Below.refl w9.heap.size w9
        clear hbad HNe HNo HNx HPu HT
        go_upto_region 26 with fail
        first | (refine wp_named ?_; intro W20 hW) | (refine calls_named ?_; intro W20 hW) | (refine exit_named ?_; intro W20 hW)
        have B20 : Below w9.heap.size w9 W20 := by rw [hW]; exact bq2
        have n20 : w9.heap.size < W20.heap.size := by rw [hW]; simp <;> omega
        have p0 : W20.cell? ⟨w9.heap.size, 0, none⟩ = some (sv sp) := by rw [hW]; go_simp
        have p1 : W20.cell? ⟨w9.heap.size, 1, none⟩ = some (.int .i64 tp) := by rw [hW]; go_simp
        have p2 : W20.cell? ⟨w9.heap.size, 2, none⟩ = some (.bool false) := by rw [hW]; go_simp
        have p3 : W20.cell? ⟨w9.heap.size, 3, none⟩ = some (sv bp) := by rw [hW]; go_simp
        clear hW
        have HC20 := Lib.hid (HC9.out.on B20)
        have HR20 := Lib.hid (own_on HR9.out B20)
        have HB20 := Lib.hid (lift HB9.out B20)
        have hz20 : w4.heap.size + 1 ≤ W20.heap.size := HC20.out.lt
        have h63 := Lib.hid (show gone.length + 1 ≤ maxLen by unfold maxLen; omega)
        have hby := Lib.hid (show (gone.length + 1) * 48 ≤ 140737488355328 by omega)
        have m0 := HC20.out.l
        have m1 := HC20.out.g
        have m2 := HC20.out.e
        clear B20 hbx
        go_wp2_with (first | (at_builtin; refine wpList_pushm W20 W20 (by rfl) (.tmp 113) (.tmp 115) 29 (by rfl) (w4.heap.size + 1) 37 i0 _ 4 48 Tryz.underlying29 hi hz0 hz1 hz2 rfl (by decide) _ _ _ (by rfl) HR20.out [sv sp, .int .i64 tp, .bool false, sv bp] W20.heap.size rfl (by rfl) rfl (by simp [Value.oneCell']) h63.out hby.out hz20 (Below.refl _ _) ?_; intro A21 c21 w21 ho21 hb21 hg21 hat21; have HC21 := Lib.hid (HC20.out.bel hb21 (Nat.lt_succ_self _)); have HO21 := Lib.hid ho21; have HB21 := Lib.hid (HB20.out.trans (hb21.mono (Nat.le_succ _))); have m0 := HC21.out.l; have m1 := HC21.out.g; have m2 := HC21.out.e; have mf1 := HC21.out.f1; clear ho21 hb21 hg21 hat21) | fail)
        go_roundg g'
        case measure => omega
        case rel => exact ⟨gone ++ [(sp, tp, false, bp)], A21, c21, _, by have := HFu.out; simp; omega, HP2, HT2, by rw [List.length_append]; exact HC21.out.setG _, by rw [List.length_append, plsC_app, plsC_one]; exact ownsRow_setCell_below HO21.out (Nat.lt_succ_self _) _, HB21.out.setCell (Nat.le_refl _) _⟩
       ·skip
        have hT : T = ⟨er, [], []⟩ := HT.out.symm.trans (HNe.out _ _ hbad rfl)
        subst hT
        clear hbad HNe HNo HNx HPu HT
        go_wp2_with fail
        have hB0 := lift HB4.out (lift HB9.out (Below.refl w9.heap.size w9))
        have hz09 := (lift HB4.out HB9.out).size
        refine bodyPost_ret (v := .agg #[.slice none 0 0, .slice none 0 0, .int .i64 er]) (by simp only [results, Tryz.results29]; go_simp) rfl (made_ret ?_)
        repeat (first | (with_reducible exact hB0) | (with_reducible refine Below.alloc ?_ ?zs _; case zs => first | omega | (simp <;> omega)) | (with_reducible refine Below.setCell ?_ ?zs _; case zs => first | omega | (simp <;> omega)))
      | none =>
       simp only [Option.getD_none, Option.isSome_none]
       have HS0 := Lib.hid hs
       clear hs
       go_wp2_with fail
       first | (refine wp_named ?_; intro W10 hW) | (refine calls_named ?_; intro W10 hW) | (refine exit_named ?_; intro W10 hW)
       have B10 : Below w9.heap.size w9 W10 := by rw [hW]; exact bq2
       have n10 : w9.heap.size < W10.heap.size := by rw [hW]; simp <;> omega
       have p0 : W10.cell? ⟨w9.heap.size, 0, none⟩ = some (.string ⟨#[]⟩) := by rw [hW]; go_simp
       have p1 : W10.cell? ⟨w9.heap.size, 1, none⟩ = some (.int .i64 0) := by rw [hW]; go_simp
       have p2 : W10.cell? ⟨w9.heap.size, 2, none⟩ = some (.bool false) := by rw [hW]; go_simp
       have p3 : W10.cell? ⟨w9.heap.size, 3, none⟩ = some (.string ⟨#[]⟩) := by rw [hW]; go_simp
       have pf0 : W10.frozen? ⟨w9.heap.size, 0, none⟩ = false := by rw [hW]; go_simp
       have pf1 : W10.frozen? ⟨w9.heap.size, 1, none⟩ = false := by rw [hW]; go_simp
       have pf2 : W10.frozen? ⟨w9.heap.size, 2, none⟩ = false := by rw [hW]; go_simp
       have pf3 : W10.frozen? ⟨w9.heap.size, 3, none⟩ = false := by rw [hW]; go_simp
       clear hW
       have he10 := HE4.out.at (lift HB9.out B10)
       have HO10 := Lib.hid (own_on HO9.out B10)
       clear g0 g1 h0 h1 r0 r1 r2 z0 z1 z2 n1 n2 n3
       clear m0 m1 m2 mf0 mf1 mf2 he9
       refine (lacks17_any An Ae Au Ah A5 ns.length cn ce cu ch c5 es up half L W10 he10.gi.re hel he10.ni (own_rd' HO10.out) (by omega)).mono ?_
       rintro e w11 ⟨rfl, hb⟩
       have hb11 := lift B10 hb
       replace p0 := cellAt p0 hb (by omega)
       replace p1 := cellAt p1 hb (by omega)
       replace p2 := cellAt p2 hb (by omega)
       replace p3 := cellAt p3 hb (by omega)
       replace pf0 := froAt pf0 hb (by omega)
       replace pf1 := froAt pf1 hb (by omega)
       replace pf2 := froAt pf2 hb (by omega)
       replace pf3 := froAt pf3 hb (by omega)
       replace n10 : w9.heap.size < w11.heap.size := ltAt n10 hb
       have he11 := HE4.out.at (lift HB9.out hb11)
       have hc11 := HC9.out.on hb11
       clear hb B10 he10
       have g0 := he11.g0
       have g1 := he11.g1
       have h0 := he11.h0
       have h1 := he11.h1
       have r0 := he11.r0
       have r1 := he11.r1
       have r2 := he11.r2
       have z0 := he11.z0
       have z1 := he11.z1
       have z2 := he11.z2
       have n3 := he11.lt
       have n1 : w.heap.size < _ := Nat.lt_trans (Nat.lt_trans (Nat.lt_succ_self _) (Nat.lt_succ_self _)) n3
       have n2 : w.heap.size + 1 < _ := Nat.lt_trans (Nat.lt_succ_self _) n3
       have m0 := hc11.l
       have m1 := hc11.g
       have m2 := hc11.e
       have mf0 := hc11.f0
       have mf1 := hc11.f1
       have mf2 := hc11.f2
       have hmx := hc11.lt
       unfold pullV
       cases hk : L.find? (lackP es up L) with
       | some p =>
        obtain ⟨sp, tp, np, bp⟩ := p
        have hbad := bad_l HS0.out hk
        simp only [Option.getD_some, Option.isSome_some]
        clear hk
        cases np
        ·clear m0 m1 m2 mf0 mf1 mf2
         have HT2 := Lib.hid ((HNx.out _ _ hbad rfl).symm.trans HT.out)
         have HP2 := Lib.hid (HPu.out _ (bad_mem hbad) (by simp))
         have hbx := hb11
         clear hbad HNe HNo HNx HPu HT
         go_upto_region 26 with fail
         first | (refine wp_named ?_; intro W20 hW) | (refine calls_named ?_; intro W20 hW) | (refine exit_named ?_; intro W20 hW)
         have B20 : Below w9.heap.size w9 W20 := by rw [hW]; exact bq2
         have n20 : w9.heap.size < W20.heap.size := by rw [hW]; simp <;> omega
         have p0 : W20.cell? ⟨w9.heap.size, 0, none⟩ = some (sv sp) := by rw [hW]; go_simp
         have p1 : W20.cell? ⟨w9.heap.size, 1, none⟩ = some (.int .i64 tp) := by rw [hW]; go_simp
         have p2 : W20.cell? ⟨w9.heap.size, 2, none⟩ = some (.bool false) := by rw [hW]; go_simp
         have p3 : W20.cell? ⟨w9.heap.size, 3, none⟩ = some (sv bp) := by rw [hW]; go_simp
         clear hW
         have HC20 := Lib.hid (HC9.out.on B20)
         have HR20 := Lib.hid (own_on HR9.out B20)
         have HB20 := Lib.hid (lift HB9.out B20)
         have hz20 : w4.heap.size + 1 ≤ W20.heap.size := HC20.out.lt
         have h63 := Lib.hid (show gone.length + 1 ≤ maxLen by unfold maxLen; omega)
         have hby := Lib.hid (show (gone.length + 1) * 48 ≤ 140737488355328 by omega)
         have m0 := HC20.out.l
         have m1 := HC20.out.g
         have m2 := HC20.out.e
         clear B20 hbx
         go_wp2_with (first | (at_builtin; refine wpList_pushm W20 W20 (by rfl) (.tmp 113) (.tmp 115) 29 (by rfl) (w4.heap.size + 1) 37 i0 _ 4 48 Tryz.underlying29 hi hz0 hz1 hz2 rfl (by decide) _ _ _ (by rfl) HR20.out [sv sp, .int .i64 tp, .bool false, sv bp] W20.heap.size rfl (by rfl) rfl (by simp [Value.oneCell']) h63.out hby.out hz20 (Below.refl _ _) ?_; intro A21 c21 w21 ho21 hb21 hg21 hat21; have HC21 := Lib.hid (HC20.out.bel hb21 (Nat.lt_succ_self _)); have HO21 := Lib.hid ho21; have HB21 := Lib.hid (HB20.out.trans (hb21.mono (Nat.le_succ _))); have m0 := HC21.out.l; have m1 := HC21.out.g; have m2 := HC21.out.e; have mf1 := HC21.out.f1; clear ho21 hb21 hg21 hat21) | fail)
         go_roundg g'
         case measure => omega
         case rel => exact ⟨gone ++ [(sp, tp, false, bp)], A21, c21, _, by have := HFu.out; simp; omega, HP2, HT2, by rw [List.length_append]; exact HC21.out.setG _, by rw [List.length_append, plsC_app, plsC_one]; exact ownsRow_setCell_below HO21.out (Nat.lt_succ_self _) _, HB21.out.setCell (Nat.le_refl _) _⟩
        ·skip
         have hT : T = ⟨19, [], []⟩ := HT.out.symm.trans (HNe.out _ _ hbad rfl)
         subst hT
         clear hbad HNe HNo HNx HPu HT
         go_wp2_with fail
         have hB0 := lift HB4.out (lift HB9.out hb11)
         have hz09 := (lift HB4.out HB9.out).size
         refine bodyPost_ret (v := .agg #[.slice none 0 0, .slice none 0 0, .int .i64 19]) (by simp only [results, Tryz.results29]; go_simp) rfl (made_ret ?_)
         repeat (first | (with_reducible exact hB0) | (with_reducible refine Below.alloc ?_ ?zs _; case zs => first | omega | (simp <;> omega)) | (with_reducible refine Below.setCell ?_ ?zs _; case zs => first | omega | (simp <;> omega)))
       | none =>
        simp only [Option.getD_none, Option.isSome_none]
        have HK0 := Lib.hid hk
        clear hk
        go_wp2_with fail
        first | (refine wp_named ?_; intro W12 hW) | (refine calls_named ?_; intro W12 hW) | (refine exit_named ?_; intro W12 hW)
        have B12 : Below w9.heap.size w9 W12 := by rw [hW]; exact bq2
        have n12 : w9.heap.size < W12.heap.size := by rw [hW]; simp <;> omega
        have p0 : W12.cell? ⟨w9.heap.size, 0, none⟩ = some (.string ⟨#[]⟩) := by rw [hW]; go_simp
        have p1 : W12.cell? ⟨w9.heap.size, 1, none⟩ = some (.int .i64 0) := by rw [hW]; go_simp
        have p2 : W12.cell? ⟨w9.heap.size, 2, none⟩ = some (.bool false) := by rw [hW]; go_simp
        have p3 : W12.cell? ⟨w9.heap.size, 3, none⟩ = some (.string ⟨#[]⟩) := by rw [hW]; go_simp
        have pf0 : W12.frozen? ⟨w9.heap.size, 0, none⟩ = false := by rw [hW]; go_simp
        have pf1 : W12.frozen? ⟨w9.heap.size, 1, none⟩ = false := by rw [hW]; go_simp
        have pf2 : W12.frozen? ⟨w9.heap.size, 2, none⟩ = false := by rw [hW]; go_simp
        have pf3 : W12.frozen? ⟨w9.heap.size, 3, none⟩ = false := by rw [hW]; go_simp
        clear hW
        have HO12 := Lib.hid (own_on HO9.out B12)
        clear g0 g1 h0 h1 r0 r1 r2 z0 z1 z2 n1 n2 n3
        clear m0 m1 m2 mf0 mf1 mf2 he11 hc11
        refine (clash17_any A5 c5 L W12 (own_rd' HO12.out) (by omega)).mono ?_
        rw [clashR_eq HSs.out]
        rintro e w13 ⟨rfl, hb⟩
        have hb13 := lift B12 hb
        replace p0 := cellAt p0 hb (by omega)
        replace p1 := cellAt p1 hb (by omega)
        replace p2 := cellAt p2 hb (by omega)
        replace p3 := cellAt p3 hb (by omega)
        replace pf0 := froAt pf0 hb (by omega)
        replace pf1 := froAt pf1 hb (by omega)
        replace pf2 := froAt pf2 hb (by omega)
        replace pf3 := froAt pf3 hb (by omega)
        replace n12 : w9.heap.size < w13.heap.size := ltAt n12 hb
        have he13 := HE4.out.at (lift HB9.out hb13)
        have hc13 := HC9.out.on hb13
        have hq9 : ¬ w9.heap.size = w13.heap.size := by omega
        have hq8 : ¬ w13.heap.size = w9.heap.size := by omega
        clear hb B12 hb11
        have g0 := he13.g0
        have g1 := he13.g1
        have h0 := he13.h0
        have h1 := he13.h1
        have r0 := he13.r0
        have r1 := he13.r1
        have r2 := he13.r2
        have z0 := he13.z0
        have z1 := he13.z1
        have z2 := he13.z2
        have n3 := he13.lt
        have n1 : w.heap.size < _ := Nat.lt_trans (Nat.lt_trans (Nat.lt_succ_self _) (Nat.lt_succ_self _)) n3
        have n2 : w.heap.size + 1 < _ := Nat.lt_trans (Nat.lt_succ_self _) n3
        have m0 := hc13.l
        have m1 := hc13.g
        have m2 := hc13.e
        have mf0 := hc13.f0
        have mf1 := hc13.f1
        have mf2 := hc13.f2
        have hmx := hc13.lt
        unfold clashV
        cases hc : clashOf L with
        | some p =>
         obtain ⟨sp, tp, np, bp⟩ := p
         have hbad : badP ns es up L = some ((sp, tp, np, bp), 18) := by rw [bad_c HS0.out HK0.out, hc]; rfl
         simp only [Option.map_some, Option.getD_some, Option.isSome_some]
         clear hc
         cases np
         ·clear m0 m1 m2 mf0 mf1 mf2
          have HT2 := Lib.hid ((HNx.out _ _ hbad rfl).symm.trans HT.out)
          have HP2 := Lib.hid (HPu.out _ (bad_mem hbad) (by simp))
          have hbx := hb13
          clear hbad HNe HNo HNx HPu HT
          go_upto_region 26 with fail
          first | (refine wp_named ?_; intro W20 hW) | (refine calls_named ?_; intro W20 hW) | (refine exit_named ?_; intro W20 hW)
          have B20 : Below w9.heap.size w9 W20 := by rw [hW]; exact bq2
          have n20 : w9.heap.size < W20.heap.size := by rw [hW]; simp <;> omega
          have p0 : W20.cell? ⟨w9.heap.size, 0, none⟩ = some (sv sp) := by rw [hW]; go_simp
          have p1 : W20.cell? ⟨w9.heap.size, 1, none⟩ = some (.int .i64 tp) := by rw [hW]; go_simp
          have p2 : W20.cell? ⟨w9.heap.size, 2, none⟩ = some (.bool false) := by rw [hW]; go_simp
          have p3 : W20.cell? ⟨w9.heap.size, 3, none⟩ = some (sv bp) := by rw [hW]; go_simp
          clear hW
          have HC20 := Lib.hid (HC9.out.on B20)
          have HR20 := Lib.hid (own_on HR9.out B20)
          have HB20 := Lib.hid (lift HB9.out B20)
          have hz20 : w4.heap.size + 1 ≤ W20.heap.size := HC20.out.lt
          have h63 := Lib.hid (show gone.length + 1 ≤ maxLen by unfold maxLen; omega)
          have hby := Lib.hid (show (gone.length + 1) * 48 ≤ 140737488355328 by omega)
          have m0 := HC20.out.l
          have m1 := HC20.out.g
          have m2 := HC20.out.e
          clear B20 hbx
          go_wp2_with (first | (at_builtin; refine wpList_pushm W20 W20 (by rfl) (.tmp 113) (.tmp 115) 29 (by rfl) (w4.heap.size + 1) 37 i0 _ 4 48 Tryz.underlying29 hi hz0 hz1 hz2 rfl (by decide) _ _ _ (by rfl) HR20.out [sv sp, .int .i64 tp, .bool false, sv bp] W20.heap.size rfl (by rfl) rfl (by simp [Value.oneCell']) h63.out hby.out hz20 (Below.refl _ _) ?_; intro A21 c21 w21 ho21 hb21 hg21 hat21; have HC21 := Lib.hid (HC20.out.bel hb21 (Nat.lt_succ_self _)); have HO21 := Lib.hid ho21; have HB21 := Lib.hid (HB20.out.trans (hb21.mono (Nat.le_succ _))); have m0 := HC21.out.l; have m1 := HC21.out.g; have m2 := HC21.out.e; have mf1 := HC21.out.f1; clear ho21 hb21 hg21 hat21) | fail)
          go_roundg g'
          case measure => omega
          case rel => exact ⟨gone ++ [(sp, tp, false, bp)], A21, c21, _, by have := HFu.out; simp; omega, HP2, HT2, by rw [List.length_append]; exact HC21.out.setG _, by rw [List.length_append, plsC_app, plsC_one]; exact ownsRow_setCell_below HO21.out (Nat.lt_succ_self _) _, HB21.out.setCell (Nat.le_refl _) _⟩
         ·skip
          have hT : T = ⟨18, [], []⟩ := HT.out.symm.trans (HNe.out _ _ hbad rfl)
          subst hT
          clear hbad HNe HNo HNx HPu HT
          go_wp2_with fail
          have hB0 := lift HB4.out (lift HB9.out hb13)
          have hz09 := (lift HB4.out HB9.out).size
          refine bodyPost_ret (v := .agg #[.slice none 0 0, .slice none 0 0, .int .i64 18]) (by simp only [results, Tryz.results29]; go_simp) rfl (made_ret ?_)
          repeat (first | (with_reducible exact hB0) | (with_reducible refine Below.alloc ?_ ?zs _; case zs => first | omega | (simp <;> omega)) | (with_reducible refine Below.setCell ?_ ?zs _; case zs => first | omega | (simp <;> omega)))
        | none =>
         have hbad : badP ns es up L = none := by rw [bad_c HS0.out HK0.out, hc]; rfl
         have hT : T = ⟨0, L, gone⟩ := HT.out.symm.trans (HNo.out hbad)
         simp only [Option.map_none, Option.getD_none, Option.isSome_none]
         subst hT
         clear hbad HNe HNo HNx HPu HT hc
         clear m0 m1 m2 mf0 mf1 mf2
         clear g0 g1 h0 h1 r0 r1 r2 z0 z1 z2 n1 n2 n3
         go_upto_region 25 with fail
         first | (refine wp_named ?_; intro W14 hW) | (refine calls_named ?_; intro W14 hW) | (refine exit_named ?_; intro W14 hW)
         have B14 : Below w9.heap.size w9 W14 := by rw [hW]; exact bq2
         clear hW
         have hc14 := HC9.out.on B14
         have he14 := HE4.out.at (lift HB9.out B14)
         have HO14 := Lib.hid (own_on HO9.out B14)
         have HR14 := Lib.hid (own_on HR9.out B14)
         have hB0 := lift HB4.out (lift HB9.out B14)
         have hlt : w.heap.size + 1 + 1 < w4.heap.size + 1 := by have := HE4.out.lt; omega
         clear B14 hb13 he13 hc13
         have g0 := he14.g0
         have g1 := he14.g1
         have h0 := he14.h0
         have h1 := he14.h1
         have r0 := he14.r0
         have r1 := he14.r1
         have r2 := he14.r2
         have z0 := he14.z0
         have z1 := he14.z1
         have z2 := he14.z2
         have n3 := he14.lt
         have n1 : w.heap.size < _ := Nat.lt_trans (Nat.lt_trans (Nat.lt_succ_self _) (Nat.lt_succ_self _)) n3
         have n2 : w.heap.size + 1 < _ := Nat.lt_trans (Nat.lt_succ_self _) n3
         have m0 := hc14.l
         have m1 := hc14.g
         have m2 := hc14.e
         have mf0 := hc14.f0
         have mf1 := hc14.f1
         have mf2 := hc14.f2
         have hmx := hc14.lt
         go_wp2_with fail
         refine bodyPost_ret (v := .agg #[.slice A5 L.length c5, .slice A gone.length c, .int .i64 0]) (by simp only [results, Tryz.results29]; go_simp) rfl ⟨A5, c5, A, c, rfl, (own_cap HO14.out).1, ?_, ?_, bq2⟩
         ·exact own_rd' (ownsRow_setCell_below (ownsRow_setCell_below (ownsRow_setCell_below HO14.out hlt _) hlt _) hlt _)
         ·exact own_rd' (ownsRow_setCell_below (ownsRow_setCell_below (ownsRow_setCell_below HR14.out hlt _) hlt _) hlt _)
    ·have e4 : t = 4 := by simpa using h4
     subst e4
     go_wp2_with fail
     refine (HasS_any Au cu up u w4 HN.out.u.rd HN.out.u.len).mono ?_
     rintro e wz ⟨rfl, rfl⟩
     cases hu : hasB up u
     ·skip
      have hw : wrongT ns es up (u, 4) = 20 := by rw [hwr]; rw [hu]; rfl
      have hT : T = ⟨20, [], []⟩ := by rw [HMd.out, hw, if_neg (by decide)]
      subst hT
      clear HMd hw hwr
      go_wp2_with fail
      have hB0 := HB4.out
      refine bodyPost_ret (v := .agg #[.slice none 0 0, .slice none 0 0, .int .i64 20]) (by simp only [results, Tryz.results29]; go_simp) rfl (made_ret bq2)
     ·skip
      have hw : wrongT ns es up (u, 4) = 0 := by rw [hwr]; rw [hu]; rfl
      have HM := Lib.hid (show goT ns es up half (u, 4) (fuelT es) [] = T by rw [HMd.out, if_pos hw])
      clear hw hwr HMd
      go_wp2_with fail
      first | (refine wp_named ?_; intro W5 hW) | (refine calls_named ?_; intro W5 hW) | (refine exit_named ?_; intro W5 hW)
      have B5 : Below w4.heap.size w4 W5 := by rw [hW]; exact bq2
      replace g0 := cellAt g0 B5 (by omega)
      replace g1 := cellAt g1 B5 (by omega)
      replace h0 := cellAt h0 B5 (by omega)
      replace h1 := cellAt h1 B5 (by omega)
      replace r0 := cellAt r0 B5 (by omega)
      replace r1 := cellAt r1 B5 (by omega)
      replace r2 := cellAt r2 B5 (by omega)
      replace z0 := froAt z0 B5 (by omega)
      replace z1 := froAt z1 B5 (by omega)
      replace z2 := froAt z2 B5 (by omega)
      replace HG := Lib.hid (HG.out.at B5)
      replace HN := Lib.hid (HN.out.at B5)
      replace n1 : w.heap.size < W5.heap.size := ltAt n1 B5
      replace n2 : (w.heap.size + 1) < W5.heap.size := ltAt n2 B5
      replace n3 : (w.heap.size + 1 + 1) < W5.heap.size := ltAt n3 B5
      have n5 : w4.heap.size < W5.heap.size := by rw [hW]; simp <;> omega
      have m0 : W5.cell? ⟨w4.heap.size, 0, none⟩ = some (.slice none 0 0) := by rw [hW]; go_simp
      have m1 : W5.cell? ⟨w4.heap.size, 1, none⟩ = some (.slice none 0 0) := by rw [hW]; go_simp
      have m2 : W5.cell? ⟨w4.heap.size, 2, none⟩ = some (.int .i64 0) := by rw [hW]; go_simp
      have mf0 : W5.frozen? ⟨w4.heap.size, 0, none⟩ = false := by rw [hW]; go_simp
      have mf1 : W5.frozen? ⟨w4.heap.size, 1, none⟩ = false := by rw [hW]; go_simp
      have mf2 : W5.frozen? ⟨w4.heap.size, 2, none⟩ = false := by rw [hW]; go_simp
      clear hW
      have HC5 := Lib.hid (show MkC W5 w4.heap.size (.slice none 0 0) (.slice none 0 0) from ⟨m0, m1, m2, mf0, mf1, mf2⟩)
      have HB5 := Lib.hid B5
      clear B5 m0 m1 m2 mf0 mf1 mf2
      clear g0 g1 h0 h1 r0 r1 r2 z0 z1 z2 n1 n2 n3
      go_loopg [] (fuelT es) (fun g wr => ∃ (gone : List Pl) (A : Option Addr) (c : Nat) (vL : Value), fuelT es ≤ g + gone.length ∧ Hid (GoneOk es (u, 4) gone) ∧ Hid (goT ns es up half (u, 4) g gone = T) ∧ Hid (MkC wr w4.heap.size vL (.slice A gone.length c)) ∧ Hid (wr.ownsRow (w4.heap.size + 1) 37 4 (.slice A gone.length c) gone.length (plsC gone)) ∧ Hid (Below w4.heap.size w4 wr))
      case atStart => exact ⟨[], none, 0, .slice none 0 0, by simp, GoneOk.nil _ _, HM, HC5, World.ownsRow_nil _ _ _ _, HB5⟩
      case round =>
       obtain ⟨gone, A, c, vL, hfu, HOk, HT, HC, HRw, HB⟩ := hrel
       obtain ⟨w6, rfl⟩ : ∃ wo : World, wo = wr := ⟨_, rfl⟩
       have hgl := HOk.out.len
       have hgk : ∃ g', gk = g' + 1 := ⟨gk - 1, by unfold fuelT at hfu; omega⟩
       obtain ⟨g', hgk⟩ := hgk
       subst hgk
       have HFu := Lib.hid hfu
       clear hfu HM HC5 HB5 n5
       have he6 := HE4.out.at HB.out
       have hmb := HC.out.lt
       have g0 := he6.g0
       have g1 := he6.g1
       have h0 := he6.h0
       have h1 := he6.h1
       have r0 := he6.r0
       have r1 := he6.r1
       have r2 := he6.r2
       have z0 := he6.z0
       have z1 := he6.z1
       have z2 := he6.z2
       have n3 := he6.lt
       have n1 : w.heap.size < _ := Nat.lt_trans (Nat.lt_trans (Nat.lt_succ_self _) (Nat.lt_succ_self _)) n3
       have n2 : w.heap.size + 1 < _ := Nat.lt_trans (Nat.lt_succ_self _) n3
       have m0 := HC.out.l
       have m1 := HC.out.g
       have m2 := HC.out.e
       have mf0 := HC.out.f0
       have mf1 := HC.out.f1
       have mf2 := HC.out.f2
       have hmx := HC.out.lt
       go_wp2_with fail
       refine (All17_any An Ae Au Ah A cn ce cu ch c ns es up half gone u 4 w6 he6.gi.rn hnl he6.gi.re hel he6.ni.u he6.ni.h (own_rd' HRw.out) (by omega) he6.gi.oke HOf.out).mono ?_
       rintro e w7 ⟨A5, c5, rfl, ho5, hb⟩
       have hLl := pullQ_len ns es up half (u, 4) gone
       have HNo := Lib.hid (fun h => goT_none (ns := ns) (es := es) (up := up) (half := half) (first := (u, 4)) (gone := gone) (n := g') h)
       have HNe := Lib.hid (fun (p : Pl) (e : Int) h hn => goT_need (ns := ns) (es := es) (up := up) (half := half) (first := (u, 4)) (gone := gone) (n := g') (p := p) (e := e) h hn)
       have HNx := Lib.hid (fun (p : Pl) (e : Int) h hn => goT_next (ns := ns) (es := es) (up := up) (half := half) (first := (u, 4)) (gone := gone) (n := g') (p := p) (e := e) h hn)
       have HPu := Lib.hid (fun (p : Pl) hp hn => HOk.out.push (ns := ns) (up := up) (half := half) (p := p) hp hn)
       have HSs := Lib.hid (pullQ_ss ns es up half (u, 4) gone)
       generalize pullQ ns es up half (u, 4) gone = L at *
       clear g0 g1 h0 h1 r0 r1 r2 z0 z1 z2 n1 n2 n3
       clear m0 m1 m2 mf0 mf1 mf2 he6
       have hc7 := HC.out.on hb
       have hr7 := own_on HRw.out hb
       have hb7 := lift HB.out hb
       have ho7 := own_base ho5 (show w4.heap.size + 1 ≤ w6.heap.size from hmb)
       have he7 := HE4.out.at hb7
       have hm7 := hc7.lt
       have hq0 : ¬ w.heap.size = w4.heap.size := by have := HE4.out.lt; omega
       have hq1 : ¬ w.heap.size + 1 = w4.heap.size := by have := HE4.out.lt; omega
       have hq2 : ¬ w.heap.size + 1 + 1 = w4.heap.size := by have := HE4.out.lt; omega
       have g0 := he7.g0
       have g1 := he7.g1
       have h0 := he7.h0
       have h1 := he7.h1
       have r0 := he7.r0
       have r1 := he7.r1
       have r2 := he7.r2
       have z0 := he7.z0
       have z1 := he7.z1
       have z2 := he7.z2
       have n3 := he7.lt
       have n1 : w.heap.size < _ := Nat.lt_trans (Nat.lt_trans (Nat.lt_succ_self _) (Nat.lt_succ_self _)) n3
       have n2 : w.heap.size + 1 < _ := Nat.lt_trans (Nat.lt_succ_self _) n3
       have m0 := hc7.l
       have m1 := hc7.g
       have m2 := hc7.e
       have mf0 := hc7.f0
       have mf1 := hc7.f1
       have mf2 := hc7.f2
       have hmx := hc7.lt
       go_wp2_with fail
       obtain ⟨w8, hw8⟩ : ∃ x, x = w7.setCell ⟨w4.heap.size, 0, none⟩ (.slice A5 L.length c5) := ⟨_, rfl⟩
       rw [← hw8]
       have HC8 := Lib.hid (show MkC w8 w4.heap.size (.slice A5 L.length c5) (.slice A gone.length c) by rw [hw8]; exact hc7.setL _)
       have HR8 := Lib.hid (show w8.ownsRow (w4.heap.size + 1) 37 4 (.slice A gone.length c) gone.length (plsC gone) by rw [hw8]; exact ownsRow_setCell_below hr7 (Nat.lt_succ_self _) _)
       have HO8 := Lib.hid (show w8.ownsRow (w4.heap.size + 1) 37 4 (.slice A5 L.length c5) L.length (plsC L) by rw [hw8]; exact ownsRow_setCell_below ho7 (Nat.lt_succ_self _) _)
       have HB8 := Lib.hid (show Below w4.heap.size w4 w8 by rw [hw8]; exact hb7.setCell (Nat.le_refl _) _)
       clear g0 g1 h0 h1 r0 r1 r2 z0 z1 z2 n1 n2 n3
       clear m0 m1 m2 mf0 mf1 mf2 he7 hc7 hr7 hb7 ho7 ho5 hb hw8 HC HRw HB
       have he8 := HE4.out.at HB8.out
       refine (sick17_any An Ae A5 es.length cn ce c5 ns L w8 he8.gi.rn hnl (own_rd' HO8.out) (by omega)).mono ?_
       rintro e w9 ⟨rfl, hb⟩
       have HC9 := Lib.hid (HC8.out.on hb)
       have HR9 := Lib.hid (own_on HR8.out hb)
       have HO9 := Lib.hid (own_on HO8.out hb)
       have HB9 := Lib.hid (lift HB8.out hb)
       have he9 := HE4.out.at HB9.out
       have hm9 := HC9.out.lt
       have hq3 : ¬ w.heap.size + 1 + 1 = w9.heap.size := by have := HE4.out.lt; omega
       have hq4 : ¬ w.heap.size + 1 = w9.heap.size := by have := HE4.out.lt; omega
       have hq5 : ¬ w.heap.size = w9.heap.size := by have := HE4.out.lt; omega
       have hq6 : ¬ w4.heap.size = w9.heap.size := by omega
       clear hb he8 HC8 HR8 HO8 HB8
       have g0 := he9.g0
       have g1 := he9.g1
       have h0 := he9.h0
       have h1 := he9.h1
       have r0 := he9.r0
       have r1 := he9.r1
       have r2 := he9.r2
       have z0 := he9.z0
       have z1 := he9.z1
       have z2 := he9.z2
       have n3 := he9.lt
       have n1 : w.heap.size < _ := Nat.lt_trans (Nat.lt_trans (Nat.lt_succ_self _) (Nat.lt_succ_self _)) n3
       have n2 : w.heap.size + 1 < _ := Nat.lt_trans (Nat.lt_succ_self _) n3
       have m0 := HC9.out.l
       have m1 := HC9.out.g
       have m2 := HC9.out.e
       have mf0 := HC9.out.f0
       have mf1 := HC9.out.f1
       have mf2 := HC9.out.f2
       have hmx := HC9.out.lt
       unfold sickV
       cases hs : L.find? (sickP ns) with
       | some p =>
        obtain ⟨sp, tp, np, bp⟩ := p
        have hbad := bad_s (es := es) (up := up) hs
        simp only at hbad
        simp only [Option.getD_some, Option.isSome_some]
        generalize sickE ns sp = er at *
        clear hs
        cases np
        ·skip
         have HT2 := Lib.hid ((HNx.out _ _ hbad rfl).symm.trans HT.out)
         have HP2 := Lib.hid (HPu.out _ (bad_mem hbad) (by simp))
         have hbx := Below.refl w9.heap.size w9
         clear hbad HNe HNo HNx HPu HT
         go_upto_region 26 with fail
         first | (refine wp_named ?_; intro W20 hW) | (refine calls_named ?_; intro W20 hW) | (refine exit_named ?_; intro W20 hW)
         have B20 : Below w9.heap.size w9 W20 := by rw [hW]; exact bq2
         have n20 : w9.heap.size < W20.heap.size := by rw [hW]; simp <;> omega
         have p0 : W20.cell? ⟨w9.heap.size, 0, none⟩ = some (sv sp) := by rw [hW]; go_simp
         have p1 : W20.cell? ⟨w9.heap.size, 1, none⟩ = some (.int .i64 tp) := by rw [hW]; go_simp
         have p2 : W20.cell? ⟨w9.heap.size, 2, none⟩ = some (.bool false) := by rw [hW]; go_simp
         have p3 : W20.cell? ⟨w9.heap.size, 3, none⟩ = some (sv bp) := by rw [hW]; go_simp
         clear hW
         have HC20 := Lib.hid (HC9.out.on B20)
         have HR20 := Lib.hid (own_on HR9.out B20)
         have HB20 := Lib.hid (lift HB9.out B20)
         have hz20 : w4.heap.size + 1 ≤ W20.heap.size := HC20.out.lt
         have h63 := Lib.hid (show gone.length + 1 ≤ maxLen by unfold maxLen; omega)
         have hby := Lib.hid (show (gone.length + 1) * 48 ≤ 140737488355328 by omega)
         have m0 := HC20.out.l
         have m1 := HC20.out.g
         have m2 := HC20.out.e
         clear B20 hbx
         go_wp2_with (first | (at_builtin; refine wpList_pushm W20 W20 (by rfl) (.tmp 113) (.tmp 115) 29 (by rfl) (w4.heap.size + 1) 37 i0 _ 4 48 Tryz.underlying29 hi hz0 hz1 hz2 rfl (by decide) _ _ _ (by rfl) HR20.out [sv sp, .int .i64 tp, .bool false, sv bp] W20.heap.size rfl (by rfl) rfl (by simp [Value.oneCell']) h63.out hby.out hz20 (Below.refl _ _) ?_; intro A21 c21 w21 ho21 hb21 hg21 hat21; have HC21 := Lib.hid (HC20.out.bel hb21 (Nat.lt_succ_self _)); have HO21 := Lib.hid ho21; have HB21 := Lib.hid (HB20.out.trans (hb21.mono (Nat.le_succ _))); have m0 := HC21.out.l; have m1 := HC21.out.g; have m2 := HC21.out.e; have mf1 := HC21.out.f1; clear ho21 hb21 hg21 hat21) | fail)
         go_roundg g'
         case measure => omega
         case rel => exact ⟨gone ++ [(sp, tp, false, bp)], A21, c21, _, by have := HFu.out; simp; omega, HP2, HT2, by rw [List.length_append]; exact HC21.out.setG _, by rw [List.length_append, plsC_app, plsC_one]; exact ownsRow_setCell_below HO21.out (Nat.lt_succ_self _) _, HB21.out.setCell (Nat.le_refl _) _⟩
        ·skip
         have hT : T = ⟨er, [], []⟩ := HT.out.symm.trans (HNe.out _ _ hbad rfl)
         subst hT
         clear hbad HNe HNo HNx HPu HT
         go_wp2_with fail
         have hB0 := lift HB4.out (lift HB9.out (Below.refl w9.heap.size w9))
         have hz09 := (lift HB4.out HB9.out).size
         refine bodyPost_ret (v := .agg #[.slice none 0 0, .slice none 0 0, .int .i64 er]) (by simp only [results, Tryz.results29]; go_simp) rfl (made_ret ?_)
         repeat (first | (with_reducible exact hB0) | (with_reducible refine Below.alloc ?_ ?zs _; case zs => first | omega | (simp <;> omega)) | (with_reducible refine Below.setCell ?_ ?zs _; case zs => first | omega | (simp <;> omega)))
       | none =>
        simp only [Option.getD_none, Option.isSome_none]
        have HS0 := Lib.hid hs
        clear hs
        go_wp2_with fail
        first | (refine wp_named ?_; intro W10 hW) | (refine calls_named ?_; intro W10 hW) | (refine exit_named ?_; intro W10 hW)
        have B10 : Below w9.heap.size w9 W10 := by rw [hW]; exact bq2
        have n10 : w9.heap.size < W10.heap.size := by rw [hW]; simp <;> omega
        have p0 : W10.cell? ⟨w9.heap.size, 0, none⟩ = some (.string ⟨#[]⟩) := by rw [hW]; go_simp
        have p1 : W10.cell? ⟨w9.heap.size, 1, none⟩ = some (.int .i64 0) := by rw [hW]; go_simp
        have p2 : W10.cell? ⟨w9.heap.size, 2, none⟩ = some (.bool false) := by rw [hW]; go_simp
        have p3 : W10.cell? ⟨w9.heap.size, 3, none⟩ = some (.string ⟨#[]⟩) := by rw [hW]; go_simp
        have pf0 : W10.frozen? ⟨w9.heap.size, 0, none⟩ = false := by rw [hW]; go_simp
        have pf1 : W10.frozen? ⟨w9.heap.size, 1, none⟩ = false := by rw [hW]; go_simp
        have pf2 : W10.frozen? ⟨w9.heap.size, 2, none⟩ = false := by rw [hW]; go_simp
        have pf3 : W10.frozen? ⟨w9.heap.size, 3, none⟩ = false := by rw [hW]; go_simp
        clear hW
        have he10 := HE4.out.at (lift HB9.out B10)
        have HO10 := Lib.hid (own_on HO9.out B10)
        clear g0 g1 h0 h1 r0 r1 r2 z0 z1 z2 n1 n2 n3
        clear m0 m1 m2 mf0 mf1 mf2 he9
        refine (lacks17_any An Ae Au Ah A5 ns.length cn ce cu ch c5 es up half L W10 he10.gi.re hel he10.ni (own_rd' HO10.out) (by omega)).mono ?_
        rintro e w11 ⟨rfl, hb⟩
        have hb11 := lift B10 hb
        replace p0 := cellAt p0 hb (by omega)
        replace p1 := cellAt p1 hb (by omega)
        replace p2 := cellAt p2 hb (by omega)
        replace p3 := cellAt p3 hb (by omega)
        replace pf0 := froAt pf0 hb (by omega)
        replace pf1 := froAt pf1 hb (by omega)
        replace pf2 := froAt pf2 hb (by omega)
        replace pf3 := froAt pf3 hb (by omega)
        replace n10 : w9.heap.size < w11.heap.size := ltAt n10 hb
        have he11 := HE4.out.at (lift HB9.out hb11)
        have hc11 := HC9.out.on hb11
        clear hb B10 he10
        have g0 := he11.g0
        have g1 := he11.g1
        have h0 := he11.h0
        have h1 := he11.h1
        have r0 := he11.r0
        have r1 := he11.r1
        have r2 := he11.r2
        have z0 := he11.z0
        have z1 := he11.z1
        have z2 := he11.z2
        have n3 := he11.lt
        have n1 : w.heap.size < _ := Nat.lt_trans (Nat.lt_trans (Nat.lt_succ_self _) (Nat.lt_succ_self _)) n3
        have n2 : w.heap.size + 1 < _ := Nat.lt_trans (Nat.lt_succ_self _) n3
        have m0 := hc11.l
        have m1 := hc11.g
        have m2 := hc11.e
        have mf0 := hc11.f0
        have mf1 := hc11.f1
        have mf2 := hc11.f2
        have hmx := hc11.lt
        unfold pullV
        cases hk : L.find? (lackP es up L) with
        | some p =>
         obtain ⟨sp, tp, np, bp⟩ := p
         have hbad := bad_l HS0.out hk
         simp only [Option.getD_some, Option.isSome_some]
         clear hk
         cases np
         ·clear m0 m1 m2 mf0 mf1 mf2
          have HT2 := Lib.hid ((HNx.out _ _ hbad rfl).symm.trans HT.out)
          have HP2 := Lib.hid (HPu.out _ (bad_mem hbad) (by simp))
          have hbx := hb11
          clear hbad HNe HNo HNx HPu HT
          go_upto_region 26 with fail
          first | (refine wp_named ?_; intro W20 hW) | (refine calls_named ?_; intro W20 hW) | (refine exit_named ?_; intro W20 hW)
          have B20 : Below w9.heap.size w9 W20 := by rw [hW]; exact bq2
          have n20 : w9.heap.size < W20.heap.size := by rw [hW]; simp <;> omega
          have p0 : W20.cell? ⟨w9.heap.size, 0, none⟩ = some (sv sp) := by rw [hW]; go_simp
          have p1 : W20.cell? ⟨w9.heap.size, 1, none⟩ = some (.int .i64 tp) := by rw [hW]; go_simp
          have p2 : W20.cell? ⟨w9.heap.size, 2, none⟩ = some (.bool false) := by rw [hW]; go_simp
          have p3 : W20.cell? ⟨w9.heap.size, 3, none⟩ = some (sv bp) := by rw [hW]; go_simp
          clear hW
          have HC20 := Lib.hid (HC9.out.on B20)
          have HR20 := Lib.hid (own_on HR9.out B20)
          have HB20 := Lib.hid (lift HB9.out B20)
          have hz20 : w4.heap.size + 1 ≤ W20.heap.size := HC20.out.lt
          have h63 := Lib.hid (show gone.length + 1 ≤ maxLen by unfold maxLen; omega)
          have hby := Lib.hid (show (gone.length + 1) * 48 ≤ 140737488355328 by omega)
          have m0 := HC20.out.l
          have m1 := HC20.out.g
          have m2 := HC20.out.e
          clear B20 hbx
          go_wp2_with (first | (at_builtin; refine wpList_pushm W20 W20 (by rfl) (.tmp 113) (.tmp 115) 29 (by rfl) (w4.heap.size + 1) 37 i0 _ 4 48 Tryz.underlying29 hi hz0 hz1 hz2 rfl (by decide) _ _ _ (by rfl) HR20.out [sv sp, .int .i64 tp, .bool false, sv bp] W20.heap.size rfl (by rfl) rfl (by simp [Value.oneCell']) h63.out hby.out hz20 (Below.refl _ _) ?_; intro A21 c21 w21 ho21 hb21 hg21 hat21; have HC21 := Lib.hid (HC20.out.bel hb21 (Nat.lt_succ_self _)); have HO21 := Lib.hid ho21; have HB21 := Lib.hid (HB20.out.trans (hb21.mono (Nat.le_succ _))); have m0 := HC21.out.l; have m1 := HC21.out.g; have m2 := HC21.out.e; have mf1 := HC21.out.f1; clear ho21 hb21 hg21 hat21) | fail)
          go_roundg g'
          case measure => omega
          case rel => exact ⟨gone ++ [(sp, tp, false, bp)], A21, c21, _, by have := HFu.out; simp; omega, HP2, HT2, by rw [List.length_append]; exact HC21.out.setG _, by rw [List.length_append, plsC_app, plsC_one]; exact ownsRow_setCell_below HO21.out (Nat.lt_succ_self _) _, HB21.out.setCell (Nat.le_refl _) _⟩
         ·skip
          have hT : T = ⟨19, [], []⟩ := HT.out.symm.trans (HNe.out _ _ hbad rfl)
          subst hT
          clear hbad HNe HNo HNx HPu HT
          go_wp2_with fail
          have hB0 := lift HB4.out (lift HB9.out hb11)
          have hz09 := (lift HB4.out HB9.out).size
          refine bodyPost_ret (v := .agg #[.slice none 0 0, .slice none 0 0, .int .i64 19]) (by simp only [results, Tryz.results29]; go_simp) rfl (made_ret ?_)
          repeat (first | (with_reducible exact hB0) | (with_reducible refine Below.alloc ?_ ?zs _; case zs => first | omega | (simp <;> omega)) | (with_reducible refine Below.setCell ?_ ?zs _; case zs => first | omega | (simp <;> omega)))
        | none =>
         simp only [Option.getD_none, Option.isSome_none]
         have HK0 := Lib.hid hk
         clear hk
         go_wp2_with fail
         first | (refine wp_named ?_; intro W12 hW) | (refine calls_named ?_; intro W12 hW) | (refine exit_named ?_; intro W12 hW)
         have B12 : Below w9.heap.size w9 W12 := by rw [hW]; exact bq2
         have n12 : w9.heap.size < W12.heap.size := by rw [hW]; simp <;> omega
         have p0 : W12.cell? ⟨w9.heap.size, 0, none⟩ = some (.string ⟨#[]⟩) := by rw [hW]; go_simp
         have p1 : W12.cell? ⟨w9.heap.size, 1, none⟩ = some (.int .i64 0) := by rw [hW]; go_simp
         have p2 : W12.cell? ⟨w9.heap.size, 2, none⟩ = some (.bool false) := by rw [hW]; go_simp
         have p3 : W12.cell? ⟨w9.heap.size, 3, none⟩ = some (.string ⟨#[]⟩) := by rw [hW]; go_simp
         have pf0 : W12.frozen? ⟨w9.heap.size, 0, none⟩ = false := by rw [hW]; go_simp
         have pf1 : W12.frozen? ⟨w9.heap.size, 1, none⟩ = false := by rw [hW]; go_simp
         have pf2 : W12.frozen? ⟨w9.heap.size, 2, none⟩ = false := by rw [hW]; go_simp
         have pf3 : W12.frozen? ⟨w9.heap.size, 3, none⟩ = false := by rw [hW]; go_simp
         clear hW
         have HO12 := Lib.hid (own_on HO9.out B12)
         clear g0 g1 h0 h1 r0 r1 r2 z0 z1 z2 n1 n2 n3
         clear m0 m1 m2 mf0 mf1 mf2 he11 hc11
         refine (clash17_any A5 c5 L W12 (own_rd' HO12.out) (by omega)).mono ?_
         rw [clashR_eq HSs.out]
         rintro e w13 ⟨rfl, hb⟩
         have hb13 := lift B12 hb
         replace p0 := cellAt p0 hb (by omega)
         replace p1 := cellAt p1 hb (by omega)
         replace p2 := cellAt p2 hb (by omega)
         replace p3 := cellAt p3 hb (by omega)
         replace pf0 := froAt pf0 hb (by omega)
         replace pf1 := froAt pf1 hb (by omega)
         replace pf2 := froAt pf2 hb (by omega)
         replace pf3 := froAt pf3 hb (by omega)
         replace n12 : w9.heap.size < w13.heap.size := ltAt n12 hb
         have he13 := HE4.out.at (lift HB9.out hb13)
         have hc13 := HC9.out.on hb13
         have hq9 : ¬ w9.heap.size = w13.heap.size := by omega
         have hq8 : ¬ w13.heap.size = w9.heap.size := by omega
         clear hb B12 hb11
         have g0 := he13.g0
         have g1 := he13.g1
         have h0 := he13.h0
         have h1 := he13.h1
         have r0 := he13.r0
         have r1 := he13.r1
         have r2 := he13.r2
         have z0 := he13.z0
         have z1 := he13.z1
         have z2 := he13.z2
         have n3 := he13.lt
         have n1 : w.heap.size < _ := Nat.lt_trans (Nat.lt_trans (Nat.lt_succ_self _) (Nat.lt_succ_self _)) n3
         have n2 : w.heap.size + 1 < _ := Nat.lt_trans (Nat.lt_succ_self _) n3
         have m0 := hc13.l
         have m1 := hc13.g
         have m2 := hc13.e
         have mf0 := hc13.f0
         have mf1 := hc13.f1
         have mf2 := hc13.f2
         have hmx := hc13.lt
         unfold clashV
         cases hc : clashOf L with
         | some p =>
          obtain ⟨sp, tp, np, bp⟩ := p
          have hbad : badP ns es up L = some ((sp, tp, np, bp), 18) := by rw [bad_c HS0.out HK0.out, hc]; rfl
          simp only [Option.map_some, Option.getD_some, Option.isSome_some]
          clear hc
          cases np
          ·clear m0 m1 m2 mf0 mf1 mf2
           have HT2 := Lib.hid ((HNx.out _ _ hbad rfl).symm.trans HT.out)
           have HP2 := Lib.hid (HPu.out _ (bad_mem hbad) (by simp))
           have hbx := hb13
           clear hbad HNe HNo HNx HPu HT
           go_upto_region 26 with fail
           first | (refine wp_named ?_; intro W20 hW) | (refine calls_named ?_; intro W20 hW) | (refine exit_named ?_; intro W20 hW)
           have B20 : Below w9.heap.size w9 W20 := by rw [hW]; exact bq2
           have n20 : w9.heap.size < W20.heap.size := by rw [hW]; simp <;> omega
           have p0 : W20.cell? ⟨w9.heap.size, 0, none⟩ = some (sv sp) := by rw [hW]; go_simp
           have p1 : W20.cell? ⟨w9.heap.size, 1, none⟩ = some (.int .i64 tp) := by rw [hW]; go_simp
           have p2 : W20.cell? ⟨w9.heap.size, 2, none⟩ = some (.bool false) := by rw [hW]; go_simp
           have p3 : W20.cell? ⟨w9.heap.size, 3, none⟩ = some (sv bp) := by rw [hW]; go_simp
           clear hW
           have HC20 := Lib.hid (HC9.out.on B20)
           have HR20 := Lib.hid (own_on HR9.out B20)
           have HB20 := Lib.hid (lift HB9.out B20)
           have hz20 : w4.heap.size + 1 ≤ W20.heap.size := HC20.out.lt
           have h63 := Lib.hid (show gone.length + 1 ≤ maxLen by unfold maxLen; omega)
           have hby := Lib.hid (show (gone.length + 1) * 48 ≤ 140737488355328 by omega)
           have m0 := HC20.out.l
           have m1 := HC20.out.g
           have m2 := HC20.out.e
           clear B20 hbx
           go_wp2_with (first | (at_builtin; refine wpList_pushm W20 W20 (by rfl) (.tmp 113) (.tmp 115) 29 (by rfl) (w4.heap.size + 1) 37 i0 _ 4 48 Tryz.underlying29 hi hz0 hz1 hz2 rfl (by decide) _ _ _ (by rfl) HR20.out [sv sp, .int .i64 tp, .bool false, sv bp] W20.heap.size rfl (by rfl) rfl (by simp [Value.oneCell']) h63.out hby.out hz20 (Below.refl _ _) ?_; intro A21 c21 w21 ho21 hb21 hg21 hat21; have HC21 := Lib.hid (HC20.out.bel hb21 (Nat.lt_succ_self _)); have HO21 := Lib.hid ho21; have HB21 := Lib.hid (HB20.out.trans (hb21.mono (Nat.le_succ _))); have m0 := HC21.out.l; have m1 := HC21.out.g; have m2 := HC21.out.e; have mf1 := HC21.out.f1; clear ho21 hb21 hg21 hat21) | fail)
           go_roundg g'
           case measure => omega
           case rel => exact ⟨gone ++ [(sp, tp, false, bp)], A21, c21, _, by have := HFu.out; simp; omega, HP2, HT2, by rw [List.length_append]; exact HC21.out.setG _, by rw [List.length_append, plsC_app, plsC_one]; exact ownsRow_setCell_below HO21.out (Nat.lt_succ_self _) _, HB21.out.setCell (Nat.le_refl _) _⟩
          ·skip
           have hT : T = ⟨18, [], []⟩ := HT.out.symm.trans (HNe.out _ _ hbad rfl)
           subst hT
           clear hbad HNe HNo HNx HPu HT
           go_wp2_with fail
           have hB0 := lift HB4.out (lift HB9.out hb13)
           have hz09 := (lift HB4.out HB9.out).size
           refine bodyPost_ret (v := .agg #[.slice none 0 0, .slice none 0 0, .int .i64 18]) (by simp only [results, Tryz.results29]; go_simp) rfl (made_ret ?_)
           repeat (first | (with_reducible exact hB0) | (with_reducible refine Below.alloc ?_ ?zs _; case zs => first | omega | (simp <;> omega)) | (with_reducible refine Below.setCell ?_ ?zs _; case zs => first | omega | (simp <;> omega)))
         | none =>
          have hbad : badP ns es up L = none := by rw [bad_c HS0.out HK0.out, hc]; rfl
          have hT : T = ⟨0, L, gone⟩ := HT.out.symm.trans (HNo.out hbad)
          simp only [Option.map_none, Option.getD_none, Option.isSome_none]
          subst hT
          clear hbad HNe HNo HNx HPu HT hc
          clear m0 m1 m2 mf0 mf1 mf2
          clear g0 g1 h0 h1 r0 r1 r2 z0 z1 z2 n1 n2 n3
          go_upto_region 25 with fail
          first | (refine wp_named ?_; intro W14 hW) | (refine calls_named ?_; intro W14 hW) | (refine exit_named ?_; intro W14 hW)
          have B14 : Below w9.heap.size w9 W14 := by rw [hW]; exact bq2
          clear hW
          have hc14 := HC9.out.on B14
          have he14 := HE4.out.at (lift HB9.out B14)
          have HO14 := Lib.hid (own_on HO9.out B14)
          have HR14 := Lib.hid (own_on HR9.out B14)
          have hB0 := lift HB4.out (lift HB9.out B14)
          have hlt : w.heap.size + 1 + 1 < w4.heap.size + 1 := by have := HE4.out.lt; omega
          clear B14 hb13 he13 hc13
          have g0 := he14.g0
          have g1 := he14.g1
          have h0 := he14.h0
          have h1 := he14.h1
          have r0 := he14.r0
          have r1 := he14.r1
          have r2 := he14.r2
          have z0 := he14.z0
          have z1 := he14.z1
          have z2 := he14.z2
          have n3 := he14.lt
          have n1 : w.heap.size < _ := Nat.lt_trans (Nat.lt_trans (Nat.lt_succ_self _) (Nat.lt_succ_self _)) n3
          have n2 : w.heap.size + 1 < _ := Nat.lt_trans (Nat.lt_succ_self _) n3
          have m0 := hc14.l
          have m1 := hc14.g
          have m2 := hc14.e
          have mf0 := hc14.f0
          have mf1 := hc14.f1
          have mf2 := hc14.f2
          have hmx := hc14.lt
          go_wp2_with fail
          refine bodyPost_ret (v := .agg #[.slice A5 L.length c5, .slice A gone.length c, .int .i64 0]) (by simp only [results, Tryz.results29]; go_simp) rfl ⟨A5, c5, A, c, rfl, (own_cap HO14.out).1, ?_, ?_, bq2⟩
          ·exact own_rd' (ownsRow_setCell_below (ownsRow_setCell_below (ownsRow_setCell_below HO14.out hlt _) hlt _) hlt _)
          ·exact own_rd' (ownsRow_setCell_below (ownsRow_setCell_below (ownsRow_setCell_below HR14.out hlt _) hlt _) hlt _)
  ·rw [if_pos hk] at hwr
   by_cases h1 : t < 1
   ·have d1 : decide (t < 1) = true := by rw [decide_eq_true_eq]; omega
    clear hk
    have hw : wrongT ns es up (u, t) = 3 := by rw [hwr]; skip
    have hT : T = ⟨3, [], []⟩ := by rw [HMd.out, hw, if_neg (by decide)]
    subst hT
    clear HMd hw hwr
    go_wp2_with fail
    have hB0 := HB4.out
    refine bodyPost_ret (v := .agg #[.slice none 0 0, .slice none 0 0, .int .i64 3]) (by simp only [results, Tryz.results29]; go_simp) rfl (made_ret bq2)
   ·have d1 : decide (t < 1) = false := by rw [decide_eq_false_iff_not]; omega
    have d2 : decide (4 < t) = true := by rw [decide_eq_true_eq]; omega
    clear hk
    have hw : wrongT ns es up (u, t) = 3 := by rw [hwr]; skip
    have hT : T = ⟨3, [], []⟩ := by rw [HMd.out, hw, if_neg (by decide)]
    subst hT
    clear HMd hw hwr
    go_wp2_with fail
    have hB0 := HB4.out
    refine bodyPost_ret (v := .agg #[.slice none 0 0, .slice none 0 0, .int .i64 3]) (by simp only [results, Tryz.results29]; go_simp) rfl (made_ret bq2)
end Od
end Go.Proofs.YtbllehjhmfehbaaGreat
end

section
/- The law TransAll. -/
namespace Go.Proofs.YtbllehjhmfehbaaGreat
open Go.RowKit
namespace Od
theorem transAll_any (An Ae Au Ah : Option Addr) (cn ce cu ch : Nat) (ns : List Nd) (es : List Ed) (up half : List Str) (u : Str) (t : Int) (w : World) (hg : GIw w An Ae ns es) (hn : NIn w Au Ah up half) (hof : okJ (u, t)) :
  Calls Tryz.prog 9 #[gV An ns.length cn Ae es.length ce, nowV Au up.length cu Ah half.length ch, sv u, .int .i64 t] w fun e w' => e = .returned (.bool true) ∧ Below w.heap.size w w' :=
 transAll_of An Ae Au Ah cn ce cu ch ns es up half u t w hg hn hof (Lib.hid fun hnl hel W hG hN => Make17_any An Ae Au Ah cn ce cu ch ns es up half u t W hG hN (Nat.le_trans hnl (by decide)) (Nat.le_trans hel (by decide)) hof)
end Od
end Go.Proofs.YtbllehjhmfehbaaGreat
end

section
/- What every law's row asks behind the walk: the result is true, and each argument reads as it did, since nothing that was there has turned. -/
namespace Go.Proofs.YtbllehjhmfehbaaGreat
open Go.ChangeShapes Go.WideShapes Go.ChangeAt Go.RowKit

theorem own : ownKnob Tryz.prog.godebug = none := by kernel_rfl
theorem laid : laidOutB Tryz.prog = true := by kernel_rfl

section
variable {H : Type} {enc : TypeId × Value → H} {P : Program}

theorem trodAll_stays (hl : laidOutB P = true) {W W' : World} (hb : Below W.heap.size W W') :
  ∀ {ts : List TypeId} {vs : List Value} {ds : List (DataW H)} {p : List MemPlace}, (∀ t ∈ ts, P.readableRec t = true ∧ t < P.types.size) → (∀ x ∈ p, x.block < W.heap.size) →
   DataW.TrodAll enc P W 0 (fun _ => true) true ts vs ds p → DataW.TrodAll enc P W' 0 (fun b => decide (b < W.heap.size)) true ts vs ds p
 | [], _, _, _, _, _, h => by
  obtain ⟨rfl, rfl, rfl⟩ := trodAll_nil h
  exact trodAll_mk0
 | t :: _, _, _, _, hr, hlt, h => by
  obtain ⟨v, vs1, d, ds1, a, b, rfl, rfl, rfl, h1, h2⟩ := trodAll_cons h
  have ht := hr t List.mem_cons_self
  exact trodAll_cons_mk (Below.trod hl ht.1 ht.2 h1 hb (fun x hx => hlt x (List.mem_append.2 (.inl hx))))
   (trodAll_stays hl hb (fun u hu => hr u (List.mem_cons_of_mem _ hu)) (fun x hx => hlt x (List.mem_append.2 (.inr hx))) h2)

/-- The row's post, for a law: it returned true, and nothing that was there has turned. -/
theorem law_post (hl : laidOutB P = true) {f : Func} {s : ChangeSpec} {W W' : World} {args : Array Value} {ds gs : List (DataW H)} {before : List MemPlace} {tb : TypeId}
  (hr : ∀ t ∈ f.params.toList, P.readableRec t = true ∧ t < P.types.size) (hv : s.vars = []) (hres : f.resultTypes = #[tb]) (htb : P.underlying tb = some .bool)
  (hW : DataW.Whole enc P f.params.toList s.vars false W args.toList ds gs before) (hs : s.fn H (ds ++ gs) = { results := [.lit (.bool true)], args := ds }) (hb : Below W.heap.size W W') :
  s.post enc P f false true false false W args (.bool true) W' := by
 have hlt : ∀ p ∈ before, p.block < W.heap.size := fun p hp => hW.lt p hp
 have hW0 := hW
 obtain ⟨p, q, hA, hV, rfl, _, _⟩ := hW0
 rw [hv] at hV
 obtain ⟨rfl, rfl⟩ := trodVars_none hV
 rw [List.append_nil] at hlt
 refine ⟨ds, [], _, [], p, [], hW, ?_, ?_, ?_, hb.frame _, fun h => by cases h⟩
 ·rw [hs, hres]
  exact trodAll_cons_mk (shut_bool htb true) trodAll_mk0
 ·rw [hs]
  exact trodAll_stays hl hb hr hlt hA
 ·rw [hs, hv]
  exact rfl

theorem cell_lt {w : World} {a : Addr} {v : Value} (h : w.cell? a = some v) : a.block < w.heap.size := by
 rcases Nat.lt_or_ge a.block w.heap.size with h1 | h1
 ·exact h1
 ·unfold World.cell? at h
  rw [Array.getElem?_eq_none h1] at h
  cases h

end

end Go.Proofs.YtbllehjhmfehbaaGreat
end

section
/- What a law with graphs and texts as arguments asks ahead of its walk: that they read as lists. -/
namespace Go.Proofs.YtbllehjhmfehbaaGreat
open Go.ChangeShapes Go.WideShapes Go.ChangeAt Go.RowKit Go.Deep

section
variable {H : Type} {enc : TypeId × Value → H} {P : Program}
/-- All that a datum weighs is within reach. -/
def Light (P : Program) (t : TypeId) (d : DataW H) : Prop := ∀ n ∈ d.weights P t, n ≤ reachBytes
theorem light_arg {ts : List TypeId} {ds : List (DataW H)} (h : (DataW.weightsEach P ts ds).all (· ≤ reachBytes) = true) {j : Nat} {t : TypeId} {d : DataW H} (ht : ts[j]? = some t) (hd : ds[j]? = some d) : Light P t d := fun n hn => by
 have := List.all_eq_true.1 h n (DataW.weights_mem_each ht hd n hn)
 simpa using this
theorem weightsAll_mem {e : TypeId} : ∀ {l : List (DataW H)} {d : DataW H}, d ∈ l → ∀ n ∈ d.weights P e, n ∈ DataW.weightsAll P e l
 | d0 :: l, d, h, n, hn => by
  rw [DataW.weightsAll]
  rcases List.mem_cons.1 h with e | e
  ·exact List.mem_append_left _ (e ▸ hn)
  ·exact List.mem_append_right _ (weightsAll_mem e n hn)
theorem light_elem {t e : TypeId} {elems spare : List (DataW H)} (ht : P.underlying t = some (.slice e)) (h : Light P t (.slice elems spare)) {d : DataW H} (hd : d ∈ elems) : Light P e d := fun n hn => h n (by
 rw [DataW.weights, ht]
 exact List.mem_cons_of_mem _ (List.mem_append_left _ (weightsAll_mem hd n hn)))
theorem light_part {t : TypeId} {fs : Array Field} {parts : List (DataW H)} (ht : P.underlying t = some (.struct fs)) (h : Light P t (.agg parts)) {j : Nat} {f : Field} {d : DataW H} (hf : fs[j]? = some f) (hd : parts[j]? = some d) : Light P f.type d := fun n hn => h n (by
 rw [DataW.weights, ht]
 refine DataW.weights_mem_each (j := j) ?_ hd n hn
 simp [hf])

theorem list_of {α : Type} (f : Nat → Option α) : ∀ n, (∀ i, i < n → ∃ x, f i = some x) → ∃ xs : List α, xs.length = n ∧ ∀ i (hi : i < xs.length), f i = some xs[i]
 | 0, _ => ⟨[], rfl, fun i hi => by simp at hi⟩
 | q + 1, h => by
  obtain ⟨xs, h1, h2⟩ := list_of f q (fun i hil => h i (by omega))
  obtain ⟨x, hx⟩ := h q (by omega)
  refine ⟨xs ++ [x], by simp [h1], fun i hi => ?_⟩
  by_cases e : i < xs.length
  ·rw [List.getElem_append_left e]; exact h2 i e
  ·have : i = xs.length := by simp at hi; omega
   subst this
   have hx' : f xs.length = some x := by rw [h1]; exact hx
   rw [hx']
   simp
/-- A slice whose elements are rows of k cells that say an α. -/
theorem open_rd_rows {α : Type} (en : α → List Value) (k : Nat) (ok : α → Prop) {W : World} {t e : TypeId} {fuel : Nat} {v : Value} {y : DataW H × List MemPlace} (ht : P.underlying t = some (.slice e)) (hC : P.cellsOf e = k) (hk : 0 < k) (hlen : ∀ x, (en x).length = k)
  (hdec : ∀ n cs y, DataW.trod enc P W 0 (fun _ => true) true n e cs = some y → Light P e y.1 → ∃ x : α, en x = cs ∧ ok x)
  (h : DataW.trod enc P W 0 (fun _ => true) true fuel t [v] = some y) (hs : Light P t y.1) :
  ∃ (A : Option Addr) (c : Nat) (xs : List α), v = .slice A xs.length c ∧ xs.length ≤ c ∧ Rd W W.heap.size k A xs.length (xs.flatMap en) ∧ ∀ x ∈ xs, ok x := by
 rcases open_slice ht h with ⟨hcs, _⟩ | ⟨a, len, cap, m, n, D, Pl, hcs, _, hl, hm, hmm, hx, hi⟩
 ·simp only [List.cons.injEq, and_true] at hcs
  subst hcs
  exact ⟨none, 0, [], rfl, Nat.le_refl _, by simpa using Rd.none_, fun x hx => by cases hx⟩
 ·simp only [List.cons.injEq, and_true] at hcs
  subst hcs
  simp only [if_true] at hmm
  subst hmm
  rw [hC] at hi
  have hall : ∀ i, i < len → ∃ x : α, ok x ∧ ∀ j, j < k → W.cell? ((a.add (i * k)).add j) = (en x)[j]? := by
   intro i hil
   obtain ⟨cs', hc, htr⟩ := hi i (by omega)
   obtain ⟨_, hcl, hat⟩ := World.cells?_some hc
   have hlt : Light P e (D i) := light_elem ht (by rw [hx] at hs; exact hs) (List.mem_map.2 ⟨i, List.mem_range.2 hil, rfl⟩)
   obtain ⟨x, hx1, hx2⟩ := hdec _ _ _ htr hlt
   exact ⟨x, hx2, fun j hj => by rw [hx1]; exact hat j hj⟩
  obtain ⟨f, hf⟩ : ∃ f : Nat → Option α, ∀ i, i < len → ∃ x, f i = some x ∧ ok x ∧ ∀ j, j < k → W.cell? ((a.add (i * k)).add j) = (en x)[j]? := by
   classical
   exact ⟨fun i => if h : i < len then some (Classical.choose (hall i h)) else none, fun i hil => ⟨_, by simp only [hil, dif_pos], (Classical.choose_spec (hall i hil)).1, (Classical.choose_spec (hall i hil)).2⟩⟩
  have hxs := list_of f len (fun i hil => by obtain ⟨x, h, _⟩ := hf i hil; exact ⟨x, h⟩)
  obtain ⟨xs, hxl, hxf⟩ := hxs
  have hat : ∀ i (hi : i < xs.length), ok xs[i] ∧ ∀ j, j < k → W.cell? ((a.add (i * k)).add j) = (en xs[i])[j]? := by
   intro i hi
   obtain ⟨x, h1, h2, h3⟩ := hf i (by omega)
   have : xs[i] = x := by have := hxf i hi; rw [h1] at this; exact (Option.some.inj this).symm
   rw [this]; exact ⟨h2, h3⟩
  refine ⟨some a, m, xs, by rw [hxl], by omega, ⟨flat_len en k hlen xs, fun hn => ?_⟩, fun x hx => ?_⟩
  ·have h0 := (hat 0 hn).2 0 hk
   have hne : (en xs[0])[0]? = some ((en xs[0])[0]'(by rw [hlen]; exact hk)) := List.getElem?_eq_getElem _
   rw [hne] at h0
   have hb : a.block < W.heap.size := by
    have := cell_lt h0
    simpa [Addr.add] using this
   have hsp : a.spot = none := by
    cases hs : a.spot with
    | none => rfl
    | some s =>
     exfalso
     simp only [Addr.add, Nat.zero_mul, if_pos, World.cell?, hs] at h0
     revert h0
     split <;> simp
   have hadd : ∀ q r : Nat, (a.add q).add r = ⟨a.block, a.off + (q + r), none⟩ := by
    intro q r
    unfold Addr.add
    by_cases h1 : q = 0
    ·subst h1
     by_cases h2 : r = 0
     ·subst h2; cases a; simp_all
     ·simp [h2]
    ·by_cases h2 : r = 0
     ·subst h2; simp [h1]
     ·simp [h1, h2, Nat.add_assoc]
   refine ⟨a, rfl, hb, hsp, fun j hj => ?_⟩
   have hq : j / k < xs.length := by rw [Nat.div_lt_iff_lt_mul hk]; exact hj
   have hm : j % k < k := Nat.mod_lt _ hk
   have h1 := (hat (j / k) hq).2 (j % k) hm
   have hdm : j / k * k + j % k = j := by rw [Nat.mul_comm]; exact Nat.div_add_mod j k
   rw [hadd, hdm] at h1
   rw [h1, ← flat_at en k hlen xs (j / k) (j % k) hq hm, hdm]
  ·obtain ⟨i, hi, e⟩ := List.mem_iff_getElem.1 hx
   rw [← e]; exact (hat i hi).1
end

/-- Of a length that any machine has. -/
def okS47 (s : Str) : Prop := s.length ≤ 140737488351232
section
variable {H : Type} {enc : TypeId × Value → H} {W : World}
theorem open_str {n : Nat} {cs : List Value} {y : DataW H × List MemPlace} (h : DataW.trod enc Tryz.prog W 0 (fun _ => true) true n 9 cs = some y) (hs : Light Tryz.prog 9 y.1) : ∃ s : Str, cs = [sv s] ∧ okS47 s := by
 obtain ⟨s, h1, h2, _⟩ := DataW.trod_string Tryz.underlying9 h
 refine ⟨s.data.toList, by rw [h1], ?_⟩
 have h3 := hs s.data.toList.length (by rw [h2, DataW.weights]; simp)
 exact h3
theorem svs_flat (xs : List Str) : svs xs = xs.flatMap (fun s => [sv s]) := by
 induction xs with
 | nil => rfl
 | cons x xs ih => simp only [svs, List.map_cons, List.flatMap_cons, List.singleton_append] at ih ⊢; rw [ih]
theorem open_rd_strs {fuel : Nat} {v : Value} {y : DataW H × List MemPlace} (h : DataW.trod enc Tryz.prog W 0 (fun _ => true) true fuel 26 [v] = some y) (hs : Light Tryz.prog 26 y.1) :
  ∃ (A : Option Addr) (c : Nat) (ss : List Str), v = .slice A ss.length c ∧ ss.length ≤ c ∧ Rd W W.heap.size 1 A ss.length (svs ss) ∧ ∀ s ∈ ss, okS47 s := by
 obtain ⟨A, c, xs, h1, h2, h3, h4⟩ := open_rd_rows (fun s : Str => [sv s]) 1 okS47 Tryz.underlying26 (by kernel_rfl) (by omega) (fun _ => rfl) (fun n cs y hy hl => by
  obtain ⟨s, h1, h2⟩ := open_str hy hl
  exact ⟨s, h1.symm, h2⟩) h hs
 exact ⟨A, c, xs, h1, h2, by rw [svs_flat]; exact h3, h4⟩
set_option maxRecDepth 100000 in
/-- The three fields of a row. -/
theorem fields3 {t : TypeId} {f0 f1 f2 : Field} {n : Nat} {cs : List Value} {y : DataW H × List MemPlace} (hu : Tryz.prog.underlying t = some (.struct #[f0, f1, f2])) (hone : oneCellFields Tryz.prog #[f0, f1, f2] = true) (hC : Tryz.prog.cellsOf t = 3) (h : DataW.trod enc Tryz.prog W 0 (fun _ => true) true n t cs = some y) (hs : Light Tryz.prog t y.1) :
  ∃ (c0 c1 c2 : Value) (y0 y1 y2 : DataW H × List MemPlace) (m : Nat), cs = [c0, c1, c2] ∧ DataW.trod enc Tryz.prog W 0 (fun _ => true) true m f0.type [c0] = some y0 ∧ DataW.trod enc Tryz.prog W 0 (fun _ => true) true m f1.type [c1] = some y1 ∧ DataW.trod enc Tryz.prog W 0 (fun _ => true) true m f2.type [c2] = some y2 ∧
   Light Tryz.prog f0.type y0.1 ∧ Light Tryz.prog f1.type y1.1 ∧ Light Tryz.prog f2.type y2.1 := by
 obtain ⟨xs, m, _, rfl, hl, hxl, hf⟩ := DataW.trod_struct hu h
 have hl3 : cs.length = 3 := hl.trans hC
 have hx3 : xs.length = 3 := hxl
 obtain ⟨o0, k0⟩ := hone_of hone 0 f0 rfl
 obtain ⟨o1, k1⟩ := hone_of hone 1 f1 rfl
 obtain ⟨o2, k2⟩ := hone_of hone 2 f2 rfl
 match xs, hx3, cs, hl3 with
 | [x0, x1, x2], _, [c0, c1, c2], _ =>
  exact ⟨c0, c1, c2, x0, x1, x2, m, rfl, by simpa [o0, k0] using hf 0 f0 rfl, by simpa [o1, k1] using hf 1 f1 rfl, by simpa [o2, k2] using hf 2 f2 rfl,
   light_part (j := 0) (d := x0.1) hu hs rfl rfl, light_part (j := 1) (d := x1.1) hu hs rfl rfl, light_part (j := 2) (d := x2.1) hu hs rfl rfl⟩
set_option maxRecDepth 100000 in
theorem open_ed {n : Nat} {cs : List Value} {y : DataW H × List MemPlace} (h : DataW.trod enc Tryz.prog W 0 (fun _ => true) true n 45 cs = some y) (hs : Light Tryz.prog 45 y.1) : ∃ e : Ed, edC e = cs ∧ okS47 e.1 ∧ okS47 e.2.1 := by
 obtain ⟨c0, c1, c2, y0, y1, y2, m, rfl, h0, h1, h2, l0, l1, _⟩ := fields3 Tryz.underlying45 (by kernel_rfl) (by kernel_rfl) h hs
 obtain ⟨s, e0, k0⟩ := open_str h0 l0
 obtain ⟨d, e1, k1⟩ := open_str h1 l1
 obtain ⟨r, e2, _⟩ := DataW.trod_int Tryz.underlying3 h2
 simp only [List.cons.injEq, and_true] at e0 e1 e2
 subst e0 e1 e2
 exact ⟨(s, d, r), rfl, k0, k1⟩
set_option maxRecDepth 100000 in
theorem open_nd {n : Nat} {cs : List Value} {y : DataW H × List MemPlace} (h : DataW.trod enc Tryz.prog W 0 (fun _ => true) true n 39 cs = some y) (hs : Light Tryz.prog 39 y.1) : ∃ e : Nd, ndC e = cs ∧ okS47 e.1 := by
 obtain ⟨c0, c1, c2, y0, y1, y2, m, rfl, h0, h1, h2, l0, _, _⟩ := fields3 Tryz.underlying39 (by kernel_rfl) (by kernel_rfl) h hs
 obtain ⟨s, e0, k0⟩ := open_str h0 l0
 obtain ⟨d, e1, _⟩ := DataW.trod_int Tryz.underlying3 h1
 obtain ⟨r, e2, _⟩ := DataW.trod_int Tryz.underlying3 h2
 simp only [List.cons.injEq, and_true] at e0 e1 e2
 subst e0 e1 e2
 exact ⟨(s, d, r), rfl, k0⟩
/-- A graph that came in. -/
def GraphIn (W : World) (v : Value) (ns : List Nd) (es : List Ed) : Prop := ∃ An cn Ae ce, v = .agg #[.slice An ns.length cn, .slice Ae es.length ce] ∧ ns.length ≤ cn ∧ es.length ≤ ce ∧ Rd W W.heap.size 3 An ns.length (ndsC ns) ∧ Rd W W.heap.size 3 Ae es.length (edsC es)
set_option maxRecDepth 100000 in
theorem open_graph {r : Reach} {b0 : Nat} {v : Value} {d : DataW H} {p : List MemPlace} (hv : Value.okWide Tryz.prog W r b0 25 v) (h : DataW.Trod enc Tryz.prog W 0 (fun _ => true) true 25 v d p) (hs : Light Tryz.prog 25 d) :
  ∃ ns es, GraphIn W v ns es ∧ (∀ n ∈ ns, okS47 n.1) ∧ ∀ e ∈ es, okS47 e.1 ∧ okS47 e.2.1 := by
 have hu := Tryz.underlying25
 obtain ⟨v0, v1, y0, y1, n, rfl, rfl, rfl, h0, h1⟩ := Joins.open_agg2 hu (by kernel_rfl) (by kernel_rfl) hv h
 have l0 := light_part (j := 0) (d := y0.1) hu hs rfl rfl
 have l1 := light_part (j := 1) (d := y1.1) hu hs rfl rfl
 obtain ⟨An, cn, ns, rfl, hc0, hr0, k0⟩ := open_rd_rows ndC 3 (fun n => okS47 n.1) Tryz.underlying22 (by kernel_rfl) (by omega) ndC_len (fun n cs y hy hl => open_nd hy hl) h0 l0
 obtain ⟨Ae, ce, es, rfl, hc1, hr1, k1⟩ := open_rd_rows edC 3 (fun e => okS47 e.1 ∧ okS47 e.2.1) Tryz.underlying23 (by kernel_rfl) (by omega) edC_len (fun n cs y hy hl => open_ed hy hl) h1 l1
 exact ⟨ns, es, ⟨An, cn, Ae, ce, rfl, hc0, hc1, hr0, hr1⟩, k0, k1⟩
end
end Go.Proofs.YtbllehjhmfehbaaGreat
end

section
/- The length of a graph's nodes, an argument. -/
namespace Go.Proofs.YtbllehjhmfehbaaGreat
open Go.ChangeShapes Go.WideShapes Go.ChangeAt Go.RowKit Go.Deep

section
variable {H : Type} {enc : TypeId × Value → H} {P : Program}
theorem open_rd_len {W : World} {t e : TypeId} {fuel : Nat} {A : Option Addr} {len c : Nat} {y : DataW H × List MemPlace} (ht : P.underlying t = some (.slice e)) (hB : 0 < P.bytesOf e)
  (h : DataW.trod enc P W 0 (fun _ => true) true fuel t [.slice A len c] = some y) (hs : Light P t y.1) : len ≤ reachBytes := by
 rcases open_slice ht h with ⟨hcs, _⟩ | ⟨a, len', cap, m, n, D, Pl, hcs, _, hl, hm, hmm, hx, hi⟩
 ·simp only [List.cons.injEq, and_true, Value.slice.injEq] at hcs
  omega
 ·simp only [List.cons.injEq, and_true, Value.slice.injEq] at hcs
  obtain ⟨_, rfl, _⟩ := hcs
  have h1 := hs _ (by rw [hx, DataW.weights, ht]; exact List.mem_cons_self)
  simp only [List.length_map, List.length_range] at h1
  refine Nat.le_trans ?_ h1
  exact Nat.le_trans (Nat.le_add_right _ _) (Nat.le_mul_of_pos_right _ hB)
end
section
variable {H : Type} {enc : TypeId × Value → H} {W : World}
end
end Go.Proofs.YtbllehjhmfehbaaGreat
end

section
/- A law's arguments opened for its walk: a graph, who is up, texts, a text, pulls. -/
namespace Go.Proofs.YtbllehjhmfehbaaGreat
open Go.ChangeShapes Go.WideShapes Go.ChangeAt Go.RowKit Go.Deep

section
variable {H : Type} {enc : TypeId × Value → H} {W : World}
set_option maxRecDepth 100000 in
theorem open_str_arg {r : Reach} {b0 : Nat} {v : Value} {d : DataW H} {p : List MemPlace} (hv : Value.okWide Tryz.prog W r b0 9 v) (h : DataW.Trod enc Tryz.prog W 0 (fun _ => true) true 9 v d p) (hs : Light Tryz.prog 9 d) : ∃ s : Str, v = sv s ∧ okS47 s := by
 obtain ⟨s, rfl⟩ := okWide_string Tryz.underlying9 hv
 obtain ⟨fuel, hf⟩ := h
 obtain ⟨s', h1, h2⟩ := open_str (cs := [.string s]) hf hs
 simp only [List.cons.injEq, and_true] at h1
 exact ⟨s', h1, h2⟩
set_option maxRecDepth 100000 in
/-- A graph that came in. -/
theorem open_gi {r : Reach} {b0 : Nat} {v : Value} {d : DataW H} {p : List MemPlace} (hv : Value.okWide Tryz.prog W r b0 25 v) (h : DataW.Trod enc Tryz.prog W 0 (fun _ => true) true 25 v d p) (hs : Light Tryz.prog 25 d) :
  ∃ (An Ae : Option Addr) (cn ce : Nat) (ns : List Nd) (es : List Ed), v = Od.gV An ns.length cn Ae es.length ce ∧ Od.GIw W An Ae ns es := by
 obtain ⟨ns, es, ⟨An, cn, Ae, ce, rfl, hcn, hce, hrn, hre⟩, kn, ke⟩ := open_graph hv h hs
 exact ⟨An, Ae, cn, ce, ns, es, rfl, hrn, hre, fun n hn => by have := kn n hn; unfold okS47 at this; omega, fun e he => ⟨Od.okS_of (ke e he).1, Od.okS_of (ke e he).2⟩⟩
set_option maxRecDepth 100000 in
/-- Who is up, who is half, as they came in. -/
theorem open_now {r : Reach} {b0 : Nat} {v : Value} {d : DataW H} {p : List MemPlace} (hv : Value.okWide Tryz.prog W r b0 28 v) (h : DataW.Trod enc Tryz.prog W 0 (fun _ => true) true 28 v d p) (hs : Light Tryz.prog 28 d) :
  ∃ (Au Ah : Option Addr) (cu ch : Nat) (up half : List Str), v = .agg #[.slice Au up.length cu, .slice Ah half.length ch] ∧ Od.NIn W Au Ah up half ∧ (∀ s ∈ up, okS47 s) ∧ (∀ s ∈ half, okS47 s) := by
 have hu := Tryz.underlying28
 obtain ⟨v0, v1, y0, y1, n, rfl, rfl, rfl, h0, h1⟩ := Joins.open_agg2 hu (by kernel_rfl) (by kernel_rfl) hv h
 have l0 := light_part (j := 0) (d := y0.1) hu hs rfl rfl
 have l1 := light_part (j := 1) (d := y1.1) hu hs rfl rfl
 obtain ⟨Au, cu, up, rfl, hc0, hr0, k0⟩ := open_rd_strs h0 l0
 obtain ⟨Ah, ch, half, rfl, hc1, hr1, k1⟩ := open_rd_strs h1 l1
 have e0 := open_rd_len Tryz.underlying26 (by decide +kernel) h0 l0
 have e1 := open_rd_len Tryz.underlying26 (by decide +kernel) h1 l1
 exact ⟨Au, Ah, cu, ch, up, half, rfl, ⟨⟨hr0, Nat.le_trans e0 (by decide)⟩, ⟨hr1, Nat.le_trans e1 (by decide)⟩⟩, k0, k1⟩
theorem okJ_of {s : Str} {t : Int} (hs : okS47 s) (ht : (Lit.int .i64 t).wf = true) : Od.okJ (s, t) := ⟨Od.okS_of hs, ht⟩
end
end Go.Proofs.YtbllehjhmfehbaaGreat
end
