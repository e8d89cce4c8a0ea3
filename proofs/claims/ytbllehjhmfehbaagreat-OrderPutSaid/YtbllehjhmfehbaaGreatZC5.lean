/- My texts, joined for the claim: LwSomeP Reg2 GLaw LwStraightP FrameS. -/
import Derived.Test.YtbllehjhmfehbaaGreatZC4
import Derived.Test.YtbllehjhmfehbaaGreatZC0
import Derived.Test.YtbllehjhmfehbaaGreatZC3
import Derived.Test.YtbllehjhmfehbaaGreatZC2
import Derived.Deep.DeepCutAuto

section
/- The walks of the laws' own helpers of layer 16: small, some. -/
namespace Go.Proofs.YtbllehjhmfehbaaGreat
open Go.RowKit Go.Sort

namespace Od
def smallB (ns : List Nd) (es : List Ed) : Bool := decide ((ns.length : Int) ≤ 64) && decide ((es.length : Int) ≤ 300)
theorem smallB_iff {ns : List Nd} {es : List Ed} : smallB ns es = true ↔ ns.length ≤ 64 ∧ es.length ≤ 300 := by
  simp [smallB]; omega
set_option maxHeartbeats 1000000 in
theorem small_any (An Ae : Option Addr) (cn ce : Nat) (ns : List Nd) (es : List Ed) (w : World) :
    Calls Tryz.prog 35 #[gV An ns.length cn Ae es.length ce] w fun e w' => e = .returned (.bool (smallB ns es)) ∧ Below w.heap.size w w' := by
  have HM := Lib.hid (show smallB ns es = (decide ((ns.length : Int) ≤ 64) && decide ((es.length : Int) ≤ 300)) from rfl)
  by_cases h1 : (ns.length : Int) ≤ 64
  · have d1 : decide ((ns.length : Int) ≤ 64) = true := by simpa using h1
    have D1 := Lib.hid d1
    go_enter Tryz.func35, Tryz.ntmps35
    go_wp2_with fail
    go_ret
    exact ⟨ret_bool (by rw [HM.out, D1.out]; simp), (by repeat (first | exact Below.refl _ _ | assumption | refine Below.alloc ?_ (by simp <;> omega) _ | refine Below.setCell ?_ (by simp <;> omega) _ | refine Below.drew ?_))⟩
  · have d1 : decide ((ns.length : Int) ≤ 64) = false := by simpa using h1
    have D1 := Lib.hid d1
    go_enter Tryz.func35, Tryz.ntmps35
    go_wp2_with fail
    go_ret
    exact ⟨ret_bool (by rw [HM.out, D1.out]; simp), (by repeat (first | exact Below.refl _ _ | assumption | refine Below.alloc ?_ (by simp <;> omega) _ | refine Below.setCell ?_ (by simp <;> omega) _ | refine Below.drew ?_))⟩
def nmA : Str := [97, 46, 116, 97, 114, 103, 101, 116]
def nmB : Str := [98, 46, 116, 97, 114, 103, 101, 116]
def nmC : Str := [99, 46, 116, 97, 114, 103, 101, 116]
def someNs : List Nd := [(nmA, 4, 1), (nmB, 4, 1), (nmC, 4, 1)]
def someEs : List Ed := [(nmA, nmB, 8), (nmB, nmA, 1), (nmB, nmA, 8), (nmB, nmC, 7)]
set_option maxRecDepth 100000 in
set_option maxHeartbeats 1000000 in
theorem some_any (w : World) : Calls Tryz.prog 76 #[] w (GraphIs someNs someEs w) := by
  go_enter Tryz.func76, Tryz.ntmps76
  go_wp2_with fail
  refine bodyPost_ret (v := gV (some ⟨w.heap.size + 1, 0, none⟩) 3 3 (some ⟨w.heap.size + 1 + 1, 0, none⟩) 4 4) (by simp [results, Tryz.results76, go_sem]) rfl ⟨_, 3, _, 4, rfl, Nat.le_refl _, Nat.le_refl _, ?_, ?_, (by repeat (first | exact Below.refl _ _ | assumption | refine Below.alloc ?_ (by simp <;> omega) _ | refine Below.setCell ?_ (by simp <;> omega) _ | refine Below.drew ?_))⟩
  · have h := Rd.lit (w.alloc (.cells #[.slice (some ⟨w.heap.size + 1, 0, none⟩) 3 3, .slice (some ⟨w.heap.size + 1 + 1, 0, none⟩) 4 4] 25)) (ndsC someNs) 39 3 3 rfl
    simp only [World.size_alloc] at h
    exact (h.alloc (by simp) _).more (by simp)
  · have h := Rd.lit ((w.alloc (.cells #[.slice (some ⟨w.heap.size + 1, 0, none⟩) 3 3, .slice (some ⟨w.heap.size + 1 + 1, 0, none⟩) 4 4] 25)).alloc (.cells (ndsC someNs).toArray 39)) (edsC someEs) 45 3 4 rfl
    simp only [World.size_alloc] at h
    exact h.more (by simp)
theorem sh1 : mayG someNs someEs = true := by decide +kernel
theorem sh2 : isB someEs = false := by decide +kernel
theorem sh3 : isB (straight someEs) = true := by decide +kernel
theorem sh4 : gone someEs = [(nmA, nmB, 8)] := by decide +kernel
theorem sh5 : sortU (straight someEs) [nmC, nmB, nmA] = some [nmA, nmB, nmC] := by decide +kernel
theorem sh6 : sortU someEs [nmA, nmB] = none := by decide +kernel
theorem sh7 : someEs.any (aheadB nmB nmC) = true := by decide +kernel
theorem sh8 : reachL (prsL (straight someEs)) nmA = [nmB, nmC] := by decide +kernel
theorem okSome : OkE someEs := by
  intro e he
  simp only [someEs, List.mem_cons, List.not_mem_nil, or_false] at he
  rcases he with rfl | rfl | rfl | rfl <;> exact ⟨by unfold okS maxLen; decide, by unfold okS maxLen; decide⟩
theorem okSomeN : OkNs someNs := by
  intro e he
  simp only [someNs, List.mem_cons, List.not_mem_nil, or_false] at he
  rcases he with rfl | rfl | rfl <;> decide
theorem okStraight {es : List Ed} (h : OkE es) : OkE (straight es) := fun e he => h e (List.mem_filter.1 he).1
theorem straight_len (es : List Ed) : (straight es).length ≤ es.length := List.length_filter_le _ _
theorem gone_len (es : List Ed) : (gone es).length ≤ es.length := List.length_filter_le _ _
set_option maxRecDepth 100000 in
set_option maxHeartbeats 8000000 in
theorem shown_any (w : World) : Calls Tryz.prog 34 #[] w fun e w' => e = .returned (.bool true) ∧ Below w.heap.size w w' := by
  have hq := ed_eql
  go_enter Tryz.func34, Tryz.ntmps34
  go_wp2_with fail
  refine (some_any w).mono ?_
  rintro e w1 ⟨An, cn, Ae, ce, rfl, hcn, hce, hrn, hre, hb⟩
  have HN := Lib.hid hrn
  have HE := Lib.hid hre
  have HB := Lib.hid hb
  clear hrn hre hb
  go_wp2_with fail
  first | (refine wp_named ?_; intro W1 hW) | (refine calls_named ?_; intro W1 hW)
  have B1 : Below w1.heap.size w1 W1 := by rw [hW]; exact (by repeat (first | exact Below.refl _ _ | assumption | refine Below.alloc ?_ (by simp <;> omega) _ | refine Below.setCell ?_ (by simp <;> omega) _ | refine Below.drew ?_))
  replace HN := Lib.hid (HN.out.at B1)
  replace HE := Lib.hid (HE.out.at B1)
  replace HB := Lib.hid (lift HB.out B1)
  have n1 : w1.heap.size < W1.heap.size := by rw [hW]; simp <;> omega
  have c0 : W1.cell? ⟨w1.heap.size, 0, none⟩ = some (.slice An someNs.length cn) := by rw [hW]; go_simp
  have c1 : W1.cell? ⟨w1.heap.size, 1, none⟩ = some (.slice Ae someEs.length ce) := by rw [hW]; go_simp
  clear hW
  clear B1
  refine (Straight_any An Ae cn ce someNs someEs W1 HN.out HE.out okSome (by decide) (by decide)).mono ?_
  rintro e w2 ⟨Bn, dn, Be, de, rfl, hdn, hde, hsn, hse, hb⟩
  have HSN := Lib.hid hsn
  have HSE := Lib.hid hse
  replace c0 := cellAt c0 hb (by omega)
  replace c1 := cellAt c1 hb (by omega)
  replace HN := Lib.hid (HN.out.at hb)
  replace HE := Lib.hid (HE.out.at hb)
  replace HB := Lib.hid (lift HB.out hb)
  replace n1 : w1.heap.size < w2.heap.size := ltAt n1 hb
  clear hsn hse hb
  go_wp2_with fail
  first | (refine wp_named ?_; intro W2 hW) | (refine calls_named ?_; intro W2 hW)
  have B2 : Below w2.heap.size w2 W2 := by rw [hW]; exact (by repeat (first | exact Below.refl _ _ | assumption | refine Below.alloc ?_ (by simp <;> omega) _ | refine Below.setCell ?_ (by simp <;> omega) _ | refine Below.drew ?_))
  replace c0 := cellAt c0 B2 (by omega)
  replace c1 := cellAt c1 B2 (by omega)
  replace HN := Lib.hid (HN.out.at B2)
  replace HE := Lib.hid (HE.out.at B2)
  replace HB := Lib.hid (lift HB.out B2)
  replace n1 : w1.heap.size < W2.heap.size := ltAt n1 B2
  replace HSN := Lib.hid (HSN.out.at B2)
  replace HSE := Lib.hid (HSE.out.at B2)
  have n2 : w2.heap.size < W2.heap.size := by rw [hW]; simp <;> omega
  have s0 : W2.cell? ⟨w2.heap.size, 0, none⟩ = some (.slice Bn someNs.length dn) := by rw [hW]; go_simp
  have s1 : W2.cell? ⟨w2.heap.size, 1, none⟩ = some (.slice Be (straight someEs).length de) := by rw [hW]; go_simp
  clear hW
  clear B2
  refine (Round_any An Ae someNs.length cn ce someEs W2 HE.out okSome (by decide)).mono ?_
  rintro e w3 ⟨Ar, cr, rfl, hcr, hrr, hb⟩
  rw [sh4] at hcr hrr ⊢
  have HR := Lib.hid hrr
  replace c0 := cellAt c0 hb (by omega)
  replace c1 := cellAt c1 hb (by omega)
  replace s0 := cellAt s0 hb (by omega)
  replace s1 := cellAt s1 hb (by omega)
  replace HN := Lib.hid (HN.out.at hb)
  replace HE := Lib.hid (HE.out.at hb)
  replace HB := Lib.hid (lift HB.out hb)
  replace n1 : w1.heap.size < w3.heap.size := ltAt n1 hb
  replace HSN := Lib.hid (HSN.out.at hb)
  replace HSE := Lib.hid (HSE.out.at hb)
  replace n2 : w2.heap.size < w3.heap.size := ltAt n2 hb
  clear hrr hb
  go_wp2_with fail
  first | (refine wp_named ?_; intro W3 hW) | (refine calls_named ?_; intro W3 hW)
  have B3 : Below w3.heap.size w3 W3 := by rw [hW]; exact (by repeat (first | exact Below.refl _ _ | assumption | refine Below.alloc ?_ (by simp <;> omega) _ | refine Below.setCell ?_ (by simp <;> omega) _ | refine Below.drew ?_))
  replace c0 := cellAt c0 B3 (by omega)
  replace c1 := cellAt c1 B3 (by omega)
  replace s0 := cellAt s0 B3 (by omega)
  replace s1 := cellAt s1 B3 (by omega)
  replace HN := Lib.hid (HN.out.at B3)
  replace HE := Lib.hid (HE.out.at B3)
  replace HB := Lib.hid (lift HB.out B3)
  replace n1 : w1.heap.size < W3.heap.size := ltAt n1 B3
  replace HSN := Lib.hid (HSN.out.at B3)
  replace HSE := Lib.hid (HSE.out.at B3)
  replace n2 : w2.heap.size < W3.heap.size := ltAt n2 B3
  replace HR := Lib.hid (HR.out.at B3)
  have hu3 : Rd W3 W3.heap.size 1 (some ⟨w3.heap.size, 0, none⟩) 3 (svs [nmC, nmB, nmA]) := by rw [hW]; exact Rd.lit w3 (svs [nmC, nmB, nmA]) 9 1 3 rfl
  clear hW
  have HU3 := Lib.hid hu3
  clear B3 hu3
  refine (Sort_any Bn Be someNs.length dn de (straight someEs) _ 3 [nmC, nmB, nmA] W3 HSE.out HU3.out (by decide) (by decide)).mono ?_
  rw [sh5]
  rintro e w4 ⟨Al, cl, rfl, hcl, hrl, hb⟩
  have HL := Lib.hid hrl
  replace c0 := cellAt c0 hb (by omega)
  replace c1 := cellAt c1 hb (by omega)
  replace s0 := cellAt s0 hb (by omega)
  replace s1 := cellAt s1 hb (by omega)
  replace HN := Lib.hid (HN.out.at hb)
  replace HE := Lib.hid (HE.out.at hb)
  replace HB := Lib.hid (lift HB.out hb)
  replace n1 : w1.heap.size < w4.heap.size := ltAt n1 hb
  replace HSN := Lib.hid (HSN.out.at hb)
  replace HSE := Lib.hid (HSE.out.at hb)
  replace n2 : w2.heap.size < w4.heap.size := ltAt n2 hb
  replace HR := Lib.hid (HR.out.at hb)
  clear hrl hb
  go_wp2_with fail
  first | (refine wp_named ?_; intro W4 hW) | (refine calls_named ?_; intro W4 hW)
  have B4 : Below w4.heap.size w4 W4 := by rw [hW]; exact (by repeat (first | exact Below.refl _ _ | assumption | refine Below.alloc ?_ (by simp <;> omega) _ | refine Below.setCell ?_ (by simp <;> omega) _ | refine Below.drew ?_))
  replace c0 := cellAt c0 B4 (by omega)
  replace c1 := cellAt c1 B4 (by omega)
  replace s0 := cellAt s0 B4 (by omega)
  replace s1 := cellAt s1 B4 (by omega)
  replace HN := Lib.hid (HN.out.at B4)
  replace HE := Lib.hid (HE.out.at B4)
  replace HB := Lib.hid (lift HB.out B4)
  replace n1 : w1.heap.size < W4.heap.size := ltAt n1 B4
  replace HSN := Lib.hid (HSN.out.at B4)
  replace HSE := Lib.hid (HSE.out.at B4)
  replace n2 : w2.heap.size < W4.heap.size := ltAt n2 B4
  replace HR := Lib.hid (HR.out.at B4)
  replace HL := Lib.hid (HL.out.at B4)
  have hu4 : Rd W4 W4.heap.size 1 (some ⟨w4.heap.size, 0, none⟩) 2 (svs [nmA, nmB]) := by rw [hW]; exact Rd.lit w4 (svs [nmA, nmB]) 9 1 2 rfl
  clear hW
  have HU4 := Lib.hid hu4
  clear B4 hu4
  refine (Sort_any An Ae someNs.length cn ce someEs _ 2 [nmA, nmB] W4 HE.out HU4.out (by decide) (by decide)).mono ?_
  rw [sh6]
  rintro e w5 ⟨Ay, cy, rfl, hcy, hry, hb⟩
  replace c0 := cellAt c0 hb (by omega)
  replace c1 := cellAt c1 hb (by omega)
  replace s0 := cellAt s0 hb (by omega)
  replace s1 := cellAt s1 hb (by omega)
  replace HN := Lib.hid (HN.out.at hb)
  replace HE := Lib.hid (HE.out.at hb)
  replace HB := Lib.hid (lift HB.out hb)
  replace n1 : w1.heap.size < w5.heap.size := ltAt n1 hb
  replace HSN := Lib.hid (HSN.out.at hb)
  replace HSE := Lib.hid (HSE.out.at hb)
  replace n2 : w2.heap.size < w5.heap.size := ltAt n2 hb
  replace HR := Lib.hid (HR.out.at hb)
  replace HL := Lib.hid (HL.out.at hb)
  clear hry hb
  go_wp2_with fail
  refine (MayG_any An Ae cn ce someNs someEs w5 HN.out HE.out (by decide) (by decide) okSomeN).mono ?_
  rw [sh1]
  rintro e w6 ⟨rfl, hb⟩
  replace c0 := cellAt c0 hb (by omega)
  replace c1 := cellAt c1 hb (by omega)
  replace s0 := cellAt s0 hb (by omega)
  replace s1 := cellAt s1 hb (by omega)
  replace HN := Lib.hid (HN.out.at hb)
  replace HE := Lib.hid (HE.out.at hb)
  replace HB := Lib.hid (lift HB.out hb)
  replace n1 : w1.heap.size < w6.heap.size := ltAt n1 hb
  replace HSN := Lib.hid (HSN.out.at hb)
  replace HSE := Lib.hid (HSE.out.at hb)
  replace n2 : w2.heap.size < w6.heap.size := ltAt n2 hb
  replace HR := Lib.hid (HR.out.at hb)
  replace HL := Lib.hid (HL.out.at hb)
  clear hb
  go_wp2_with fail
  refine (Is_any An Ae someNs.length cn ce someEs w6 HE.out okSome (by decide)).mono ?_
  rw [sh2]
  rintro e w7 ⟨rfl, hb⟩
  replace c0 := cellAt c0 hb (by omega)
  replace c1 := cellAt c1 hb (by omega)
  replace s0 := cellAt s0 hb (by omega)
  replace s1 := cellAt s1 hb (by omega)
  replace HN := Lib.hid (HN.out.at hb)
  replace HE := Lib.hid (HE.out.at hb)
  replace HB := Lib.hid (lift HB.out hb)
  replace n1 : w1.heap.size < w7.heap.size := ltAt n1 hb
  replace HSN := Lib.hid (HSN.out.at hb)
  replace HSE := Lib.hid (HSE.out.at hb)
  replace n2 : w2.heap.size < w7.heap.size := ltAt n2 hb
  replace HR := Lib.hid (HR.out.at hb)
  replace HL := Lib.hid (HL.out.at hb)
  clear hb
  go_wp2_with fail
  refine (Is_any Bn Be someNs.length dn de (straight someEs) w7 HSE.out (okStraight okSome) (by decide)).mono ?_
  rw [sh3]
  rintro e w8 ⟨rfl, hb⟩
  replace c0 := cellAt c0 hb (by omega)
  replace c1 := cellAt c1 hb (by omega)
  replace s0 := cellAt s0 hb (by omega)
  replace s1 := cellAt s1 hb (by omega)
  replace HN := Lib.hid (HN.out.at hb)
  replace HE := Lib.hid (HE.out.at hb)
  replace HB := Lib.hid (lift HB.out hb)
  replace n1 : w1.heap.size < w8.heap.size := ltAt n1 hb
  replace HSN := Lib.hid (HSN.out.at hb)
  replace HSE := Lib.hid (HSE.out.at hb)
  replace n2 : w2.heap.size < w8.heap.size := ltAt n2 hb
  replace HR := Lib.hid (HR.out.at hb)
  replace HL := Lib.hid (HL.out.at hb)
  clear hb
  obtain ⟨br, orr, hAr, hBr, r0, r1, r2⟩ := HR.out.edge (i := 0) (by decide)
  simp only [Nat.zero_mul, Nat.add_zero, List.getElem_cons_zero] at r0 r1 r2
  have he : edEq (nmA, nmB, (8 : Int)) ([97, 46, 116, 97, 114, 103, 101, 116], [98, 46, 116, 97, 114, 103, 101, 116], (8 : Int)) = true := by decide
  subst hAr
  go_wp2_with fail
  first | (refine wp_named ?_; intro W9 hW) | (refine calls_named ?_; intro W9 hW)
  have B9 : Below w8.heap.size w8 W9 := by rw [hW]; exact (by repeat (first | exact Below.refl _ _ | assumption | refine Below.alloc ?_ (by simp <;> omega) _ | refine Below.setCell ?_ (by simp <;> omega) _ | refine Below.drew ?_))
  replace c0 := cellAt c0 B9 (by omega)
  replace c1 := cellAt c1 B9 (by omega)
  replace s0 := cellAt s0 B9 (by omega)
  replace s1 := cellAt s1 B9 (by omega)
  replace HN := Lib.hid (HN.out.at B9)
  replace HE := Lib.hid (HE.out.at B9)
  replace HB := Lib.hid (lift HB.out B9)
  replace n1 : w1.heap.size < W9.heap.size := ltAt n1 B9
  replace HSN := Lib.hid (HSN.out.at B9)
  replace HSE := Lib.hid (HSE.out.at B9)
  replace n2 : w2.heap.size < W9.heap.size := ltAt n2 B9
  replace HR := Lib.hid (HR.out.at B9)
  replace HL := Lib.hid (HL.out.at B9)
  have hu9 : Rd W9 W9.heap.size 1 (some ⟨w8.heap.size, 0, none⟩) 3 (svs [nmA, nmB, nmC]) := by rw [hW]; exact Rd.lit w8 (svs [nmA, nmB, nmC]) 9 1 3 rfl
  clear hW
  have HU9 := Lib.hid hu9
  clear B9 hu9
  refine (Same_any Al _ cl 3 [nmA, nmB, nmC] [nmA, nmB, nmC] W9 HL.out HU9.out (by decide)).mono ?_
  rw [show decide ([nmA, nmB, nmC] = [nmA, nmB, nmC]) = true from by decide]
  rintro e v1 ⟨rfl, hb⟩
  replace c0 := cellAt c0 hb (by omega)
  replace c1 := cellAt c1 hb (by omega)
  replace s0 := cellAt s0 hb (by omega)
  replace s1 := cellAt s1 hb (by omega)
  replace HN := Lib.hid (HN.out.at hb)
  replace HE := Lib.hid (HE.out.at hb)
  replace HB := Lib.hid (lift HB.out hb)
  replace n1 : w1.heap.size < v1.heap.size := ltAt n1 hb
  replace HSN := Lib.hid (HSN.out.at hb)
  replace HSE := Lib.hid (HSE.out.at hb)
  replace n2 : w2.heap.size < v1.heap.size := ltAt n2 hb
  replace HR := Lib.hid (HR.out.at hb)
  replace HL := Lib.hid (HL.out.at hb)
  clear hb
  go_wp2_with fail
  refine (Ahead_any An Ae someNs.length cn ce someEs nmB nmC v1 HE.out (by decide)).mono ?_
  rw [sh7]
  rintro e v2 ⟨rfl, hb⟩
  replace c0 := cellAt c0 hb (by omega)
  replace c1 := cellAt c1 hb (by omega)
  replace s0 := cellAt s0 hb (by omega)
  replace s1 := cellAt s1 hb (by omega)
  replace HN := Lib.hid (HN.out.at hb)
  replace HE := Lib.hid (HE.out.at hb)
  replace HB := Lib.hid (lift HB.out hb)
  replace n1 : w1.heap.size < v2.heap.size := ltAt n1 hb
  replace HSN := Lib.hid (HSN.out.at hb)
  replace HSE := Lib.hid (HSE.out.at hb)
  replace n2 : w2.heap.size < v2.heap.size := ltAt n2 hb
  replace HR := Lib.hid (HR.out.at hb)
  replace HL := Lib.hid (HL.out.at hb)
  clear hb
  go_wp2_with fail
  refine (Behind_any Bn Be someNs.length dn de (straight someEs) nmA v2 HSE.out (okStraight okSome) (by unfold okS maxLen; decide) (by decide)).mono ?_
  rw [sh8]
  rintro e v3 ⟨Ab, cb, rfl, hob, hb⟩
  have HBb := Lib.hid (own_rd' hob)
  replace c0 := cellAt c0 hb (by omega)
  replace c1 := cellAt c1 hb (by omega)
  replace s0 := cellAt s0 hb (by omega)
  replace s1 := cellAt s1 hb (by omega)
  replace HN := Lib.hid (HN.out.at hb)
  replace HE := Lib.hid (HE.out.at hb)
  replace HB := Lib.hid (lift HB.out hb)
  replace n1 : w1.heap.size < v3.heap.size := ltAt n1 hb
  replace HSN := Lib.hid (HSN.out.at hb)
  replace HSE := Lib.hid (HSE.out.at hb)
  replace n2 : w2.heap.size < v3.heap.size := ltAt n2 hb
  replace HR := Lib.hid (HR.out.at hb)
  replace HL := Lib.hid (HL.out.at hb)
  clear hob hb
  go_wp2_with fail
  first | (refine wp_named ?_; intro V4 hW) | (refine calls_named ?_; intro V4 hW)
  have B4 : Below v3.heap.size v3 V4 := by rw [hW]; exact (by repeat (first | exact Below.refl _ _ | assumption | refine Below.alloc ?_ (by simp <;> omega) _ | refine Below.setCell ?_ (by simp <;> omega) _ | refine Below.drew ?_))
  replace c0 := cellAt c0 B4 (by omega)
  replace c1 := cellAt c1 B4 (by omega)
  replace s0 := cellAt s0 B4 (by omega)
  replace s1 := cellAt s1 B4 (by omega)
  replace HN := Lib.hid (HN.out.at B4)
  replace HE := Lib.hid (HE.out.at B4)
  replace HB := Lib.hid (lift HB.out B4)
  replace n1 : w1.heap.size < V4.heap.size := ltAt n1 B4
  replace HSN := Lib.hid (HSN.out.at B4)
  replace HSE := Lib.hid (HSE.out.at B4)
  replace n2 : w2.heap.size < V4.heap.size := ltAt n2 B4
  replace HR := Lib.hid (HR.out.at B4)
  replace HL := Lib.hid (HL.out.at B4)
  replace HBb := Lib.hid (HBb.out.at B4)
  have hu4 : Rd V4 V4.heap.size 1 (some ⟨v3.heap.size, 0, none⟩) 2 (svs [nmB, nmC]) := by rw [hW]; exact Rd.lit v3 (svs [nmB, nmC]) 9 1 2 rfl
  clear hW
  have HV4 := Lib.hid hu4
  clear B4 hu4
  refine (Same_any Ab _ cb 2 [nmB, nmC] [nmB, nmC] V4 HBb.out HV4.out (by decide)).mono ?_
  rw [show decide ([nmB, nmC] = [nmB, nmC]) = true from by decide]
  rintro e v5 ⟨rfl, hb⟩
  replace c0 := cellAt c0 hb (by omega)
  replace c1 := cellAt c1 hb (by omega)
  replace s0 := cellAt s0 hb (by omega)
  replace s1 := cellAt s1 hb (by omega)
  replace HN := Lib.hid (HN.out.at hb)
  replace HE := Lib.hid (HE.out.at hb)
  replace HB := Lib.hid (lift HB.out hb)
  replace n1 : w1.heap.size < v5.heap.size := ltAt n1 hb
  replace HSN := Lib.hid (HSN.out.at hb)
  replace HSE := Lib.hid (HSE.out.at hb)
  replace n2 : w2.heap.size < v5.heap.size := ltAt n2 hb
  replace HR := Lib.hid (HR.out.at hb)
  replace HL := Lib.hid (HL.out.at hb)
  replace HBb := Lib.hid (HBb.out.at hb)
  clear hb
  go_wp2_with fail
  go_ret
  exact ⟨rfl, HB.out⟩
end Od
end Go.Proofs.YtbllehjhmfehbaaGreat
end

section
/- The moves through a region that draws its order, shorter still (for texts whose bytes count). No program. -/
namespace Go.Proofs.YtbllehjhmfehbaaGreat
open Go.RowKit
section
variable {P : Program} {ops : Array Oper} {Q : Exit → Act → World → Prop} {md : Region.Mode} {S : World → Prop}
variable {dst : Option Tmp} {op : Op} {ty : TypeId} {pos : String} {aft : Array Edge} {grd : Option (Nat × Bool)} {fuel : Nat} {listed : Array Bool} {a : Act} {w : World}
theorem tV (i : Nat) (v : Value) (hy : ∀ w, S w → (execOp a.eval ⟨dst, op, ty, pos, aft, grd⟩).run P w = .ok (.value v) w) (h : wpAnyH P md ops Q S fuel (listed.setIfInBounds i true) (a.put dst v) w)
    (hi : ops[i]? = some ⟨dst, op, ty, pos, aft, grd⟩ := by rfl) (hS : S w := by assumption)
    (hs : Region.noSelect ops = true := by kernel_rfl) (hf : Region.free md ops listed i = true := by kernel_rfl) (hr : (Region.ready md ops listed).contains i = true := by kernel_rfl)
    (hQ : ∀ c a w, Q (.panic c) (a.put dst v) w → Q (.panic c) a w := by exact fun _ _ _ h => h) (hw : Region.wanted ⟨dst, op, ty, pos, aft, grd⟩ (yielded ops a.tmps) = true := by rfl) :
    wpAnyH P md ops Q S (fuel + 1) listed a w := take_yield hi hs hf hr hQ hw hy hS h
theorem tU (i : Nat) (h : wpAnyH P md ops Q S fuel (listed.setIfInBounds i true) (a.put dst undef) w)
    (hi : ops[i]? = some ⟨dst, op, ty, pos, aft, grd⟩ := by rfl) (hS : S w := by assumption)
    (hs : Region.noSelect ops = true := by kernel_rfl) (hf : Region.free md ops listed i = true := by kernel_rfl) (hr : (Region.ready md ops listed).contains i = true := by kernel_rfl)
    (hQ : ∀ c a w, Q (.panic c) (a.put dst undef) w → Q (.panic c) a w := by exact fun _ _ _ h => h) (hw : Region.wanted ⟨dst, op, ty, pos, aft, grd⟩ (yielded ops a.tmps) = false := by rfl) :
    wpAnyH P md ops Q S (fuel + 1) listed a w := take_skip hi hs hf hr hQ hw hS h
end
theorem bq {B : Nat} {w w' : World} (h : Below B w w' := by repeat (first | exact Below.refl _ _ | assumption | refine Below.alloc ?_ (by simp <;> omega) _ | refine Below.setCell ?_ (by simp <;> omega) _ | refine Below.drew ?_)) : Below B w w' := h
theorem bq2 {B : Nat} {w w' : World} (h : Below B w w' := by repeat (first | exact Below.refl _ _ | assumption | refine Below.alloc ?_ (by first | omega | (simp <;> omega)) _ | refine Below.setCell ?_ (by first | omega | (simp <;> omega)) _ | refine Below.drew ?_)) : Below B w w' := h
end Go.Proofs.YtbllehjhmfehbaaGreat
end

section
/- Plain laws of chapter 16: what the statements OrderStraight, OrderMost, OrderRow, OrderBehind, OrderPut say of lists. No program. -/
namespace Go.Proofs.YtbllehjhmfehbaaGreat
set_option linter.unusedSimpArgs false
namespace Od
/-- The order of edges. -/
def ltE (e f : Ed) : Bool := ltS e.1 f.1 || (e.1 == f.1 && (ltS e.2.1 f.2.1 || (e.2.1 == f.2.1 && decide (e.2.2 < f.2.2))))
theorem ltE_iff {e f : Ed} : ltE e f = true ↔ ltS e.1 f.1 = true ∨ (e.1 = f.1 ∧ (ltS e.2.1 f.2.1 = true ∨ (e.2.1 = f.2.1 ∧ e.2.2 < f.2.2))) := by
  simp [ltE]
theorem toE : TO ltE where
  irrefl x := by simp [ltE, toS.irrefl]
  trans {x y z} h1 h2 := by
    rw [ltE_iff] at *
    rcases h1 with h1 | ⟨a1, h1⟩
    · rcases h2 with h2 | ⟨a2, h2⟩
      · exact .inl (toS.trans h1 h2)
      · exact .inl (a2 ▸ h1)
    · rcases h2 with h2 | ⟨a2, h2⟩
      · exact .inl (a1 ▸ h2)
      · refine .inr ⟨a1.trans a2, ?_⟩
        rcases h1 with h1 | ⟨b1, h1⟩
        · rcases h2 with h2 | ⟨b2, h2⟩
          · exact .inl (toS.trans h1 h2)
          · exact .inl (b2 ▸ h1)
        · rcases h2 with h2 | ⟨b2, h2⟩
          · exact .inl (b1 ▸ h2)
          · exact .inr ⟨b1.trans b2, Int.lt_trans h1 h2⟩
  total {x y} h1 h2 := by
    have g1 : ¬ ltE x y = true := by simp [h1]
    have g2 : ¬ ltE y x = true := by simp [h2]
    rw [ltE_iff] at g1 g2
    simp only [not_or, not_and] at g1 g2
    have e1 : x.1 = y.1 := toS.total (by simpa using g1.1) (by simpa using g2.1)
    have k1 := g1.2 e1
    have k2 := g2.2 e1.symm
    have e2 : x.2.1 = y.2.1 := toS.total (by simpa using k1.1) (by simpa using k2.1)
    have l1 := k1.2 e2
    have l2 := k2.2 e2.symm
    exact Prod.ext e1 (Prod.ext e2 (by omega))
theorem lessS_eq (a b : Str) : lessS a b = ltS a b := rfl
theorem orI_one (x : Int) : orI [x] = x := by
  by_cases h : x = 0
  · subst h; rfl
  · exact orI_cons h []
theorem edgeCmp_lt {e f : Ed} : edgeCmp e f < 0 ↔ ltE e f = true := by
  rw [ltE_iff]
  unfold edgeCmp
  by_cases h1 : e.1 = f.1
  · have c1 : cmpS e.1 f.1 = 0 := by unfold cmpS; rw [lessS_eq, h1, toS.irrefl]; simp
    rw [c1, orI_cons0]
    have n1 : ¬ ltS e.1 f.1 = true := by rw [h1, toS.irrefl]; simp
    by_cases h2 : e.2.1 = f.2.1
    · have c2 : cmpS e.2.1 f.2.1 = 0 := by unfold cmpS; rw [lessS_eq, h2, toS.irrefl]; simp
      rw [c2, orI_cons0, orI_one]
      have n2 : ¬ ltS e.2.1 f.2.1 = true := by rw [h2, toS.irrefl]; simp
      simp only [n1, n2, h1, h2, false_or, true_and]
      unfold cmpI
      split
      · simp_all
      · split <;> simp_all
    · have c2 : cmpS e.2.1 f.2.1 ≠ 0 := by unfold cmpS; split <;> simp_all
      rw [orI_cons c2]
      simp only [n1, h1, h2, false_or, true_and, false_and, or_false]
      unfold cmpS
      rw [lessS_eq]
      split <;> simp_all
  · have c1 : cmpS e.1 f.1 ≠ 0 := by unfold cmpS; split <;> simp_all
    rw [orI_cons c1]
    simp only [h1, false_and, or_false]
    unfold cmpS
    rw [lessS_eq]
    split <;> simp_all
theorem rises_pairwise {α : Type} {c : α → α → Int} (ht : ∀ x y z, c x y < 0 → c y z < 0 → c x z < 0) : ∀ {l : List α}, risesB c l = true → l.Pairwise (fun x y => c x y < 0)
  | [], _ => .nil
  | [x], _ => List.pairwise_singleton _ _
  | x :: y :: r, h => by
    unfold risesB at h
    rw [Bool.and_eq_true, decide_eq_true_eq] at h
    have ih := rises_pairwise ht h.2
    refine List.pairwise_cons.2 ⟨fun z hz => ?_, ih⟩
    rcases List.mem_cons.1 hz with e | e
    · rw [e]; exact h.1
    · exact ht _ _ _ h.1 ((List.pairwise_cons.1 ih).1 z e)
theorem pairwise_rises {α : Type} {c : α → α → Int} : ∀ {l : List α}, l.Pairwise (fun x y => c x y < 0) → risesB c l = true
  | [], _ => rfl
  | [x], _ => rfl
  | x :: y :: r, h => by
    unfold risesB
    obtain ⟨h1, h2⟩ := List.pairwise_cons.1 h
    rw [Bool.and_eq_true, decide_eq_true_eq]
    exact ⟨h1 y (.head _), pairwise_rises h2⟩
theorem risesE_iff {es : List Ed} : risesB edgeCmp es = true ↔ SS ltE es := by
  constructor
  · intro h
    exact (rises_pairwise (c := edgeCmp) (fun x y z h1 h2 => edgeCmp_lt.2 (toE.trans (edgeCmp_lt.1 h1) (edgeCmp_lt.1 h2))) h).imp fun {a b} h => edgeCmp_lt.1 h
  · intro h
    exact pairwise_rises (h.imp fun {a b} h => edgeCmp_lt.2 h)
theorem mayG_iff {ns : List Nd} {es : List Ed} : mayG ns es = true ↔ ns.length ≤ 64 ∧ risesB nodeCmp ns = true ∧ SS ltE es ∧ ns.all mayN = true ∧ ∀ e ∈ es, edgeOk ns e = true := by
  unfold mayG
  rw [← risesE_iff]
  simp only [Bool.and_eq_true, Bool.not_eq_true', decide_eq_false_iff_not, List.all_eq_true]
  constructor
  · rintro ⟨h1, h2, h3, h4, h5⟩; exact ⟨by omega, h2, h3, h4, h5⟩
  · rintro ⟨h1, h2, h3, h4, h5⟩; exact ⟨by omega, h2, h3, h4, h5⟩
theorem mayG_filter {ns : List Nd} {es : List Ed} (p : Ed → Bool) (h : mayG ns es = true) : mayG ns (es.filter p) = true := by
  rw [mayG_iff] at *
  obtain ⟨h1, h2, h3, h4, h5⟩ := h
  exact ⟨h1, h2, h3.sublist List.filter_sublist, h4, fun e he => h5 e (List.mem_filter.1 he).1⟩
theorem mayG_straight {ns : List Nd} {es : List Ed} (h : mayG ns es = true) : mayG ns (straight es) = true := mayG_filter _ h
theorem edgeOk_ne {ns : List Nd} {e : Ed} (h : edgeOk ns e = true) : e.1 ≠ e.2.1 := by
  unfold edgeOk at h
  simp only [Bool.and_eq_true, Bool.not_eq_true', beq_eq_false_iff_ne] at h
  exact h.2.2.1
theorem isB_straight (es : List Ed) : isB (straight es) = true := isB_iff.2 (straight_acyclic es)
theorem isB_gone (es : List Ed) : isB es = decide ((gone es).length = 0) := by
  by_cases h : Acyclic (prsL es)
  · have h1 : isB es = true := isB_iff.2 h
    have h2 := stay_gone_len es
    rw [straight_of_acyclic h] at h2
    rw [h1]; simp; exact List.length_eq_zero_iff.1 (by omega)
  · have h1 : isB es = false := by cases h2 : isB es; rfl; exact absurd (isB_iff.1 h2) h
    rw [h1]; symm
    rw [decide_eq_false_iff_not]
    intro h0
    apply h
    have h2 := stay_gone_len es
    have h4 : (straight es).length = es.length := by omega
    have h3 : straight es = es := List.filter_sublist.eq_of_length h4
    rw [← h3]; exact straight_acyclic es
/-- An edge that is not in what was made straight says an order. -/
theorem gone_rel {es : List Ed} {e : Ed} (h : e ∈ es) (hn : e ∉ straight es) : e.2.2 = 8 ∨ e.2.2 = 7 := by
  have hs : stays es e = false := by
    cases h1 : stays es e
    · rfl
    · exact absurd (List.mem_filter.2 ⟨h, h1⟩) hn
  unfold stays pairE at hs
  by_cases h8 : e.2.2 = 8
  · exact .inl h8
  · by_cases h7 : e.2.2 = 7
    · exact .inr h7
    · simp [h8, h7] at hs
/-- The two that an edge parts: the first one ahead. -/
def turned (e : Ed) : Pr := if e.2.2 = 8 then (e.2.1, e.1) else (e.1, e.2.1)
theorem pairE_turned {e : Ed} (h : e.2.2 = 8 ∨ e.2.2 = 7) : pairE e = some (turned e) := by
  unfold pairE turned
  by_cases h8 : e.2.2 = 8
  · simp [h8]
  · simp [h8, h.resolve_left h8]
theorem turned_pairE {e : Ed} {p : Pr} (h : pairE e = some p) : p = turned e ∧ (e.2.2 = 8 ∨ e.2.2 = 7) := by
  unfold pairE at h; unfold turned
  by_cases h8 : e.2.2 = 8
  · simp [h8] at h ⊢; exact h.symm
  · by_cases h7 : e.2.2 = 7
    · simp [h7] at h ⊢; exact h.symm
    · simp [h8, h7] at h
/-- What went would go round, put back alone. -/
theorem gone_back {ns : List Nd} {es : List Ed} {e : Ed} (hm : mayG ns es = true) (h : e ∈ gone es) : (turned e).1 ∈ reachL (prsL (straight es)) (turned e).2 := by
  obtain ⟨h1, h2⟩ := List.mem_filter.1 h
  have hns : e ∉ straight es := fun hs => by have := (List.mem_filter.1 hs).2; simp [this] at h2
  have hr := gone_rel h1 hns
  have hp := pairE_turned hr
  have hmem : turned e ∈ prsL es := mem_prsL.2 ⟨e, h1, hp⟩
  have hnk : turned e ∉ keptL es := fun hk => by simp [stays, hp, hk] at h2
  have hne : (turned e).1 ≠ (turned e).2 := by
    have := edgeOk_ne ((mayG_iff.1 hm).2.2.2.2 e h1)
    unfold turned
    split
    · exact fun h => this h.symm
    · exact this
  rcases kept_or hmem with h3 | h3 | h3
  · exact absurd h3 hnk
  · exact absurd h3 hne
  · exact mem_reachL.2 (h3.mono fun p hp => mem_prs_straight.2 hp)
/-- The edges of an order between one and whom it needs. -/
def needE (es : List Ed) (e : Ed) : Bool := (e.2.2 == 8 || e.2.2 == 7) && needsB es (turned e)
theorem mem_prs_need {es : List Ed} {p : Pr} : p ∈ prsL (es.filter (needE es)) ↔ p ∈ (prsL es).filter (needsB es) := by
  rw [mem_prsL, List.mem_filter, mem_prsL]
  constructor
  · rintro ⟨e, he, hp⟩
    obtain ⟨h1, h2⟩ := List.mem_filter.1 he
    obtain ⟨h3, h4⟩ := turned_pairE hp
    unfold needE at h2
    rw [Bool.and_eq_true] at h2
    exact ⟨⟨e, h1, hp⟩, h3 ▸ h2.2⟩
  · rintro ⟨⟨e, he, hp⟩, hn⟩
    obtain ⟨h3, h4⟩ := turned_pairE hp
    refine ⟨e, List.mem_filter.2 ⟨he, ?_⟩, hp⟩
    unfold needE
    rw [Bool.and_eq_true]
    exact ⟨by rcases h4 with h | h <;> simp [h], h3 ▸ hn⟩
theorem need_stays {es : List Ed} (h : isB (es.filter (needE es)) = true) {e : Ed} (he : e ∈ es.filter (needE es)) : e ∈ straight es := by
  have ha : Acyclic ((prsL es).filter (needsB es)) := (isB_iff.1 h).mono fun p hp => mem_prs_need.2 hp
  obtain ⟨h1, h2⟩ := List.mem_filter.1 he
  unfold needE at h2
  rw [Bool.and_eq_true] at h2
  have hr : e.2.2 = 8 ∨ e.2.2 = 7 := by simpa using h2.1
  have hp := pairE_turned hr
  have hk := kept_needs ha (mem_prsL.2 ⟨e, h1, hp⟩) h2.2
  exact List.mem_filter.2 ⟨h1, by simp [stays, hp, hk]⟩
theorem ahead_prs {es : List Ed} {a b : Str} : es.any (aheadB a b) = true ↔ (a, b) ∈ prsL es := by
  rw [List.any_eq_true, mem_prsL]
  simp only [aheadB, pairOf_eq, beq_iff_eq]
/-- Behind those that are behind. -/
theorem reach_trans {l : List Pr} {a b c : Str} (h1 : b ∈ reachL l a) (h2 : c ∈ reachL l b) : c ∈ reachL l a :=
  mem_reachL.2 ((mem_reachL.1 h1).trans (mem_reachL.1 h2))
theorem ahead_reach {es : List Ed} {a b : Str} (h : es.any (aheadB a b) = true) : b ∈ reachL (prsL es) a := mem_reachL.2 (R.one (ahead_prs.1 h))
theorem not_behind_self (es : List Ed) (a : Str) : a ∉ reachL (prsL (straight es)) a := fun h => straight_acyclic es a (mem_reachL.1 h)
theorem okS_reach {es : List Ed} (h : OkE es) {a b : Str} (hb : b ∈ reachL (prsL es) a) : okS b := by
  have h1 := (mem_reachL.1 hb).in_snds
  obtain ⟨p, hp, rfl⟩ := List.mem_map.1 h1
  obtain ⟨e, he, h2⟩ := mem_prsL.1 hp
  obtain ⟨rfl, _⟩ := turned_pairE h2
  unfold turned
  split
  · exact (h e he).1
  · exact (h e he).2
/-! Sorting -/
theorem waits_mem {es : List Ed} {left : List Str} {b : Str} : waitsB es left b = true ↔ ∃ a ∈ left, (a, b) ∈ prsL es := by
  unfold waitsB
  rw [List.any_eq_true]
  constructor
  · rintro ⟨a, h1, h2⟩; exact ⟨a, h1, ahead_prs.1 h2⟩
  · rintro ⟨a, h1, h2⟩; exact ⟨a, h1, ahead_prs.2 h2⟩
theorem free_exists {es : List Ed} (h : Acyclic (prsL es)) {left : List Str} : ∀ (n : Nat) (u : Str), u ∈ left → (left.filter (fun w => decide (u ∈ reachL (prsL es) w))).length ≤ n → ∃ u ∈ left, waitsB es left u = false
  | n, u, hu, hn => by
    by_cases hw : waitsB es left u = true
    · obtain ⟨v, hv, hvu⟩ := waits_mem.1 hw
      have hlt : (left.filter (fun w => decide (v ∈ reachL (prsL es) w))).length < (left.filter (fun w => decide (u ∈ reachL (prsL es) w))).length := by
        have h1 : (left.filter (fun w => decide (v ∈ reachL (prsL es) w))) = (left.filter (fun w => decide (u ∈ reachL (prsL es) w))).filter (fun w => decide (v ∈ reachL (prsL es) w)) := by
          rw [List.filter_filter]
          refine List.filter_congr fun w _ => ?_
          by_cases hvw : v ∈ reachL (prsL es) w
          · have : u ∈ reachL (prsL es) w := mem_reachL.2 ((mem_reachL.1 hvw).snoc hvu)
            simp [hvw, this]
          · simp [hvw]
        rw [h1]
        refine Nat.lt_of_le_of_ne (List.length_filter_le _ _) fun e => ?_
        have h2 := List.length_filter_eq_length_iff.1 e v (List.mem_filter.2 ⟨hv, by simpa using mem_reachL.2 (R.one hvu)⟩)
        exact h v (mem_reachL.1 (by simpa using h2))
      cases n with
      | zero => omega
      | succ n => exact free_exists h n v hv (by omega)
    · exact ⟨u, hu, by simpa using hw⟩
theorem free_some {es : List Ed} (h : Acyclic (prsL es)) {x : Str} {r : List Str} : ∃ i, freeAt es (x :: r) = some i := by
  obtain ⟨u, hu, hf⟩ := free_exists h (left := x :: r) _ x (.head _) (Nat.le_refl _)
  cases hi : freeAt es (x :: r) with
  | some i => exact ⟨i, rfl⟩
  | none =>
    have := List.findIdx?_eq_none_iff.1 hi u hu
    simp [hf] at this
theorem sortGo_ends {es : List Ed} (h : Acyclic (prsL es)) : ∀ (n : Nat) (left out : List Str), left.length ≤ n → ∃ l, sortGo es n left out = some l
  | n, [], out, _ => ⟨out, sortGo_nil es n out⟩
  | 0, x :: r, out, hn => by simp at hn
  | n + 1, x :: r, out, hn => by
    obtain ⟨i, hi⟩ := free_some h (x := x) (r := r)
    have hi' : i < (x :: r).length := (List.findIdx?_eq_some_iff_getElem.1 hi).1
    simp only [sortGo, hi]
    exact sortGo_ends h n _ _ (by rw [List.length_eraseIdx, if_pos hi']; simp at hn ⊢; omega)
theorem sortU_some {es : List Ed} (h : Acyclic (prsL es)) (us : List Str) : ∃ l, sortU es us = some l := sortGo_ends h _ _ _ (Nat.le_refl _)
theorem perm_erase {α : Type} : ∀ {l : List α} {i : Nat} (hi : i < l.length), (l[i] :: l.eraseIdx i).Perm l
  | x :: r, 0, _ => .refl _
  | x :: r, i + 1, hi => by
    have hi' : i < r.length := by simpa using hi
    exact (List.Perm.swap x r[i] (r.eraseIdx i)).trans ((perm_erase hi').cons x)
theorem sortGo_ok {es : List Ed} : ∀ (n : Nat) (left out l : List Str), left.Nodup → sortGo es n left out = some l →
    ∃ r, l = out ++ r ∧ (∀ x, x ∈ r ↔ x ∈ left) ∧ r.Pairwise (fun a b => a ≠ b ∧ ¬ (b, a) ∈ prsL es)
  | n, [], out, l, _, h => by rw [sortGo_nil] at h; injection h with h; exact ⟨[], by simp [h], by simp, .nil⟩
  | 0, x :: r, out, l, _, h => by simp [sortGo] at h
  | n + 1, x :: r, out, l, hnd, h => by
    simp only [sortGo] at h
    cases hf : freeAt es (x :: r) with
    | none => rw [hf] at h; cases h
    | some i =>
      rw [hf] at h
      simp only at h
      obtain ⟨hi, hfree, _⟩ := List.findIdx?_eq_some_iff_getElem.1 hf
      have hget : (x :: r).getD i [] = (x :: r)[i] := by rw [List.getD_eq_getElem?_getD, List.getElem?_eq_getElem hi]; rfl
      rw [hget] at h
      have hperm : ∀ y, y ∈ (x :: r) ↔ y = (x :: r)[i] ∨ y ∈ (x :: r).eraseIdx i := fun y => by
        have := (perm_erase hi).mem_iff (a := y)
        rw [← this, List.mem_cons]
      obtain ⟨r', h1, h2, h3⟩ := sortGo_ok n _ _ l (hnd.sublist (List.eraseIdx_sublist _ _)) h
      refine ⟨(x :: r)[i] :: r', by rw [h1]; simp, fun y => ?_, List.pairwise_cons.2 ⟨fun y hy => ⟨?_, ?_⟩, h3⟩⟩
      · rw [List.mem_cons, h2, hperm]
      · intro e
        have hnd2 := (perm_erase hi).nodup_iff.2 hnd
        exact (List.nodup_cons.1 hnd2).1 (e ▸ (h2 y).1 hy)
      · intro hp
        have hw : waitsB es (x :: r) (x :: r)[i] = true := waits_mem.2 ⟨y, (hperm y).2 (.inr ((h2 y).1 hy)), hp⟩
        simp [hw] at hfree
theorem sortU_ok {es : List Ed} {us l : List Str} (h : sortU es us = some l) : (∀ x, x ∈ l ↔ x ∈ us) ∧ l.Pairwise (fun a b => a ≠ b ∧ es.any (aheadB b a) = false) := by
  obtain ⟨r, h1, h2, h3⟩ := sortGo_ok _ _ _ l ((canon_ss toS us).nodup toS) h
  rw [List.nil_append] at h1
  subst h1
  refine ⟨fun x => by rw [h2, mem_canon toS], h3.imp fun {a b} hab => ⟨hab.1, ?_⟩⟩
  cases h4 : es.any (aheadB b a)
  · rfl
  · exact absurd (ahead_prs.1 h4) hab.2
/-! Putting one edge in -/
def putF (x : Ed) (s : Bool × List Ed) (y : Ed) : Bool × List Ed := if (!s.1 && ltE x y) = true then (true, s.2 ++ [x] ++ [y]) else (s.1, s.2 ++ [y])
def putEnd (x : Ed) (s : Bool × List Ed) : List Ed := if s.1 = true then s.2 else s.2 ++ [x]
theorem putF_true (x : Ed) : ∀ (l acc : List Ed), l.foldl (putF x) (true, acc) = (true, acc ++ l)
  | [], acc => by simp
  | y :: l, acc => by rw [List.foldl_cons]; unfold putF; simp only [Bool.not_true, Bool.false_and]; exact (putF_true x l (acc ++ [y])).trans (by simp)
theorem putF_ins (x : Ed) : ∀ (l acc : List Ed), x ∉ l → putEnd x (l.foldl (putF x) (false, acc)) = acc ++ insL ltE x l
  | [], acc, _ => by simp [putEnd, insL]
  | y :: l, acc, h => by
    rw [List.foldl_cons]
    have hne : x ≠ y := fun e => h (e ▸ .head _)
    by_cases hlt : ltE x y = true
    · have h1 : putF x (false, acc) y = (true, acc ++ [x] ++ [y]) := by simp [putF, hlt]
      rw [h1, putF_true]
      have h2 : ltE y x = false := by
        cases h3 : ltE y x
        · rfl
        · have := toE.trans hlt h3; rw [toE.irrefl] at this; cases this
      simp [putEnd, insL, h2, hne.symm]
    · have h1 : putF x (false, acc) y = (false, acc ++ [y]) := by simp [putF, hlt]
      rw [h1, putF_ins x l _ (fun hm => h (.tail _ hm))]
      have h2 : ltE y x = true := by
        cases h3 : ltE y x
        · exact absurd (toE.total (by simpa using hlt) h3) hne
        · rfl
      simp [insL, h2]
theorem mem_prs_put {es : List Ed} {a b : Str} {p : Pr} : p ∈ prsL (insL ltE (b, a, 8) es) ↔ p ∈ prsL es ++ [(a, b)] := by
  rw [mem_prsL, List.mem_append, mem_prsL, List.mem_singleton]
  constructor
  · rintro ⟨e, he, hp⟩
    rcases mem_insL.1 he with h | h
    · subst h; simp [pairE] at hp; exact .inr hp.symm
    · exact .inl ⟨e, h, hp⟩
  · rintro (⟨e, he, hp⟩ | h)
    · exact ⟨e, mem_insL.2 (.inr he), hp⟩
    · exact ⟨(b, a, 8), mem_insL.2 (.inl rfl), by simp [pairE, h]⟩
structure PutOk (ns : List Nd) (es : List Ed) (a b : Str) : Prop where
  may : mayG ns es = true
  is : isB es = true
  na : (nodeOf ns a).isSome = true
  nb : (nodeOf ns b).isSome = true
  ne : a ≠ b
  st : ((nodeOf ns b).getD ([], 0, 0)).2.2 = 1
  nr : a ∉ reachL (prsL es) b
theorem put_acyclic {ns : List Nd} {es : List Ed} {a b : Str} (h : PutOk ns es a b) : Acyclic (prsL (insL ltE (b, a, 8) es)) :=
  ((isB_iff.1 h.is).app (p := (a, b)) h.ne (fun hr => h.nr (mem_reachL.2 hr))).mono fun _ hp => mem_prs_put.1 hp
theorem put_may {ns : List Nd} {es : List Ed} {a b : Str} (h : PutOk ns es a b) : mayG ns (insL ltE (b, a, 8) es) = true := by
  obtain ⟨h1, h2, h3, h4, h5⟩ := mayG_iff.1 h.may
  refine mayG_iff.2 ⟨h1, h2, h3.insL toE, h4, fun e he => ?_⟩
  rcases mem_insL.1 he with e1 | e1
  · subst e1
    have hst := h.st
    unfold edgeOk
    simp [h.na, h.nb, h.ne.symm, hst]
  · exact h5 e e1
theorem put_is {ns : List Nd} {es : List Ed} {a b : Str} (h : PutOk ns es a b) : isB (insL ltE (b, a, 8) es) = true := isB_iff.2 (put_acyclic h)
theorem put_straight {ns : List Nd} {es : List Ed} {a b : Str} (h : PutOk ns es a b) : straight (insL ltE (b, a, 8) es) = insL ltE (b, a, 8) es := straight_of_acyclic (put_acyclic h)
theorem put_ahead (es : List Ed) (a b : Str) : (insL ltE (b, a, 8) es).any (aheadB a b) = true := ahead_prs.2 (mem_prs_put.2 (by simp))
theorem put_len (es : List Ed) (x : Ed) : (insL ltE x es).length ≤ es.length + 1 := by
  induction es with
  | nil => simp [insL]
  | cons y r ih => unfold insL; split <;> simp <;> (try omega); split <;> simp
end Od
end Go.Proofs.YtbllehjhmfehbaaGreat
end

section
/- The walk of the law OrderStraight. (bel2) -/
namespace Go.Proofs.YtbllehjhmfehbaaGreat
open Go.RowKit Go.Sort

namespace Od
/-- What a law's walk starts from. -/
structure GIn (w : World) (An Ae : Option Addr) (cn ce : Nat) (ns : List Nd) (es : List Ed) : Prop where
  rn : Rd w w.heap.size 3 An ns.length (ndsC ns)
  re : Rd w w.heap.size 3 Ae es.length (edsC es)
  okn : OkNs ns
  oke : OkE es
theorem GIn.at {w w' : World} {An Ae : Option Addr} {cn ce : Nat} {ns : List Nd} {es : List Ed} (h : GIn w An Ae cn ce ns es) (hb : Below w.heap.size w w') : GIn w' An Ae cn ce ns es := ⟨h.rn.at hb, h.re.at hb, h.okn, h.oke⟩
theorem node_apart {w : World} {A : Option Addr} {ns : List Nd} {tB : Nat} (h : Rd w w.heap.size 3 A ns.length (ndsC ns)) (hz : ∀ (o : Nat) (v : Value), w.cell? ⟨tB, o, none⟩ = some v → v = .slice none 0 0) : ∀ ad : Addr, 0 < ns.length → A = some ad → tB ≠ ad.block := by
  intro ad hn e h2
  obtain ⟨b, o, hA, hB, x0, x1, x2⟩ := h.node hn
  have h3 : ad = ⟨b, o, none⟩ := Option.some.inj (e.symm.trans hA)
  subst h3
  subst h2
  have h4 := hz _ _ x0
  cases h4
theorem edge_apart {w : World} {A : Option Addr} {es : List Ed} {tB : Nat} (h : Rd w w.heap.size 3 A es.length (edsC es)) (hz : ∀ (o : Nat) (v : Value), w.cell? ⟨tB, o, none⟩ = some v → v = .slice none 0 0) : ∀ ad : Addr, 0 < es.length → A = some ad → tB ≠ ad.block := by
  intro ad hn e h2
  obtain ⟨b, o, hA, hB, x0, x1, x2⟩ := h.edge hn
  have h3 : ad = ⟨b, o, none⟩ := Option.some.inj (e.symm.trans hA)
  subst h3
  subst h2
  have h4 := hz _ _ x0
  cases h4
theorem new_cells (y : World) (t : TypeId) (o : Nat) (v : Value) (h : (y.alloc (.cells #[.slice none 0 0, .slice none 0 0] t)).cell? ⟨y.heap.size, o, none⟩ = some v) : v = .slice none 0 0 := by
  match o with
  | 0 => simp [World.cell?, World.alloc, -World.alloc_eq] at h; exact h.symm
  | 1 => simp [World.cell?, World.alloc, -World.alloc_eq] at h; exact h.symm
  | n + 2 => simp [World.cell?, World.alloc, -World.alloc_eq] at h
theorem cells_at {w w' : World} {tB B : Nat} (h : ∀ (o : Nat) (v : Value), w.cell? ⟨tB, o, none⟩ = some v → v = .slice none 0 0) (hb : Below B w w') (hlt : tB < B) : ∀ (o : Nat) (v : Value), w'.cell? ⟨tB, o, none⟩ = some v → v = .slice none 0 0 :=
  fun o v e => h o v ((hb.cell (p := ⟨tB, o, none⟩) hlt).symm.trans e)
section
variable {P : Program} {ops : Array Oper} {Q : Exit → Act → World → Prop} {md : Region.Mode} {S : World → Prop}
variable {i j : Nat} {dst dst2 : Option Tmp} {op op2 : Op} {ty ty2 : TypeId} {pos pos2 : String} {aft aft2 : Array Edge} {grd grd2 : Option (Nat × Bool)} {fuel : Nat} {listed : Array Bool} {a : Act} {w : World}
theorem ready_two (hi : ops[i]? = some ⟨dst, op, ty, pos, aft, grd⟩) (hj : ops[j]? = some ⟨dst2, op2, ty2, pos2, aft2, grd2⟩) (hr : Region.ready md ops listed = [i, j])
    (h : ∀ K' : Act → World → Prop, Shut (∀ a w, S w → (S w → wpAnyH P md ops Q S fuel (listed.setIfInBounds i true) a w) → K' a w) → if Region.wanted ⟨dst, op, ty, pos, aft, grd⟩ (yielded ops a.tmps) = true then Oper.wp P ⟨dst, op, ty, pos, aft, grd⟩ a w K' Q else K' (a.put dst undef) w)
    (h2 : ∀ K' : Act → World → Prop, Shut (∀ a w, S w → (S w → wpAnyH P md ops Q S fuel (listed.setIfInBounds j true) a w) → K' a w) → if Region.wanted ⟨dst2, op2, ty2, pos2, aft2, grd2⟩ (yielded ops a.tmps) = true then Oper.wp P ⟨dst2, op2, ty2, pos2, aft2, grd2⟩ a w K' Q else K' (a.put dst2 undef) w) :
    wpAnyH P md ops Q S (fuel + 1) listed a w :=
  wpAnyH_ready hr (by simp) (AllReadyH.cons hi h (AllReadyH.cons hj h2 AllReadyH.nil))
end
set_option maxRecDepth 100000 in
set_option maxHeartbeats 8000000 in
theorem orderStraight_any (An Ae : Option Addr) (cn ce : Nat) (ns : List Nd) (es : List Ed) (w : World) (hg : GIn w An Ae cn ce ns es) :
    Calls Tryz.prog 13 #[gV An ns.length cn Ae es.length ce] w fun e w' => e = .returned (.bool true) ∧ Below w.heap.size w w' := by
  have HG := Lib.hid hg
  clear hg
  go_enter Tryz.func13, Tryz.ntmps13
  go_wp2_with fail
  first | (refine wp_named ?_; intro W1 hW) | (refine calls_named ?_; intro W1 hW)
  have B1 : Below w.heap.size w W1 := by rw [hW]; exact (by repeat (first | exact Below.refl _ _ | assumption | refine Below.alloc ?_ (by first | omega | (simp <;> omega)) _ | refine Below.setCell ?_ (by first | omega | (simp <;> omega)) _ | refine Below.drew ?_))
  replace HG := Lib.hid (HG.out.at B1)
  have n1 : w.heap.size < W1.heap.size := by rw [hW]; simp <;> omega
  have c0 : W1.cell? ⟨w.heap.size, 0, none⟩ = some (.slice An ns.length cn) := by rw [hW]; go_simp
  have c1 : W1.cell? ⟨w.heap.size, 1, none⟩ = some (.slice Ae es.length ce) := by rw [hW]; go_simp
  clear hW
  have HB := Lib.hid B1
  clear B1
  refine (shown_any W1).mono ?_
  rintro e w2 ⟨rfl, hb⟩
  replace c0 := cellAt c0 hb (by omega)
  replace c1 := cellAt c1 hb (by omega)
  replace HG := Lib.hid (HG.out.at hb)
  replace n1 : w.heap.size < w2.heap.size := ltAt n1 hb
  replace HB := Lib.hid (lift HB.out hb)
  clear hb
  go_wp2_with fail
  refine (small_any An Ae cn ce ns es w2).mono ?_
  rintro e w3 ⟨rfl, hb⟩
  replace c0 := cellAt c0 hb (by omega)
  replace c1 := cellAt c1 hb (by omega)
  replace HG := Lib.hid (HG.out.at hb)
  replace n1 : w.heap.size < w3.heap.size := ltAt n1 hb
  replace HB := Lib.hid (lift HB.out hb)
  clear hb
  cases hsm : smallB ns es
  · go_wp2_with fail
    go_ret
    exact ⟨rfl, HB.out⟩
  · have hs2 := smallB_iff.1 hsm
    have hl1 := hs2.1
    have hl2 := hs2.2
    clear hs2
    go_wp2_with fail
    refine (MayG_any An Ae cn ce ns es w3 HG.out.rn HG.out.re (by omega) (by omega) HG.out.okn).mono ?_
    rintro e w4 ⟨rfl, hb⟩
    replace c0 := cellAt c0 hb (by omega)
    replace c1 := cellAt c1 hb (by omega)
    replace HG := Lib.hid (HG.out.at hb)
    replace n1 : w.heap.size < w4.heap.size := ltAt n1 hb
    replace HB := Lib.hid (lift HB.out hb)
    clear hb
    cases hm : mayG ns es
    · go_wp2_with fail
      go_ret
      exact ⟨rfl, HB.out⟩
    · have HM := Lib.hid hm
      clear hm
      have hsl := straight_len es
      have hgl := gone_len es
      have hwr : IntKind.i64.wrap (((straight es).length : Int) + ((gone es).length : Int)) = (es.length : Int) := by
        have h1 := stay_gone_len es
        rw [show ((straight es).length : Int) + ((gone es).length : Int) = (es.length : Int) by omega]
        exact IntWalk.i64_in _ (by omega)
      go_upto_region 5 with fail
      go_cut [3, 4] (fun v u wx => ∃ (tB : Nat) (Bn : Option Addr) (dn : Nat) (Be : Option Addr) (de : Nat) (Ar : Option Addr) (cr : Nat), v = .pointer (some ⟨tB, 0, none⟩) ∧ u = .slice Ar (gone es).length cr ∧ Hid (ns.length ≤ dn ∧ (straight es).length ≤ de ∧ (gone es).length ≤ cr) ∧ Hid (tB < wx.heap.size) ∧ Hid (wx.cell? ⟨tB, 0, none⟩ = some (.slice Bn ns.length dn)) ∧ Hid (wx.cell? ⟨tB, 1, none⟩ = some (.slice Be (straight es).length de)) ∧ Hid (Rd wx wx.heap.size 3 Bn ns.length (ndsC ns)) ∧ Hid (Rd wx wx.heap.size 3 Be (straight es).length (edsC (straight es))) ∧ Hid (Below w4.heap.size w4 wx))
      case first =>
        refine wp_region_held_drew (S := fun w' => Below w4.heap.size w4 w') (by kernel_rfl) (Below.drew (Below.refl _ _)) (fun hHeld => ?_)
        refine tY (i := 0) (v := ?_) rfl ?_ hHeld ?_; rotate_left 1; focus (intro w' hSw; have hCell := fun (b o : Nat) (h : b < w4.heap.size) => hSw.cell (p := ⟨b, o, none⟩) h; clear hSw; go_simp; try with_reducible rfl)
        (try simp only [Act.put, zn1, zn2, zn3])
        refine tY (i := 2) (v := ?_) rfl ?_ hHeld ?_; rotate_left 1; focus (intro w' hSw; have hCell := fun (b o : Nat) (h : b < w4.heap.size) => hSw.cell (p := ⟨b, o, none⟩) h; clear hSw; go_simp; try with_reducible rfl)
        (try simp only [Act.put, zn1, zn2, zn3])
        refine ready_two (i := 1) (j := 4) rfl rfl (by kernel_rfl) (fun K hK => ?_) (fun K hK => ?_)
        · skip
          go_simp
          refine (Straight_any An Ae cn ce ns es _ (HG.out.rn.at hHeld) (HG.out.re.at hHeld) HG.out.oke (by omega) (by omega)).mono ?_
          rintro e v1 ⟨Bn, dn, Be, de, rfl, hdn, hde, hsn, hse, hb⟩
          have HSN := Lib.hid hsn
          have HSE := Lib.hid hse
          have HBS := Lib.hid hb
          clear hsn hse
          refine hK.out _ _ ?_ (fun hHeld2 => ?_)
          · (try dsimp only); exact (Below.trans hHeld (Below.mono hb hHeld.size))
          clear hK K hHeld; have hHeld := hHeld2; clear hHeld2; (try simp only [Act.put, zn1, zn2, zn3])
          clear hb
          refine ready_two (i := 3) (j := 4) rfl rfl (by kernel_rfl) (fun K hK => ?_) (fun K hK => ?_)
          · skip
            go_simp
            refine (Round_any An Ae ns.length cn ce es _ (HG.out.re.at hHeld) HG.out.oke (by omega)).mono ?_
            rintro e v2 ⟨Ar, cr, rfl, hcr, hrr, hb⟩
            have HSN2 := Lib.hid (HSN.out.at hb)
            have HSE2 := Lib.hid (HSE.out.at hb)
            have HBR := Lib.hid hb
            clear hrr
            refine hK.out _ _ ?_ (fun hHeld2 => ?_)
            · (try dsimp only); exact (Below.trans hHeld (Below.mono hb hHeld.size))
            clear hK K hHeld; have hHeld := hHeld2; clear hHeld2; (try simp only [Act.put, zn1, zn2, zn3])
            clear hb
            refine ready_one (i := 4) rfl (by kernel_rfl) (fun K hK => ?_)
            go_simp
            have hk7 := hHeld
            have hz7 := hHeld.size
            refine hK.out _ _ ?_ (fun hHeld2 => ?_)
            · (try dsimp only); exact ((by repeat (first | exact Below.refl _ _ | assumption | refine Below.alloc ?_ (by first | omega | (simp <;> omega)) _ | refine Below.setCell ?_ (by first | omega | (simp <;> omega)) _ | refine Below.drew ?_)))
            clear hK K hHeld; have hHeld := hHeld2; clear hHeld2; (try simp only [Act.put, zn1, zn2, zn3])
            refine ready_one (i := 5) rfl (by kernel_rfl) (fun K hK => ?_)
            go_simp
            refine hK.out _ _ ?_ (fun hHeld2 => ?_)
            · (try dsimp only); exact ((by repeat (first | exact Below.refl _ _ | assumption | refine Below.alloc ?_ (by first | omega | (simp <;> omega)) _ | refine Below.setCell ?_ (by first | omega | (simp <;> omega)) _ | refine Below.drew ?_)))
            clear hK K hHeld; have hHeld := hHeld2; clear hHeld2; (try simp only [Act.put, zn1, zn2, zn3])
            refine ready_one (i := 6) rfl (by kernel_rfl) (fun K hK => ?_)
            go_simp
            refine hK.out _ _ ?_ (fun hHeld2 => ?_)
            · (try dsimp only); exact hHeld
            clear hK K hHeld; have hHeld := hHeld2; clear hHeld2; (try simp only [Act.put, zn1, zn2, zn3])
            refine wpAnyH_done (by kernel_rfl) ?_ _
            go_wp2_with fail
            go_meet
            refine ⟨_, Bn, dn, Be, de, Ar, cr, rfl, rfl, Lib.hid ⟨hdn, hde, hcr⟩, by simp [Hid], by show World.cell? _ _ = _; go_simp, by show World.cell? _ _ = _; go_simp, ?_, ?_, hHeld⟩
            · exact HSN2.out.at ((Below.refl _ _).alloc (Nat.le_refl _) _)
            · exact HSE2.out.at ((Below.refl _ _).alloc (Nat.le_refl _) _)
          · skip
            go_simp
            have z0 : (v1.alloc (.cells #[.slice none 0 0, .slice none 0 0] 25)).cell? ⟨v1.heap.size, 0, none⟩ = some (.slice none 0 0) := by go_simp
            have z1 : (v1.alloc (.cells #[.slice none 0 0, .slice none 0 0] 25)).cell? ⟨v1.heap.size, 1, none⟩ = some (.slice none 0 0) := by go_simp
            have f0 : (v1.alloc (.cells #[.slice none 0 0, .slice none 0 0] 25)).frozen? ⟨v1.heap.size, 0, none⟩ = false := by go_simp
            have f1 : (v1.alloc (.cells #[.slice none 0 0, .slice none 0 0] 25)).frozen? ⟨v1.heap.size, 1, none⟩ = false := by go_simp
            have zz : ∀ (o : Nat) (v : Value), (v1.alloc (.cells #[.slice none 0 0, .slice none 0 0] 25)).cell? ⟨v1.heap.size, o, none⟩ = some v → v = .slice none 0 0 := fun o v h => new_cells _ _ o v h
            have lz : v1.heap.size < (v1.alloc (.cells #[.slice none 0 0, .slice none 0 0] 25)).heap.size := by simp
            have hwb : w4.heap.size ≤ v1.heap.size := by first | exact Nat.le_refl _ | exact hHeld.size
            have ZZ := Lib.hid zz
            clear zz
            have hbz : Below v1.heap.size v1 (v1.alloc (.cells #[.slice none 0 0, .slice none 0 0] 25)) := (Below.refl _ _).alloc (Nat.le_refl _) _
            have hsn2 := HSN.out.at hbz
            have hse2 := HSE.out.at hbz
            clear hbz
            refine hK.out _ _ ?_ (fun hHeld2 => ?_)
            · (try dsimp only); exact ((by repeat (first | exact Below.refl _ _ | assumption | refine Below.alloc ?_ (by first | omega | (simp <;> omega)) _ | refine Below.setCell ?_ (by first | omega | (simp <;> omega)) _ | refine Below.drew ?_)))
            clear hK K hHeld; have hHeld := hHeld2; clear hHeld2; (try simp only [Act.put, zn1, zn2, zn3])
            clear HSN HSE HBS
            have HSN := Lib.hid hsn2
            have HSE := Lib.hid hse2
            clear hsn2 hse2
            generalize hwz : v1.alloc (.cells #[.slice none 0 0, .slice none 0 0] 25) = wz at *
            generalize htB : v1.heap.size = tB at *
            clear hwz
            refine ready_one (i := 3) rfl (by kernel_rfl) (fun K hK => ?_)
            go_simp
            refine (Round_any An Ae ns.length cn ce es _ (HG.out.re.at hHeld) HG.out.oke (by omega)).mono ?_
            rintro e v2 ⟨Ar, cr, rfl, hcr, hrr, hb⟩
            have HSN2 := Lib.hid (HSN.out.at hb)
            have HSE2 := Lib.hid (HSE.out.at hb)
            have HBR := Lib.hid hb
            clear hrr
            refine hK.out _ _ ?_ (fun hHeld2 => ?_)
            · (try dsimp only); exact (Below.trans hHeld (Below.mono hb hHeld.size))
            clear hK K hHeld; have hHeld := hHeld2; clear hHeld2; (try simp only [Act.put, zn1, zn2, zn3])
            clear hb
            have z0 := cellAt z0 HBR.out lz
            have z1 := cellAt z1 HBR.out lz
            have f0 := froAt f0 HBR.out lz
            have f1 := froAt f1 HBR.out lz
            have ZZ := Lib.hid (cells_at ZZ.out HBR.out lz)
            have lz := ltAt lz HBR.out
            have hneN := node_apart HSN2.out ZZ.out
            have hneE := edge_apart HSE2.out ZZ.out
            refine ready_one (i := 5) rfl (by kernel_rfl) (fun K hK => ?_)
            go_simp
            refine hK.out _ _ ?_ (fun hHeld2 => ?_)
            · (try dsimp only); exact ((hHeld.setCell hwb _).setCell hwb _)
            clear hK K hHeld; have hHeld := hHeld2; clear hHeld2; (try simp only [Act.put, zn1, zn2, zn3])
            refine ready_one (i := 6) rfl (by kernel_rfl) (fun K hK => ?_)
            go_simp
            refine hK.out _ _ ?_ (fun hHeld2 => ?_)
            · (try dsimp only); exact hHeld
            clear hK K hHeld; have hHeld := hHeld2; clear hHeld2; (try simp only [Act.put, zn1, zn2, zn3])
            refine wpAnyH_done (by kernel_rfl) ?_ _
            go_wp2_with fail
            go_meet
            refine ⟨tB, Bn, dn, Be, de, Ar, cr, rfl, rfl, Lib.hid ⟨hdn, hde, hcr⟩, ?_, ?_, ?_, ?_, ?_, hHeld⟩
            · show tB < _
              simp only [World.size_setCell]; exact lz
            · show World.cell? _ _ = _
              rw [World.cell?_setCell_other _ _ _ _ (by simp)]
              exact World.cell?_setCell_same _ _ _ z0
            · show World.cell? _ _ = _
              exact World.cell?_setCell_same _ _ _ ((World.cell?_setCell_other _ _ _ _ (by simp)).trans z1)
            · show Rd _ _ _ _ _ _
              simp only [World.size_setCell]
              exact (HSN2.out.setCellF (p := ⟨tB, 0, none⟩) hneN _).setCellF (p := ⟨tB, 1, none⟩) hneN _
            · show Rd _ _ _ _ _ _
              simp only [World.size_setCell]
              exact (HSE2.out.setCellF (p := ⟨tB, 0, none⟩) hneE _).setCellF (p := ⟨tB, 1, none⟩) hneE _
        · skip
          go_simp
          have z0 : ((w4.alloc (.cells #[.slice none 0 0, .slice none 0 0] 25)).drew).cell? ⟨w4.heap.size, 0, none⟩ = some (.slice none 0 0) := by go_simp
          have z1 : ((w4.alloc (.cells #[.slice none 0 0, .slice none 0 0] 25)).drew).cell? ⟨w4.heap.size, 1, none⟩ = some (.slice none 0 0) := by go_simp
          have f0 : ((w4.alloc (.cells #[.slice none 0 0, .slice none 0 0] 25)).drew).frozen? ⟨w4.heap.size, 0, none⟩ = false := by go_simp
          have f1 : ((w4.alloc (.cells #[.slice none 0 0, .slice none 0 0] 25)).drew).frozen? ⟨w4.heap.size, 1, none⟩ = false := by go_simp
          have zz : ∀ (o : Nat) (v : Value), ((w4.alloc (.cells #[.slice none 0 0, .slice none 0 0] 25)).drew).cell? ⟨w4.heap.size, o, none⟩ = some v → v = .slice none 0 0 := fun o v h => new_cells _ _ o v h
          have lz : w4.heap.size < ((w4.alloc (.cells #[.slice none 0 0, .slice none 0 0] 25)).drew).heap.size := by simp
          have hwb : w4.heap.size ≤ w4.heap.size := by first | exact Nat.le_refl _ | exact hHeld.size
          have ZZ := Lib.hid zz
          clear zz
          refine hK.out _ _ ?_ (fun hHeld2 => ?_)
          · (try dsimp only); exact ((by repeat (first | exact Below.refl _ _ | assumption | refine Below.alloc ?_ (by first | omega | (simp <;> omega)) _ | refine Below.setCell ?_ (by first | omega | (simp <;> omega)) _ | refine Below.drew ?_)))
          clear hK K hHeld; have hHeld := hHeld2; clear hHeld2; (try simp only [Act.put, zn1, zn2, zn3])
          generalize hwz : (w4.alloc (.cells #[.slice none 0 0, .slice none 0 0] 25)).drew = wz at *
          clear hwz
          refine ready_one (i := 1) rfl (by kernel_rfl) (fun K hK => ?_)
          go_simp
          refine (Straight_any An Ae cn ce ns es _ (HG.out.rn.at hHeld) (HG.out.re.at hHeld) HG.out.oke (by omega) (by omega)).mono ?_
          rintro e v1 ⟨Bn, dn, Be, de, rfl, hdn, hde, hsn, hse, hb⟩
          have HSN := Lib.hid hsn
          have HSE := Lib.hid hse
          have HBS := Lib.hid hb
          clear hsn hse
          refine hK.out _ _ ?_ (fun hHeld2 => ?_)
          · (try dsimp only); exact (Below.trans hHeld (Below.mono hb hHeld.size))
          clear hK K hHeld; have hHeld := hHeld2; clear hHeld2; (try simp only [Act.put, zn1, zn2, zn3])
          clear hb
          have z0 := cellAt z0 HBS.out lz
          have z1 := cellAt z1 HBS.out lz
          have f0 := froAt f0 HBS.out lz
          have f1 := froAt f1 HBS.out lz
          have ZZ := Lib.hid (cells_at ZZ.out HBS.out lz)
          have lz := ltAt lz HBS.out
          refine ready_one (i := 3) rfl (by kernel_rfl) (fun K hK => ?_)
          go_simp
          refine (Round_any An Ae ns.length cn ce es _ (HG.out.re.at hHeld) HG.out.oke (by omega)).mono ?_
          rintro e v2 ⟨Ar, cr, rfl, hcr, hrr, hb⟩
          have HSN2 := Lib.hid (HSN.out.at hb)
          have HSE2 := Lib.hid (HSE.out.at hb)
          have HBR := Lib.hid hb
          clear hrr
          refine hK.out _ _ ?_ (fun hHeld2 => ?_)
          · (try dsimp only); exact (Below.trans hHeld (Below.mono hb hHeld.size))
          clear hK K hHeld; have hHeld := hHeld2; clear hHeld2; (try simp only [Act.put, zn1, zn2, zn3])
          clear hb
          have z0 := cellAt z0 HBR.out lz
          have z1 := cellAt z1 HBR.out lz
          have f0 := froAt f0 HBR.out lz
          have f1 := froAt f1 HBR.out lz
          have ZZ := Lib.hid (cells_at ZZ.out HBR.out lz)
          have lz := ltAt lz HBR.out
          have hneN := node_apart HSN2.out ZZ.out
          have hneE := edge_apart HSE2.out ZZ.out
          refine ready_one (i := 5) rfl (by kernel_rfl) (fun K hK => ?_)
          go_simp
          refine hK.out _ _ ?_ (fun hHeld2 => ?_)
          · (try dsimp only); exact ((hHeld.setCell hwb _).setCell hwb _)
          clear hK K hHeld; have hHeld := hHeld2; clear hHeld2; (try simp only [Act.put, zn1, zn2, zn3])
          refine ready_one (i := 6) rfl (by kernel_rfl) (fun K hK => ?_)
          go_simp
          refine hK.out _ _ ?_ (fun hHeld2 => ?_)
          · (try dsimp only); exact hHeld
          clear hK K hHeld; have hHeld := hHeld2; clear hHeld2; (try simp only [Act.put, zn1, zn2, zn3])
          refine wpAnyH_done (by kernel_rfl) ?_ _
          go_wp2_with fail
          go_meet
          refine ⟨w4.heap.size, Bn, dn, Be, de, Ar, cr, rfl, rfl, Lib.hid ⟨hdn, hde, hcr⟩, ?_, ?_, ?_, ?_, ?_, hHeld⟩
          · show w4.heap.size < _
            simp only [World.size_setCell]; exact lz
          · show World.cell? _ _ = _
            rw [World.cell?_setCell_other _ _ _ _ (by simp)]
            exact World.cell?_setCell_same _ _ _ z0
          · show World.cell? _ _ = _
            exact World.cell?_setCell_same _ _ _ ((World.cell?_setCell_other _ _ _ _ (by simp)).trans z1)
          · show Rd _ _ _ _ _ _
            simp only [World.size_setCell]
            exact (HSN2.out.setCellF (p := ⟨w4.heap.size, 0, none⟩) hneN _).setCellF (p := ⟨w4.heap.size, 1, none⟩) hneN _
          · show Rd _ _ _ _ _ _
            simp only [World.size_setCell]
            exact (HSE2.out.setCellF (p := ⟨w4.heap.size, 0, none⟩) hneE _).setCellF (p := ⟨w4.heap.size, 1, none⟩) hneE _
      case rest =>
      obtain ⟨tB, Bn, dn, Be, de, Ar, cr, rfl, rfl, HCp, HLt, HT0, HT1, HSN2, HSE2, HB5⟩ := hcut
      obtain ⟨hdn, hde, hcr⟩ := HCp.out
      replace c0 := cellAt c0 HB5.out (by omega)
      replace c1 := cellAt c1 HB5.out (by omega)
      replace HG := Lib.hid (HG.out.at HB5.out)
      replace n1 : w.heap.size < wc.heap.size := ltAt n1 HB5.out
      replace HB := Lib.hid (lift HB.out HB5.out)
      obtain ⟨W5, rfl⟩ : ∃ wo : World, wo = wc := ⟨_, rfl⟩
      have m5 := HLt.out
      have s0 := HT0.out
      have s1 := HT1.out
      clear HLt HT0 HT1 HCp
      try go_wp2_with fail
      refine wp_region_held_drew (S := fun w' => Below W5.heap.size W5 w') (by kernel_rfl) (Below.drew (Below.refl _ _)) (fun hHeld => ?_)
      refine tY (i := 0) (v := ?_) rfl ?_ hHeld ?_; rotate_left 1; focus (intro w' hSw; have hCell := fun (b o : Nat) (h : b < W5.heap.size) => hSw.cell (p := ⟨b, o, none⟩) h; clear hSw; go_simp; try with_reducible rfl)
      (try simp only [Act.put, zn1, zn2, zn3])
      refine ready_one (i := 1) rfl (by kernel_rfl) (fun K hK => ?_)
      go_simp
      refine (MayG_any Bn Be dn de ns (straight es) _ (HSN2.out.at hHeld) (HSE2.out.at hHeld) (by omega) (by omega) HG.out.okn).mono ?_
      rw [mayG_straight HM.out]
      rintro e u1 ⟨rfl, hb⟩
      refine hK.out _ _ ?_ (fun hHeld2 => ?_)
      · (try dsimp only); first | exact Below.trans hHeld (Below.mono hb hHeld.size) | exact hHeld | exact Below.drew hHeld | exact (by repeat (first | exact Below.refl _ _ | assumption | refine Below.alloc ?_ (by first | omega | (simp <;> omega)) _ | refine Below.setCell ?_ (by first | omega | (simp <;> omega)) _ | refine Below.drew ?_))
      clear hK K hHeld; have hHeld := hHeld2; clear hHeld2; (try simp only [Act.put, zn1, zn2, zn3])
      refine tY (i := 2) (v := ?_) rfl ?_ hHeld ?_; rotate_left 1; focus (intro w' hSw; clear hSw; go_simp; try with_reducible rfl)
      (try simp only [Act.put, zn1, zn2, zn3])
      refine tY (i := 3) (v := ?_) rfl ?_ hHeld ?_; rotate_left 1; focus (intro w' hSw; clear hSw; go_simp; try with_reducible rfl)
      (try simp only [Act.put, zn1, zn2, zn3])
      refine tY (i := 4) (v := ?_) rfl ?_ hHeld ?_; rotate_left 1; focus (intro w' hSw; have hCell := fun (b o : Nat) (h : b < W5.heap.size) => hSw.cell (p := ⟨b, o, none⟩) h; clear hSw; go_simp; try with_reducible rfl)
      (try simp only [Act.put, zn1, zn2, zn3])
      refine ready_one (i := 5) rfl (by kernel_rfl) (fun K hK => ?_)
      go_simp
      refine (Is_any Bn Be ns.length dn de (straight es) _ (HSE2.out.at hHeld) (okStraight HG.out.oke) (by omega)).mono ?_
      rw [isB_straight]
      rintro e u2 ⟨rfl, hb⟩
      refine hK.out _ _ ?_ (fun hHeld2 => ?_)
      · (try dsimp only); first | exact Below.trans hHeld (Below.mono hb hHeld.size) | exact hHeld | exact Below.drew hHeld | exact (by repeat (first | exact Below.refl _ _ | assumption | refine Below.alloc ?_ (by first | omega | (simp <;> omega)) _ | refine Below.setCell ?_ (by first | omega | (simp <;> omega)) _ | refine Below.drew ?_))
      clear hK K hHeld; have hHeld := hHeld2; clear hHeld2; (try simp only [Act.put, zn1, zn2, zn3])
      refine tY (i := 6) (v := ?_) rfl ?_ hHeld ?_; rotate_left 1; focus (intro w' hSw; clear hSw; go_simp; try with_reducible rfl)
      (try simp only [Act.put, zn1, zn2, zn3])
      refine tY (i := 7) (v := ?_) rfl ?_ hHeld ?_; rotate_left 1; focus (intro w' hSw; clear hSw; go_simp; try with_reducible rfl)
      (try simp only [Act.put, zn1, zn2, zn3])
      refine tY (i := 8) (v := ?_) rfl ?_ hHeld ?_; rotate_left 1; focus (intro w' hSw; clear hSw; go_simp; try with_reducible rfl)
      (try simp only [Act.put, zn1, zn2, zn3])
      refine tY (i := 9) (v := ?_) rfl ?_ hHeld ?_; rotate_left 1; focus (intro w' hSw; have hCell := fun (b o : Nat) (h : b < W5.heap.size) => hSw.cell (p := ⟨b, o, none⟩) h; clear hSw; go_simp; try with_reducible rfl)
      (try simp only [Act.put, zn1, zn2, zn3])
      refine tY (i := 11) (v := ?_) rfl ?_ hHeld ?_; rotate_left 1; focus (intro w' hSw; have hCell := fun (b o : Nat) (h : b < W5.heap.size) => hSw.cell (p := ⟨b, o, none⟩) h; clear hSw; go_simp; try with_reducible rfl)
      (try simp only [Act.put, zn1, zn2, zn3])
      refine ready_one (i := 10) rfl (by kernel_rfl) (fun K hK => ?_)
      go_simp
      refine (Straight_any Bn Be dn de ns (straight es) _ (HSN2.out.at hHeld) (HSE2.out.at hHeld) (okStraight HG.out.oke) (by omega) (by omega)).mono ?_
      rw [straight_twice]
      rintro e u3 ⟨Dn, fn, De, fe, rfl, hfn, hfe, htn, hte, hb⟩
      have HTN := Lib.hid htn
      have HTE := Lib.hid hte
      clear htn hte
      refine hK.out _ _ ?_ (fun hHeld2 => ?_)
      · (try dsimp only); first | exact Below.trans hHeld (Below.mono hb hHeld.size) | exact hHeld | exact Below.drew hHeld | exact (by repeat (first | exact Below.refl _ _ | assumption | refine Below.alloc ?_ (by first | omega | (simp <;> omega)) _ | refine Below.setCell ?_ (by first | omega | (simp <;> omega)) _ | refine Below.drew ?_))
      clear hK K hHeld; have hHeld := hHeld2; clear hHeld2; (try simp only [Act.put, zn1, zn2, zn3])
      refine ready_one (i := 12) rfl (by kernel_rfl) (fun K hK => ?_)
      go_simp
      refine (Same15_any Dn De Bn Be fn fe dn de ns ns (straight es) (straight es) _ HTN.out HTE.out (HSN2.out.at hHeld) (HSE2.out.at hHeld) ⟨by omega, by omega, by omega, by omega⟩).mono ?_
      rw [show sameG ns ns (straight es) (straight es) = true from by simp [sameG]]
      rintro e u4 ⟨rfl, hb⟩
      refine hK.out _ _ ?_ (fun hHeld2 => ?_)
      · (try dsimp only); first | exact Below.trans hHeld (Below.mono hb hHeld.size) | exact hHeld | exact Below.drew hHeld | exact (by repeat (first | exact Below.refl _ _ | assumption | refine Below.alloc ?_ (by first | omega | (simp <;> omega)) _ | refine Below.setCell ?_ (by first | omega | (simp <;> omega)) _ | refine Below.drew ?_))
      clear hK K hHeld; have hHeld := hHeld2; clear hHeld2; (try simp only [Act.put, zn1, zn2, zn3])
      refine tY (i := 13) (v := ?_) rfl ?_ hHeld ?_; rotate_left 1; focus (intro w' hSw; clear hSw; go_simp; try with_reducible rfl)
      (try simp only [Act.put, zn1, zn2, zn3])
      refine tY (i := 14) (v := ?_) rfl ?_ hHeld ?_; rotate_left 1; focus (intro w' hSw; clear hSw; go_simp; try with_reducible rfl)
      (try simp only [Act.put, zn1, zn2, zn3])
      refine tY (i := 15) (v := ?_) rfl ?_ hHeld ?_; rotate_left 1; focus (intro w' hSw; clear hSw; go_simp; try with_reducible rfl)
      (try simp only [Act.put, zn1, zn2, zn3])
      refine tY (i := 16) (v := ?_) rfl ?_ hHeld ?_; rotate_left 1; focus (intro w' hSw; have hCell := fun (b o : Nat) (h : b < W5.heap.size) => hSw.cell (p := ⟨b, o, none⟩) h; clear hSw; go_simp; try with_reducible rfl)
      (try simp only [Act.put, zn1, zn2, zn3])
      refine ready_one (i := 17) rfl (by kernel_rfl) (fun K hK => ?_)
      go_simp
      refine (Round_any Bn Be ns.length dn de (straight es) _ (HSE2.out.at hHeld) (okStraight HG.out.oke) (by omega)).mono ?_
      rw [gone_straight, List.length_nil]
      rintro e u5 ⟨Az, cz, rfl, hcz, hrz, hb⟩
      clear hrz
      refine hK.out _ _ ?_ (fun hHeld2 => ?_)
      · (try dsimp only); first | exact Below.trans hHeld (Below.mono hb hHeld.size) | exact hHeld | exact Below.drew hHeld | exact (by repeat (first | exact Below.refl _ _ | assumption | refine Below.alloc ?_ (by first | omega | (simp <;> omega)) _ | refine Below.setCell ?_ (by first | omega | (simp <;> omega)) _ | refine Below.drew ?_))
      clear hK K hHeld; have hHeld := hHeld2; clear hHeld2; (try simp only [Act.put, zn1, zn2, zn3])
      refine tY (i := 18) (v := ?_) rfl ?_ hHeld ?_; rotate_left 1; focus (intro w' hSw; clear hSw; go_simp; try with_reducible rfl)
      (try simp only [Act.put, zn1, zn2, zn3])
      refine tY (i := 19) (v := ?_) rfl ?_ hHeld ?_; rotate_left 1; focus (intro w' hSw; clear hSw; go_simp; try with_reducible rfl)
      (try simp only [Act.put, zn1, zn2, zn3])
      refine tY (i := 20) (v := ?_) rfl ?_ hHeld ?_; rotate_left 1; focus (intro w' hSw; clear hSw; go_simp; try with_reducible rfl)
      (try simp only [Act.put, zn1, zn2, zn3])
      refine tY (i := 21) (v := ?_) rfl ?_ hHeld ?_; rotate_left 1; focus (intro w' hSw; clear hSw; go_simp; try with_reducible rfl)
      (try simp only [Act.put, zn1, zn2, zn3])
      refine tY (i := 22) (v := ?_) rfl ?_ hHeld ?_; rotate_left 1; focus (intro w' hSw; clear hSw; go_simp; try with_reducible rfl)
      (try simp only [Act.put, zn1, zn2, zn3])
      refine tY (i := 23) (v := ?_) rfl ?_ hHeld ?_; rotate_left 1; focus (intro w' hSw; have hCell := fun (b o : Nat) (h : b < W5.heap.size) => hSw.cell (p := ⟨b, o, none⟩) h; clear hSw; go_simp; try with_reducible rfl)
      (try simp only [Act.put, zn1, zn2, zn3])
      refine tY (i := 24) (v := ?_) rfl ?_ hHeld ?_; rotate_left 1; focus (intro w' hSw; clear hSw; go_simp; try with_reducible rfl)
      (try simp only [Act.put, zn1, zn2, zn3])
      refine tY (i := 25) (v := ?_) rfl ?_ hHeld ?_; rotate_left 1; focus (intro w' hSw; clear hSw; go_simp; try with_reducible rfl)
      (try simp only [Act.put, zn1, zn2, zn3])
      refine tY (i := 26) (v := ?_) rfl ?_ hHeld ?_; rotate_left 1; focus (intro w' hSw; clear hSw; go_simp; try with_reducible rfl)
      (try simp only [Act.put, zn1, zn2, zn3])
      refine tY (i := 27) (v := ?_) rfl ?_ hHeld ?_; rotate_left 1; focus (intro w' hSw; clear hSw; go_simp; try with_reducible rfl)
      (try simp only [Act.put, zn1, zn2, zn3])
      refine tY (i := 28) (v := ?_) rfl ?_ hHeld ?_; rotate_left 1; focus (intro w' hSw; clear hSw; go_simp; try with_reducible rfl)
      (try simp only [Act.put, zn1, zn2, zn3])
      refine tY (i := 29) (v := ?_) rfl ?_ hHeld ?_; rotate_left 1; focus (intro w' hSw; have hCell := fun (b o : Nat) (h : b < W5.heap.size) => hSw.cell (p := ⟨b, o, none⟩) h; clear hSw; go_simp; try with_reducible rfl)
      (try simp only [Act.put, zn1, zn2, zn3])
      refine tY (i := 30) (v := ?_) rfl ?_ hHeld ?_; rotate_left 1; focus (intro w' hSw; clear hSw; go_simp; try with_reducible rfl)
      (try simp only [Act.put, zn1, zn2, zn3])
      refine tY (i := 31) (v := ?_) rfl ?_ hHeld ?_; rotate_left 1; focus (intro w' hSw; clear hSw; go_simp; try with_reducible rfl)
      (try simp only [Act.put, zn1, zn2, zn3])
      refine tY (i := 32) (v := ?_) rfl ?_ hHeld ?_; rotate_left 1; focus (intro w' hSw; clear hSw; go_simp; try with_reducible rfl)
      (try simp only [Act.put, zn1, zn2, zn3])
      refine wpAnyH_done (by kernel_rfl) ?_ _
      replace c0 := cellAt c0 hHeld (by omega)
      replace c1 := cellAt c1 hHeld (by omega)
      replace s0 := cellAt s0 hHeld (by omega)
      replace s1 := cellAt s1 hHeld (by omega)
      replace HG := Lib.hid (HG.out.at hHeld)
      replace n1 : w.heap.size < u5.heap.size := ltAt n1 hHeld
      replace HB := Lib.hid (lift HB.out hHeld)
      replace m5 : tB < u5.heap.size := ltAt m5 hHeld
      replace HSN2 := Lib.hid (HSN2.out.at hHeld)
      replace HSE2 := Lib.hid (HSE2.out.at hHeld)
      go_wp2_with fail
      go_loopw [57] (fun i wr => ∃ k : Nat, k ≤ es.length ∧ i = .int .i64 k ∧ Below u5.heap.size u5 wr) (fun i _ => es.length - (intOf i).toNat)
      case atStart => exact ⟨0, Nat.zero_le _, rfl, Below.refl _ _⟩
      case round =>
        obtain ⟨k, hk, rfl, hb⟩ := hrel
        replace c0 := cellAt c0 hb (by omega)
        replace c1 := cellAt c1 hb (by omega)
        replace s0 := cellAt s0 hb (by omega)
        replace s1 := cellAt s1 hb (by omega)
        replace HG := Lib.hid (HG.out.at hb)
        replace n1 : w.heap.size < wr.heap.size := ltAt n1 hb
        replace HB := Lib.hid (lift HB.out hb)
        replace m5 : tB < wr.heap.size := ltAt m5 hb
        replace HSN2 := Lib.hid (HSN2.out.at hb)
        replace HSE2 := Lib.hid (HSE2.out.at hb)
        have Hb := Lib.hid hb
        clear hb
        by_cases hlt : k < es.length
        · obtain ⟨b1, o1, hA1, hB1, x0, x1, x2⟩ := HG.out.re.edge hlt
          have hin : es[k] ∈ es := List.getElem_mem hlt
          generalize es[k] = p at x0 x1 x2 hin
          obtain ⟨s, d, r⟩ := p
          simp only at x0 x1 x2
          have Hin := Lib.hid hin
          clear hin
          have k1 : (0 : Int) ≤ (k : Int) := by omega
          have k2 : (k : Int) < (es.length : Int) := by omega
          subst hA1
          go_wp2_with fail
          first | (refine wp_named ?_; intro W6 hW) | (refine calls_named ?_; intro W6 hW)
          have B6 : Below wr.heap.size wr W6 := by rw [hW]; exact (by repeat (first | exact Below.refl _ _ | assumption | refine Below.alloc ?_ (by first | omega | (simp <;> omega)) _ | refine Below.setCell ?_ (by first | omega | (simp <;> omega)) _ | refine Below.drew ?_))
          replace c0 := cellAt c0 B6 (by omega)
          replace c1 := cellAt c1 B6 (by omega)
          replace s0 := cellAt s0 B6 (by omega)
          replace s1 := cellAt s1 B6 (by omega)
          replace x0 := cellAt x0 B6 (by omega)
          replace x1 := cellAt x1 B6 (by omega)
          replace x2 := cellAt x2 B6 (by omega)
          replace HG := Lib.hid (HG.out.at B6)
          replace n1 : w.heap.size < W6.heap.size := ltAt n1 B6
          replace HB := Lib.hid (lift HB.out B6)
          replace m5 : tB < W6.heap.size := ltAt m5 B6
          replace HSN2 := Lib.hid (HSN2.out.at B6)
          replace HSE2 := Lib.hid (HSE2.out.at B6)
          replace hB1 : b1 < W6.heap.size := ltAt hB1 B6
          have n6 : wr.heap.size < W6.heap.size := by rw [hW]; simp <;> omega
          have y0 : W6.cell? ⟨wr.heap.size, 0, none⟩ = some (sv s) := by rw [hW]; go_simp
          have y1 : W6.cell? ⟨wr.heap.size, 1, none⟩ = some (sv d) := by rw [hW]; go_simp
          have y2 : W6.cell? ⟨wr.heap.size, 2, none⟩ = some (.int .i64 r) := by rw [hW]; go_simp
          clear hW
          have HB6 := Lib.hid B6
          clear B6
          refine (Has_any Bn Be ns.length dn de (straight es) s d r W6 HSE2.out (by omega)).mono ?_
          rintro e w7 ⟨rfl, hb⟩
          replace c0 := cellAt c0 hb (by omega)
          replace c1 := cellAt c1 hb (by omega)
          replace s0 := cellAt s0 hb (by omega)
          replace s1 := cellAt s1 hb (by omega)
          replace x0 := cellAt x0 hb (by omega)
          replace x1 := cellAt x1 hb (by omega)
          replace x2 := cellAt x2 hb (by omega)
          replace y0 := cellAt y0 hb (by omega)
          replace y1 := cellAt y1 hb (by omega)
          replace y2 := cellAt y2 hb (by omega)
          replace HG := Lib.hid (HG.out.at hb)
          replace n1 : w.heap.size < w7.heap.size := ltAt n1 hb
          replace HB := Lib.hid (lift HB.out hb)
          replace m5 : tB < w7.heap.size := ltAt m5 hb
          replace HSN2 := Lib.hid (HSN2.out.at hb)
          replace HSE2 := Lib.hid (HSE2.out.at hb)
          replace hB1 : b1 < w7.heap.size := ltAt hB1 hb
          replace n6 : wr.heap.size < w7.heap.size := ltAt n6 hb
          have HB7 := Lib.hid (lift Hb.out (lift HB6.out hb))
          clear hb
          cases hh : (straight es).any (· == (s, d, r))
          · have hr : r = 8 ∨ r = 7 := gone_rel Hin.out (fun hm => by have := List.any_eq_false.1 hh _ hm; simp at this)
            clear hh
            rcases hr with rfl | rfl
            · go_wp2_with fail
              go_roundw
              case rel => exact ⟨k + 1, by omega, by go_num, HB7.out⟩
              case measure => simp [intOf]; omega
            · go_wp2_with fail
              go_roundw
              case rel => exact ⟨k + 1, by omega, by go_num, HB7.out⟩
              case measure => simp [intOf]; omega
          · go_wp2_with fail
            go_roundw
            case rel => exact ⟨k + 1, by omega, by go_num, HB7.out⟩
            case measure => simp [intOf]; omega
        · by_cases h0 : (gone es).length = 0
          · have q0 : (((gone es).length : Int) == 0) = true := by simp [h0]
            have i0 : isB es = true := by rw [isB_gone]; simp [h0]
            clear h0
            go_wp2_with fail
            refine (Is_any An Ae ns.length cn ce es wr HG.out.re HG.out.oke (by omega)).mono ?_
            rw [i0]
            rintro e w8 ⟨rfl, hb⟩
            replace c0 := cellAt c0 hb (by omega)
            replace c1 := cellAt c1 hb (by omega)
            replace s0 := cellAt s0 hb (by omega)
            replace s1 := cellAt s1 hb (by omega)
            replace HG := Lib.hid (HG.out.at hb)
            replace n1 : w.heap.size < w8.heap.size := ltAt n1 hb
            replace HB := Lib.hid (lift HB.out hb)
            replace m5 : tB < w8.heap.size := ltAt m5 hb
            replace HSN2 := Lib.hid (HSN2.out.at hb)
            replace HSE2 := Lib.hid (HSE2.out.at hb)
            clear hb
            go_wp2_with fail
            go_ret
            exact ⟨rfl, HB.out⟩
          · have q0 : (((gone es).length : Int) == 0) = false := by simpa using h0
            have i0 : isB es = false := by rw [isB_gone]; simpa using h0
            clear h0
            go_wp2_with fail
            refine (Is_any An Ae ns.length cn ce es wr HG.out.re HG.out.oke (by omega)).mono ?_
            rw [i0]
            rintro e w8 ⟨rfl, hb⟩
            replace c0 := cellAt c0 hb (by omega)
            replace c1 := cellAt c1 hb (by omega)
            replace s0 := cellAt s0 hb (by omega)
            replace s1 := cellAt s1 hb (by omega)
            replace HG := Lib.hid (HG.out.at hb)
            replace n1 : w.heap.size < w8.heap.size := ltAt n1 hb
            replace HB := Lib.hid (lift HB.out hb)
            replace m5 : tB < w8.heap.size := ltAt m5 hb
            replace HSN2 := Lib.hid (HSN2.out.at hb)
            replace HSE2 := Lib.hid (HSE2.out.at hb)
            clear hb
            go_wp2_with fail
            go_ret
            exact ⟨rfl, HB.out⟩
end Od
end Go.Proofs.YtbllehjhmfehbaaGreat
end

section
/- A law's arguments opened for its walk: a graph. -/
namespace Go.Proofs.YtbllehjhmfehbaaGreat
open Go.ChangeShapes Go.WideShapes Go.ChangeAt Go.RowKit
theorem okS_of {s : Str} (h : okS47 s) : Od.okS s := by unfold okS47 at h; unfold Od.okS maxLen; omega
theorem gin_of {w : World} {An Ae : Option Addr} {cn ce : Nat} {ns : List Nd} {es : List Ed} (h1 : Rd w w.heap.size 3 An ns.length (ndsC ns)) (h2 : Rd w w.heap.size 3 Ae es.length (edsC es)) (k1 : ∀ n ∈ ns, okS47 n.1) (k2 : ∀ e ∈ es, okS47 e.1 ∧ okS47 e.2.1) : Od.GIn w An Ae cn ce ns es :=
  ⟨h1, h2, fun n hn => by have := k1 n hn; unfold okS47 at this; omega, fun e he => ⟨okS_of (k2 e he).1, okS_of (k2 e he).2⟩⟩
end Go.Proofs.YtbllehjhmfehbaaGreat
end
