/- My texts, joined for the claim: RPairs RReach QIs15 QSound20 WFactR LvBf. -/
import Derived.Test.YtmlogmcnblgnbaaGreatZWaveFact0x0
import Derived.Test.YtmlogmcnblgnbaaGreatZB3
import Derived.Test.YtmlogmcnblgnbaaGreatZB9
import Derived.Test.YtmlogmcnblgnbaaGreatZB13
import Derived.Deep.DeepCutAuto
import Derived.Test.YtmlogmcnblgnbaaGreatZB0
import Derived.Test.YtmlogmcnblgnbaaGreatZB15

section
/- The walk of matinsref15.pairs: all pairs that edges say, rising, each once. (short) -/
namespace Go.Proofs.YtmlogmcnblgnbaaGreat
open Go.RowKit Go.Sort

namespace Od
/-- The pairs of the first j edges. -/
def accP (es : List Ed) (j : Nat) : List Pr := canon ltP ((es.take j).filterMap pairE)
theorem accP_zero (es : List Ed) : accP es 0 = [] := by simp [accP, canon]
theorem accP_all (es : List Ed) : accP es es.length = prsL es := by simp [accP, prsL]
theorem accP_none {es : List Ed} {j : Nat} (hj : j < es.length) (h : pairE es[j] = none) : accP es (j + 1) = accP es j := by
 unfold accP; rw [List.take_succ_eq_append_getElem hj, List.filterMap_append]; simp only [List.filterMap_cons, List.filterMap_nil, h, List.append_nil]
theorem accP_some {es : List Ed} {j : Nat} (hj : j < es.length) {p : Pr} (h : pairE es[j] = some p) : accP es (j + 1) = insL ltP p (accP es j) := by
 unfold accP; rw [List.take_succ_eq_append_getElem hj, List.filterMap_append]; simp only [List.filterMap_cons, List.filterMap_nil, h, canon, List.foldl_append, List.foldl_cons, List.foldl_nil]
theorem accP_len (es : List Ed) (j : Nat) : (accP es j).length ≤ es.length := by
 have h1 := canon_len (lt := ltP) ((es.take j).filterMap pairE)
 have h2 := List.length_filterMap_le pairE (es.take j)
 have h3 := List.length_take_le j es
 have h4 : (es.take j).length ≤ es.length := by rw [List.length_take]; omega
 unfold accP; omega
theorem prsC_take (l : List Pr) (k : Nat) : (prsC l).take (k * 2) = prsC (l.take k) := by
 induction l generalizing k with
 | nil => simp [prsC]
 | cons p l ih =>
  cases k with
  | zero => simp [prsC]
  | succ k => simp only [prsC, List.flatMap_cons, List.take_succ_cons, Nat.succ_mul]; rw [List.take_append, List.take_of_length_le (by rw [prC_len]; omega), prC_len, show k * 2 + 2 - 2 = k * 2 by omega]; have := ih k; simp only [prsC] at this; rw [this]
theorem prsC_drop (l : List Pr) (k : Nat) : (prsC l).drop (k * 2) = prsC (l.drop k) := by
 induction l generalizing k with
 | nil => simp [prsC]
 | cons p l ih =>
  cases k with
  | zero => simp [prsC]
  | succ k => simp only [prsC, List.flatMap_cons, List.drop_succ_cons, Nat.succ_mul]; rw [List.drop_append, List.drop_of_length_le (by rw [prC_len]; omega), prC_len, show k * 2 + 2 - 2 = k * 2 by omega]; have := ih k; simp only [prsC] at this; rw [this]; rfl
theorem one_prsC (l : List Pr) : ∀ u ∈ prsC l, u.oneCell' = true := fun u hu => by
 obtain ⟨p, _, h⟩ := List.mem_flatMap.1 hu
 simp [prC] at h; rcases h with rfl | rfl <;> rfl
theorem one_prC (p : Pr) : ∀ u ∈ prC p, u.oneCell' = true := fun u h => by
 simp [prC] at h; rcases h with rfl | rfl <;> rfl
theorem ltP_mk (a b x y : Str) : ltP (a, b) (x, y) = (Op.bytesLess a x || (a == x && Op.bytesLess b y)) := rfl

set_option maxRecDepth 100000 in
set_option maxHeartbeats 8000000 in
theorem pairs15_any (An Ae : Option Addr) (nn cn ce : Nat) (es : List Ed) (w : World) (hr : Rd w w.heap.size 3 Ae es.length (edsC es)) (hl : es.length ≤ 100000) :
  Calls Tryz.prog 119 #[gV An nn cn Ae es.length ce] w (RdNew 2 (prsL es).length (prsC (prsL es)) w) := by
 obtain ⟨i0, hi, hz0, hz1, hz2⟩ := info_parts inP2
 have Hr := Lib.hid hr
 have heq := p2_eq
 clear hr
 go_enter Tryz.func119, Tryz.ntmps119
 go_wp2_with fail
 first | (refine wp_named ?_; intro W1 hW) | (refine calls_named ?_; intro W1 hW)
 have B1 : Below w.heap.size w W1 := by rw [hW]; exact bq
 replace Hr := Lib.hid (Hr.out.at B1)
 clear hW
 have HB1 := Lib.hid B1
 clear B1
 go_loopw [3, 11] (fun v i wr => ∃ (j : Nat) (A : Option Addr) (c : Nat), j ≤ es.length ∧ i = .int .i64 j ∧ v = .slice A (accP es j).length c ∧ (accP es j).length ≤ c ∧ Rd wr wr.heap.size 2 A (accP es j).length (prsC (accP es j)) ∧ FreshA w.heap.size A (accP es j).length ∧ Below W1.heap.size W1 wr) (fun _ i _ => es.length - (intOf i).toNat)
 case atStart => exact ⟨0, none, 0, Nat.zero_le _, rfl, by simp [accP_zero], by simp [accP_zero], by rw [accP_zero]; exact Rd.none_, fun h => absurd h (by simp [accP_zero]), Below.refl _ _⟩
 case round =>
  obtain ⟨j, A, c, hj, rfl, rfl, hc, hra, hfr, hb⟩ := hrel
  have HFr := Lib.hid hfr
  clear hfr
  obtain ⟨wo, rfl⟩ : ∃ wo : World, wo = wr := ⟨_, rfl⟩
  by_cases hlt : j < es.length
  ·obtain ⟨b, o, rfl, hB, hc0, hc1, hc2⟩ := (Hr.out.at hb).edge hlt
   have HRa := Lib.hid hra
   have HB := Lib.hid hb
   have hal := accP_len es j
   generalize hx : es[j] = e at hc0 hc1 hc2
   obtain ⟨s, d, r⟩ := e
   have Hx := Lib.hid hx
   clear hx hra hb
   simp only at hc0 hc1 hc2
   by_cases h8 : r = 8
   ·subst h8
    have hp : pairE es[j] = some (d, s) := by rw [Hx.out]; simp [pairE]
    have HN := Lib.hid (accP_some hlt hp)
    clear hp
    go_wp2_with fail
    first | (refine wp_named ?_; intro W2 hW) | (refine calls_named ?_; intro W2 hW)
    have B2 : Below wo.heap.size wo W2 := by rw [hW]; exact bq
    replace HRa := Lib.hid (HRa.out.at B2)
    replace HB := Lib.hid (HB.out.trans (B2.mono HB.out.size))
    have n2 : (wo.heap.size + 1) < W2.heap.size := by rw [hW]; simp <;> omega
    have cp0 : W2.cell? ⟨wo.heap.size + 1, 0, none⟩ = some (sv d) := by rw [hW]; go_simp
    have cp1 : W2.cell? ⟨wo.heap.size + 1, 1, none⟩ = some (sv s) := by rw [hW]; go_simp
    clear hW
    clear B2
    generalize hacc : accP es j = acc at *
    have HAcc := Lib.hid hacc
    clear hacc
    have HSs := Lib.hid (show SS ltP acc by rw [← HAcc.out]; exact canon_ss toP _)
    go_loopw [7] (fun i wr => ∃ k : Nat, k ≤ acc.length ∧ i = .int .i64 k ∧ Hid (∀ q ∈ acc.take k, ltP q (d, s) = true) ∧ Below W2.heap.size W2 wr) (fun i _ => acc.length - (intOf i).toNat)
    case atStart => exact ⟨0, Nat.zero_le _, rfl, by simp [Hid], Below.refl _ _⟩
    case round =>
     obtain ⟨k, hk, rfl, hall, hbq⟩ := hrel
     replace cp0 := cellAt cp0 hbq (by omega)
     replace cp1 := cellAt cp1 hbq (by omega)
     replace HRa := Lib.hid (HRa.out.at hbq)
     replace HB := Lib.hid (HB.out.trans (hbq.mono HB.out.size))
     replace n2 : (wo.heap.size + 1) < wr.heap.size := ltAt n2 hbq
     by_cases hlt2 : k < acc.length
     ·obtain ⟨b2, o2, hA, hB2, hq0, hq1⟩ := HRa.out.pair hlt2
      subst hA
      generalize hq : acc[k] = q at hq0 hq1
      obtain ⟨a1, a2⟩ := q
      have Hq := Lib.hid hq
      clear hq
      simp only at hq0 hq1
      cases l1 : Op.bytesLess a1 d
      ·cases l2 : (a1 == d)
       ·have hge : ∀ h : k < acc.length, ltP acc[k] (d, s) = false := fun _ => by rw [Hq.out, ltP_mk]; simp [l1, l2]
        have hne : ¬ acc[k]? = some (d, s) := by rw [List.getElem?_eq_getElem hlt2, Hq.out]; intro e; injection e with e; injection e with e1 e2; rw [e1] at l2; simp at l2
        have Hge := Lib.hid (And.intro hge hne)
        clear hge hne
        try go_wp2_with fail
        refine wp_region_held_drew (S := fun w' => Below wr.heap.size wr w') (by kernel_rfl) (Below.drew (Below.refl _ _)) (fun hHeld => ?_)
        refine tV 0 ?_ ?zq ?_; (case zq => rintro _ -; go_simp; try with_reducible rfl); try simp only [Act.put, zn1, zn2, zn3]
        refine tV 1 ?_ ?zq ?_; (case zq => rintro _ -; go_simp; try with_reducible rfl); try simp only [Act.put, zn1, zn2, zn3]
        refine tV 2 ?_ ?zq ?_; (case zq => rintro _ -; go_simp; try with_reducible rfl); try simp only [Act.put, zn1, zn2, zn3]
        refine tV 3 ?_ ?zq ?_; (case zq => rintro _ -; go_simp; try with_reducible rfl); try simp only [Act.put, zn1, zn2, zn3]
        refine tV 4 ?_ ?zq ?_; (case zq => rintro _ -; go_simp; try with_reducible rfl); try simp only [Act.put, zn1, zn2, zn3]
        refine tV 5 ?_ ?zq ?_; (case zq => rintro _ -; go_simp; try with_reducible rfl); try simp only [Act.put, zn1, zn2, zn3]
        refine tV 6 ?_ ?zq ?_; (case zq => rintro _ -; go_simp; try with_reducible rfl); try simp only [Act.put, zn1, zn2, zn3]
        refine tV 7 ?_ ?zq ?_; (case zq => rintro _ -; go_simp; try with_reducible rfl); try simp only [Act.put, zn1, zn2, zn3]
        refine tV 8 ?_ ?zq ?_; (case zq => rintro _ -; go_simp; try with_reducible rfl); try simp only [Act.put, zn1, zn2, zn3]
        refine tV 9 ?_ ?zq ?_; (case zq => intro w' hSw; have hCell := fun (b o : Nat) (h : b < wr.heap.size) => hSw.cell (p := ⟨b, o, none⟩) h; clear hSw; go_simp; try with_reducible rfl); try simp only [Act.put, zn1, zn2, zn3]
        refine tV 10 ?_ ?zq ?_; (case zq => rintro _ -; go_simp; try with_reducible rfl); try simp only [Act.put, zn1, zn2, zn3]
        refine tV 11 ?_ ?zq ?_; (case zq => intro w' hSw; have hCell := fun (b o : Nat) (h : b < wr.heap.size) => hSw.cell (p := ⟨b, o, none⟩) h; clear hSw; go_simp; try with_reducible rfl); try simp only [Act.put, zn1, zn2, zn3]
        refine tV 12 ?_ ?zq ?_; (case zq => rintro _ -; go_simp; try with_reducible rfl); try simp only [Act.put, zn1, zn2, zn3]
        refine tV 13 ?_ ?zq ?_; (case zq => rintro _ -; go_simp; try with_reducible rfl); try simp only [Act.put, zn1, zn2, zn3]
        refine tV 14 ?_ ?zq ?_; (case zq => rintro _ -; go_simp; try with_reducible rfl); try simp only [Act.put, zn1, zn2, zn3]
        refine tV 15 ?_ ?zq ?_; (case zq => rintro _ -; go_simp; try with_reducible rfl); try simp only [Act.put, zn1, zn2, zn3]
        refine tV 16 ?_ ?zq ?_; (case zq => rintro _ -; go_simp; try with_reducible rfl); try simp only [Act.put, zn1, zn2, zn3]
        refine tV 17 ?_ ?zq ?_; (case zq => rintro _ -; go_simp; try with_reducible rfl); try simp only [Act.put, zn1, zn2, zn3]
        refine tV 18 ?_ ?zq ?_; (case zq => intro w' hSw; have hCell := fun (b o : Nat) (h : b < wr.heap.size) => hSw.cell (p := ⟨b, o, none⟩) h; clear hSw; go_simp; try with_reducible rfl); try simp only [Act.put, zn1, zn2, zn3]
        refine tV 19 ?_ ?zq ?_; (case zq => rintro _ -; go_simp; try with_reducible rfl); try simp only [Act.put, zn1, zn2, zn3]
        refine tV 20 ?_ ?zq ?_; (case zq => intro w' hSw; have hCell := fun (b o : Nat) (h : b < wr.heap.size) => hSw.cell (p := ⟨b, o, none⟩) h; clear hSw; go_simp; try with_reducible rfl); try simp only [Act.put, zn1, zn2, zn3]
        refine tV 21 ?_ ?zq ?_; (case zq => rintro _ -; go_simp; try with_reducible rfl); try simp only [Act.put, zn1, zn2, zn3]
        refine tV 22 ?_ ?zq ?_; (case zq => rintro _ -; go_simp; try with_reducible rfl); try simp only [Act.put, zn1, zn2, zn3]
        refine tU 23 ?_; (try simp only [Act.put, zn1, zn2, zn3])
        refine tU 24 ?_; (try simp only [Act.put, zn1, zn2, zn3])
        refine tU 25 ?_; (try simp only [Act.put, zn1, zn2, zn3])
        refine tU 26 ?_; (try simp only [Act.put, zn1, zn2, zn3])
        refine tU 27 ?_; (try simp only [Act.put, zn1, zn2, zn3])
        refine tU 28 ?_; (try simp only [Act.put, zn1, zn2, zn3])
        refine tU 29 ?_; (try simp only [Act.put, zn1, zn2, zn3])
        refine tU 30 ?_; (try simp only [Act.put, zn1, zn2, zn3])
        refine tV 31 ?_ ?zq ?_; (case zq => rintro _ -; go_simp; try with_reducible rfl); try simp only [Act.put, zn1, zn2, zn3]
        refine tV 32 ?_ ?zq ?_; (case zq => rintro _ -; go_simp; try with_reducible rfl); try simp only [Act.put, zn1, zn2, zn3]
        refine tV 33 ?_ ?zq ?_; (case zq => rintro _ -; go_simp; try with_reducible rfl); try simp only [Act.put, zn1, zn2, zn3]
        refine wpAnyH_done (by kernel_rfl) ?_ _
        replace cp0 := cellAt cp0 hHeld (by omega)
        replace cp1 := cellAt cp1 hHeld (by omega)
        replace hq0 := cellAt hq0 hHeld (by omega)
        replace hq1 := cellAt hq1 hHeld (by omega)
        replace HRa := Lib.hid (HRa.out.at hHeld)
        replace HB := Lib.hid (HB.out.trans (hHeld.mono HB.out.size))
        replace n2 : (wo.heap.size + 1) < wr.drew.heap.size := ltAt n2 hHeld
        replace hB2 : b2 < wr.drew.heap.size := ltAt hB2 hHeld
        go_wp2_with fail
        first | (refine wp_named ?_; intro W3 hW) | (refine calls_named ?_; intro W3 hW)
        have B3 : Below wr.drew.heap.size wr.drew W3 := by rw [hW]; exact bq
        replace cp0 := cellAt cp0 B3 (by omega)
        replace cp1 := cellAt cp1 B3 (by omega)
        replace hq0 := cellAt hq0 B3 (by omega)
        replace hq1 := cellAt hq1 B3 (by omega)
        replace HRa := Lib.hid (HRa.out.at B3)
        replace HB := Lib.hid (HB.out.trans (B3.mono HB.out.size))
        replace n2 : (wo.heap.size + 1) < W3.heap.size := ltAt n2 B3
        replace hB2 : b2 < W3.heap.size := ltAt hB2 B3
        clear hW
        clear B3
        try go_wp2_with fail
        refine wp_region_held_drew (S := fun w' => Below W3.heap.size W3 w') (by kernel_rfl) (Below.drew (Below.refl _ _)) (fun hHeld => ?_)
        refine tV 0 ?_ ?zq ?_; (case zq => rintro _ -; go_simp; try with_reducible rfl); try simp only [Act.put, zn1, zn2, zn3]
        refine tV 1 ?_ ?zq ?_; (case zq => rintro _ -; go_simp; try with_reducible rfl); try simp only [Act.put, zn1, zn2, zn3]
        refine tV 2 ?_ ?zq ?_; (case zq => rintro _ -; go_simp; try with_reducible rfl); try simp only [Act.put, zn1, zn2, zn3]
        refine tV 3 ?_ ?zq ?_; (case zq => rintro _ -; go_simp; try with_reducible rfl); try simp only [Act.put, zn1, zn2, zn3]
        refine tV 4 ?_ ?zq ?_; (case zq => rintro _ -; go_simp; try with_reducible rfl); try simp only [Act.put, zn1, zn2, zn3]
        refine tV 5 ?_ ?zq ?_; (case zq => rintro _ -; go_simp; try with_reducible rfl); try simp only [Act.put, zn1, zn2, zn3]
        refine tV 6 ?_ ?zq ?_; (case zq => rintro _ -; go_simp; try with_reducible rfl); try simp only [Act.put, zn1, zn2, zn3]
        refine tV 7 ?_ ?zq ?_; (case zq => rintro _ -; go_simp; try with_reducible rfl); try simp only [Act.put, zn1, zn2, zn3]
        refine tV 8 ?_ ?zq ?_; (case zq => intro w' hSw; have hCell := fun (b o : Nat) (h : b < W3.heap.size) => hSw.cell (p := ⟨b, o, none⟩) h; clear hSw; go_simp; try with_reducible rfl); try simp only [Act.put, zn1, zn2, zn3]
        refine tV 9 ?_ ?zq ?_; (case zq => intro w' hSw; have hCell := fun (b o : Nat) (h : b < W3.heap.size) => hSw.cell (p := ⟨b, o, none⟩) h; clear hSw; go_simp; try with_reducible rfl); try simp only [Act.put, zn1, zn2, zn3]
        refine tV 10 ?_ ?zq ?_; (case zq => rintro _ -; go_simp; try with_reducible rfl); try simp only [Act.put, zn1, zn2, zn3]
        refine tV 11 ?_ ?zq ?_; (case zq => rintro _ -; go_simp; try with_reducible rfl); try simp only [Act.put, zn1, zn2, zn3]
        refine wpAnyH_done (by kernel_rfl) ?_ _
        replace cp0 := cellAt cp0 hHeld (by omega)
        replace cp1 := cellAt cp1 hHeld (by omega)
        replace hq0 := cellAt hq0 hHeld (by omega)
        replace hq1 := cellAt hq1 hHeld (by omega)
        replace HRa := Lib.hid (HRa.out.at hHeld)
        replace HB := Lib.hid (HB.out.trans (hHeld.mono HB.out.size))
        replace n2 : (wo.heap.size + 1) < W3.drew.heap.size := ltAt n2 hHeld
        replace hB2 : b2 < W3.drew.heap.size := ltAt hB2 hHeld
        go_wp2_with fail
        obtain ⟨hge, hne⟩ := Hge.out
        have hins : insL ltP (d, s) acc = acc.take k ++ (d, s) :: acc.drop k := by rw [insL_cut acc k hk hall hge, if_neg hne]
        have HI := Lib.hid hins
        first | (refine wp_named ?_; intro W4 hW) | (refine calls_named ?_; intro W4 hW)
        have B4 : Below W3.drew.heap.size W3.drew W4 := by rw [hW]; exact bq
        replace cp0 := cellAt cp0 B4 (by omega)
        replace cp1 := cellAt cp1 B4 (by omega)
        replace hq0 := cellAt hq0 B4 (by omega)
        replace hq1 := cellAt hq1 B4 (by omega)
        replace HRa := Lib.hid (HRa.out.at B4)
        replace HB := Lib.hid (HB.out.trans (B4.mono HB.out.size))
        replace n2 : (wo.heap.size + 1) < W4.heap.size := ltAt n2 B4
        replace hB2 : b2 < W4.heap.size := ltAt hB2 B4
        clear hW
        clear B4 hins hge hne
        have hz4 := Nat.le_trans HB1.out.size HB.out.size
        have HR1 := Lib.hid (HRa.out.takeA hk)
        have HR2 := Lib.hid (HRa.out.dropA hk hc)
        have hs1 := run_slice_full (P := Tryz.prog) Tryz.underlying143 hi (some ⟨b2, o2, none⟩) acc.length c k (Nat.le_trans hk hc)
        have hs2 := run_slice_tail (P := Tryz.prog) Tryz.underlying143 hi (some ⟨b2, o2, none⟩) acc.length c k hk
        rw [hz1] at hs1 hs2
        have HLk := Lib.hid (show (acc.drop k).length = acc.length - k from List.length_drop)
        try go_wp2_with fail
        refine wp_region_held_drew (S := fun w' => Below W4.heap.size W4 w') (by kernel_rfl) (Below.drew (Below.refl _ _)) (fun hHeld => ?_)
        refine tV 0 ?_ ?zq ?_; (case zq => rintro _ -; go_simp; try with_reducible rfl); try simp only [Act.put, zn1, zn2, zn3]
        refine tV 1 ?_ ?zq ?_; (case zq => rintro _ -; go_simp; try with_reducible rfl); try simp only [Act.put, zn1, zn2, zn3]
        refine tV 2 ?_ ?zq ?_; (case zq => rintro _ -; go_simp; try with_reducible rfl); try simp only [Act.put, zn1, zn2, zn3]
        refine tV 3 ?_ ?zq ?_; (case zq => rintro _ -; go_simp; try with_reducible rfl); try simp only [Act.put, zn1, zn2, zn3]
        refine tV 4 ?_ ?zq ?_; (case zq => intro w' hSw; have hCell := fun (b o : Nat) (h : b < W4.heap.size) => hSw.cell (p := ⟨b, o, none⟩) h; clear hSw; go_simp; try with_reducible rfl); try simp only [Act.put, zn1, zn2, zn3]
        refine tV 6 ?_ ?zq ?_; (case zq => rintro _ -; go_simp; try with_reducible rfl); try simp only [Act.put, zn1, zn2, zn3]
        refine tV 7 ?_ ?zq ?_; (case zq => rintro _ -; go_simp; try with_reducible rfl); try simp only [Act.put, zn1, zn2, zn3]
        refine tV 8 ?_ ?zq ?_; (case zq => rintro _ -; go_simp; try with_reducible rfl); try simp only [Act.put, zn1, zn2, zn3]
        refine ready_one (i := 5) rfl (by kernel_rfl) (fun K hK => ?_)
        go_simp
        refine hK.out _ _ ?_ (fun hHeld2 => ?_)
        ·(try dsimp only); first | exact hHeld | exact bq
        clear hK K hHeld; have hHeld := hHeld2; clear hHeld2; (try simp only [Act.put, zn1, zn2, zn3])
        refine ready_one (i := 9) rfl (by kernel_rfl) (fun K hK => ?_)
        refine step_append_full (by rfl) (.tmp 89) (.tmp 92) 143 (by rfl) 145 i0 _ 2 32 Tryz.underlying143 hi hz0 hz1 hz2 rfl _ (some ⟨W4.heap.size, 0, none⟩) 1 (prC (d, s)) (by rfl) (Rd.lit W4.drew (prC (d, s)) 145 2 1 rfl) (Nat.le_refl _) _ _ (acc.length - k) (c - k) _ (by rfl) (HR2.out.at' (Nat.le_refl _) hHeld) (one_drop (one_prsC acc) _) (by unfold maxLen; omega) (by omega) ?_
        intro A2 c2 v2 hc2 hr2 hb
        have HR3 := Lib.hid hr2
        clear hr2
        refine hK.out _ _ ?_ (fun hHeld2 => ?_)
        ·(try dsimp only); first | exact Below.trans hHeld (Below.mono hb hHeld.size) | exact hHeld | exact Below.drew hHeld | exact bq
        clear hK K hHeld; have hHeld := hHeld2; clear hHeld2; (try simp only [Act.put, zn1, zn2, zn3])
        refine ready_one (i := 10) rfl (by kernel_rfl) (fun K hK => ?_)
        refine step_append_fresh (by rfl) (.tmp 87) (.tmp 93) 143 (by rfl) 145 i0 _ 2 32 Tryz.underlying143 hi hz0 hz1 hz2 rfl _ _ k _ (by rfl) (HR1.out.at' (Nat.le_refl _) hHeld) (Nat.le_refl _) _ A2 (1 + (acc.length - k)) c2 _ (by rfl) HR3.out (one_app (one_prC _) (one_drop (one_prsC acc) _)) (by unfold maxLen; omega) (by omega) ?_
        intro A3 c3 v3 hc3 hr3 hb hf3
        have hz5 := Nat.le_trans hz4 hHeld.size
        have HR4 := Lib.hid hr3
        clear hr3
        refine hK.out _ _ ?_ (fun hHeld2 => ?_)
        ·(try dsimp only); first | exact Below.trans hHeld (Below.mono hb hHeld.size) | exact hHeld | exact Below.drew hHeld | exact bq
        clear hK K hHeld; have hHeld := hHeld2; clear hHeld2; (try simp only [Act.put, zn1, zn2, zn3])
        refine tV 11 ?_ ?zq ?_; (case zq => rintro _ -; go_simp; try with_reducible rfl); try simp only [Act.put, zn1, zn2, zn3]
        refine wpAnyH_done (by kernel_rfl) ?_ _
        replace cp0 := cellAt cp0 hHeld (by omega)
        replace cp1 := cellAt cp1 hHeld (by omega)
        replace hq0 := cellAt hq0 hHeld (by omega)
        replace hq1 := cellAt hq1 hHeld (by omega)
        replace HRa := Lib.hid (HRa.out.at hHeld)
        replace HB := Lib.hid (HB.out.trans (hHeld.mono HB.out.size))
        replace n2 : (wo.heap.size + 1) < v3.heap.size := ltAt n2 hHeld
        replace hB2 : b2 < v3.heap.size := ltAt hB2 hHeld
        clear hs1 hs2
        go_wp2_with fail
        go_roundw
        case rel =>
         have hlen : k + (1 + (acc.length - k)) = (accP es (j + 1)).length := by rw [HN.out, HI.out, List.length_append, List.length_cons, List.length_take, HLk.out]; omega
         refine ⟨j + 1, A3, c3, by omega, by go_num, by rw [hlen], by rw [← hlen]; exact hc3, ?_, fun _ ad e => Nat.le_trans hz5 (hf3 (by omega) ad e), HB.out⟩
         have h4 := HR4.out
         rw [hlen] at h4
         have hx : (prsC acc).take (k * 2) ++ (prC (d, s) ++ (prsC acc).drop (k * 2)) = prsC (accP es (j + 1)) := by rw [HN.out, HI.out, prsC_take, prsC_drop]; simp [prsC]
         rw [hx] at h4
         exact h4
        case measure => simp [intOf]; omega
       ·cases l3 : Op.bytesLess a2 s
        ·have hge : ∀ h : k < acc.length, ltP acc[k] (d, s) = false := fun _ => by rw [Hq.out, ltP_mk]; simp [l1, l3]
         have Hge := Lib.hid hge
         clear hge
         cases l4 : (a2 == s)
         ·have hne : ¬ acc[k]? = some (d, s) := by rw [List.getElem?_eq_getElem hlt2, Hq.out]; intro e; injection e with e; injection e with e1 e2; rw [e2] at l4; simp at l4
          have Hne := Lib.hid hne
          clear hne
          try go_wp2_with fail
          refine wp_region_held_drew (S := fun w' => Below wr.heap.size wr w') (by kernel_rfl) (Below.drew (Below.refl _ _)) (fun hHeld => ?_)
          refine tV 0 ?_ ?zq ?_; (case zq => rintro _ -; go_simp; try with_reducible rfl); try simp only [Act.put, zn1, zn2, zn3]
          refine tV 1 ?_ ?zq ?_; (case zq => rintro _ -; go_simp; try with_reducible rfl); try simp only [Act.put, zn1, zn2, zn3]
          refine tV 2 ?_ ?zq ?_; (case zq => rintro _ -; go_simp; try with_reducible rfl); try simp only [Act.put, zn1, zn2, zn3]
          refine tV 3 ?_ ?zq ?_; (case zq => rintro _ -; go_simp; try with_reducible rfl); try simp only [Act.put, zn1, zn2, zn3]
          refine tV 4 ?_ ?zq ?_; (case zq => rintro _ -; go_simp; try with_reducible rfl); try simp only [Act.put, zn1, zn2, zn3]
          refine tV 5 ?_ ?zq ?_; (case zq => rintro _ -; go_simp; try with_reducible rfl); try simp only [Act.put, zn1, zn2, zn3]
          refine tV 6 ?_ ?zq ?_; (case zq => rintro _ -; go_simp; try with_reducible rfl); try simp only [Act.put, zn1, zn2, zn3]
          refine tV 7 ?_ ?zq ?_; (case zq => rintro _ -; go_simp; try with_reducible rfl); try simp only [Act.put, zn1, zn2, zn3]
          refine tV 8 ?_ ?zq ?_; (case zq => rintro _ -; go_simp; try with_reducible rfl); try simp only [Act.put, zn1, zn2, zn3]
          refine tV 9 ?_ ?zq ?_; (case zq => intro w' hSw; have hCell := fun (b o : Nat) (h : b < wr.heap.size) => hSw.cell (p := ⟨b, o, none⟩) h; clear hSw; go_simp; try with_reducible rfl); try simp only [Act.put, zn1, zn2, zn3]
          refine tV 10 ?_ ?zq ?_; (case zq => rintro _ -; go_simp; try with_reducible rfl); try simp only [Act.put, zn1, zn2, zn3]
          refine tV 11 ?_ ?zq ?_; (case zq => intro w' hSw; have hCell := fun (b o : Nat) (h : b < wr.heap.size) => hSw.cell (p := ⟨b, o, none⟩) h; clear hSw; go_simp; try with_reducible rfl); try simp only [Act.put, zn1, zn2, zn3]
          refine tV 12 ?_ ?zq ?_; (case zq => rintro _ -; go_simp; try with_reducible rfl); try simp only [Act.put, zn1, zn2, zn3]
          refine tV 13 ?_ ?zq ?_; (case zq => rintro _ -; go_simp; try with_reducible rfl); try simp only [Act.put, zn1, zn2, zn3]
          refine tV 14 ?_ ?zq ?_; (case zq => rintro _ -; go_simp; try with_reducible rfl); try simp only [Act.put, zn1, zn2, zn3]
          refine tV 15 ?_ ?zq ?_; (case zq => rintro _ -; go_simp; try with_reducible rfl); try simp only [Act.put, zn1, zn2, zn3]
          refine tV 16 ?_ ?zq ?_; (case zq => rintro _ -; go_simp; try with_reducible rfl); try simp only [Act.put, zn1, zn2, zn3]
          refine tV 17 ?_ ?zq ?_; (case zq => rintro _ -; go_simp; try with_reducible rfl); try simp only [Act.put, zn1, zn2, zn3]
          refine tV 18 ?_ ?zq ?_; (case zq => intro w' hSw; have hCell := fun (b o : Nat) (h : b < wr.heap.size) => hSw.cell (p := ⟨b, o, none⟩) h; clear hSw; go_simp; try with_reducible rfl); try simp only [Act.put, zn1, zn2, zn3]
          refine tV 19 ?_ ?zq ?_; (case zq => rintro _ -; go_simp; try with_reducible rfl); try simp only [Act.put, zn1, zn2, zn3]
          refine tV 20 ?_ ?zq ?_; (case zq => intro w' hSw; have hCell := fun (b o : Nat) (h : b < wr.heap.size) => hSw.cell (p := ⟨b, o, none⟩) h; clear hSw; go_simp; try with_reducible rfl); try simp only [Act.put, zn1, zn2, zn3]
          refine tV 21 ?_ ?zq ?_; (case zq => rintro _ -; go_simp; try with_reducible rfl); try simp only [Act.put, zn1, zn2, zn3]
          refine tV 22 ?_ ?zq ?_; (case zq => rintro _ -; go_simp; try with_reducible rfl); try simp only [Act.put, zn1, zn2, zn3]
          refine tV 23 ?_ ?zq ?_; (case zq => rintro _ -; go_simp; try with_reducible rfl); try simp only [Act.put, zn1, zn2, zn3]
          refine tV 24 ?_ ?zq ?_; (case zq => rintro _ -; go_simp; try with_reducible rfl); try simp only [Act.put, zn1, zn2, zn3]
          refine tV 25 ?_ ?zq ?_; (case zq => rintro _ -; go_simp; try with_reducible rfl); try simp only [Act.put, zn1, zn2, zn3]
          refine tV 26 ?_ ?zq ?_; (case zq => rintro _ -; go_simp; try with_reducible rfl); try simp only [Act.put, zn1, zn2, zn3]
          refine tV 27 ?_ ?zq ?_; (case zq => intro w' hSw; have hCell := fun (b o : Nat) (h : b < wr.heap.size) => hSw.cell (p := ⟨b, o, none⟩) h; clear hSw; go_simp; try with_reducible rfl); try simp only [Act.put, zn1, zn2, zn3]
          refine tV 28 ?_ ?zq ?_; (case zq => rintro _ -; go_simp; try with_reducible rfl); try simp only [Act.put, zn1, zn2, zn3]
          refine tV 29 ?_ ?zq ?_; (case zq => intro w' hSw; have hCell := fun (b o : Nat) (h : b < wr.heap.size) => hSw.cell (p := ⟨b, o, none⟩) h; clear hSw; go_simp; try with_reducible rfl); try simp only [Act.put, zn1, zn2, zn3]
          refine tV 30 ?_ ?zq ?_; (case zq => rintro _ -; go_simp; try with_reducible rfl); try simp only [Act.put, zn1, zn2, zn3]
          refine tV 31 ?_ ?zq ?_; (case zq => rintro _ -; go_simp; try with_reducible rfl); try simp only [Act.put, zn1, zn2, zn3]
          refine tV 32 ?_ ?zq ?_; (case zq => rintro _ -; go_simp; try with_reducible rfl); try simp only [Act.put, zn1, zn2, zn3]
          refine tV 33 ?_ ?zq ?_; (case zq => rintro _ -; go_simp; try with_reducible rfl); try simp only [Act.put, zn1, zn2, zn3]
          refine wpAnyH_done (by kernel_rfl) ?_ _
          replace cp0 := cellAt cp0 hHeld (by omega)
          replace cp1 := cellAt cp1 hHeld (by omega)
          replace hq0 := cellAt hq0 hHeld (by omega)
          replace hq1 := cellAt hq1 hHeld (by omega)
          replace HRa := Lib.hid (HRa.out.at hHeld)
          replace HB := Lib.hid (HB.out.trans (hHeld.mono HB.out.size))
          replace n2 : (wo.heap.size + 1) < wr.drew.heap.size := ltAt n2 hHeld
          replace hB2 : b2 < wr.drew.heap.size := ltAt hB2 hHeld
          go_wp2_with fail
          first | (refine wp_named ?_; intro W3 hW) | (refine calls_named ?_; intro W3 hW)
          have B3 : Below wr.drew.heap.size wr.drew W3 := by rw [hW]; exact bq
          replace cp0 := cellAt cp0 B3 (by omega)
          replace cp1 := cellAt cp1 B3 (by omega)
          replace hq0 := cellAt hq0 B3 (by omega)
          replace hq1 := cellAt hq1 B3 (by omega)
          replace HRa := Lib.hid (HRa.out.at B3)
          replace HB := Lib.hid (HB.out.trans (B3.mono HB.out.size))
          replace n2 : (wo.heap.size + 1) < W3.heap.size := ltAt n2 B3
          replace hB2 : b2 < W3.heap.size := ltAt hB2 B3
          clear hW
          clear B3
          try go_wp2_with fail
          refine wp_region_held_drew (S := fun w' => Below W3.heap.size W3 w') (by kernel_rfl) (Below.drew (Below.refl _ _)) (fun hHeld => ?_)
          refine tV 0 ?_ ?zq ?_; (case zq => rintro _ -; go_simp; try with_reducible rfl); try simp only [Act.put, zn1, zn2, zn3]
          refine tV 1 ?_ ?zq ?_; (case zq => rintro _ -; go_simp; try with_reducible rfl); try simp only [Act.put, zn1, zn2, zn3]
          refine tV 2 ?_ ?zq ?_; (case zq => rintro _ -; go_simp; try with_reducible rfl); try simp only [Act.put, zn1, zn2, zn3]
          refine tV 3 ?_ ?zq ?_; (case zq => rintro _ -; go_simp; try with_reducible rfl); try simp only [Act.put, zn1, zn2, zn3]
          refine tV 4 ?_ ?zq ?_; (case zq => rintro _ -; go_simp; try with_reducible rfl); try simp only [Act.put, zn1, zn2, zn3]
          refine tV 5 ?_ ?zq ?_; (case zq => rintro _ -; go_simp; try with_reducible rfl); try simp only [Act.put, zn1, zn2, zn3]
          refine tV 6 ?_ ?zq ?_; (case zq => rintro _ -; go_simp; try with_reducible rfl); try simp only [Act.put, zn1, zn2, zn3]
          refine tV 7 ?_ ?zq ?_; (case zq => rintro _ -; go_simp; try with_reducible rfl); try simp only [Act.put, zn1, zn2, zn3]
          refine tV 8 ?_ ?zq ?_; (case zq => intro w' hSw; have hCell := fun (b o : Nat) (h : b < W3.heap.size) => hSw.cell (p := ⟨b, o, none⟩) h; clear hSw; go_simp; try with_reducible rfl); try simp only [Act.put, zn1, zn2, zn3]
          refine tV 9 ?_ ?zq ?_; (case zq => intro w' hSw; have hCell := fun (b o : Nat) (h : b < W3.heap.size) => hSw.cell (p := ⟨b, o, none⟩) h; clear hSw; go_simp; try with_reducible rfl); try simp only [Act.put, zn1, zn2, zn3]
          refine tV 10 ?_ ?zq ?_; (case zq => rintro _ -; go_simp; try with_reducible rfl); try simp only [Act.put, zn1, zn2, zn3]
          refine tV 11 ?_ ?zq ?_; (case zq => rintro _ -; go_simp; try with_reducible rfl); try simp only [Act.put, zn1, zn2, zn3]
          refine wpAnyH_done (by kernel_rfl) ?_ _
          replace cp0 := cellAt cp0 hHeld (by omega)
          replace cp1 := cellAt cp1 hHeld (by omega)
          replace hq0 := cellAt hq0 hHeld (by omega)
          replace hq1 := cellAt hq1 hHeld (by omega)
          replace HRa := Lib.hid (HRa.out.at hHeld)
          replace HB := Lib.hid (HB.out.trans (hHeld.mono HB.out.size))
          replace n2 : (wo.heap.size + 1) < W3.drew.heap.size := ltAt n2 hHeld
          replace hB2 : b2 < W3.drew.heap.size := ltAt hB2 hHeld
          go_wp2_with fail
          have hge := Hge.out
          have hne := Hne.out
          have hins : insL ltP (d, s) acc = acc.take k ++ (d, s) :: acc.drop k := by rw [insL_cut acc k hk hall hge, if_neg hne]
          have HI := Lib.hid hins
          first | (refine wp_named ?_; intro W4 hW) | (refine calls_named ?_; intro W4 hW)
          have B4 : Below W3.drew.heap.size W3.drew W4 := by rw [hW]; exact bq
          replace cp0 := cellAt cp0 B4 (by omega)
          replace cp1 := cellAt cp1 B4 (by omega)
          replace hq0 := cellAt hq0 B4 (by omega)
          replace hq1 := cellAt hq1 B4 (by omega)
          replace HRa := Lib.hid (HRa.out.at B4)
          replace HB := Lib.hid (HB.out.trans (B4.mono HB.out.size))
          replace n2 : (wo.heap.size + 1) < W4.heap.size := ltAt n2 B4
          replace hB2 : b2 < W4.heap.size := ltAt hB2 B4
          clear hW
          clear B4 hins hge hne
          have hz4 := Nat.le_trans HB1.out.size HB.out.size
          have HR1 := Lib.hid (HRa.out.takeA hk)
          have HR2 := Lib.hid (HRa.out.dropA hk hc)
          have hs1 := run_slice_full (P := Tryz.prog) Tryz.underlying143 hi (some ⟨b2, o2, none⟩) acc.length c k (Nat.le_trans hk hc)
          have hs2 := run_slice_tail (P := Tryz.prog) Tryz.underlying143 hi (some ⟨b2, o2, none⟩) acc.length c k hk
          rw [hz1] at hs1 hs2
          have HLk := Lib.hid (show (acc.drop k).length = acc.length - k from List.length_drop)
          try go_wp2_with fail
          refine wp_region_held_drew (S := fun w' => Below W4.heap.size W4 w') (by kernel_rfl) (Below.drew (Below.refl _ _)) (fun hHeld => ?_)
          refine tV 0 ?_ ?zq ?_; (case zq => rintro _ -; go_simp; try with_reducible rfl); try simp only [Act.put, zn1, zn2, zn3]
          refine tV 1 ?_ ?zq ?_; (case zq => rintro _ -; go_simp; try with_reducible rfl); try simp only [Act.put, zn1, zn2, zn3]
          refine tV 2 ?_ ?zq ?_; (case zq => rintro _ -; go_simp; try with_reducible rfl); try simp only [Act.put, zn1, zn2, zn3]
          refine tV 3 ?_ ?zq ?_; (case zq => rintro _ -; go_simp; try with_reducible rfl); try simp only [Act.put, zn1, zn2, zn3]
          refine tV 4 ?_ ?zq ?_; (case zq => intro w' hSw; have hCell := fun (b o : Nat) (h : b < W4.heap.size) => hSw.cell (p := ⟨b, o, none⟩) h; clear hSw; go_simp; try with_reducible rfl); try simp only [Act.put, zn1, zn2, zn3]
          refine tV 6 ?_ ?zq ?_; (case zq => rintro _ -; go_simp; try with_reducible rfl); try simp only [Act.put, zn1, zn2, zn3]
          refine tV 7 ?_ ?zq ?_; (case zq => rintro _ -; go_simp; try with_reducible rfl); try simp only [Act.put, zn1, zn2, zn3]
          refine tV 8 ?_ ?zq ?_; (case zq => rintro _ -; go_simp; try with_reducible rfl); try simp only [Act.put, zn1, zn2, zn3]
          refine ready_one (i := 5) rfl (by kernel_rfl) (fun K hK => ?_)
          go_simp
          refine hK.out _ _ ?_ (fun hHeld2 => ?_)
          ·(try dsimp only); first | exact hHeld | exact bq
          clear hK K hHeld; have hHeld := hHeld2; clear hHeld2; (try simp only [Act.put, zn1, zn2, zn3])
          refine ready_one (i := 9) rfl (by kernel_rfl) (fun K hK => ?_)
          refine step_append_full (by rfl) (.tmp 89) (.tmp 92) 143 (by rfl) 145 i0 _ 2 32 Tryz.underlying143 hi hz0 hz1 hz2 rfl _ (some ⟨W4.heap.size, 0, none⟩) 1 (prC (d, s)) (by rfl) (Rd.lit W4.drew (prC (d, s)) 145 2 1 rfl) (Nat.le_refl _) _ _ (acc.length - k) (c - k) _ (by rfl) (HR2.out.at' (Nat.le_refl _) hHeld) (one_drop (one_prsC acc) _) (by unfold maxLen; omega) (by omega) ?_
          intro A2 c2 v2 hc2 hr2 hb
          have HR3 := Lib.hid hr2
          clear hr2
          refine hK.out _ _ ?_ (fun hHeld2 => ?_)
          ·(try dsimp only); first | exact Below.trans hHeld (Below.mono hb hHeld.size) | exact hHeld | exact Below.drew hHeld | exact bq
          clear hK K hHeld; have hHeld := hHeld2; clear hHeld2; (try simp only [Act.put, zn1, zn2, zn3])
          refine ready_one (i := 10) rfl (by kernel_rfl) (fun K hK => ?_)
          refine step_append_fresh (by rfl) (.tmp 87) (.tmp 93) 143 (by rfl) 145 i0 _ 2 32 Tryz.underlying143 hi hz0 hz1 hz2 rfl _ _ k _ (by rfl) (HR1.out.at' (Nat.le_refl _) hHeld) (Nat.le_refl _) _ A2 (1 + (acc.length - k)) c2 _ (by rfl) HR3.out (one_app (one_prC _) (one_drop (one_prsC acc) _)) (by unfold maxLen; omega) (by omega) ?_
          intro A3 c3 v3 hc3 hr3 hb hf3
          have hz5 := Nat.le_trans hz4 hHeld.size
          have HR4 := Lib.hid hr3
          clear hr3
          refine hK.out _ _ ?_ (fun hHeld2 => ?_)
          ·(try dsimp only); first | exact Below.trans hHeld (Below.mono hb hHeld.size) | exact hHeld | exact Below.drew hHeld | exact bq
          clear hK K hHeld; have hHeld := hHeld2; clear hHeld2; (try simp only [Act.put, zn1, zn2, zn3])
          refine tV 11 ?_ ?zq ?_; (case zq => rintro _ -; go_simp; try with_reducible rfl); try simp only [Act.put, zn1, zn2, zn3]
          refine wpAnyH_done (by kernel_rfl) ?_ _
          replace cp0 := cellAt cp0 hHeld (by omega)
          replace cp1 := cellAt cp1 hHeld (by omega)
          replace hq0 := cellAt hq0 hHeld (by omega)
          replace hq1 := cellAt hq1 hHeld (by omega)
          replace HRa := Lib.hid (HRa.out.at hHeld)
          replace HB := Lib.hid (HB.out.trans (hHeld.mono HB.out.size))
          replace n2 : (wo.heap.size + 1) < v3.heap.size := ltAt n2 hHeld
          replace hB2 : b2 < v3.heap.size := ltAt hB2 hHeld
          clear hs1 hs2
          go_wp2_with fail
          go_roundw
          case rel =>
           have hlen : k + (1 + (acc.length - k)) = (accP es (j + 1)).length := by rw [HN.out, HI.out, List.length_append, List.length_cons, List.length_take, HLk.out]; omega
           refine ⟨j + 1, A3, c3, by omega, by go_num, by rw [hlen], by rw [← hlen]; exact hc3, ?_, fun _ ad e => Nat.le_trans hz5 (hf3 (by omega) ad e), HB.out⟩
           have h4 := HR4.out
           rw [hlen] at h4
           have hx : (prsC acc).take (k * 2) ++ (prC (d, s) ++ (prsC acc).drop (k * 2)) = prsC (accP es (j + 1)) := by rw [HN.out, HI.out, prsC_take, prsC_drop]; simp [prsC]
           rw [hx] at h4
           exact h4
          case measure => simp [intOf]; omega
         ·skip
          try go_wp2_with fail
          refine wp_region_held_drew (S := fun w' => Below wr.heap.size wr w') (by kernel_rfl) (Below.drew (Below.refl _ _)) (fun hHeld => ?_)
          refine tV 0 ?_ ?zq ?_; (case zq => rintro _ -; go_simp; try with_reducible rfl); try simp only [Act.put, zn1, zn2, zn3]
          refine tV 1 ?_ ?zq ?_; (case zq => rintro _ -; go_simp; try with_reducible rfl); try simp only [Act.put, zn1, zn2, zn3]
          refine tV 2 ?_ ?zq ?_; (case zq => rintro _ -; go_simp; try with_reducible rfl); try simp only [Act.put, zn1, zn2, zn3]
          refine tV 3 ?_ ?zq ?_; (case zq => rintro _ -; go_simp; try with_reducible rfl); try simp only [Act.put, zn1, zn2, zn3]
          refine tV 4 ?_ ?zq ?_; (case zq => rintro _ -; go_simp; try with_reducible rfl); try simp only [Act.put, zn1, zn2, zn3]
          refine tV 5 ?_ ?zq ?_; (case zq => rintro _ -; go_simp; try with_reducible rfl); try simp only [Act.put, zn1, zn2, zn3]
          refine tV 6 ?_ ?zq ?_; (case zq => rintro _ -; go_simp; try with_reducible rfl); try simp only [Act.put, zn1, zn2, zn3]
          refine tV 7 ?_ ?zq ?_; (case zq => rintro _ -; go_simp; try with_reducible rfl); try simp only [Act.put, zn1, zn2, zn3]
          refine tV 8 ?_ ?zq ?_; (case zq => rintro _ -; go_simp; try with_reducible rfl); try simp only [Act.put, zn1, zn2, zn3]
          refine tV 9 ?_ ?zq ?_; (case zq => intro w' hSw; have hCell := fun (b o : Nat) (h : b < wr.heap.size) => hSw.cell (p := ⟨b, o, none⟩) h; clear hSw; go_simp; try with_reducible rfl); try simp only [Act.put, zn1, zn2, zn3]
          refine tV 10 ?_ ?zq ?_; (case zq => rintro _ -; go_simp; try with_reducible rfl); try simp only [Act.put, zn1, zn2, zn3]
          refine tV 11 ?_ ?zq ?_; (case zq => intro w' hSw; have hCell := fun (b o : Nat) (h : b < wr.heap.size) => hSw.cell (p := ⟨b, o, none⟩) h; clear hSw; go_simp; try with_reducible rfl); try simp only [Act.put, zn1, zn2, zn3]
          refine tV 12 ?_ ?zq ?_; (case zq => rintro _ -; go_simp; try with_reducible rfl); try simp only [Act.put, zn1, zn2, zn3]
          refine tV 13 ?_ ?zq ?_; (case zq => rintro _ -; go_simp; try with_reducible rfl); try simp only [Act.put, zn1, zn2, zn3]
          refine tV 14 ?_ ?zq ?_; (case zq => rintro _ -; go_simp; try with_reducible rfl); try simp only [Act.put, zn1, zn2, zn3]
          refine tV 15 ?_ ?zq ?_; (case zq => rintro _ -; go_simp; try with_reducible rfl); try simp only [Act.put, zn1, zn2, zn3]
          refine tV 16 ?_ ?zq ?_; (case zq => rintro _ -; go_simp; try with_reducible rfl); try simp only [Act.put, zn1, zn2, zn3]
          refine tV 17 ?_ ?zq ?_; (case zq => rintro _ -; go_simp; try with_reducible rfl); try simp only [Act.put, zn1, zn2, zn3]
          refine tV 18 ?_ ?zq ?_; (case zq => intro w' hSw; have hCell := fun (b o : Nat) (h : b < wr.heap.size) => hSw.cell (p := ⟨b, o, none⟩) h; clear hSw; go_simp; try with_reducible rfl); try simp only [Act.put, zn1, zn2, zn3]
          refine tV 19 ?_ ?zq ?_; (case zq => rintro _ -; go_simp; try with_reducible rfl); try simp only [Act.put, zn1, zn2, zn3]
          refine tV 20 ?_ ?zq ?_; (case zq => intro w' hSw; have hCell := fun (b o : Nat) (h : b < wr.heap.size) => hSw.cell (p := ⟨b, o, none⟩) h; clear hSw; go_simp; try with_reducible rfl); try simp only [Act.put, zn1, zn2, zn3]
          refine tV 21 ?_ ?zq ?_; (case zq => rintro _ -; go_simp; try with_reducible rfl); try simp only [Act.put, zn1, zn2, zn3]
          refine tV 22 ?_ ?zq ?_; (case zq => rintro _ -; go_simp; try with_reducible rfl); try simp only [Act.put, zn1, zn2, zn3]
          refine tV 23 ?_ ?zq ?_; (case zq => rintro _ -; go_simp; try with_reducible rfl); try simp only [Act.put, zn1, zn2, zn3]
          refine tV 24 ?_ ?zq ?_; (case zq => rintro _ -; go_simp; try with_reducible rfl); try simp only [Act.put, zn1, zn2, zn3]
          refine tV 25 ?_ ?zq ?_; (case zq => rintro _ -; go_simp; try with_reducible rfl); try simp only [Act.put, zn1, zn2, zn3]
          refine tV 26 ?_ ?zq ?_; (case zq => rintro _ -; go_simp; try with_reducible rfl); try simp only [Act.put, zn1, zn2, zn3]
          refine tV 27 ?_ ?zq ?_; (case zq => intro w' hSw; have hCell := fun (b o : Nat) (h : b < wr.heap.size) => hSw.cell (p := ⟨b, o, none⟩) h; clear hSw; go_simp; try with_reducible rfl); try simp only [Act.put, zn1, zn2, zn3]
          refine tV 28 ?_ ?zq ?_; (case zq => rintro _ -; go_simp; try with_reducible rfl); try simp only [Act.put, zn1, zn2, zn3]
          refine tV 29 ?_ ?zq ?_; (case zq => intro w' hSw; have hCell := fun (b o : Nat) (h : b < wr.heap.size) => hSw.cell (p := ⟨b, o, none⟩) h; clear hSw; go_simp; try with_reducible rfl); try simp only [Act.put, zn1, zn2, zn3]
          refine tV 30 ?_ ?zq ?_; (case zq => rintro _ -; go_simp; try with_reducible rfl); try simp only [Act.put, zn1, zn2, zn3]
          refine tV 31 ?_ ?zq ?_; (case zq => rintro _ -; go_simp; try with_reducible rfl); try simp only [Act.put, zn1, zn2, zn3]
          refine tV 32 ?_ ?zq ?_; (case zq => rintro _ -; go_simp; try with_reducible rfl); try simp only [Act.put, zn1, zn2, zn3]
          refine tV 33 ?_ ?zq ?_; (case zq => rintro _ -; go_simp; try with_reducible rfl); try simp only [Act.put, zn1, zn2, zn3]
          refine wpAnyH_done (by kernel_rfl) ?_ _
          replace cp0 := cellAt cp0 hHeld (by omega)
          replace cp1 := cellAt cp1 hHeld (by omega)
          replace hq0 := cellAt hq0 hHeld (by omega)
          replace hq1 := cellAt hq1 hHeld (by omega)
          replace HRa := Lib.hid (HRa.out.at hHeld)
          replace HB := Lib.hid (HB.out.trans (hHeld.mono HB.out.size))
          replace n2 : (wo.heap.size + 1) < wr.drew.heap.size := ltAt n2 hHeld
          replace hB2 : b2 < wr.drew.heap.size := ltAt hB2 hHeld
          go_wp2_with fail
          first | (refine wp_named ?_; intro W3 hW) | (refine calls_named ?_; intro W3 hW)
          have B3 : Below wr.drew.heap.size wr.drew W3 := by rw [hW]; exact bq
          replace cp0 := cellAt cp0 B3 (by omega)
          replace cp1 := cellAt cp1 B3 (by omega)
          replace hq0 := cellAt hq0 B3 (by omega)
          replace hq1 := cellAt hq1 B3 (by omega)
          replace HRa := Lib.hid (HRa.out.at B3)
          replace HB := Lib.hid (HB.out.trans (B3.mono HB.out.size))
          replace n2 : (wo.heap.size + 1) < W3.heap.size := ltAt n2 B3
          replace hB2 : b2 < W3.heap.size := ltAt hB2 B3
          clear hW
          clear B3
          try go_wp2_with fail
          refine wp_region_held_drew (S := fun w' => Below W3.heap.size W3 w') (by kernel_rfl) (Below.drew (Below.refl _ _)) (fun hHeld => ?_)
          refine tV 0 ?_ ?zq ?_; (case zq => rintro _ -; go_simp; try with_reducible rfl); try simp only [Act.put, zn1, zn2, zn3]
          refine tV 1 ?_ ?zq ?_; (case zq => rintro _ -; go_simp; try with_reducible rfl); try simp only [Act.put, zn1, zn2, zn3]
          refine tV 2 ?_ ?zq ?_; (case zq => rintro _ -; go_simp; try with_reducible rfl); try simp only [Act.put, zn1, zn2, zn3]
          refine tV 3 ?_ ?zq ?_; (case zq => rintro _ -; go_simp; try with_reducible rfl); try simp only [Act.put, zn1, zn2, zn3]
          refine tV 4 ?_ ?zq ?_; (case zq => rintro _ -; go_simp; try with_reducible rfl); try simp only [Act.put, zn1, zn2, zn3]
          refine tV 5 ?_ ?zq ?_; (case zq => rintro _ -; go_simp; try with_reducible rfl); try simp only [Act.put, zn1, zn2, zn3]
          refine tV 6 ?_ ?zq ?_; (case zq => rintro _ -; go_simp; try with_reducible rfl); try simp only [Act.put, zn1, zn2, zn3]
          refine tV 7 ?_ ?zq ?_; (case zq => rintro _ -; go_simp; try with_reducible rfl); try simp only [Act.put, zn1, zn2, zn3]
          refine tV 8 ?_ ?zq ?_; (case zq => intro w' hSw; have hCell := fun (b o : Nat) (h : b < W3.heap.size) => hSw.cell (p := ⟨b, o, none⟩) h; clear hSw; go_simp; try with_reducible rfl); try simp only [Act.put, zn1, zn2, zn3]
          refine tV 9 ?_ ?zq ?_; (case zq => intro w' hSw; have hCell := fun (b o : Nat) (h : b < W3.heap.size) => hSw.cell (p := ⟨b, o, none⟩) h; clear hSw; go_simp; try with_reducible rfl); try simp only [Act.put, zn1, zn2, zn3]
          refine tV 10 ?_ ?zq ?_; (case zq => rintro _ -; go_simp; try with_reducible rfl); try simp only [Act.put, zn1, zn2, zn3]
          refine tV 11 ?_ ?zq ?_; (case zq => rintro _ -; go_simp; try with_reducible rfl); try simp only [Act.put, zn1, zn2, zn3]
          refine wpAnyH_done (by kernel_rfl) ?_ _
          replace cp0 := cellAt cp0 hHeld (by omega)
          replace cp1 := cellAt cp1 hHeld (by omega)
          replace hq0 := cellAt hq0 hHeld (by omega)
          replace hq1 := cellAt hq1 hHeld (by omega)
          replace HRa := Lib.hid (HRa.out.at hHeld)
          replace HB := Lib.hid (HB.out.trans (hHeld.mono HB.out.size))
          replace n2 : (wo.heap.size + 1) < W3.drew.heap.size := ltAt n2 hHeld
          replace hB2 : b2 < W3.drew.heap.size := ltAt hB2 hHeld
          go_wp2_with fail
          have hge := Hge.out
          go_roundw
          case rel =>
           have hins : accP es (j + 1) = acc := by rw [HN.out, insL_cut acc k hk hall hge, if_pos]; rw [List.getElem?_eq_getElem hlt2, Hq.out]; simp_all
           exact ⟨j + 1, _, c, by omega, by go_num, by rw [hins], by rw [hins]; exact hc, by rw [hins]; exact HRa.out.at (by repeat (first | exact Below.refl _ _ | assumption | refine Below.alloc ?_ (by simp <;> omega) _ | refine Below.setCell ?_ (by simp <;> omega) _ | refine Below.drew ?_)), by rw [hins]; exact HFr.out, HB.out.trans (Below.mono (by repeat (first | exact Below.refl _ _ | assumption | refine Below.alloc ?_ (by simp <;> omega) _ | refine Below.setCell ?_ (by simp <;> omega) _ | refine Below.drew ?_)) HB.out.size)⟩
          case measure => simp [intOf]; omega
        ·skip
         try go_wp2_with fail
         refine wp_region_held_drew (S := fun w' => Below wr.heap.size wr w') (by kernel_rfl) (Below.drew (Below.refl _ _)) (fun hHeld => ?_)
         refine tV 0 ?_ ?zq ?_; (case zq => rintro _ -; go_simp; try with_reducible rfl); try simp only [Act.put, zn1, zn2, zn3]
         refine tV 1 ?_ ?zq ?_; (case zq => rintro _ -; go_simp; try with_reducible rfl); try simp only [Act.put, zn1, zn2, zn3]
         refine tV 2 ?_ ?zq ?_; (case zq => rintro _ -; go_simp; try with_reducible rfl); try simp only [Act.put, zn1, zn2, zn3]
         refine tV 3 ?_ ?zq ?_; (case zq => rintro _ -; go_simp; try with_reducible rfl); try simp only [Act.put, zn1, zn2, zn3]
         refine tV 4 ?_ ?zq ?_; (case zq => rintro _ -; go_simp; try with_reducible rfl); try simp only [Act.put, zn1, zn2, zn3]
         refine tV 5 ?_ ?zq ?_; (case zq => rintro _ -; go_simp; try with_reducible rfl); try simp only [Act.put, zn1, zn2, zn3]
         refine tV 6 ?_ ?zq ?_; (case zq => rintro _ -; go_simp; try with_reducible rfl); try simp only [Act.put, zn1, zn2, zn3]
         refine tV 7 ?_ ?zq ?_; (case zq => rintro _ -; go_simp; try with_reducible rfl); try simp only [Act.put, zn1, zn2, zn3]
         refine tV 8 ?_ ?zq ?_; (case zq => rintro _ -; go_simp; try with_reducible rfl); try simp only [Act.put, zn1, zn2, zn3]
         refine tV 9 ?_ ?zq ?_; (case zq => intro w' hSw; have hCell := fun (b o : Nat) (h : b < wr.heap.size) => hSw.cell (p := ⟨b, o, none⟩) h; clear hSw; go_simp; try with_reducible rfl); try simp only [Act.put, zn1, zn2, zn3]
         refine tV 10 ?_ ?zq ?_; (case zq => rintro _ -; go_simp; try with_reducible rfl); try simp only [Act.put, zn1, zn2, zn3]
         refine tV 11 ?_ ?zq ?_; (case zq => intro w' hSw; have hCell := fun (b o : Nat) (h : b < wr.heap.size) => hSw.cell (p := ⟨b, o, none⟩) h; clear hSw; go_simp; try with_reducible rfl); try simp only [Act.put, zn1, zn2, zn3]
         refine tV 12 ?_ ?zq ?_; (case zq => rintro _ -; go_simp; try with_reducible rfl); try simp only [Act.put, zn1, zn2, zn3]
         refine tV 13 ?_ ?zq ?_; (case zq => rintro _ -; go_simp; try with_reducible rfl); try simp only [Act.put, zn1, zn2, zn3]
         refine tV 14 ?_ ?zq ?_; (case zq => rintro _ -; go_simp; try with_reducible rfl); try simp only [Act.put, zn1, zn2, zn3]
         refine tV 15 ?_ ?zq ?_; (case zq => rintro _ -; go_simp; try with_reducible rfl); try simp only [Act.put, zn1, zn2, zn3]
         refine tV 16 ?_ ?zq ?_; (case zq => rintro _ -; go_simp; try with_reducible rfl); try simp only [Act.put, zn1, zn2, zn3]
         refine tV 17 ?_ ?zq ?_; (case zq => rintro _ -; go_simp; try with_reducible rfl); try simp only [Act.put, zn1, zn2, zn3]
         refine tV 18 ?_ ?zq ?_; (case zq => intro w' hSw; have hCell := fun (b o : Nat) (h : b < wr.heap.size) => hSw.cell (p := ⟨b, o, none⟩) h; clear hSw; go_simp; try with_reducible rfl); try simp only [Act.put, zn1, zn2, zn3]
         refine tV 19 ?_ ?zq ?_; (case zq => rintro _ -; go_simp; try with_reducible rfl); try simp only [Act.put, zn1, zn2, zn3]
         refine tV 20 ?_ ?zq ?_; (case zq => intro w' hSw; have hCell := fun (b o : Nat) (h : b < wr.heap.size) => hSw.cell (p := ⟨b, o, none⟩) h; clear hSw; go_simp; try with_reducible rfl); try simp only [Act.put, zn1, zn2, zn3]
         refine tV 21 ?_ ?zq ?_; (case zq => rintro _ -; go_simp; try with_reducible rfl); try simp only [Act.put, zn1, zn2, zn3]
         refine tV 22 ?_ ?zq ?_; (case zq => rintro _ -; go_simp; try with_reducible rfl); try simp only [Act.put, zn1, zn2, zn3]
         refine tV 23 ?_ ?zq ?_; (case zq => rintro _ -; go_simp; try with_reducible rfl); try simp only [Act.put, zn1, zn2, zn3]
         refine tV 24 ?_ ?zq ?_; (case zq => rintro _ -; go_simp; try with_reducible rfl); try simp only [Act.put, zn1, zn2, zn3]
         refine tV 25 ?_ ?zq ?_; (case zq => rintro _ -; go_simp; try with_reducible rfl); try simp only [Act.put, zn1, zn2, zn3]
         refine tV 26 ?_ ?zq ?_; (case zq => rintro _ -; go_simp; try with_reducible rfl); try simp only [Act.put, zn1, zn2, zn3]
         refine tV 27 ?_ ?zq ?_; (case zq => intro w' hSw; have hCell := fun (b o : Nat) (h : b < wr.heap.size) => hSw.cell (p := ⟨b, o, none⟩) h; clear hSw; go_simp; try with_reducible rfl); try simp only [Act.put, zn1, zn2, zn3]
         refine tV 28 ?_ ?zq ?_; (case zq => rintro _ -; go_simp; try with_reducible rfl); try simp only [Act.put, zn1, zn2, zn3]
         refine tV 29 ?_ ?zq ?_; (case zq => intro w' hSw; have hCell := fun (b o : Nat) (h : b < wr.heap.size) => hSw.cell (p := ⟨b, o, none⟩) h; clear hSw; go_simp; try with_reducible rfl); try simp only [Act.put, zn1, zn2, zn3]
         refine tV 30 ?_ ?zq ?_; (case zq => rintro _ -; go_simp; try with_reducible rfl); try simp only [Act.put, zn1, zn2, zn3]
         refine tV 31 ?_ ?zq ?_; (case zq => rintro _ -; go_simp; try with_reducible rfl); try simp only [Act.put, zn1, zn2, zn3]
         refine tV 32 ?_ ?zq ?_; (case zq => rintro _ -; go_simp; try with_reducible rfl); try simp only [Act.put, zn1, zn2, zn3]
         refine tV 33 ?_ ?zq ?_; (case zq => rintro _ -; go_simp; try with_reducible rfl); try simp only [Act.put, zn1, zn2, zn3]
         refine wpAnyH_done (by kernel_rfl) ?_ _
         replace cp0 := cellAt cp0 hHeld (by omega)
         replace cp1 := cellAt cp1 hHeld (by omega)
         replace hq0 := cellAt hq0 hHeld (by omega)
         replace hq1 := cellAt hq1 hHeld (by omega)
         replace HRa := Lib.hid (HRa.out.at hHeld)
         replace HB := Lib.hid (HB.out.trans (hHeld.mono HB.out.size))
         replace n2 : (wo.heap.size + 1) < wr.drew.heap.size := ltAt n2 hHeld
         replace hB2 : b2 < wr.drew.heap.size := ltAt hB2 hHeld
         go_wp2_with fail
         go_roundw
         case rel =>
          refine ⟨k + 1, by omega, by go_num, fun q hq => ?_, lift hbq hHeld⟩
          rw [List.take_succ_eq_append_getElem hlt2, List.mem_append, List.mem_singleton] at hq
          rcases hq with h | h
          ·exact hall q h
          ·rw [h, Hq.out, ltP_mk]; simp [l1, l2, l3]
         case measure => simp [intOf]; omega
      ·skip
       try go_wp2_with fail
       refine wp_region_held_drew (S := fun w' => Below wr.heap.size wr w') (by kernel_rfl) (Below.drew (Below.refl _ _)) (fun hHeld => ?_)
       refine tV 0 ?_ ?zq ?_; (case zq => rintro _ -; go_simp; try with_reducible rfl); try simp only [Act.put, zn1, zn2, zn3]
       refine tV 1 ?_ ?zq ?_; (case zq => rintro _ -; go_simp; try with_reducible rfl); try simp only [Act.put, zn1, zn2, zn3]
       refine tV 2 ?_ ?zq ?_; (case zq => rintro _ -; go_simp; try with_reducible rfl); try simp only [Act.put, zn1, zn2, zn3]
       refine tV 3 ?_ ?zq ?_; (case zq => rintro _ -; go_simp; try with_reducible rfl); try simp only [Act.put, zn1, zn2, zn3]
       refine tV 4 ?_ ?zq ?_; (case zq => rintro _ -; go_simp; try with_reducible rfl); try simp only [Act.put, zn1, zn2, zn3]
       refine tV 5 ?_ ?zq ?_; (case zq => rintro _ -; go_simp; try with_reducible rfl); try simp only [Act.put, zn1, zn2, zn3]
       refine tV 6 ?_ ?zq ?_; (case zq => rintro _ -; go_simp; try with_reducible rfl); try simp only [Act.put, zn1, zn2, zn3]
       refine tV 7 ?_ ?zq ?_; (case zq => rintro _ -; go_simp; try with_reducible rfl); try simp only [Act.put, zn1, zn2, zn3]
       refine tV 8 ?_ ?zq ?_; (case zq => rintro _ -; go_simp; try with_reducible rfl); try simp only [Act.put, zn1, zn2, zn3]
       refine tV 9 ?_ ?zq ?_; (case zq => intro w' hSw; have hCell := fun (b o : Nat) (h : b < wr.heap.size) => hSw.cell (p := ⟨b, o, none⟩) h; clear hSw; go_simp; try with_reducible rfl); try simp only [Act.put, zn1, zn2, zn3]
       refine tV 10 ?_ ?zq ?_; (case zq => rintro _ -; go_simp; try with_reducible rfl); try simp only [Act.put, zn1, zn2, zn3]
       refine tV 11 ?_ ?zq ?_; (case zq => intro w' hSw; have hCell := fun (b o : Nat) (h : b < wr.heap.size) => hSw.cell (p := ⟨b, o, none⟩) h; clear hSw; go_simp; try with_reducible rfl); try simp only [Act.put, zn1, zn2, zn3]
       refine tV 12 ?_ ?zq ?_; (case zq => rintro _ -; go_simp; try with_reducible rfl); try simp only [Act.put, zn1, zn2, zn3]
       refine tV 13 ?_ ?zq ?_; (case zq => rintro _ -; go_simp; try with_reducible rfl); try simp only [Act.put, zn1, zn2, zn3]
       refine tU 14 ?_; (try simp only [Act.put, zn1, zn2, zn3])
       refine tU 15 ?_; (try simp only [Act.put, zn1, zn2, zn3])
       refine tU 16 ?_; (try simp only [Act.put, zn1, zn2, zn3])
       refine tU 17 ?_; (try simp only [Act.put, zn1, zn2, zn3])
       refine tU 18 ?_; (try simp only [Act.put, zn1, zn2, zn3])
       refine tU 19 ?_; (try simp only [Act.put, zn1, zn2, zn3])
       refine tU 20 ?_; (try simp only [Act.put, zn1, zn2, zn3])
       refine tU 21 ?_; (try simp only [Act.put, zn1, zn2, zn3])
       refine tU 22 ?_; (try simp only [Act.put, zn1, zn2, zn3])
       refine tU 23 ?_; (try simp only [Act.put, zn1, zn2, zn3])
       refine tU 24 ?_; (try simp only [Act.put, zn1, zn2, zn3])
       refine tU 25 ?_; (try simp only [Act.put, zn1, zn2, zn3])
       refine tU 26 ?_; (try simp only [Act.put, zn1, zn2, zn3])
       refine tU 27 ?_; (try simp only [Act.put, zn1, zn2, zn3])
       refine tU 28 ?_; (try simp only [Act.put, zn1, zn2, zn3])
       refine tU 29 ?_; (try simp only [Act.put, zn1, zn2, zn3])
       refine tU 30 ?_; (try simp only [Act.put, zn1, zn2, zn3])
       refine tU 31 ?_; (try simp only [Act.put, zn1, zn2, zn3])
       refine tV 32 ?_ ?zq ?_; (case zq => rintro _ -; go_simp; try with_reducible rfl); try simp only [Act.put, zn1, zn2, zn3]
       refine tV 33 ?_ ?zq ?_; (case zq => rintro _ -; go_simp; try with_reducible rfl); try simp only [Act.put, zn1, zn2, zn3]
       refine wpAnyH_done (by kernel_rfl) ?_ _
       replace cp0 := cellAt cp0 hHeld (by omega)
       replace cp1 := cellAt cp1 hHeld (by omega)
       replace hq0 := cellAt hq0 hHeld (by omega)
       replace hq1 := cellAt hq1 hHeld (by omega)
       replace HRa := Lib.hid (HRa.out.at hHeld)
       replace HB := Lib.hid (HB.out.trans (hHeld.mono HB.out.size))
       replace n2 : (wo.heap.size + 1) < wr.drew.heap.size := ltAt n2 hHeld
       replace hB2 : b2 < wr.drew.heap.size := ltAt hB2 hHeld
       go_wp2_with fail
       go_roundw
       case rel =>
        refine ⟨k + 1, by omega, by go_num, fun q hq => ?_, lift hbq hHeld⟩
        rw [List.take_succ_eq_append_getElem hlt2, List.mem_append, List.mem_singleton] at hq
        rcases hq with h | h
        ·exact hall q h
        ·rw [h, Hq.out, ltP_mk]; simp [l1]
       case measure => simp [intOf]; omega
     ·have hge : ∀ h : k < acc.length, ltP acc[k] (d, s) = false := fun h => absurd h hlt2
      have hne : ¬ acc[k]? = some (d, s) := by rw [List.getElem?_eq_none (by omega)]; simp
      have Hge := Lib.hid (And.intro hge hne)
      clear hge hne
      try go_wp2_with fail
      refine wp_region_held_drew (S := fun w' => Below wr.heap.size wr w') (by kernel_rfl) (Below.drew (Below.refl _ _)) (fun hHeld => ?_)
      refine tV 0 ?_ ?zq ?_; (case zq => rintro _ -; go_simp; try with_reducible rfl); try simp only [Act.put, zn1, zn2, zn3]
      refine tV 1 ?_ ?zq ?_; (case zq => rintro _ -; go_simp; try with_reducible rfl); try simp only [Act.put, zn1, zn2, zn3]
      refine tV 2 ?_ ?zq ?_; (case zq => rintro _ -; go_simp; try with_reducible rfl); try simp only [Act.put, zn1, zn2, zn3]
      refine tV 3 ?_ ?zq ?_; (case zq => rintro _ -; go_simp; try with_reducible rfl); try simp only [Act.put, zn1, zn2, zn3]
      refine tV 4 ?_ ?zq ?_; (case zq => rintro _ -; go_simp; try with_reducible rfl); try simp only [Act.put, zn1, zn2, zn3]
      refine tU 5 ?_; (try simp only [Act.put, zn1, zn2, zn3])
      refine tU 6 ?_; (try simp only [Act.put, zn1, zn2, zn3])
      refine tU 7 ?_; (try simp only [Act.put, zn1, zn2, zn3])
      refine tU 8 ?_; (try simp only [Act.put, zn1, zn2, zn3])
      refine tU 9 ?_; (try simp only [Act.put, zn1, zn2, zn3])
      refine tU 10 ?_; (try simp only [Act.put, zn1, zn2, zn3])
      refine tU 11 ?_; (try simp only [Act.put, zn1, zn2, zn3])
      refine tU 12 ?_; (try simp only [Act.put, zn1, zn2, zn3])
      refine tU 13 ?_; (try simp only [Act.put, zn1, zn2, zn3])
      refine tU 14 ?_; (try simp only [Act.put, zn1, zn2, zn3])
      refine tU 15 ?_; (try simp only [Act.put, zn1, zn2, zn3])
      refine tU 16 ?_; (try simp only [Act.put, zn1, zn2, zn3])
      refine tU 17 ?_; (try simp only [Act.put, zn1, zn2, zn3])
      refine tU 18 ?_; (try simp only [Act.put, zn1, zn2, zn3])
      refine tU 19 ?_; (try simp only [Act.put, zn1, zn2, zn3])
      refine tU 20 ?_; (try simp only [Act.put, zn1, zn2, zn3])
      refine tU 21 ?_; (try simp only [Act.put, zn1, zn2, zn3])
      refine tU 22 ?_; (try simp only [Act.put, zn1, zn2, zn3])
      refine tU 23 ?_; (try simp only [Act.put, zn1, zn2, zn3])
      refine tU 24 ?_; (try simp only [Act.put, zn1, zn2, zn3])
      refine tU 25 ?_; (try simp only [Act.put, zn1, zn2, zn3])
      refine tU 26 ?_; (try simp only [Act.put, zn1, zn2, zn3])
      refine tU 27 ?_; (try simp only [Act.put, zn1, zn2, zn3])
      refine tU 28 ?_; (try simp only [Act.put, zn1, zn2, zn3])
      refine tU 29 ?_; (try simp only [Act.put, zn1, zn2, zn3])
      refine tU 30 ?_; (try simp only [Act.put, zn1, zn2, zn3])
      refine tU 31 ?_; (try simp only [Act.put, zn1, zn2, zn3])
      refine tU 32 ?_; (try simp only [Act.put, zn1, zn2, zn3])
      refine tV 33 ?_ ?zq ?_; (case zq => rintro _ -; go_simp; try with_reducible rfl); try simp only [Act.put, zn1, zn2, zn3]
      refine wpAnyH_done (by kernel_rfl) ?_ _
      replace cp0 := cellAt cp0 hHeld (by omega)
      replace cp1 := cellAt cp1 hHeld (by omega)
      replace HRa := Lib.hid (HRa.out.at hHeld)
      replace HB := Lib.hid (HB.out.trans (hHeld.mono HB.out.size))
      replace n2 : (wo.heap.size + 1) < wr.drew.heap.size := ltAt n2 hHeld
      go_wp2_with fail
      first | (refine wp_named ?_; intro W3 hW) | (refine calls_named ?_; intro W3 hW)
      have B3 : Below wr.drew.heap.size wr.drew W3 := by rw [hW]; exact bq
      replace cp0 := cellAt cp0 B3 (by omega)
      replace cp1 := cellAt cp1 B3 (by omega)
      replace HRa := Lib.hid (HRa.out.at B3)
      replace HB := Lib.hid (HB.out.trans (B3.mono HB.out.size))
      replace n2 : (wo.heap.size + 1) < W3.heap.size := ltAt n2 B3
      clear hW
      clear B3
      try go_wp2_with fail
      refine wp_region_held_drew (S := fun w' => Below W3.heap.size W3 w') (by kernel_rfl) (Below.drew (Below.refl _ _)) (fun hHeld => ?_)
      refine tV 0 ?_ ?zq ?_; (case zq => rintro _ -; go_simp; try with_reducible rfl); try simp only [Act.put, zn1, zn2, zn3]
      refine tV 1 ?_ ?zq ?_; (case zq => rintro _ -; go_simp; try with_reducible rfl); try simp only [Act.put, zn1, zn2, zn3]
      refine tV 2 ?_ ?zq ?_; (case zq => rintro _ -; go_simp; try with_reducible rfl); try simp only [Act.put, zn1, zn2, zn3]
      refine tV 3 ?_ ?zq ?_; (case zq => rintro _ -; go_simp; try with_reducible rfl); try simp only [Act.put, zn1, zn2, zn3]
      refine tV 4 ?_ ?zq ?_; (case zq => rintro _ -; go_simp; try with_reducible rfl); try simp only [Act.put, zn1, zn2, zn3]
      refine tU 5 ?_; (try simp only [Act.put, zn1, zn2, zn3])
      refine tU 6 ?_; (try simp only [Act.put, zn1, zn2, zn3])
      refine tU 7 ?_; (try simp only [Act.put, zn1, zn2, zn3])
      refine tU 8 ?_; (try simp only [Act.put, zn1, zn2, zn3])
      refine tU 9 ?_; (try simp only [Act.put, zn1, zn2, zn3])
      refine tU 10 ?_; (try simp only [Act.put, zn1, zn2, zn3])
      refine tV 11 ?_ ?zq ?_; (case zq => rintro _ -; go_simp; try with_reducible rfl); try simp only [Act.put, zn1, zn2, zn3]
      refine wpAnyH_done (by kernel_rfl) ?_ _
      replace cp0 := cellAt cp0 hHeld (by omega)
      replace cp1 := cellAt cp1 hHeld (by omega)
      replace HRa := Lib.hid (HRa.out.at hHeld)
      replace HB := Lib.hid (HB.out.trans (hHeld.mono HB.out.size))
      replace n2 : (wo.heap.size + 1) < W3.drew.heap.size := ltAt n2 hHeld
      go_wp2_with fail
      obtain ⟨hge, hne⟩ := Hge.out
      have hins : insL ltP (d, s) acc = acc.take k ++ (d, s) :: acc.drop k := by rw [insL_cut acc k hk hall hge, if_neg hne]
      have HI := Lib.hid hins
      first | (refine wp_named ?_; intro W4 hW) | (refine calls_named ?_; intro W4 hW)
      have B4 : Below W3.drew.heap.size W3.drew W4 := by rw [hW]; exact bq
      replace cp0 := cellAt cp0 B4 (by omega)
      replace cp1 := cellAt cp1 B4 (by omega)
      replace HRa := Lib.hid (HRa.out.at B4)
      replace HB := Lib.hid (HB.out.trans (B4.mono HB.out.size))
      replace n2 : (wo.heap.size + 1) < W4.heap.size := ltAt n2 B4
      clear hW
      clear B4 hins hge hne
      have hz4 := Nat.le_trans HB1.out.size HB.out.size
      have HR1 := Lib.hid (HRa.out.takeA hk)
      have HR2 := Lib.hid (HRa.out.dropA hk hc)
      have hs1 := run_slice_full (P := Tryz.prog) Tryz.underlying143 hi A acc.length c k (Nat.le_trans hk hc)
      have hs2 := run_slice_tail (P := Tryz.prog) Tryz.underlying143 hi A acc.length c k hk
      rw [hz1] at hs1 hs2
      have HLk := Lib.hid (show (acc.drop k).length = acc.length - k from List.length_drop)
      try go_wp2_with fail
      refine wp_region_held_drew (S := fun w' => Below W4.heap.size W4 w') (by kernel_rfl) (Below.drew (Below.refl _ _)) (fun hHeld => ?_)
      refine tV 0 ?_ ?zq ?_; (case zq => rintro _ -; go_simp; try with_reducible rfl); try simp only [Act.put, zn1, zn2, zn3]
      refine tV 1 ?_ ?zq ?_; (case zq => rintro _ -; go_simp; try with_reducible rfl); try simp only [Act.put, zn1, zn2, zn3]
      refine tV 2 ?_ ?zq ?_; (case zq => rintro _ -; go_simp; try with_reducible rfl); try simp only [Act.put, zn1, zn2, zn3]
      refine tV 3 ?_ ?zq ?_; (case zq => rintro _ -; go_simp; try with_reducible rfl); try simp only [Act.put, zn1, zn2, zn3]
      refine tV 4 ?_ ?zq ?_; (case zq => intro w' hSw; have hCell := fun (b o : Nat) (h : b < W4.heap.size) => hSw.cell (p := ⟨b, o, none⟩) h; clear hSw; go_simp; try with_reducible rfl); try simp only [Act.put, zn1, zn2, zn3]
      refine tV 6 ?_ ?zq ?_; (case zq => rintro _ -; go_simp; try with_reducible rfl); try simp only [Act.put, zn1, zn2, zn3]
      refine tV 7 ?_ ?zq ?_; (case zq => rintro _ -; go_simp; try with_reducible rfl); try simp only [Act.put, zn1, zn2, zn3]
      refine tV 8 ?_ ?zq ?_; (case zq => rintro _ -; go_simp; try with_reducible rfl); try simp only [Act.put, zn1, zn2, zn3]
      refine ready_one (i := 5) rfl (by kernel_rfl) (fun K hK => ?_)
      go_simp
      refine hK.out _ _ ?_ (fun hHeld2 => ?_)
      ·(try dsimp only); first | exact hHeld | exact bq
      clear hK K hHeld; have hHeld := hHeld2; clear hHeld2; (try simp only [Act.put, zn1, zn2, zn3])
      refine ready_one (i := 9) rfl (by kernel_rfl) (fun K hK => ?_)
      refine step_append_full (by rfl) (.tmp 89) (.tmp 92) 143 (by rfl) 145 i0 _ 2 32 Tryz.underlying143 hi hz0 hz1 hz2 rfl _ (some ⟨W4.heap.size, 0, none⟩) 1 (prC (d, s)) (by rfl) (Rd.lit W4.drew (prC (d, s)) 145 2 1 rfl) (Nat.le_refl _) _ _ (acc.length - k) (c - k) _ (by rfl) (HR2.out.at' (Nat.le_refl _) hHeld) (one_drop (one_prsC acc) _) (by unfold maxLen; omega) (by omega) ?_
      intro A2 c2 v2 hc2 hr2 hb
      have HR3 := Lib.hid hr2
      clear hr2
      refine hK.out _ _ ?_ (fun hHeld2 => ?_)
      ·(try dsimp only); first | exact Below.trans hHeld (Below.mono hb hHeld.size) | exact hHeld | exact Below.drew hHeld | exact bq
      clear hK K hHeld; have hHeld := hHeld2; clear hHeld2; (try simp only [Act.put, zn1, zn2, zn3])
      refine ready_one (i := 10) rfl (by kernel_rfl) (fun K hK => ?_)
      refine step_append_fresh (by rfl) (.tmp 87) (.tmp 93) 143 (by rfl) 145 i0 _ 2 32 Tryz.underlying143 hi hz0 hz1 hz2 rfl _ _ k _ (by rfl) (HR1.out.at' (Nat.le_refl _) hHeld) (Nat.le_refl _) _ A2 (1 + (acc.length - k)) c2 _ (by rfl) HR3.out (one_app (one_prC _) (one_drop (one_prsC acc) _)) (by unfold maxLen; omega) (by omega) ?_
      intro A3 c3 v3 hc3 hr3 hb hf3
      have hz5 := Nat.le_trans hz4 hHeld.size
      have HR4 := Lib.hid hr3
      clear hr3
      refine hK.out _ _ ?_ (fun hHeld2 => ?_)
      ·(try dsimp only); first | exact Below.trans hHeld (Below.mono hb hHeld.size) | exact hHeld | exact Below.drew hHeld | exact bq
      clear hK K hHeld; have hHeld := hHeld2; clear hHeld2; (try simp only [Act.put, zn1, zn2, zn3])
      refine tV 11 ?_ ?zq ?_; (case zq => rintro _ -; go_simp; try with_reducible rfl); try simp only [Act.put, zn1, zn2, zn3]
      refine wpAnyH_done (by kernel_rfl) ?_ _
      replace cp0 := cellAt cp0 hHeld (by omega)
      replace cp1 := cellAt cp1 hHeld (by omega)
      replace HRa := Lib.hid (HRa.out.at hHeld)
      replace HB := Lib.hid (HB.out.trans (hHeld.mono HB.out.size))
      replace n2 : (wo.heap.size + 1) < v3.heap.size := ltAt n2 hHeld
      clear hs1 hs2
      go_wp2_with fail
      go_roundw
      case rel =>
       have hlen : k + (1 + (acc.length - k)) = (accP es (j + 1)).length := by rw [HN.out, HI.out, List.length_append, List.length_cons, List.length_take, HLk.out]; omega
       refine ⟨j + 1, A3, c3, by omega, by go_num, by rw [hlen], by rw [← hlen]; exact hc3, ?_, fun _ ad e => Nat.le_trans hz5 (hf3 (by omega) ad e), HB.out⟩
       have h4 := HR4.out
       rw [hlen] at h4
       have hx : (prsC acc).take (k * 2) ++ (prC (d, s) ++ (prsC acc).drop (k * 2)) = prsC (accP es (j + 1)) := by rw [HN.out, HI.out, prsC_take, prsC_drop]; simp [prsC]
       rw [hx] at h4
       exact h4
      case measure => simp [intOf]; omega
   ·by_cases h7 : r = 7
    ·subst h7
     have hp : pairE es[j] = some (s, d) := by rw [Hx.out]; simp [pairE]
     have HN := Lib.hid (accP_some hlt hp)
     clear hp
     go_wp2_with fail
     first | (refine wp_named ?_; intro W2 hW) | (refine calls_named ?_; intro W2 hW)
     have B2 : Below wo.heap.size wo W2 := by rw [hW]; exact bq
     replace HRa := Lib.hid (HRa.out.at B2)
     replace HB := Lib.hid (HB.out.trans (B2.mono HB.out.size))
     have n2 : (wo.heap.size + 1) < W2.heap.size := by rw [hW]; simp <;> omega
     have cp0 : W2.cell? ⟨wo.heap.size + 1, 0, none⟩ = some (sv s) := by rw [hW]; go_simp
     have cp1 : W2.cell? ⟨wo.heap.size + 1, 1, none⟩ = some (sv d) := by rw [hW]; go_simp
     clear hW
     clear B2
     generalize hacc : accP es j = acc at *
     have HAcc := Lib.hid hacc
     clear hacc
     have HSs := Lib.hid (show SS ltP acc by rw [← HAcc.out]; exact canon_ss toP _)
     go_loopw [7] (fun i wr => ∃ k : Nat, k ≤ acc.length ∧ i = .int .i64 k ∧ Hid (∀ q ∈ acc.take k, ltP q (s, d) = true) ∧ Below W2.heap.size W2 wr) (fun i _ => acc.length - (intOf i).toNat)
     case atStart => exact ⟨0, Nat.zero_le _, rfl, by simp [Hid], Below.refl _ _⟩
     case round =>
      obtain ⟨k, hk, rfl, hall, hbq⟩ := hrel
      replace cp0 := cellAt cp0 hbq (by omega)
      replace cp1 := cellAt cp1 hbq (by omega)
      replace HRa := Lib.hid (HRa.out.at hbq)
      replace HB := Lib.hid (HB.out.trans (hbq.mono HB.out.size))
      replace n2 : (wo.heap.size + 1) < wr.heap.size := ltAt n2 hbq
      by_cases hlt2 : k < acc.length
      ·obtain ⟨b2, o2, hA, hB2, hq0, hq1⟩ := HRa.out.pair hlt2
       subst hA
       generalize hq : acc[k] = q at hq0 hq1
       obtain ⟨a1, a2⟩ := q
       have Hq := Lib.hid hq
       clear hq
       simp only at hq0 hq1
       cases l1 : Op.bytesLess a1 s
       ·cases l2 : (a1 == s)
        ·have hge : ∀ h : k < acc.length, ltP acc[k] (s, d) = false := fun _ => by rw [Hq.out, ltP_mk]; simp [l1, l2]
         have hne : ¬ acc[k]? = some (s, d) := by rw [List.getElem?_eq_getElem hlt2, Hq.out]; intro e; injection e with e; injection e with e1 e2; rw [e1] at l2; simp at l2
         have Hge := Lib.hid (And.intro hge hne)
         clear hge hne
         try go_wp2_with fail
         refine wp_region_held_drew (S := fun w' => Below wr.heap.size wr w') (by kernel_rfl) (Below.drew (Below.refl _ _)) (fun hHeld => ?_)
         refine tV 0 ?_ ?zq ?_; (case zq => rintro _ -; go_simp; try with_reducible rfl); try simp only [Act.put, zn1, zn2, zn3]
         refine tV 1 ?_ ?zq ?_; (case zq => rintro _ -; go_simp; try with_reducible rfl); try simp only [Act.put, zn1, zn2, zn3]
         refine tV 2 ?_ ?zq ?_; (case zq => rintro _ -; go_simp; try with_reducible rfl); try simp only [Act.put, zn1, zn2, zn3]
         refine tV 3 ?_ ?zq ?_; (case zq => rintro _ -; go_simp; try with_reducible rfl); try simp only [Act.put, zn1, zn2, zn3]
         refine tV 4 ?_ ?zq ?_; (case zq => rintro _ -; go_simp; try with_reducible rfl); try simp only [Act.put, zn1, zn2, zn3]
         refine tV 5 ?_ ?zq ?_; (case zq => rintro _ -; go_simp; try with_reducible rfl); try simp only [Act.put, zn1, zn2, zn3]
         refine tV 6 ?_ ?zq ?_; (case zq => rintro _ -; go_simp; try with_reducible rfl); try simp only [Act.put, zn1, zn2, zn3]
         refine tV 7 ?_ ?zq ?_; (case zq => rintro _ -; go_simp; try with_reducible rfl); try simp only [Act.put, zn1, zn2, zn3]
         refine tV 8 ?_ ?zq ?_; (case zq => rintro _ -; go_simp; try with_reducible rfl); try simp only [Act.put, zn1, zn2, zn3]
         refine tV 9 ?_ ?zq ?_; (case zq => intro w' hSw; have hCell := fun (b o : Nat) (h : b < wr.heap.size) => hSw.cell (p := ⟨b, o, none⟩) h; clear hSw; go_simp; try with_reducible rfl); try simp only [Act.put, zn1, zn2, zn3]
         refine tV 10 ?_ ?zq ?_; (case zq => rintro _ -; go_simp; try with_reducible rfl); try simp only [Act.put, zn1, zn2, zn3]
         refine tV 11 ?_ ?zq ?_; (case zq => intro w' hSw; have hCell := fun (b o : Nat) (h : b < wr.heap.size) => hSw.cell (p := ⟨b, o, none⟩) h; clear hSw; go_simp; try with_reducible rfl); try simp only [Act.put, zn1, zn2, zn3]
         refine tV 12 ?_ ?zq ?_; (case zq => rintro _ -; go_simp; try with_reducible rfl); try simp only [Act.put, zn1, zn2, zn3]
         refine tV 13 ?_ ?zq ?_; (case zq => rintro _ -; go_simp; try with_reducible rfl); try simp only [Act.put, zn1, zn2, zn3]
         refine tV 14 ?_ ?zq ?_; (case zq => rintro _ -; go_simp; try with_reducible rfl); try simp only [Act.put, zn1, zn2, zn3]
         refine tV 15 ?_ ?zq ?_; (case zq => rintro _ -; go_simp; try with_reducible rfl); try simp only [Act.put, zn1, zn2, zn3]
         refine tV 16 ?_ ?zq ?_; (case zq => rintro _ -; go_simp; try with_reducible rfl); try simp only [Act.put, zn1, zn2, zn3]
         refine tV 17 ?_ ?zq ?_; (case zq => rintro _ -; go_simp; try with_reducible rfl); try simp only [Act.put, zn1, zn2, zn3]
         refine tV 18 ?_ ?zq ?_; (case zq => intro w' hSw; have hCell := fun (b o : Nat) (h : b < wr.heap.size) => hSw.cell (p := ⟨b, o, none⟩) h; clear hSw; go_simp; try with_reducible rfl); try simp only [Act.put, zn1, zn2, zn3]
         refine tV 19 ?_ ?zq ?_; (case zq => rintro _ -; go_simp; try with_reducible rfl); try simp only [Act.put, zn1, zn2, zn3]
         refine tV 20 ?_ ?zq ?_; (case zq => intro w' hSw; have hCell := fun (b o : Nat) (h : b < wr.heap.size) => hSw.cell (p := ⟨b, o, none⟩) h; clear hSw; go_simp; try with_reducible rfl); try simp only [Act.put, zn1, zn2, zn3]
         refine tV 21 ?_ ?zq ?_; (case zq => rintro _ -; go_simp; try with_reducible rfl); try simp only [Act.put, zn1, zn2, zn3]
         refine tV 22 ?_ ?zq ?_; (case zq => rintro _ -; go_simp; try with_reducible rfl); try simp only [Act.put, zn1, zn2, zn3]
         refine tU 23 ?_; (try simp only [Act.put, zn1, zn2, zn3])
         refine tU 24 ?_; (try simp only [Act.put, zn1, zn2, zn3])
         refine tU 25 ?_; (try simp only [Act.put, zn1, zn2, zn3])
         refine tU 26 ?_; (try simp only [Act.put, zn1, zn2, zn3])
         refine tU 27 ?_; (try simp only [Act.put, zn1, zn2, zn3])
         refine tU 28 ?_; (try simp only [Act.put, zn1, zn2, zn3])
         refine tU 29 ?_; (try simp only [Act.put, zn1, zn2, zn3])
         refine tU 30 ?_; (try simp only [Act.put, zn1, zn2, zn3])
         refine tV 31 ?_ ?zq ?_; (case zq => rintro _ -; go_simp; try with_reducible rfl); try simp only [Act.put, zn1, zn2, zn3]
         refine tV 32 ?_ ?zq ?_; (case zq => rintro _ -; go_simp; try with_reducible rfl); try simp only [Act.put, zn1, zn2, zn3]
         refine tV 33 ?_ ?zq ?_; (case zq => rintro _ -; go_simp; try with_reducible rfl); try simp only [Act.put, zn1, zn2, zn3]
         refine wpAnyH_done (by kernel_rfl) ?_ _
         replace cp0 := cellAt cp0 hHeld (by omega)
         replace cp1 := cellAt cp1 hHeld (by omega)
         replace hq0 := cellAt hq0 hHeld (by omega)
         replace hq1 := cellAt hq1 hHeld (by omega)
         replace HRa := Lib.hid (HRa.out.at hHeld)
         replace HB := Lib.hid (HB.out.trans (hHeld.mono HB.out.size))
         replace n2 : (wo.heap.size + 1) < wr.drew.heap.size := ltAt n2 hHeld
         replace hB2 : b2 < wr.drew.heap.size := ltAt hB2 hHeld
         go_wp2_with fail
         first | (refine wp_named ?_; intro W3 hW) | (refine calls_named ?_; intro W3 hW)
         have B3 : Below wr.drew.heap.size wr.drew W3 := by rw [hW]; exact bq
         replace cp0 := cellAt cp0 B3 (by omega)
         replace cp1 := cellAt cp1 B3 (by omega)
         replace hq0 := cellAt hq0 B3 (by omega)
         replace hq1 := cellAt hq1 B3 (by omega)
         replace HRa := Lib.hid (HRa.out.at B3)
         replace HB := Lib.hid (HB.out.trans (B3.mono HB.out.size))
         replace n2 : (wo.heap.size + 1) < W3.heap.size := ltAt n2 B3
         replace hB2 : b2 < W3.heap.size := ltAt hB2 B3
         clear hW
         clear B3
         try go_wp2_with fail
         refine wp_region_held_drew (S := fun w' => Below W3.heap.size W3 w') (by kernel_rfl) (Below.drew (Below.refl _ _)) (fun hHeld => ?_)
         refine tV 0 ?_ ?zq ?_; (case zq => rintro _ -; go_simp; try with_reducible rfl); try simp only [Act.put, zn1, zn2, zn3]
         refine tV 1 ?_ ?zq ?_; (case zq => rintro _ -; go_simp; try with_reducible rfl); try simp only [Act.put, zn1, zn2, zn3]
         refine tV 2 ?_ ?zq ?_; (case zq => rintro _ -; go_simp; try with_reducible rfl); try simp only [Act.put, zn1, zn2, zn3]
         refine tV 3 ?_ ?zq ?_; (case zq => rintro _ -; go_simp; try with_reducible rfl); try simp only [Act.put, zn1, zn2, zn3]
         refine tV 4 ?_ ?zq ?_; (case zq => rintro _ -; go_simp; try with_reducible rfl); try simp only [Act.put, zn1, zn2, zn3]
         refine tV 5 ?_ ?zq ?_; (case zq => rintro _ -; go_simp; try with_reducible rfl); try simp only [Act.put, zn1, zn2, zn3]
         refine tV 6 ?_ ?zq ?_; (case zq => rintro _ -; go_simp; try with_reducible rfl); try simp only [Act.put, zn1, zn2, zn3]
         refine tV 7 ?_ ?zq ?_; (case zq => rintro _ -; go_simp; try with_reducible rfl); try simp only [Act.put, zn1, zn2, zn3]
         refine tV 8 ?_ ?zq ?_; (case zq => intro w' hSw; have hCell := fun (b o : Nat) (h : b < W3.heap.size) => hSw.cell (p := ⟨b, o, none⟩) h; clear hSw; go_simp; try with_reducible rfl); try simp only [Act.put, zn1, zn2, zn3]
         refine tV 9 ?_ ?zq ?_; (case zq => intro w' hSw; have hCell := fun (b o : Nat) (h : b < W3.heap.size) => hSw.cell (p := ⟨b, o, none⟩) h; clear hSw; go_simp; try with_reducible rfl); try simp only [Act.put, zn1, zn2, zn3]
         refine tV 10 ?_ ?zq ?_; (case zq => rintro _ -; go_simp; try with_reducible rfl); try simp only [Act.put, zn1, zn2, zn3]
         refine tV 11 ?_ ?zq ?_; (case zq => rintro _ -; go_simp; try with_reducible rfl); try simp only [Act.put, zn1, zn2, zn3]
         refine wpAnyH_done (by kernel_rfl) ?_ _
         replace cp0 := cellAt cp0 hHeld (by omega)
         replace cp1 := cellAt cp1 hHeld (by omega)
         replace hq0 := cellAt hq0 hHeld (by omega)
         replace hq1 := cellAt hq1 hHeld (by omega)
         replace HRa := Lib.hid (HRa.out.at hHeld)
         replace HB := Lib.hid (HB.out.trans (hHeld.mono HB.out.size))
         replace n2 : (wo.heap.size + 1) < W3.drew.heap.size := ltAt n2 hHeld
         replace hB2 : b2 < W3.drew.heap.size := ltAt hB2 hHeld
         go_wp2_with fail
         obtain ⟨hge, hne⟩ := Hge.out
         have hins : insL ltP (s, d) acc = acc.take k ++ (s, d) :: acc.drop k := by rw [insL_cut acc k hk hall hge, if_neg hne]
         have HI := Lib.hid hins
         first | (refine wp_named ?_; intro W4 hW) | (refine calls_named ?_; intro W4 hW)
         have B4 : Below W3.drew.heap.size W3.drew W4 := by rw [hW]; exact bq
         replace cp0 := cellAt cp0 B4 (by omega)
         replace cp1 := cellAt cp1 B4 (by omega)
         replace hq0 := cellAt hq0 B4 (by omega)
         replace hq1 := cellAt hq1 B4 (by omega)
         replace HRa := Lib.hid (HRa.out.at B4)
         replace HB := Lib.hid (HB.out.trans (B4.mono HB.out.size))
         replace n2 : (wo.heap.size + 1) < W4.heap.size := ltAt n2 B4
         replace hB2 : b2 < W4.heap.size := ltAt hB2 B4
         clear hW
         clear B4 hins hge hne
         have hz4 := Nat.le_trans HB1.out.size HB.out.size
         have HR1 := Lib.hid (HRa.out.takeA hk)
         have HR2 := Lib.hid (HRa.out.dropA hk hc)
         have hs1 := run_slice_full (P := Tryz.prog) Tryz.underlying143 hi (some ⟨b2, o2, none⟩) acc.length c k (Nat.le_trans hk hc)
         have hs2 := run_slice_tail (P := Tryz.prog) Tryz.underlying143 hi (some ⟨b2, o2, none⟩) acc.length c k hk
         rw [hz1] at hs1 hs2
         have HLk := Lib.hid (show (acc.drop k).length = acc.length - k from List.length_drop)
         try go_wp2_with fail
         refine wp_region_held_drew (S := fun w' => Below W4.heap.size W4 w') (by kernel_rfl) (Below.drew (Below.refl _ _)) (fun hHeld => ?_)
         refine tV 0 ?_ ?zq ?_; (case zq => rintro _ -; go_simp; try with_reducible rfl); try simp only [Act.put, zn1, zn2, zn3]
         refine tV 1 ?_ ?zq ?_; (case zq => rintro _ -; go_simp; try with_reducible rfl); try simp only [Act.put, zn1, zn2, zn3]
         refine tV 2 ?_ ?zq ?_; (case zq => rintro _ -; go_simp; try with_reducible rfl); try simp only [Act.put, zn1, zn2, zn3]
         refine tV 3 ?_ ?zq ?_; (case zq => rintro _ -; go_simp; try with_reducible rfl); try simp only [Act.put, zn1, zn2, zn3]
         refine tV 4 ?_ ?zq ?_; (case zq => intro w' hSw; have hCell := fun (b o : Nat) (h : b < W4.heap.size) => hSw.cell (p := ⟨b, o, none⟩) h; clear hSw; go_simp; try with_reducible rfl); try simp only [Act.put, zn1, zn2, zn3]
         refine tV 6 ?_ ?zq ?_; (case zq => rintro _ -; go_simp; try with_reducible rfl); try simp only [Act.put, zn1, zn2, zn3]
         refine tV 7 ?_ ?zq ?_; (case zq => rintro _ -; go_simp; try with_reducible rfl); try simp only [Act.put, zn1, zn2, zn3]
         refine tV 8 ?_ ?zq ?_; (case zq => rintro _ -; go_simp; try with_reducible rfl); try simp only [Act.put, zn1, zn2, zn3]
         refine ready_one (i := 5) rfl (by kernel_rfl) (fun K hK => ?_)
         go_simp
         refine hK.out _ _ ?_ (fun hHeld2 => ?_)
         ·(try dsimp only); first | exact hHeld | exact bq
         clear hK K hHeld; have hHeld := hHeld2; clear hHeld2; (try simp only [Act.put, zn1, zn2, zn3])
         refine ready_one (i := 9) rfl (by kernel_rfl) (fun K hK => ?_)
         refine step_append_full (by rfl) (.tmp 89) (.tmp 92) 143 (by rfl) 145 i0 _ 2 32 Tryz.underlying143 hi hz0 hz1 hz2 rfl _ (some ⟨W4.heap.size, 0, none⟩) 1 (prC (s, d)) (by rfl) (Rd.lit W4.drew (prC (s, d)) 145 2 1 rfl) (Nat.le_refl _) _ _ (acc.length - k) (c - k) _ (by rfl) (HR2.out.at' (Nat.le_refl _) hHeld) (one_drop (one_prsC acc) _) (by unfold maxLen; omega) (by omega) ?_
         intro A2 c2 v2 hc2 hr2 hb
         have HR3 := Lib.hid hr2
         clear hr2
         refine hK.out _ _ ?_ (fun hHeld2 => ?_)
         ·(try dsimp only); first | exact Below.trans hHeld (Below.mono hb hHeld.size) | exact hHeld | exact Below.drew hHeld | exact bq
         clear hK K hHeld; have hHeld := hHeld2; clear hHeld2; (try simp only [Act.put, zn1, zn2, zn3])
         refine ready_one (i := 10) rfl (by kernel_rfl) (fun K hK => ?_)
         refine step_append_fresh (by rfl) (.tmp 87) (.tmp 93) 143 (by rfl) 145 i0 _ 2 32 Tryz.underlying143 hi hz0 hz1 hz2 rfl _ _ k _ (by rfl) (HR1.out.at' (Nat.le_refl _) hHeld) (Nat.le_refl _) _ A2 (1 + (acc.length - k)) c2 _ (by rfl) HR3.out (one_app (one_prC _) (one_drop (one_prsC acc) _)) (by unfold maxLen; omega) (by omega) ?_
         intro A3 c3 v3 hc3 hr3 hb hf3
         have hz5 := Nat.le_trans hz4 hHeld.size
         have HR4 := Lib.hid hr3
         clear hr3
         refine hK.out _ _ ?_ (fun hHeld2 => ?_)
         ·(try dsimp only); first | exact Below.trans hHeld (Below.mono hb hHeld.size) | exact hHeld | exact Below.drew hHeld | exact bq
         clear hK K hHeld; have hHeld := hHeld2; clear hHeld2; (try simp only [Act.put, zn1, zn2, zn3])
         refine tV 11 ?_ ?zq ?_; (case zq => rintro _ -; go_simp; try with_reducible rfl); try simp only [Act.put, zn1, zn2, zn3]
         refine wpAnyH_done (by kernel_rfl) ?_ _
         replace cp0 := cellAt cp0 hHeld (by omega)
         replace cp1 := cellAt cp1 hHeld (by omega)
         replace hq0 := cellAt hq0 hHeld (by omega)
         replace hq1 := cellAt hq1 hHeld (by omega)
         replace HRa := Lib.hid (HRa.out.at hHeld)
         replace HB := Lib.hid (HB.out.trans (hHeld.mono HB.out.size))
         replace n2 : (wo.heap.size + 1) < v3.heap.size := ltAt n2 hHeld
         replace hB2 : b2 < v3.heap.size := ltAt hB2 hHeld
         clear hs1 hs2
         go_wp2_with fail
         go_roundw
         case rel =>
          have hlen : k + (1 + (acc.length - k)) = (accP es (j + 1)).length := by rw [HN.out, HI.out, List.length_append, List.length_cons, List.length_take, HLk.out]; omega
          refine ⟨j + 1, A3, c3, by omega, by go_num, by rw [hlen], by rw [← hlen]; exact hc3, ?_, fun _ ad e => Nat.le_trans hz5 (hf3 (by omega) ad e), HB.out⟩
          have h4 := HR4.out
          rw [hlen] at h4
          have hx : (prsC acc).take (k * 2) ++ (prC (s, d) ++ (prsC acc).drop (k * 2)) = prsC (accP es (j + 1)) := by rw [HN.out, HI.out, prsC_take, prsC_drop]; simp [prsC]
          rw [hx] at h4
          exact h4
         case measure => simp [intOf]; omega
        ·cases l3 : Op.bytesLess a2 d
         ·have hge : ∀ h : k < acc.length, ltP acc[k] (s, d) = false := fun _ => by rw [Hq.out, ltP_mk]; simp [l1, l3]
          have Hge := Lib.hid hge
          clear hge
          cases l4 : (a2 == d)
          ·have hne : ¬ acc[k]? = some (s, d) := by rw [List.getElem?_eq_getElem hlt2, Hq.out]; intro e; injection e with e; injection e with e1 e2; rw [e2] at l4; simp at l4
           have Hne := Lib.hid hne
           clear hne
           try go_wp2_with fail
           refine wp_region_held_drew (S := fun w' => Below wr.heap.size wr w') (by kernel_rfl) (Below.drew (Below.refl _ _)) (fun hHeld => ?_)
           refine tV 0 ?_ ?zq ?_; (case zq => rintro _ -; go_simp; try with_reducible rfl); try simp only [Act.put, zn1, zn2, zn3]
           refine tV 1 ?_ ?zq ?_; (case zq => rintro _ -; go_simp; try with_reducible rfl); try simp only [Act.put, zn1, zn2, zn3]
           refine tV 2 ?_ ?zq ?_; (case zq => rintro _ -; go_simp; try with_reducible rfl); try simp only [Act.put, zn1, zn2, zn3]
           refine tV 3 ?_ ?zq ?_; (case zq => rintro _ -; go_simp; try with_reducible rfl); try simp only [Act.put, zn1, zn2, zn3]
           refine tV 4 ?_ ?zq ?_; (case zq => rintro _ -; go_simp; try with_reducible rfl); try simp only [Act.put, zn1, zn2, zn3]
           refine tV 5 ?_ ?zq ?_; (case zq => rintro _ -; go_simp; try with_reducible rfl); try simp only [Act.put, zn1, zn2, zn3]
           refine tV 6 ?_ ?zq ?_; (case zq => rintro _ -; go_simp; try with_reducible rfl); try simp only [Act.put, zn1, zn2, zn3]
           refine tV 7 ?_ ?zq ?_; (case zq => rintro _ -; go_simp; try with_reducible rfl); try simp only [Act.put, zn1, zn2, zn3]
           refine tV 8 ?_ ?zq ?_; (case zq => rintro _ -; go_simp; try with_reducible rfl); try simp only [Act.put, zn1, zn2, zn3]
           refine tV 9 ?_ ?zq ?_; (case zq => intro w' hSw; have hCell := fun (b o : Nat) (h : b < wr.heap.size) => hSw.cell (p := ⟨b, o, none⟩) h; clear hSw; go_simp; try with_reducible rfl); try simp only [Act.put, zn1, zn2, zn3]
           refine tV 10 ?_ ?zq ?_; (case zq => rintro _ -; go_simp; try with_reducible rfl); try simp only [Act.put, zn1, zn2, zn3]
           refine tV 11 ?_ ?zq ?_; (case zq => intro w' hSw; have hCell := fun (b o : Nat) (h : b < wr.heap.size) => hSw.cell (p := ⟨b, o, none⟩) h; clear hSw; go_simp; try with_reducible rfl); try simp only [Act.put, zn1, zn2, zn3]
           refine tV 12 ?_ ?zq ?_; (case zq => rintro _ -; go_simp; try with_reducible rfl); try simp only [Act.put, zn1, zn2, zn3]
           refine tV 13 ?_ ?zq ?_; (case zq => rintro _ -; go_simp; try with_reducible rfl); try simp only [Act.put, zn1, zn2, zn3]
           refine tV 14 ?_ ?zq ?_; (case zq => rintro _ -; go_simp; try with_reducible rfl); try simp only [Act.put, zn1, zn2, zn3]
           refine tV 15 ?_ ?zq ?_; (case zq => rintro _ -; go_simp; try with_reducible rfl); try simp only [Act.put, zn1, zn2, zn3]
           refine tV 16 ?_ ?zq ?_; (case zq => rintro _ -; go_simp; try with_reducible rfl); try simp only [Act.put, zn1, zn2, zn3]
           refine tV 17 ?_ ?zq ?_; (case zq => rintro _ -; go_simp; try with_reducible rfl); try simp only [Act.put, zn1, zn2, zn3]
           refine tV 18 ?_ ?zq ?_; (case zq => intro w' hSw; have hCell := fun (b o : Nat) (h : b < wr.heap.size) => hSw.cell (p := ⟨b, o, none⟩) h; clear hSw; go_simp; try with_reducible rfl); try simp only [Act.put, zn1, zn2, zn3]
           refine tV 19 ?_ ?zq ?_; (case zq => rintro _ -; go_simp; try with_reducible rfl); try simp only [Act.put, zn1, zn2, zn3]
           refine tV 20 ?_ ?zq ?_; (case zq => intro w' hSw; have hCell := fun (b o : Nat) (h : b < wr.heap.size) => hSw.cell (p := ⟨b, o, none⟩) h; clear hSw; go_simp; try with_reducible rfl); try simp only [Act.put, zn1, zn2, zn3]
           refine tV 21 ?_ ?zq ?_; (case zq => rintro _ -; go_simp; try with_reducible rfl); try simp only [Act.put, zn1, zn2, zn3]
           refine tV 22 ?_ ?zq ?_; (case zq => rintro _ -; go_simp; try with_reducible rfl); try simp only [Act.put, zn1, zn2, zn3]
           refine tV 23 ?_ ?zq ?_; (case zq => rintro _ -; go_simp; try with_reducible rfl); try simp only [Act.put, zn1, zn2, zn3]
           refine tV 24 ?_ ?zq ?_; (case zq => rintro _ -; go_simp; try with_reducible rfl); try simp only [Act.put, zn1, zn2, zn3]
           refine tV 25 ?_ ?zq ?_; (case zq => rintro _ -; go_simp; try with_reducible rfl); try simp only [Act.put, zn1, zn2, zn3]
           refine tV 26 ?_ ?zq ?_; (case zq => rintro _ -; go_simp; try with_reducible rfl); try simp only [Act.put, zn1, zn2, zn3]
           refine tV 27 ?_ ?zq ?_; (case zq => intro w' hSw; have hCell := fun (b o : Nat) (h : b < wr.heap.size) => hSw.cell (p := ⟨b, o, none⟩) h; clear hSw; go_simp; try with_reducible rfl); try simp only [Act.put, zn1, zn2, zn3]
           refine tV 28 ?_ ?zq ?_; (case zq => rintro _ -; go_simp; try with_reducible rfl); try simp only [Act.put, zn1, zn2, zn3]
           refine tV 29 ?_ ?zq ?_; (case zq => intro w' hSw; have hCell := fun (b o : Nat) (h : b < wr.heap.size) => hSw.cell (p := ⟨b, o, none⟩) h; clear hSw; go_simp; try with_reducible rfl); try simp only [Act.put, zn1, zn2, zn3]
           refine tV 30 ?_ ?zq ?_; (case zq => rintro _ -; go_simp; try with_reducible rfl); try simp only [Act.put, zn1, zn2, zn3]
           refine tV 31 ?_ ?zq ?_; (case zq => rintro _ -; go_simp; try with_reducible rfl); try simp only [Act.put, zn1, zn2, zn3]
           refine tV 32 ?_ ?zq ?_; (case zq => rintro _ -; go_simp; try with_reducible rfl); try simp only [Act.put, zn1, zn2, zn3]
           refine tV 33 ?_ ?zq ?_; (case zq => rintro _ -; go_simp; try with_reducible rfl); try simp only [Act.put, zn1, zn2, zn3]
           refine wpAnyH_done (by kernel_rfl) ?_ _
           replace cp0 := cellAt cp0 hHeld (by omega)
           replace cp1 := cellAt cp1 hHeld (by omega)
           replace hq0 := cellAt hq0 hHeld (by omega)
           replace hq1 := cellAt hq1 hHeld (by omega)
           replace HRa := Lib.hid (HRa.out.at hHeld)
           replace HB := Lib.hid (HB.out.trans (hHeld.mono HB.out.size))
           replace n2 : (wo.heap.size + 1) < wr.drew.heap.size := ltAt n2 hHeld
           replace hB2 : b2 < wr.drew.heap.size := ltAt hB2 hHeld
           go_wp2_with fail
           first | (refine wp_named ?_; intro W3 hW) | (refine calls_named ?_; intro W3 hW)
           have B3 : Below wr.drew.heap.size wr.drew W3 := by rw [hW]; exact bq
           replace cp0 := cellAt cp0 B3 (by omega)
           replace cp1 := cellAt cp1 B3 (by omega)
           replace hq0 := cellAt hq0 B3 (by omega)
           replace hq1 := cellAt hq1 B3 (by omega)
           replace HRa := Lib.hid (HRa.out.at B3)
           replace HB := Lib.hid (HB.out.trans (B3.mono HB.out.size))
           replace n2 : (wo.heap.size + 1) < W3.heap.size := ltAt n2 B3
           replace hB2 : b2 < W3.heap.size := ltAt hB2 B3
           clear hW
           clear B3
           try go_wp2_with fail
           refine wp_region_held_drew (S := fun w' => Below W3.heap.size W3 w') (by kernel_rfl) (Below.drew (Below.refl _ _)) (fun hHeld => ?_)
           refine tV 0 ?_ ?zq ?_; (case zq => rintro _ -; go_simp; try with_reducible rfl); try simp only [Act.put, zn1, zn2, zn3]
           refine tV 1 ?_ ?zq ?_; (case zq => rintro _ -; go_simp; try with_reducible rfl); try simp only [Act.put, zn1, zn2, zn3]
           refine tV 2 ?_ ?zq ?_; (case zq => rintro _ -; go_simp; try with_reducible rfl); try simp only [Act.put, zn1, zn2, zn3]
           refine tV 3 ?_ ?zq ?_; (case zq => rintro _ -; go_simp; try with_reducible rfl); try simp only [Act.put, zn1, zn2, zn3]
           refine tV 4 ?_ ?zq ?_; (case zq => rintro _ -; go_simp; try with_reducible rfl); try simp only [Act.put, zn1, zn2, zn3]
           refine tV 5 ?_ ?zq ?_; (case zq => rintro _ -; go_simp; try with_reducible rfl); try simp only [Act.put, zn1, zn2, zn3]
           refine tV 6 ?_ ?zq ?_; (case zq => rintro _ -; go_simp; try with_reducible rfl); try simp only [Act.put, zn1, zn2, zn3]
           refine tV 7 ?_ ?zq ?_; (case zq => rintro _ -; go_simp; try with_reducible rfl); try simp only [Act.put, zn1, zn2, zn3]
           refine tV 8 ?_ ?zq ?_; (case zq => intro w' hSw; have hCell := fun (b o : Nat) (h : b < W3.heap.size) => hSw.cell (p := ⟨b, o, none⟩) h; clear hSw; go_simp; try with_reducible rfl); try simp only [Act.put, zn1, zn2, zn3]
           refine tV 9 ?_ ?zq ?_; (case zq => intro w' hSw; have hCell := fun (b o : Nat) (h : b < W3.heap.size) => hSw.cell (p := ⟨b, o, none⟩) h; clear hSw; go_simp; try with_reducible rfl); try simp only [Act.put, zn1, zn2, zn3]
           refine tV 10 ?_ ?zq ?_; (case zq => rintro _ -; go_simp; try with_reducible rfl); try simp only [Act.put, zn1, zn2, zn3]
           refine tV 11 ?_ ?zq ?_; (case zq => rintro _ -; go_simp; try with_reducible rfl); try simp only [Act.put, zn1, zn2, zn3]
           refine wpAnyH_done (by kernel_rfl) ?_ _
           replace cp0 := cellAt cp0 hHeld (by omega)
           replace cp1 := cellAt cp1 hHeld (by omega)
           replace hq0 := cellAt hq0 hHeld (by omega)
           replace hq1 := cellAt hq1 hHeld (by omega)
           replace HRa := Lib.hid (HRa.out.at hHeld)
           replace HB := Lib.hid (HB.out.trans (hHeld.mono HB.out.size))
           replace n2 : (wo.heap.size + 1) < W3.drew.heap.size := ltAt n2 hHeld
           replace hB2 : b2 < W3.drew.heap.size := ltAt hB2 hHeld
           go_wp2_with fail
           have hge := Hge.out
           have hne := Hne.out
           have hins : insL ltP (s, d) acc = acc.take k ++ (s, d) :: acc.drop k := by rw [insL_cut acc k hk hall hge, if_neg hne]
           have HI := Lib.hid hins
           first | (refine wp_named ?_; intro W4 hW) | (refine calls_named ?_; intro W4 hW)
           have B4 : Below W3.drew.heap.size W3.drew W4 := by rw [hW]; exact bq
           replace cp0 := cellAt cp0 B4 (by omega)
           replace cp1 := cellAt cp1 B4 (by omega)
           replace hq0 := cellAt hq0 B4 (by omega)
           replace hq1 := cellAt hq1 B4 (by omega)
           replace HRa := Lib.hid (HRa.out.at B4)
           replace HB := Lib.hid (HB.out.trans (B4.mono HB.out.size))
           replace n2 : (wo.heap.size + 1) < W4.heap.size := ltAt n2 B4
           replace hB2 : b2 < W4.heap.size := ltAt hB2 B4
           clear hW
           clear B4 hins hge hne
           have hz4 := Nat.le_trans HB1.out.size HB.out.size
           have HR1 := Lib.hid (HRa.out.takeA hk)
           have HR2 := Lib.hid (HRa.out.dropA hk hc)
           have hs1 := run_slice_full (P := Tryz.prog) Tryz.underlying143 hi (some ⟨b2, o2, none⟩) acc.length c k (Nat.le_trans hk hc)
           have hs2 := run_slice_tail (P := Tryz.prog) Tryz.underlying143 hi (some ⟨b2, o2, none⟩) acc.length c k hk
           rw [hz1] at hs1 hs2
           have HLk := Lib.hid (show (acc.drop k).length = acc.length - k from List.length_drop)
           try go_wp2_with fail
           refine wp_region_held_drew (S := fun w' => Below W4.heap.size W4 w') (by kernel_rfl) (Below.drew (Below.refl _ _)) (fun hHeld => ?_)
           refine tV 0 ?_ ?zq ?_; (case zq => rintro _ -; go_simp; try with_reducible rfl); try simp only [Act.put, zn1, zn2, zn3]
           refine tV 1 ?_ ?zq ?_; (case zq => rintro _ -; go_simp; try with_reducible rfl); try simp only [Act.put, zn1, zn2, zn3]
           refine tV 2 ?_ ?zq ?_; (case zq => rintro _ -; go_simp; try with_reducible rfl); try simp only [Act.put, zn1, zn2, zn3]
           refine tV 3 ?_ ?zq ?_; (case zq => rintro _ -; go_simp; try with_reducible rfl); try simp only [Act.put, zn1, zn2, zn3]
           refine tV 4 ?_ ?zq ?_; (case zq => intro w' hSw; have hCell := fun (b o : Nat) (h : b < W4.heap.size) => hSw.cell (p := ⟨b, o, none⟩) h; clear hSw; go_simp; try with_reducible rfl); try simp only [Act.put, zn1, zn2, zn3]
           refine tV 6 ?_ ?zq ?_; (case zq => rintro _ -; go_simp; try with_reducible rfl); try simp only [Act.put, zn1, zn2, zn3]
           refine tV 7 ?_ ?zq ?_; (case zq => rintro _ -; go_simp; try with_reducible rfl); try simp only [Act.put, zn1, zn2, zn3]
           refine tV 8 ?_ ?zq ?_; (case zq => rintro _ -; go_simp; try with_reducible rfl); try simp only [Act.put, zn1, zn2, zn3]
           refine ready_one (i := 5) rfl (by kernel_rfl) (fun K hK => ?_)
           go_simp
           refine hK.out _ _ ?_ (fun hHeld2 => ?_)
           ·(try dsimp only); first | exact hHeld | exact bq
           clear hK K hHeld; have hHeld := hHeld2; clear hHeld2; (try simp only [Act.put, zn1, zn2, zn3])
           refine ready_one (i := 9) rfl (by kernel_rfl) (fun K hK => ?_)
           refine step_append_full (by rfl) (.tmp 89) (.tmp 92) 143 (by rfl) 145 i0 _ 2 32 Tryz.underlying143 hi hz0 hz1 hz2 rfl _ (some ⟨W4.heap.size, 0, none⟩) 1 (prC (s, d)) (by rfl) (Rd.lit W4.drew (prC (s, d)) 145 2 1 rfl) (Nat.le_refl _) _ _ (acc.length - k) (c - k) _ (by rfl) (HR2.out.at' (Nat.le_refl _) hHeld) (one_drop (one_prsC acc) _) (by unfold maxLen; omega) (by omega) ?_
           intro A2 c2 v2 hc2 hr2 hb
           have HR3 := Lib.hid hr2
           clear hr2
           refine hK.out _ _ ?_ (fun hHeld2 => ?_)
           ·(try dsimp only); first | exact Below.trans hHeld (Below.mono hb hHeld.size) | exact hHeld | exact Below.drew hHeld | exact bq
           clear hK K hHeld; have hHeld := hHeld2; clear hHeld2; (try simp only [Act.put, zn1, zn2, zn3])
           refine ready_one (i := 10) rfl (by kernel_rfl) (fun K hK => ?_)
           refine step_append_fresh (by rfl) (.tmp 87) (.tmp 93) 143 (by rfl) 145 i0 _ 2 32 Tryz.underlying143 hi hz0 hz1 hz2 rfl _ _ k _ (by rfl) (HR1.out.at' (Nat.le_refl _) hHeld) (Nat.le_refl _) _ A2 (1 + (acc.length - k)) c2 _ (by rfl) HR3.out (one_app (one_prC _) (one_drop (one_prsC acc) _)) (by unfold maxLen; omega) (by omega) ?_
           intro A3 c3 v3 hc3 hr3 hb hf3
           have hz5 := Nat.le_trans hz4 hHeld.size
           have HR4 := Lib.hid hr3
           clear hr3
           refine hK.out _ _ ?_ (fun hHeld2 => ?_)
           ·(try dsimp only); first | exact Below.trans hHeld (Below.mono hb hHeld.size) | exact hHeld | exact Below.drew hHeld | exact bq
           clear hK K hHeld; have hHeld := hHeld2; clear hHeld2; (try simp only [Act.put, zn1, zn2, zn3])
           refine tV 11 ?_ ?zq ?_; (case zq => rintro _ -; go_simp; try with_reducible rfl); try simp only [Act.put, zn1, zn2, zn3]
           refine wpAnyH_done (by kernel_rfl) ?_ _
           replace cp0 := cellAt cp0 hHeld (by omega)
           replace cp1 := cellAt cp1 hHeld (by omega)
           replace hq0 := cellAt hq0 hHeld (by omega)
           replace hq1 := cellAt hq1 hHeld (by omega)
           replace HRa := Lib.hid (HRa.out.at hHeld)
           replace HB := Lib.hid (HB.out.trans (hHeld.mono HB.out.size))
           replace n2 : (wo.heap.size + 1) < v3.heap.size := ltAt n2 hHeld
           replace hB2 : b2 < v3.heap.size := ltAt hB2 hHeld
           clear hs1 hs2
           go_wp2_with fail
           go_roundw
           case rel =>
            have hlen : k + (1 + (acc.length - k)) = (accP es (j + 1)).length := by rw [HN.out, HI.out, List.length_append, List.length_cons, List.length_take, HLk.out]; omega
            refine ⟨j + 1, A3, c3, by omega, by go_num, by rw [hlen], by rw [← hlen]; exact hc3, ?_, fun _ ad e => Nat.le_trans hz5 (hf3 (by omega) ad e), HB.out⟩
            have h4 := HR4.out
            rw [hlen] at h4
            have hx : (prsC acc).take (k * 2) ++ (prC (s, d) ++ (prsC acc).drop (k * 2)) = prsC (accP es (j + 1)) := by rw [HN.out, HI.out, prsC_take, prsC_drop]; simp [prsC]
            rw [hx] at h4
            exact h4
           case measure => simp [intOf]; omega
          ·skip
           try go_wp2_with fail
           refine wp_region_held_drew (S := fun w' => Below wr.heap.size wr w') (by kernel_rfl) (Below.drew (Below.refl _ _)) (fun hHeld => ?_)
           refine tV 0 ?_ ?zq ?_; (case zq => rintro _ -; go_simp; try with_reducible rfl); try simp only [Act.put, zn1, zn2, zn3]
           refine tV 1 ?_ ?zq ?_; (case zq => rintro _ -; go_simp; try with_reducible rfl); try simp only [Act.put, zn1, zn2, zn3]
           refine tV 2 ?_ ?zq ?_; (case zq => rintro _ -; go_simp; try with_reducible rfl); try simp only [Act.put, zn1, zn2, zn3]
           refine tV 3 ?_ ?zq ?_; (case zq => rintro _ -; go_simp; try with_reducible rfl); try simp only [Act.put, zn1, zn2, zn3]
           refine tV 4 ?_ ?zq ?_; (case zq => rintro _ -; go_simp; try with_reducible rfl); try simp only [Act.put, zn1, zn2, zn3]
           refine tV 5 ?_ ?zq ?_; (case zq => rintro _ -; go_simp; try with_reducible rfl); try simp only [Act.put, zn1, zn2, zn3]
           refine tV 6 ?_ ?zq ?_; (case zq => rintro _ -; go_simp; try with_reducible rfl); try simp only [Act.put, zn1, zn2, zn3]
           refine tV 7 ?_ ?zq ?_; (case zq => rintro _ -; go_simp; try with_reducible rfl); try simp only [Act.put, zn1, zn2, zn3]
           refine tV 8 ?_ ?zq ?_; (case zq => rintro _ -; go_simp; try with_reducible rfl); try simp only [Act.put, zn1, zn2, zn3]
           refine tV 9 ?_ ?zq ?_; (case zq => intro w' hSw; have hCell := fun (b o : Nat) (h : b < wr.heap.size) => hSw.cell (p := ⟨b, o, none⟩) h; clear hSw; go_simp; try with_reducible rfl); try simp only [Act.put, zn1, zn2, zn3]
           refine tV 10 ?_ ?zq ?_; (case zq => rintro _ -; go_simp; try with_reducible rfl); try simp only [Act.put, zn1, zn2, zn3]
           refine tV 11 ?_ ?zq ?_; (case zq => intro w' hSw; have hCell := fun (b o : Nat) (h : b < wr.heap.size) => hSw.cell (p := ⟨b, o, none⟩) h; clear hSw; go_simp; try with_reducible rfl); try simp only [Act.put, zn1, zn2, zn3]
           refine tV 12 ?_ ?zq ?_; (case zq => rintro _ -; go_simp; try with_reducible rfl); try simp only [Act.put, zn1, zn2, zn3]
           refine tV 13 ?_ ?zq ?_; (case zq => rintro _ -; go_simp; try with_reducible rfl); try simp only [Act.put, zn1, zn2, zn3]
           refine tV 14 ?_ ?zq ?_; (case zq => rintro _ -; go_simp; try with_reducible rfl); try simp only [Act.put, zn1, zn2, zn3]
           refine tV 15 ?_ ?zq ?_; (case zq => rintro _ -; go_simp; try with_reducible rfl); try simp only [Act.put, zn1, zn2, zn3]
           refine tV 16 ?_ ?zq ?_; (case zq => rintro _ -; go_simp; try with_reducible rfl); try simp only [Act.put, zn1, zn2, zn3]
           refine tV 17 ?_ ?zq ?_; (case zq => rintro _ -; go_simp; try with_reducible rfl); try simp only [Act.put, zn1, zn2, zn3]
           refine tV 18 ?_ ?zq ?_; (case zq => intro w' hSw; have hCell := fun (b o : Nat) (h : b < wr.heap.size) => hSw.cell (p := ⟨b, o, none⟩) h; clear hSw; go_simp; try with_reducible rfl); try simp only [Act.put, zn1, zn2, zn3]
           refine tV 19 ?_ ?zq ?_; (case zq => rintro _ -; go_simp; try with_reducible rfl); try simp only [Act.put, zn1, zn2, zn3]
           refine tV 20 ?_ ?zq ?_; (case zq => intro w' hSw; have hCell := fun (b o : Nat) (h : b < wr.heap.size) => hSw.cell (p := ⟨b, o, none⟩) h; clear hSw; go_simp; try with_reducible rfl); try simp only [Act.put, zn1, zn2, zn3]
           refine tV 21 ?_ ?zq ?_; (case zq => rintro _ -; go_simp; try with_reducible rfl); try simp only [Act.put, zn1, zn2, zn3]
           refine tV 22 ?_ ?zq ?_; (case zq => rintro _ -; go_simp; try with_reducible rfl); try simp only [Act.put, zn1, zn2, zn3]
           refine tV 23 ?_ ?zq ?_; (case zq => rintro _ -; go_simp; try with_reducible rfl); try simp only [Act.put, zn1, zn2, zn3]
           refine tV 24 ?_ ?zq ?_; (case zq => rintro _ -; go_simp; try with_reducible rfl); try simp only [Act.put, zn1, zn2, zn3]
           refine tV 25 ?_ ?zq ?_; (case zq => rintro _ -; go_simp; try with_reducible rfl); try simp only [Act.put, zn1, zn2, zn3]
           refine tV 26 ?_ ?zq ?_; (case zq => rintro _ -; go_simp; try with_reducible rfl); try simp only [Act.put, zn1, zn2, zn3]
           refine tV 27 ?_ ?zq ?_; (case zq => intro w' hSw; have hCell := fun (b o : Nat) (h : b < wr.heap.size) => hSw.cell (p := ⟨b, o, none⟩) h; clear hSw; go_simp; try with_reducible rfl); try simp only [Act.put, zn1, zn2, zn3]
           refine tV 28 ?_ ?zq ?_; (case zq => rintro _ -; go_simp; try with_reducible rfl); try simp only [Act.put, zn1, zn2, zn3]
           refine tV 29 ?_ ?zq ?_; (case zq => intro w' hSw; have hCell := fun (b o : Nat) (h : b < wr.heap.size) => hSw.cell (p := ⟨b, o, none⟩) h; clear hSw; go_simp; try with_reducible rfl); try simp only [Act.put, zn1, zn2, zn3]
           refine tV 30 ?_ ?zq ?_; (case zq => rintro _ -; go_simp; try with_reducible rfl); try simp only [Act.put, zn1, zn2, zn3]
           refine tV 31 ?_ ?zq ?_; (case zq => rintro _ -; go_simp; try with_reducible rfl); try simp only [Act.put, zn1, zn2, zn3]
           refine tV 32 ?_ ?zq ?_; (case zq => rintro _ -; go_simp; try with_reducible rfl); try simp only [Act.put, zn1, zn2, zn3]
           refine tV 33 ?_ ?zq ?_; (case zq => rintro _ -; go_simp; try with_reducible rfl); try simp only [Act.put, zn1, zn2, zn3]
           refine wpAnyH_done (by kernel_rfl) ?_ _
           replace cp0 := cellAt cp0 hHeld (by omega)
           replace cp1 := cellAt cp1 hHeld (by omega)
           replace hq0 := cellAt hq0 hHeld (by omega)
           replace hq1 := cellAt hq1 hHeld (by omega)
           replace HRa := Lib.hid (HRa.out.at hHeld)
           replace HB := Lib.hid (HB.out.trans (hHeld.mono HB.out.size))
           replace n2 : (wo.heap.size + 1) < wr.drew.heap.size := ltAt n2 hHeld
           replace hB2 : b2 < wr.drew.heap.size := ltAt hB2 hHeld
           go_wp2_with fail
           first | (refine wp_named ?_; intro W3 hW) | (refine calls_named ?_; intro W3 hW)
           have B3 : Below wr.drew.heap.size wr.drew W3 := by rw [hW]; exact bq
           replace cp0 := cellAt cp0 B3 (by omega)
           replace cp1 := cellAt cp1 B3 (by omega)
           replace hq0 := cellAt hq0 B3 (by omega)
           replace hq1 := cellAt hq1 B3 (by omega)
           replace HRa := Lib.hid (HRa.out.at B3)
           replace HB := Lib.hid (HB.out.trans (B3.mono HB.out.size))
           replace n2 : (wo.heap.size + 1) < W3.heap.size := ltAt n2 B3
           replace hB2 : b2 < W3.heap.size := ltAt hB2 B3
           clear hW
           clear B3
           try go_wp2_with fail
           refine wp_region_held_drew (S := fun w' => Below W3.heap.size W3 w') (by kernel_rfl) (Below.drew (Below.refl _ _)) (fun hHeld => ?_)
           refine tV 0 ?_ ?zq ?_; (case zq => rintro _ -; go_simp; try with_reducible rfl); try simp only [Act.put, zn1, zn2, zn3]
           refine tV 1 ?_ ?zq ?_; (case zq => rintro _ -; go_simp; try with_reducible rfl); try simp only [Act.put, zn1, zn2, zn3]
           refine tV 2 ?_ ?zq ?_; (case zq => rintro _ -; go_simp; try with_reducible rfl); try simp only [Act.put, zn1, zn2, zn3]
           refine tV 3 ?_ ?zq ?_; (case zq => rintro _ -; go_simp; try with_reducible rfl); try simp only [Act.put, zn1, zn2, zn3]
           refine tV 4 ?_ ?zq ?_; (case zq => rintro _ -; go_simp; try with_reducible rfl); try simp only [Act.put, zn1, zn2, zn3]
           refine tV 5 ?_ ?zq ?_; (case zq => rintro _ -; go_simp; try with_reducible rfl); try simp only [Act.put, zn1, zn2, zn3]
           refine tV 6 ?_ ?zq ?_; (case zq => rintro _ -; go_simp; try with_reducible rfl); try simp only [Act.put, zn1, zn2, zn3]
           refine tV 7 ?_ ?zq ?_; (case zq => rintro _ -; go_simp; try with_reducible rfl); try simp only [Act.put, zn1, zn2, zn3]
           refine tV 8 ?_ ?zq ?_; (case zq => intro w' hSw; have hCell := fun (b o : Nat) (h : b < W3.heap.size) => hSw.cell (p := ⟨b, o, none⟩) h; clear hSw; go_simp; try with_reducible rfl); try simp only [Act.put, zn1, zn2, zn3]
           refine tV 9 ?_ ?zq ?_; (case zq => intro w' hSw; have hCell := fun (b o : Nat) (h : b < W3.heap.size) => hSw.cell (p := ⟨b, o, none⟩) h; clear hSw; go_simp; try with_reducible rfl); try simp only [Act.put, zn1, zn2, zn3]
           refine tV 10 ?_ ?zq ?_; (case zq => rintro _ -; go_simp; try with_reducible rfl); try simp only [Act.put, zn1, zn2, zn3]
           refine tV 11 ?_ ?zq ?_; (case zq => rintro _ -; go_simp; try with_reducible rfl); try simp only [Act.put, zn1, zn2, zn3]
           refine wpAnyH_done (by kernel_rfl) ?_ _
           replace cp0 := cellAt cp0 hHeld (by omega)
           replace cp1 := cellAt cp1 hHeld (by omega)
           replace hq0 := cellAt hq0 hHeld (by omega)
           replace hq1 := cellAt hq1 hHeld (by omega)
           replace HRa := Lib.hid (HRa.out.at hHeld)
           replace HB := Lib.hid (HB.out.trans (hHeld.mono HB.out.size))
           replace n2 : (wo.heap.size + 1) < W3.drew.heap.size := ltAt n2 hHeld
           replace hB2 : b2 < W3.drew.heap.size := ltAt hB2 hHeld
           go_wp2_with fail
           have hge := Hge.out
           go_roundw
           case rel =>
            have hins : accP es (j + 1) = acc := by rw [HN.out, insL_cut acc k hk hall hge, if_pos]; rw [List.getElem?_eq_getElem hlt2, Hq.out]; simp_all
            exact ⟨j + 1, _, c, by omega, by go_num, by rw [hins], by rw [hins]; exact hc, by rw [hins]; exact HRa.out.at (by repeat (first | exact Below.refl _ _ | assumption | refine Below.alloc ?_ (by simp <;> omega) _ | refine Below.setCell ?_ (by simp <;> omega) _ | refine Below.drew ?_)), by rw [hins]; exact HFr.out, HB.out.trans (Below.mono (by repeat (first | exact Below.refl _ _ | assumption | refine Below.alloc ?_ (by simp <;> omega) _ | refine Below.setCell ?_ (by simp <;> omega) _ | refine Below.drew ?_)) HB.out.size)⟩
           case measure => simp [intOf]; omega
         ·skip
          try go_wp2_with fail
          refine wp_region_held_drew (S := fun w' => Below wr.heap.size wr w') (by kernel_rfl) (Below.drew (Below.refl _ _)) (fun hHeld => ?_)
          refine tV 0 ?_ ?zq ?_; (case zq => rintro _ -; go_simp; try with_reducible rfl); try simp only [Act.put, zn1, zn2, zn3]
          refine tV 1 ?_ ?zq ?_; (case zq => rintro _ -; go_simp; try with_reducible rfl); try simp only [Act.put, zn1, zn2, zn3]
          refine tV 2 ?_ ?zq ?_; (case zq => rintro _ -; go_simp; try with_reducible rfl); try simp only [Act.put, zn1, zn2, zn3]
          refine tV 3 ?_ ?zq ?_; (case zq => rintro _ -; go_simp; try with_reducible rfl); try simp only [Act.put, zn1, zn2, zn3]
          refine tV 4 ?_ ?zq ?_; (case zq => rintro _ -; go_simp; try with_reducible rfl); try simp only [Act.put, zn1, zn2, zn3]
          refine tV 5 ?_ ?zq ?_; (case zq => rintro _ -; go_simp; try with_reducible rfl); try simp only [Act.put, zn1, zn2, zn3]
          refine tV 6 ?_ ?zq ?_; (case zq => rintro _ -; go_simp; try with_reducible rfl); try simp only [Act.put, zn1, zn2, zn3]
          refine tV 7 ?_ ?zq ?_; (case zq => rintro _ -; go_simp; try with_reducible rfl); try simp only [Act.put, zn1, zn2, zn3]
          refine tV 8 ?_ ?zq ?_; (case zq => rintro _ -; go_simp; try with_reducible rfl); try simp only [Act.put, zn1, zn2, zn3]
          refine tV 9 ?_ ?zq ?_; (case zq => intro w' hSw; have hCell := fun (b o : Nat) (h : b < wr.heap.size) => hSw.cell (p := ⟨b, o, none⟩) h; clear hSw; go_simp; try with_reducible rfl); try simp only [Act.put, zn1, zn2, zn3]
          refine tV 10 ?_ ?zq ?_; (case zq => rintro _ -; go_simp; try with_reducible rfl); try simp only [Act.put, zn1, zn2, zn3]
          refine tV 11 ?_ ?zq ?_; (case zq => intro w' hSw; have hCell := fun (b o : Nat) (h : b < wr.heap.size) => hSw.cell (p := ⟨b, o, none⟩) h; clear hSw; go_simp; try with_reducible rfl); try simp only [Act.put, zn1, zn2, zn3]
          refine tV 12 ?_ ?zq ?_; (case zq => rintro _ -; go_simp; try with_reducible rfl); try simp only [Act.put, zn1, zn2, zn3]
          refine tV 13 ?_ ?zq ?_; (case zq => rintro _ -; go_simp; try with_reducible rfl); try simp only [Act.put, zn1, zn2, zn3]
          refine tV 14 ?_ ?zq ?_; (case zq => rintro _ -; go_simp; try with_reducible rfl); try simp only [Act.put, zn1, zn2, zn3]
          refine tV 15 ?_ ?zq ?_; (case zq => rintro _ -; go_simp; try with_reducible rfl); try simp only [Act.put, zn1, zn2, zn3]
          refine tV 16 ?_ ?zq ?_; (case zq => rintro _ -; go_simp; try with_reducible rfl); try simp only [Act.put, zn1, zn2, zn3]
          refine tV 17 ?_ ?zq ?_; (case zq => rintro _ -; go_simp; try with_reducible rfl); try simp only [Act.put, zn1, zn2, zn3]
          refine tV 18 ?_ ?zq ?_; (case zq => intro w' hSw; have hCell := fun (b o : Nat) (h : b < wr.heap.size) => hSw.cell (p := ⟨b, o, none⟩) h; clear hSw; go_simp; try with_reducible rfl); try simp only [Act.put, zn1, zn2, zn3]
          refine tV 19 ?_ ?zq ?_; (case zq => rintro _ -; go_simp; try with_reducible rfl); try simp only [Act.put, zn1, zn2, zn3]
          refine tV 20 ?_ ?zq ?_; (case zq => intro w' hSw; have hCell := fun (b o : Nat) (h : b < wr.heap.size) => hSw.cell (p := ⟨b, o, none⟩) h; clear hSw; go_simp; try with_reducible rfl); try simp only [Act.put, zn1, zn2, zn3]
          refine tV 21 ?_ ?zq ?_; (case zq => rintro _ -; go_simp; try with_reducible rfl); try simp only [Act.put, zn1, zn2, zn3]
          refine tV 22 ?_ ?zq ?_; (case zq => rintro _ -; go_simp; try with_reducible rfl); try simp only [Act.put, zn1, zn2, zn3]
          refine tV 23 ?_ ?zq ?_; (case zq => rintro _ -; go_simp; try with_reducible rfl); try simp only [Act.put, zn1, zn2, zn3]
          refine tV 24 ?_ ?zq ?_; (case zq => rintro _ -; go_simp; try with_reducible rfl); try simp only [Act.put, zn1, zn2, zn3]
          refine tV 25 ?_ ?zq ?_; (case zq => rintro _ -; go_simp; try with_reducible rfl); try simp only [Act.put, zn1, zn2, zn3]
          refine tV 26 ?_ ?zq ?_; (case zq => rintro _ -; go_simp; try with_reducible rfl); try simp only [Act.put, zn1, zn2, zn3]
          refine tV 27 ?_ ?zq ?_; (case zq => intro w' hSw; have hCell := fun (b o : Nat) (h : b < wr.heap.size) => hSw.cell (p := ⟨b, o, none⟩) h; clear hSw; go_simp; try with_reducible rfl); try simp only [Act.put, zn1, zn2, zn3]
          refine tV 28 ?_ ?zq ?_; (case zq => rintro _ -; go_simp; try with_reducible rfl); try simp only [Act.put, zn1, zn2, zn3]
          refine tV 29 ?_ ?zq ?_; (case zq => intro w' hSw; have hCell := fun (b o : Nat) (h : b < wr.heap.size) => hSw.cell (p := ⟨b, o, none⟩) h; clear hSw; go_simp; try with_reducible rfl); try simp only [Act.put, zn1, zn2, zn3]
          refine tV 30 ?_ ?zq ?_; (case zq => rintro _ -; go_simp; try with_reducible rfl); try simp only [Act.put, zn1, zn2, zn3]
          refine tV 31 ?_ ?zq ?_; (case zq => rintro _ -; go_simp; try with_reducible rfl); try simp only [Act.put, zn1, zn2, zn3]
          refine tV 32 ?_ ?zq ?_; (case zq => rintro _ -; go_simp; try with_reducible rfl); try simp only [Act.put, zn1, zn2, zn3]
          refine tV 33 ?_ ?zq ?_; (case zq => rintro _ -; go_simp; try with_reducible rfl); try simp only [Act.put, zn1, zn2, zn3]
          refine wpAnyH_done (by kernel_rfl) ?_ _
          replace cp0 := cellAt cp0 hHeld (by omega)
          replace cp1 := cellAt cp1 hHeld (by omega)
          replace hq0 := cellAt hq0 hHeld (by omega)
          replace hq1 := cellAt hq1 hHeld (by omega)
          replace HRa := Lib.hid (HRa.out.at hHeld)
          replace HB := Lib.hid (HB.out.trans (hHeld.mono HB.out.size))
          replace n2 : (wo.heap.size + 1) < wr.drew.heap.size := ltAt n2 hHeld
          replace hB2 : b2 < wr.drew.heap.size := ltAt hB2 hHeld
          go_wp2_with fail
          go_roundw
          case rel =>
           refine ⟨k + 1, by omega, by go_num, fun q hq => ?_, lift hbq hHeld⟩
           rw [List.take_succ_eq_append_getElem hlt2, List.mem_append, List.mem_singleton] at hq
           rcases hq with h | h
           ·exact hall q h
           ·rw [h, Hq.out, ltP_mk]; simp [l1, l2, l3]
          case measure => simp [intOf]; omega
       ·skip
        try go_wp2_with fail
        refine wp_region_held_drew (S := fun w' => Below wr.heap.size wr w') (by kernel_rfl) (Below.drew (Below.refl _ _)) (fun hHeld => ?_)
        refine tV 0 ?_ ?zq ?_; (case zq => rintro _ -; go_simp; try with_reducible rfl); try simp only [Act.put, zn1, zn2, zn3]
        refine tV 1 ?_ ?zq ?_; (case zq => rintro _ -; go_simp; try with_reducible rfl); try simp only [Act.put, zn1, zn2, zn3]
        refine tV 2 ?_ ?zq ?_; (case zq => rintro _ -; go_simp; try with_reducible rfl); try simp only [Act.put, zn1, zn2, zn3]
        refine tV 3 ?_ ?zq ?_; (case zq => rintro _ -; go_simp; try with_reducible rfl); try simp only [Act.put, zn1, zn2, zn3]
        refine tV 4 ?_ ?zq ?_; (case zq => rintro _ -; go_simp; try with_reducible rfl); try simp only [Act.put, zn1, zn2, zn3]
        refine tV 5 ?_ ?zq ?_; (case zq => rintro _ -; go_simp; try with_reducible rfl); try simp only [Act.put, zn1, zn2, zn3]
        refine tV 6 ?_ ?zq ?_; (case zq => rintro _ -; go_simp; try with_reducible rfl); try simp only [Act.put, zn1, zn2, zn3]
        refine tV 7 ?_ ?zq ?_; (case zq => rintro _ -; go_simp; try with_reducible rfl); try simp only [Act.put, zn1, zn2, zn3]
        refine tV 8 ?_ ?zq ?_; (case zq => rintro _ -; go_simp; try with_reducible rfl); try simp only [Act.put, zn1, zn2, zn3]
        refine tV 9 ?_ ?zq ?_; (case zq => intro w' hSw; have hCell := fun (b o : Nat) (h : b < wr.heap.size) => hSw.cell (p := ⟨b, o, none⟩) h; clear hSw; go_simp; try with_reducible rfl); try simp only [Act.put, zn1, zn2, zn3]
        refine tV 10 ?_ ?zq ?_; (case zq => rintro _ -; go_simp; try with_reducible rfl); try simp only [Act.put, zn1, zn2, zn3]
        refine tV 11 ?_ ?zq ?_; (case zq => intro w' hSw; have hCell := fun (b o : Nat) (h : b < wr.heap.size) => hSw.cell (p := ⟨b, o, none⟩) h; clear hSw; go_simp; try with_reducible rfl); try simp only [Act.put, zn1, zn2, zn3]
        refine tV 12 ?_ ?zq ?_; (case zq => rintro _ -; go_simp; try with_reducible rfl); try simp only [Act.put, zn1, zn2, zn3]
        refine tV 13 ?_ ?zq ?_; (case zq => rintro _ -; go_simp; try with_reducible rfl); try simp only [Act.put, zn1, zn2, zn3]
        refine tU 14 ?_; (try simp only [Act.put, zn1, zn2, zn3])
        refine tU 15 ?_; (try simp only [Act.put, zn1, zn2, zn3])
        refine tU 16 ?_; (try simp only [Act.put, zn1, zn2, zn3])
        refine tU 17 ?_; (try simp only [Act.put, zn1, zn2, zn3])
        refine tU 18 ?_; (try simp only [Act.put, zn1, zn2, zn3])
        refine tU 19 ?_; (try simp only [Act.put, zn1, zn2, zn3])
        refine tU 20 ?_; (try simp only [Act.put, zn1, zn2, zn3])
        refine tU 21 ?_; (try simp only [Act.put, zn1, zn2, zn3])
        refine tU 22 ?_; (try simp only [Act.put, zn1, zn2, zn3])
        refine tU 23 ?_; (try simp only [Act.put, zn1, zn2, zn3])
        refine tU 24 ?_; (try simp only [Act.put, zn1, zn2, zn3])
        refine tU 25 ?_; (try simp only [Act.put, zn1, zn2, zn3])
        refine tU 26 ?_; (try simp only [Act.put, zn1, zn2, zn3])
        refine tU 27 ?_; (try simp only [Act.put, zn1, zn2, zn3])
        refine tU 28 ?_; (try simp only [Act.put, zn1, zn2, zn3])
        refine tU 29 ?_; (try simp only [Act.put, zn1, zn2, zn3])
        refine tU 30 ?_; (try simp only [Act.put, zn1, zn2, zn3])
        refine tU 31 ?_; (try simp only [Act.put, zn1, zn2, zn3])
        refine tV 32 ?_ ?zq ?_; (case zq => rintro _ -; go_simp; try with_reducible rfl); try simp only [Act.put, zn1, zn2, zn3]
        refine tV 33 ?_ ?zq ?_; (case zq => rintro _ -; go_simp; try with_reducible rfl); try simp only [Act.put, zn1, zn2, zn3]
        refine wpAnyH_done (by kernel_rfl) ?_ _
        replace cp0 := cellAt cp0 hHeld (by omega)
        replace cp1 := cellAt cp1 hHeld (by omega)
        replace hq0 := cellAt hq0 hHeld (by omega)
        replace hq1 := cellAt hq1 hHeld (by omega)
        replace HRa := Lib.hid (HRa.out.at hHeld)
        replace HB := Lib.hid (HB.out.trans (hHeld.mono HB.out.size))
        replace n2 : (wo.heap.size + 1) < wr.drew.heap.size := ltAt n2 hHeld
        replace hB2 : b2 < wr.drew.heap.size := ltAt hB2 hHeld
        go_wp2_with fail
        go_roundw
        case rel =>
         refine ⟨k + 1, by omega, by go_num, fun q hq => ?_, lift hbq hHeld⟩
         rw [List.take_succ_eq_append_getElem hlt2, List.mem_append, List.mem_singleton] at hq
         rcases hq with h | h
         ·exact hall q h
         ·rw [h, Hq.out, ltP_mk]; simp [l1]
        case measure => simp [intOf]; omega
      ·have hge : ∀ h : k < acc.length, ltP acc[k] (s, d) = false := fun h => absurd h hlt2
       have hne : ¬ acc[k]? = some (s, d) := by rw [List.getElem?_eq_none (by omega)]; simp
       have Hge := Lib.hid (And.intro hge hne)
       clear hge hne
       try go_wp2_with fail
       refine wp_region_held_drew (S := fun w' => Below wr.heap.size wr w') (by kernel_rfl) (Below.drew (Below.refl _ _)) (fun hHeld => ?_)
       refine tV 0 ?_ ?zq ?_; (case zq => rintro _ -; go_simp; try with_reducible rfl); try simp only [Act.put, zn1, zn2, zn3]
       refine tV 1 ?_ ?zq ?_; (case zq => rintro _ -; go_simp; try with_reducible rfl); try simp only [Act.put, zn1, zn2, zn3]
       refine tV 2 ?_ ?zq ?_; (case zq => rintro _ -; go_simp; try with_reducible rfl); try simp only [Act.put, zn1, zn2, zn3]
       refine tV 3 ?_ ?zq ?_; (case zq => rintro _ -; go_simp; try with_reducible rfl); try simp only [Act.put, zn1, zn2, zn3]
       refine tV 4 ?_ ?zq ?_; (case zq => rintro _ -; go_simp; try with_reducible rfl); try simp only [Act.put, zn1, zn2, zn3]
       refine tU 5 ?_; (try simp only [Act.put, zn1, zn2, zn3])
       refine tU 6 ?_; (try simp only [Act.put, zn1, zn2, zn3])
       refine tU 7 ?_; (try simp only [Act.put, zn1, zn2, zn3])
       refine tU 8 ?_; (try simp only [Act.put, zn1, zn2, zn3])
       refine tU 9 ?_; (try simp only [Act.put, zn1, zn2, zn3])
       refine tU 10 ?_; (try simp only [Act.put, zn1, zn2, zn3])
       refine tU 11 ?_; (try simp only [Act.put, zn1, zn2, zn3])
       refine tU 12 ?_; (try simp only [Act.put, zn1, zn2, zn3])
       refine tU 13 ?_; (try simp only [Act.put, zn1, zn2, zn3])
       refine tU 14 ?_; (try simp only [Act.put, zn1, zn2, zn3])
       refine tU 15 ?_; (try simp only [Act.put, zn1, zn2, zn3])
       refine tU 16 ?_; (try simp only [Act.put, zn1, zn2, zn3])
       refine tU 17 ?_; (try simp only [Act.put, zn1, zn2, zn3])
       refine tU 18 ?_; (try simp only [Act.put, zn1, zn2, zn3])
       refine tU 19 ?_; (try simp only [Act.put, zn1, zn2, zn3])
       refine tU 20 ?_; (try simp only [Act.put, zn1, zn2, zn3])
       refine tU 21 ?_; (try simp only [Act.put, zn1, zn2, zn3])
       refine tU 22 ?_; (try simp only [Act.put, zn1, zn2, zn3])
       refine tU 23 ?_; (try simp only [Act.put, zn1, zn2, zn3])
       refine tU 24 ?_; (try simp only [Act.put, zn1, zn2, zn3])
       refine tU 25 ?_; (try simp only [Act.put, zn1, zn2, zn3])
       refine tU 26 ?_; (try simp only [Act.put, zn1, zn2, zn3])
       refine tU 27 ?_; (try simp only [Act.put, zn1, zn2, zn3])
       refine tU 28 ?_; (try simp only [Act.put, zn1, zn2, zn3])
       refine tU 29 ?_; (try simp only [Act.put, zn1, zn2, zn3])
       refine tU 30 ?_; (try simp only [Act.put, zn1, zn2, zn3])
       refine tU 31 ?_; (try simp only [Act.put, zn1, zn2, zn3])
       refine tU 32 ?_; (try simp only [Act.put, zn1, zn2, zn3])
       refine tV 33 ?_ ?zq ?_; (case zq => rintro _ -; go_simp; try with_reducible rfl); try simp only [Act.put, zn1, zn2, zn3]
       refine wpAnyH_done (by kernel_rfl) ?_ _
       replace cp0 := cellAt cp0 hHeld (by omega)
       replace cp1 := cellAt cp1 hHeld (by omega)
       replace HRa := Lib.hid (HRa.out.at hHeld)
       replace HB := Lib.hid (HB.out.trans (hHeld.mono HB.out.size))
       replace n2 : (wo.heap.size + 1) < wr.drew.heap.size := ltAt n2 hHeld
       go_wp2_with fail
       first | (refine wp_named ?_; intro W3 hW) | (refine calls_named ?_; intro W3 hW)
       have B3 : Below wr.drew.heap.size wr.drew W3 := by rw [hW]; exact bq
       replace cp0 := cellAt cp0 B3 (by omega)
       replace cp1 := cellAt cp1 B3 (by omega)
       replace HRa := Lib.hid (HRa.out.at B3)
       replace HB := Lib.hid (HB.out.trans (B3.mono HB.out.size))
       replace n2 : (wo.heap.size + 1) < W3.heap.size := ltAt n2 B3
       clear hW
       clear B3
       try go_wp2_with fail
       refine wp_region_held_drew (S := fun w' => Below W3.heap.size W3 w') (by kernel_rfl) (Below.drew (Below.refl _ _)) (fun hHeld => ?_)
       refine tV 0 ?_ ?zq ?_; (case zq => rintro _ -; go_simp; try with_reducible rfl); try simp only [Act.put, zn1, zn2, zn3]
       refine tV 1 ?_ ?zq ?_; (case zq => rintro _ -; go_simp; try with_reducible rfl); try simp only [Act.put, zn1, zn2, zn3]
       refine tV 2 ?_ ?zq ?_; (case zq => rintro _ -; go_simp; try with_reducible rfl); try simp only [Act.put, zn1, zn2, zn3]
       refine tV 3 ?_ ?zq ?_; (case zq => rintro _ -; go_simp; try with_reducible rfl); try simp only [Act.put, zn1, zn2, zn3]
       refine tV 4 ?_ ?zq ?_; (case zq => rintro _ -; go_simp; try with_reducible rfl); try simp only [Act.put, zn1, zn2, zn3]
       refine tU 5 ?_; (try simp only [Act.put, zn1, zn2, zn3])
       refine tU 6 ?_; (try simp only [Act.put, zn1, zn2, zn3])
       refine tU 7 ?_; (try simp only [Act.put, zn1, zn2, zn3])
       refine tU 8 ?_; (try simp only [Act.put, zn1, zn2, zn3])
       refine tU 9 ?_; (try simp only [Act.put, zn1, zn2, zn3])
       refine tU 10 ?_; (try simp only [Act.put, zn1, zn2, zn3])
       refine tV 11 ?_ ?zq ?_; (case zq => rintro _ -; go_simp; try with_reducible rfl); try simp only [Act.put, zn1, zn2, zn3]
       refine wpAnyH_done (by kernel_rfl) ?_ _
       replace cp0 := cellAt cp0 hHeld (by omega)
       replace cp1 := cellAt cp1 hHeld (by omega)
       replace HRa := Lib.hid (HRa.out.at hHeld)
       replace HB := Lib.hid (HB.out.trans (hHeld.mono HB.out.size))
       replace n2 : (wo.heap.size + 1) < W3.drew.heap.size := ltAt n2 hHeld
       go_wp2_with fail
       obtain ⟨hge, hne⟩ := Hge.out
       have hins : insL ltP (s, d) acc = acc.take k ++ (s, d) :: acc.drop k := by rw [insL_cut acc k hk hall hge, if_neg hne]
       have HI := Lib.hid hins
       first | (refine wp_named ?_; intro W4 hW) | (refine calls_named ?_; intro W4 hW)
       have B4 : Below W3.drew.heap.size W3.drew W4 := by rw [hW]; exact bq
       replace cp0 := cellAt cp0 B4 (by omega)
       replace cp1 := cellAt cp1 B4 (by omega)
       replace HRa := Lib.hid (HRa.out.at B4)
       replace HB := Lib.hid (HB.out.trans (B4.mono HB.out.size))
       replace n2 : (wo.heap.size + 1) < W4.heap.size := ltAt n2 B4
       clear hW
       clear B4 hins hge hne
       have hz4 := Nat.le_trans HB1.out.size HB.out.size
       have HR1 := Lib.hid (HRa.out.takeA hk)
       have HR2 := Lib.hid (HRa.out.dropA hk hc)
       have hs1 := run_slice_full (P := Tryz.prog) Tryz.underlying143 hi A acc.length c k (Nat.le_trans hk hc)
       have hs2 := run_slice_tail (P := Tryz.prog) Tryz.underlying143 hi A acc.length c k hk
       rw [hz1] at hs1 hs2
       have HLk := Lib.hid (show (acc.drop k).length = acc.length - k from List.length_drop)
       try go_wp2_with fail
       refine wp_region_held_drew (S := fun w' => Below W4.heap.size W4 w') (by kernel_rfl) (Below.drew (Below.refl _ _)) (fun hHeld => ?_)
       refine tV 0 ?_ ?zq ?_; (case zq => rintro _ -; go_simp; try with_reducible rfl); try simp only [Act.put, zn1, zn2, zn3]
       refine tV 1 ?_ ?zq ?_; (case zq => rintro _ -; go_simp; try with_reducible rfl); try simp only [Act.put, zn1, zn2, zn3]
       refine tV 2 ?_ ?zq ?_; (case zq => rintro _ -; go_simp; try with_reducible rfl); try simp only [Act.put, zn1, zn2, zn3]
       refine tV 3 ?_ ?zq ?_; (case zq => rintro _ -; go_simp; try with_reducible rfl); try simp only [Act.put, zn1, zn2, zn3]
       refine tV 4 ?_ ?zq ?_; (case zq => intro w' hSw; have hCell := fun (b o : Nat) (h : b < W4.heap.size) => hSw.cell (p := ⟨b, o, none⟩) h; clear hSw; go_simp; try with_reducible rfl); try simp only [Act.put, zn1, zn2, zn3]
       refine tV 6 ?_ ?zq ?_; (case zq => rintro _ -; go_simp; try with_reducible rfl); try simp only [Act.put, zn1, zn2, zn3]
       refine tV 7 ?_ ?zq ?_; (case zq => rintro _ -; go_simp; try with_reducible rfl); try simp only [Act.put, zn1, zn2, zn3]
       refine tV 8 ?_ ?zq ?_; (case zq => rintro _ -; go_simp; try with_reducible rfl); try simp only [Act.put, zn1, zn2, zn3]
       refine ready_one (i := 5) rfl (by kernel_rfl) (fun K hK => ?_)
       go_simp
       refine hK.out _ _ ?_ (fun hHeld2 => ?_)
       ·(try dsimp only); first | exact hHeld | exact bq
       clear hK K hHeld; have hHeld := hHeld2; clear hHeld2; (try simp only [Act.put, zn1, zn2, zn3])
       refine ready_one (i := 9) rfl (by kernel_rfl) (fun K hK => ?_)
       refine step_append_full (by rfl) (.tmp 89) (.tmp 92) 143 (by rfl) 145 i0 _ 2 32 Tryz.underlying143 hi hz0 hz1 hz2 rfl _ (some ⟨W4.heap.size, 0, none⟩) 1 (prC (s, d)) (by rfl) (Rd.lit W4.drew (prC (s, d)) 145 2 1 rfl) (Nat.le_refl _) _ _ (acc.length - k) (c - k) _ (by rfl) (HR2.out.at' (Nat.le_refl _) hHeld) (one_drop (one_prsC acc) _) (by unfold maxLen; omega) (by omega) ?_
       intro A2 c2 v2 hc2 hr2 hb
       have HR3 := Lib.hid hr2
       clear hr2
       refine hK.out _ _ ?_ (fun hHeld2 => ?_)
       ·(try dsimp only); first | exact Below.trans hHeld (Below.mono hb hHeld.size) | exact hHeld | exact Below.drew hHeld | exact bq
       clear hK K hHeld; have hHeld := hHeld2; clear hHeld2; (try simp only [Act.put, zn1, zn2, zn3])
       refine ready_one (i := 10) rfl (by kernel_rfl) (fun K hK => ?_)
       refine step_append_fresh (by rfl) (.tmp 87) (.tmp 93) 143 (by rfl) 145 i0 _ 2 32 Tryz.underlying143 hi hz0 hz1 hz2 rfl _ _ k _ (by rfl) (HR1.out.at' (Nat.le_refl _) hHeld) (Nat.le_refl _) _ A2 (1 + (acc.length - k)) c2 _ (by rfl) HR3.out (one_app (one_prC _) (one_drop (one_prsC acc) _)) (by unfold maxLen; omega) (by omega) ?_
       intro A3 c3 v3 hc3 hr3 hb hf3
       have hz5 := Nat.le_trans hz4 hHeld.size
       have HR4 := Lib.hid hr3
       clear hr3
       refine hK.out _ _ ?_ (fun hHeld2 => ?_)
       ·(try dsimp only); first | exact Below.trans hHeld (Below.mono hb hHeld.size) | exact hHeld | exact Below.drew hHeld | exact bq
       clear hK K hHeld; have hHeld := hHeld2; clear hHeld2; (try simp only [Act.put, zn1, zn2, zn3])
       refine tV 11 ?_ ?zq ?_; (case zq => rintro _ -; go_simp; try with_reducible rfl); try simp only [Act.put, zn1, zn2, zn3]
       refine wpAnyH_done (by kernel_rfl) ?_ _
       replace cp0 := cellAt cp0 hHeld (by omega)
       replace cp1 := cellAt cp1 hHeld (by omega)
       replace HRa := Lib.hid (HRa.out.at hHeld)
       replace HB := Lib.hid (HB.out.trans (hHeld.mono HB.out.size))
       replace n2 : (wo.heap.size + 1) < v3.heap.size := ltAt n2 hHeld
       clear hs1 hs2
       go_wp2_with fail
       go_roundw
       case rel =>
        have hlen : k + (1 + (acc.length - k)) = (accP es (j + 1)).length := by rw [HN.out, HI.out, List.length_append, List.length_cons, List.length_take, HLk.out]; omega
        refine ⟨j + 1, A3, c3, by omega, by go_num, by rw [hlen], by rw [← hlen]; exact hc3, ?_, fun _ ad e => Nat.le_trans hz5 (hf3 (by omega) ad e), HB.out⟩
        have h4 := HR4.out
        rw [hlen] at h4
        have hx : (prsC acc).take (k * 2) ++ (prC (s, d) ++ (prsC acc).drop (k * 2)) = prsC (accP es (j + 1)) := by rw [HN.out, HI.out, prsC_take, prsC_drop]; simp [prsC]
        rw [hx] at h4
        exact h4
       case measure => simp [intOf]; omega
    ·have hp : pairE es[j] = none := by rw [Hx.out]; simp [pairE, h8, h7]
     have HN := Lib.hid (accP_none hlt hp)
     clear hp
     have t1 : (r == 8) = false := by simpa using h8
     have t2 : (r != 8) = true := by simpa using h8
     have t3 : (r != 7) = true := by simpa using h7
     go_wp2_with fail
     go_roundw
     case rel => exact ⟨j + 1, A, c, by omega, by go_num, by rw [HN.out], by rw [HN.out]; exact hc, by rw [HN.out]; exact HRa.out.at (by repeat (first | exact Below.refl _ _ | assumption | refine Below.alloc ?_ (by simp <;> omega) _ | refine Below.setCell ?_ (by simp <;> omega) _ | refine Below.drew ?_)), by rw [HN.out]; exact HFr.out, HB.out.trans (Below.mono (by repeat (first | exact Below.refl _ _ | assumption | refine Below.alloc ?_ (by simp <;> omega) _ | refine Below.setCell ?_ (by simp <;> omega) _ | refine Below.drew ?_)) HB.out.size)⟩
     case measure => simp [intOf]; omega
  ·have hjn : j = es.length := by omega
   subst hjn
   rw [accP_all] at hc hra ⊢
   have HRa := Lib.hid hra
   have HB := Lib.hid hb
   clear hra hb
   go_wp2_with fail
   go_ret
   exact ⟨A, c, rfl, hc, HRa.out, by have h := HFr.out; rw [accP_all] at h; exact h, lift HB1.out HB.out⟩
end Od
end Go.Proofs.YtmlogmcnblgnbaaGreat
end

section
/- The walks of matinsref15.reach, leads, Is and Behind. -/
namespace Go.Proofs.YtmlogmcnblgnbaaGreat
open Go.RowKit Go.Sort

namespace Od
theorem stepL_succ {l : List Pr} {a : Str} {S : List Str} {k : Nat} (hk : k < l.length) :
  stepL (l.take (k + 1)) a S = if l[k].1 = a ∨ l[k].1 ∈ stepL (l.take k) a S then insL ltS l[k].2 (stepL (l.take k) a S) else stepL (l.take k) a S := by
 unfold stepL; rw [List.take_succ_eq_append_getElem hk, List.foldl_append]; rfl
theorem stepL_ok {l : List Pr} {a : Str} {S : List Str} (h1 : SS ltS S) (h2 : ∀ b, b ∈ S → R l a b) (k : Nat) :
  SS ltS (stepL (l.take k) a S) ∧ (∀ b, b ∈ stepL (l.take k) a S → R l a b) ∧ S.length ≤ (stepL (l.take k) a S).length := by
 have h := step_fold l a (l.take k) S (fun p hp => List.mem_of_mem_take hp) h1 h2
 exact ⟨h.1, h.2.1, h.2.2.1⟩
theorem stepL_closed {l : List Pr} {a : Str} {S : List Str} (h1 : SS ltS S) (h2 : ∀ b, b ∈ S → R l a b) (h : ¬ S.length < (stepL l a S).length) : stepL l a S = S ∧ Closed l a S := by
 have h' := step_fold l a l S (fun p hp => hp) h1 h2
 exact h'.2.2.2 (by have := h'.2.2.1; unfold stepL at h; omega)
theorem any_eq_mem {s : Str} {l : List Str} : (l.any (· == s)) = decide (s ∈ l) := by
 rw [Bool.eq_iff_iff]; simp only [List.any_eq_true, beq_iff_eq, decide_eq_true_eq]; exact ⟨fun ⟨x, h, e⟩ => e ▸ h, fun h => ⟨s, h, rfl⟩⟩

set_option maxRecDepth 100000 in
set_option maxHeartbeats 4000000 in
theorem reach15_any (A : Option Addr) (c : Nat) (l : List Pr) (a : Str) (w : World) (hr : Rd w w.heap.size 2 A l.length (prsC l)) (hl : l.length ≤ 100000) :
  Calls Tryz.prog 145 #[.slice A l.length c, sv a] w (RdIs 1 (reachL l a).length (svs (reachL l a)) w) := by
 have Hr := Lib.hid hr
 clear hr
 go_enter Tryz.func145, Tryz.ntmps145
 go_wp2_with fail
 go_loopw [5, 6] (fun v g wr => ∃ (S : List Str) (A1 : Option Addr) (c1 : Nat) (b : Bool), v = .slice A1 S.length c1 ∧ g = .bool b ∧ S.length ≤ c1 ∧ Rd wr wr.heap.size 1 A1 S.length (svs S) ∧ SS ltS S ∧ (∀ s, s ∈ S → R l a s) ∧ (b = false → Closed l a S) ∧ Below w.heap.size w wr)
  (fun v g _ => match v, g with | .slice _ n _, .bool true => l.length + 1 - n | _, _ => 0)
 case atStart => exact ⟨[], none, 0, true, rfl, rfl, Nat.le_refl _, Rd.none_, List.Pairwise.nil, by simp, by simp, Below.refl _ _⟩
 case round =>
  obtain ⟨S, A1, c1, b, rfl, rfl, hc1, hra, hss, hre, hcl, hb⟩ := hrel
  obtain ⟨w1, rfl⟩ : ∃ wo : World, wo = wr := ⟨_, rfl⟩
  have HA := Lib.hid hra
  have HB := Lib.hid hb
  have HS := Lib.hid (And.intro hss (And.intro hre hcl))
  have hsl := reached_len hss hre
  clear hra hb hss hre hcl
  cases b
  ·have heq : S = reachL l a := (Reached.of HS.out.1 HS.out.2.1 (HS.out.2.2 rfl)).eq
   subst heq
   go_wp2_with fail
   go_ret
   exact RdIs.of hc1 HA.out HB.out rfl rfl
  ·go_wp2_with fail
   go_loopw [5, 6, 16] (fun v g i wr => ∃ (k : Nat) (A2 : Option Addr) (c2 : Nat), k ≤ l.length ∧ i = .int .i64 k ∧ v = .slice A2 (stepL (l.take k) a S).length c2 ∧ (stepL (l.take k) a S).length ≤ c2 ∧ Rd wr wr.heap.size 1 A2 (stepL (l.take k) a S).length (svs (stepL (l.take k) a S)) ∧
    g = .bool (decide (S.length < (stepL (l.take k) a S).length)) ∧ Below w1.heap.size w1 wr) (fun _ _ i _ => l.length - (intOf i).toNat)
   case atStart => exact ⟨0, A1, c1, Nat.zero_le _, rfl, rfl, hc1, HA.out, by simp [stepL], Below.refl _ _⟩
   case round =>
    obtain ⟨k, A2, c2, hk, rfl, rfl, hc2, hra, rfl, hb⟩ := hrel
    obtain ⟨w2, rfl⟩ : ∃ wo : World, wo = wr := ⟨_, rfl⟩
    have HT := stepL_ok HS.out.1 HS.out.2.1 k
    have htl := reached_len HT.1 HT.2.1
    have HTh := Lib.hid HT
    by_cases hlt : k < l.length
    ·have hsu := @stepL_succ l a S k hlt
     generalize hT : stepL (l.take k) a S = T at *
     have HTe := Lib.hid hT
     obtain ⟨bl, o, rfl, hB, hc0, hc3⟩ := (Hr.out.at (HB.out.trans (hb.mono HB.out.size))).pair hlt
     generalize hx : l[k] = x at hc0 hc3 hsu
     obtain ⟨x, y⟩ := x
     have HA2 := Lib.hid hra
     have HB2 := Lib.hid hb
     have HSu := Lib.hid hsu
     simp only at hc0 hc3
     clear hra hb hx hsu hT HT
     go_wp2_with fail
     first | (refine wp_named ?_; intro W3 hW) | (refine calls_named ?_; intro W3 hW)
     have B3 : Below w2.heap.size w2 W3 := by rw [hW]; exact bq
     replace HA2 := Lib.hid (HA2.out.at B3)
     replace HB2 := Lib.hid (HB2.out.trans (B3.mono HB2.out.size))
     have n3 : w2.heap.size < W3.heap.size := by rw [hW]; simp <;> omega
     have c30 : W3.cell? ⟨w2.heap.size, 0, none⟩ = some (sv x) := by rw [hW]; go_simp
     have c31 : W3.cell? ⟨w2.heap.size, 1, none⟩ = some (sv y) := by rw [hW]; go_simp
     clear hW
     clear B3
     go_loop [9, 10, 26] (fun ne th i => ∃ j : Nat, j ≤ T.length ∧ i = .int .i64 j ∧ ne = .bool ((x == a) || (T.take j).any (· == x)) ∧ th = .bool ((T.take j).any (· == y))) (fun _ _ i => T.length - (intOf i).toNat)
     case atStart => exact ⟨0, Nat.zero_le _, rfl, by simp, by simp⟩
     case round =>
      obtain ⟨j, hj, rfl, rfl, rfl⟩ := hrel
      by_cases hlt2 : j < T.length
      ·obtain ⟨b2, o2, rfl, hB2, hs0⟩ := HA2.out.str hlt2
       have e1 := @any_take_succ Str (· == x) T j hlt2
       have e2 := @any_take_succ Str (· == y) T j hlt2
       generalize hs : T[j] = s at hs0 e1 e2
       have E1 := Lib.hid e1
       have E2 := Lib.hid e2
       clear hs e1 e2
       cases hn : ((x == a) || (T.take j).any (· == x)) <;> cases ht : (T.take j).any (· == y)
       all_goals
        have Hn := Lib.hid (And.intro hn ht)
        clear hn ht
        go_wp2_with fail
        go_round
        case rel =>
         refine ⟨j + 1, by omega, by go_num, ?_, ?_⟩
         ·rw [E1.out, ← Bool.or_assoc, Hn.out.1]; simp
         ·rw [E2.out, Hn.out.2]; simp
        case measure => simp [intOf]; omega
      ·have hjn : j = T.length := by omega
       subst hjn
       rw [List.take_length] at *
       have HM := HTh.out
       have hkk : ∀ v : World, True := fun _ => trivial
       clear hkk
       have hkeep : ¬ ((x = a ∨ x ∈ T) ∧ ¬ y ∈ T) → stepL (l.take (k + 1)) a S = T := fun h => by
        rw [HSu.out]
        by_cases h1 : x = a ∨ x ∈ T
        ·rw [if_pos h1]; exact insL_of_mem toS HM.1 (Decidable.byContradiction fun h2 => h ⟨h1, h2⟩)
        ·rw [if_neg h1]
       have hgrow : (x = a ∨ x ∈ T) ∧ ¬ y ∈ T → stepL (l.take (k + 1)) a S = insL ltS y T ∧ S.length < (insL ltS y T).length := fun h => by
        refine ⟨by rw [HSu.out, if_pos h.1], ?_⟩
        rw [insL_len toS HM.1 h.2]; have := HM.2.2; omega
       have HK := Lib.hid (And.intro hkeep hgrow)
       clear hkeep hgrow HM
       cases hn : ((x == a) || T.any (· == x))
       ·have hno : ¬ ((x = a ∨ x ∈ T) ∧ ¬ y ∈ T) := fun h => by
         rw [any_eq_mem, Bool.or_eq_false_iff] at hn
         rcases h.1 with e | e
         ·rw [e] at hn; simp at hn
         ·simp [e] at hn
        have HNo := Lib.hid (HK.out.1 hno)
        clear hno
        have Hn := Lib.hid hn
        clear hn
        go_wp2_with fail
        go_roundw
        case rel => exact ⟨k + 1, A2, c2, by omega, by go_num, by rw [HNo.out], by rw [HNo.out]; exact hc2, by rw [HNo.out]; exact HA2.out, by rw [HNo.out], HB2.out⟩
        case measure => simp [intOf]; omega
       ·cases ht : T.any (· == y)
        ·have hyes : (x = a ∨ x ∈ T) ∧ ¬ y ∈ T := by
          rw [any_eq_mem] at hn ht
          exact ⟨by simpa using hn, by simpa using ht⟩
         have HY := Lib.hid (HK.out.2 hyes)
         have Hn := Lib.hid (And.intro hn ht)
         clear hyes hn ht
         go_wp2_with fail
         refine (put15_any A2 c2 T y W3 HA2.out hc2 (by omega)).mono ?_
         rintro e v ⟨A3, c3, rfl, hc3, hr3, hb⟩
         have HA3 := Lib.hid hr3
         replace c30 := cellAt c30 hb (by omega)
         replace c31 := cellAt c31 hb (by omega)
         replace HA2 := Lib.hid (HA2.out.at hb)
         replace HB2 := Lib.hid (HB2.out.trans (hb.mono HB2.out.size))
         replace n3 : w2.heap.size < v.heap.size := ltAt n3 hb
         clear hr3 hb
         go_wp2_with fail
         go_roundw
         case rel => exact ⟨k + 1, A3, c3, by omega, by go_num, by rw [HY.out.1], by rw [HY.out.1]; exact hc3, by rw [HY.out.1]; exact HA3.out, by rw [HY.out.1]; simp [HY.out.2], HB2.out⟩
         case measure => simp [intOf]; omega
        ·have hno : ¬ ((x = a ∨ x ∈ T) ∧ ¬ y ∈ T) := fun h => by
          rw [any_eq_mem] at ht; simp [h.2] at ht
         have HNo := Lib.hid (HK.out.1 hno)
         have Hn := Lib.hid (And.intro hn ht)
         clear hno hn ht
         go_wp2_with fail
         go_roundw
         case rel => exact ⟨k + 1, A2, c2, by omega, by go_num, by rw [HNo.out], by rw [HNo.out]; exact hc2, by rw [HNo.out]; exact HA2.out, by rw [HNo.out], HB2.out⟩
         case measure => simp [intOf]; omega
    ·have hkn : k = l.length := by omega
     subst hkn
     rw [List.take_length] at *
     have HA2 := Lib.hid hra
     have HB2 := Lib.hid (HB.out.trans (hb.mono HB.out.size))
     clear hra hb
     have HT2 := HTh.out
     have HT3 := Lib.hid HT2
     cases hg : decide (S.length < (stepL l a S).length)
     ·have hcl := stepL_closed HS.out.1 HS.out.2.1 (by simpa using hg)
      have HCl := Lib.hid hcl
      have Hg := Lib.hid hg
      clear hcl hg HT2
      go_wp2_with fail
      go_roundw
      case rel => exact ⟨stepL l a S, A2, c2, false, rfl, rfl, hc2, HA2.out, HT3.out.1, HT3.out.2.1, fun _ => by rw [HCl.out.1]; exact HCl.out.2, HB2.out⟩
      case measure => simp; omega
     ·have hgl : S.length < (stepL l a S).length := by simpa using hg
      have Hg := Lib.hid hg
      clear hg HT2
      go_wp2_with fail
      go_roundw
      case rel => exact ⟨stepL l a S, A2, c2, true, rfl, rfl, hc2, HA2.out, HT3.out.1, HT3.out.2.1, (fun h => by cases h), HB2.out⟩
      case measure => simp; omega
end Od
end Go.Proofs.YtmlogmcnblgnbaaGreat
end

section
/- The walks of matinsref15.leads, Is and Behind. -/
namespace Go.Proofs.YtmlogmcnblgnbaaGreat
open Go.RowKit Go.Sort

namespace Od
set_option maxRecDepth 100000 in
set_option maxHeartbeats 1000000 in
theorem leads15_any (A : Option Addr) (c : Nat) (l : List Pr) (a b : Str) (w : World) (hr : Rd w w.heap.size 2 A l.length (prsC l)) (hl : l.length ≤ 100000) :
  Calls Tryz.prog 120 #[.slice A l.length c, sv a, sv b] w fun e w' => e = .returned (.bool (decide (b ∈ reachL l a))) ∧ Below w.heap.size w w' := by
 have Hr := Lib.hid hr
 clear hr
 rw [← any_eq_mem]
 go_enter Tryz.func120, Tryz.ntmps120
 go_wp2_with fail
 refine (reach15_any A c l a w Hr.out hl).mono ?_
 rintro e w1 ⟨A1, c1, rfl, hc1, hr1, hb⟩
 have HR := Lib.hid hr1
 have HB := Lib.hid hb
 have hln := reached_len (reachL_ok l a).1 (fun s hs => mem_reachL.1 hs)
 clear hr1 hb
 generalize hT : reachL l a = T at *
 have HT := Lib.hid hT
 clear hT
 go_wp2_with fail
 go_loop [13] (fun i => ∃ j : Nat, j ≤ T.length ∧ i = .int .i64 j ∧ Hid ((T.take j).any (· == b) = false)) (fun i => T.length - (intOf i).toNat)
 case atStart => exact ⟨0, Nat.zero_le _, rfl, by simp [Hid]⟩
 case round =>
  obtain ⟨j, hj, rfl, hall⟩ := hrel
  by_cases hlt : j < T.length
  ·obtain ⟨bl, o, rfl, hB, hs0⟩ := HR.out.str hlt
   have e1 := @any_take_succ Str (· == b) T j hlt
   have e2 := @any_of_at Str (· == b) T j hlt
   generalize hs : T[j] = s at hs0 e1 e2
   have E1 := Lib.hid e1
   have E2 := Lib.hid e2
   clear hs e1 e2
   cases hsb : (s == b)
   ·have Hsb := Lib.hid hsb
    go_wp2_with fail
    go_round
    case rel => exact ⟨j + 1, by omega, by go_num, by show _ = false; rw [E1.out, hall.out, Hsb.out]; rfl⟩
    case measure => simp [intOf]; omega
   ·have Hsb := Lib.hid (E2.out hsb)
    go_wp2_with fail
    go_ret
    exact ⟨ret_bool (by rw [HT.out]; exact Hsb.out.symm), HB.out⟩
  ·have hjn : j = T.length := by omega
   subst hjn
   go_wp2_with fail
   go_ret
   have h := hall.out
   rw [List.take_length] at h
   exact ⟨ret_bool (by rw [HT.out]; exact h.symm), HB.out⟩

theorem isB_any (es : List Ed) : isB es = !(prsL es).any (fun p => decide (p.1 ∈ reachL (prsL es) p.2) || p.1 == p.2) := by
 unfold isB
 congr 2
 funext p
 rw [Bool.or_comm]
set_option maxRecDepth 100000 in
set_option maxHeartbeats 1000000 in
theorem Is15_any (An Ae : Option Addr) (nn cn ce : Nat) (es : List Ed) (w : World) (hr : Rd w w.heap.size 3 Ae es.length (edsC es)) (hl : es.length ≤ 100000) :
  Calls Tryz.prog 85 #[gV An nn cn Ae es.length ce] w fun e w' => e = .returned (.bool (isB es)) ∧ Below w.heap.size w w' := by
 have Hr := Lib.hid hr
 clear hr
 have hpl := prsL_len es
 rw [isB_any]
 go_enter Tryz.func85, Tryz.ntmps85
 go_wp2_with fail
 first | (refine wp_named ?_; intro W1 hW) | (refine calls_named ?_; intro W1 hW)
 have B1 : Below w.heap.size w W1 := by rw [hW]; exact bq
 replace Hr := Lib.hid (Hr.out.at B1)
 clear hW
 refine (pairs15_any An Ae nn cn ce es W1 Hr.out hl).mono ?_
 rintro e w2 ⟨A, c, rfl, hc, hrp, hfr, hb⟩
 have HP := Lib.hid hrp
 have HB := Lib.hid (lift B1 hb)
 clear hrp hb B1
 generalize hL : prsL es = l at *
 have HL := Lib.hid hL
 clear hL
 generalize hq : (fun p : Pr => decide (p.1 ∈ reachL l p.2) || p.1 == p.2) = q
 have HQ := Lib.hid hq
 clear hq
 go_wp2_with fail
 go_loopw [10] (fun i wr => ∃ j : Nat, j ≤ l.length ∧ i = .int .i64 j ∧ Hid ((l.take j).any q = false) ∧ Below w2.heap.size w2 wr) (fun i _ => l.length - (intOf i).toNat)
 case atStart => exact ⟨0, Nat.zero_le _, rfl, by simp [Hid], Below.refl _ _⟩
 case round =>
  obtain ⟨j, hj, rfl, hall, hb⟩ := hrel
  by_cases hlt : j < l.length
  ·obtain ⟨bl, o, hA, hB, hc0, hc1⟩ := (HP.out.at hb).pair hlt
   have e1 := @any_take_succ Pr q l j hlt
   have e2 := @any_of_at Pr q l j hlt
   generalize hx : l[j] = p at hc0 hc1 e1 e2
   obtain ⟨x, y⟩ := p
   simp only at hc0 hc1
   have E1 := Lib.hid e1
   have E2 := Lib.hid e2
   have hqv : q (x, y) = (decide (x ∈ reachL l y) || x == y) := by rw [← HQ.out]
   have HQv := Lib.hid hqv
   have HPr := Lib.hid (HP.out.at hb)
   have HBr := Lib.hid (lift HB.out hb)
   have HB2 := Lib.hid hb
   clear hx e1 e2 hqv hb
   subst hA
   go_wp2_with fail
   first | (refine wp_named ?_; intro W3 hW) | (refine calls_named ?_; intro W3 hW)
   have B3 : Below wr.heap.size wr W3 := by rw [hW]; exact bq
   replace HPr := Lib.hid (HPr.out.at B3)
   replace HBr := Lib.hid (lift HBr.out B3)
   replace HB2 := Lib.hid (HB2.out.trans (B3.mono HB2.out.size))
   have n3 : wr.heap.size < W3.heap.size := by rw [hW]; simp <;> omega
   have c30 : W3.cell? ⟨wr.heap.size, 0, none⟩ = some (sv x) := by rw [hW]; go_simp
   have c31 : W3.cell? ⟨wr.heap.size, 1, none⟩ = some (sv y) := by rw [hW]; go_simp
   clear hW
   refine (leads15_any _ c l y x W3 HPr.out (by omega)).mono ?_
   rintro e v ⟨rfl, hb⟩
   replace c30 := cellAt c30 hb (by omega)
   replace c31 := cellAt c31 hb (by omega)
   replace HPr := Lib.hid (HPr.out.at hb)
   replace HBr := Lib.hid (lift HBr.out hb)
   replace HB2 := Lib.hid (HB2.out.trans (hb.mono HB2.out.size))
   replace n3 : wr.heap.size < v.heap.size := ltAt n3 hb
   clear hb B3
   cases hd : decide (x ∈ reachL l y)
   ·rw [hd, Bool.false_or] at HQv
    cases he : (x == y)
    ·have HE := Lib.hid he
     go_wp2_with fail
     go_roundw
     case rel => exact ⟨j + 1, by omega, by go_num, by show _ = false; rw [E1.out, hall.out, HQv.out, HE.out]; rfl, HB2.out⟩
     case measure => simp [intOf]; omega
    ·have HE := Lib.hid (E2.out (HQv.out.trans he))
     go_wp2_with fail
     go_ret
     exact ⟨ret_bool (by rw [HL.out, HQ.out, HE.out]; rfl), HBr.out⟩
   ·rw [hd, Bool.true_or] at HQv
    have HE := Lib.hid (E2.out HQv.out)
    go_wp2_with fail
    go_ret
    exact ⟨ret_bool (by rw [HL.out, HQ.out, HE.out]; rfl), HBr.out⟩
  ·have hjn : j = l.length := by omega
   subst hjn
   have HBr := Lib.hid (lift HB.out hb)
   clear hb
   go_wp2_with fail
   go_ret
   have h := hall.out
   rw [List.take_length] at h
   exact ⟨ret_bool (by rw [HL.out, HQ.out, h]; rfl), HBr.out⟩
end Od
end Go.Proofs.YtmlogmcnblgnbaaGreat
end

section
/- The walk of matinsref20.Sound. (bel2) -/
namespace Go.Proofs.YtmlogmcnblgnbaaGreat
open Go.RowKit Go.Sort
set_option linter.unusedSimpArgs false

namespace Od
set_option maxRecDepth 100000 in
set_option maxHeartbeats 16000000 in
theorem Sound20_any (An Ae : Option Addr) (cn ce : Nat) (ns : List Nd) (es : List Ed) (A : Option Addr) (c : Nat) (q : List Jb) (w : World) (hg : GIq w An Ae ns es) (hq : QIn w A c q) :
  Calls Tryz.prog 58 #[gV An ns.length cn Ae es.length ce, .slice A q.length c] w fun e w' => e = .returned (.bool (soundQ ns es q)) ∧ Below w.heap.size w w' := by
 have hln := hg.ln
 have hle := hg.le
 have HG := Lib.hid hg
 have HQ := Lib.hid hq
 have HM := Lib.hid (show soundQ ns es q = (mayG ns es && (isB es && (mayQ q && noPair es q))) from rfl)
 clear hg hq
 go_enter Tryz.func58, Tryz.ntmps58
 go_wp2_with fail
 first | (refine wp_named ?_; intro W1 hW) | (refine calls_named ?_; intro W1 hW)
 have B1 : Below w.heap.size w W1 := by rw [hW]; exact bq2
 replace HG := Lib.hid (HG.out.at B1)
 replace HQ := Lib.hid (HQ.out.at B1)
 have n1 : w.heap.size < W1.heap.size := by rw [hW]; simp <;> omega
 have g0 : W1.cell? ⟨w.heap.size, 0, none⟩ = some (.slice An ns.length cn) := by rw [hW]; go_simp
 have g1 : W1.cell? ⟨w.heap.size, 1, none⟩ = some (.slice Ae es.length ce) := by rw [hW]; go_simp
 clear hW
 have HB := Lib.hid B1
 clear B1
 refine (May15_any An Ae cn ce ns es W1 HG.out.rn HG.out.re (by omega) HG.out.okn).mono ?_
 rintro e w2 ⟨rfl, hb⟩
 replace g0 := cellAt g0 hb (by omega)
 replace g1 := cellAt g1 hb (by omega)
 replace HG := Lib.hid (HG.out.at hb)
 replace HQ := Lib.hid (HQ.out.at hb)
 replace n1 : w.heap.size < w2.heap.size := ltAt n1 hb
 replace HB := Lib.hid (lift HB.out hb)
 clear hb
 cases h1 : mayG ns es
 ·have H1 := Lib.hid h1
  go_wp2_with fail
  go_ret
  exact ⟨ret_bool (by rw [HM.out]; simp [H1.out]), HB.out⟩
 ·have H1 := Lib.hid h1
  go_wp2_with fail
  refine (Is15_any An Ae ns.length cn ce es w2 HG.out.re (by omega)).mono ?_
  rintro e w3 ⟨rfl, hb⟩
  replace g0 := cellAt g0 hb (by omega)
  replace g1 := cellAt g1 hb (by omega)
  replace HG := Lib.hid (HG.out.at hb)
  replace HQ := Lib.hid (HQ.out.at hb)
  replace n1 : w.heap.size < w3.heap.size := ltAt n1 hb
  replace HB := Lib.hid (lift HB.out hb)
  clear hb
  cases h2 : isB es
  ·have H2 := Lib.hid h2
   go_wp2_with fail
   go_ret
   exact ⟨ret_bool (by rw [HM.out]; simp [H1.out, H2.out]), HB.out⟩
  ·have H2 := Lib.hid h2
   go_wp2_with fail
   refine (May20_any A c q w3 HQ.out.rq HQ.out.ok).mono ?_
   rintro e w4 ⟨rfl, hb⟩
   replace g0 := cellAt g0 hb (by omega)
   replace g1 := cellAt g1 hb (by omega)
   replace HG := Lib.hid (HG.out.at hb)
   replace HQ := Lib.hid (HQ.out.at hb)
   replace n1 : w.heap.size < w4.heap.size := ltAt n1 hb
   replace HB := Lib.hid (lift HB.out hb)
   clear hb
   cases h3 : mayQ q
   ·have H3 := Lib.hid h3
    go_wp2_with fail
    go_ret
    exact ⟨ret_bool (by rw [HM.out]; simp [H1.out, H2.out, H3.out]), HB.out⟩
   ·have H3 := Lib.hid h3
    have hlq2 : q.length ≤ 64 := (mayQ_iff.1 h3).1
    clear h3
    go_wp2_with fail
    go_loopw [24] (fun i wr => ∃ m : Nat, m ≤ q.length ∧ i = .int .i64 m ∧ Hid (∀ k (hk : k < q.length), k < m → ∀ y ∈ q, q[k].2.2.1 = 2 → y.2.2.1 = 2 → Ah es q[k].1 y.1 = false) ∧ Below w4.heap.size w4 wr) (fun i _ => q.length - (intOf i).toNat)
    case atStart => exact ⟨0, Nat.zero_le _, rfl, fun _ _ h => absurd h (by omega), Below.refl _ _⟩
    case round =>
     obtain ⟨m, hm, rfl, hall, hb⟩ := hrel
     have Hall := Lib.hid hall.out
     clear hall
     have Hb := Lib.hid hb
     replace g0 := cellAt g0 hb (by omega)
     replace g1 := cellAt g1 hb (by omega)
     replace HG := Lib.hid (HG.out.at hb)
     replace HQ := Lib.hid (HQ.out.at hb)
     replace n1 : w.heap.size < wr.heap.size := ltAt n1 hb
     replace HB := Lib.hid (lift HB.out hb)
     clear hb
     by_cases hlt : m < q.length
     ·obtain ⟨b2, o2, hA, hB2, x0, x1, x2, x3⟩ := HQ.out.rq.job hlt
      have hxin : q[m] ∈ q := List.getElem_mem hlt
      generalize hx : q[m] = x at x0 x1 x2 x3 hxin
      obtain ⟨s, t, r, d⟩ := x
      have Hx := Lib.hid hx
      have Hxin := Lib.hid hxin
      clear hx hxin
      simp only at x0 x1 x2 x3
      have m1 : (0 : Int) ≤ (m : Int) := by omega
      have m2 : (m : Int) < (q.length : Int) := by omega
      subst hA
      obtain ⟨w9, rfl⟩ : ∃ wo : World, wo = wr := ⟨_, rfl⟩
      go_wp2_with fail
      first | (refine wp_named ?_; intro W2 hW) | (refine calls_named ?_; intro W2 hW)
      have B2 : Below w9.heap.size w9 W2 := by rw [hW]; exact bq2
      replace g0 := cellAt g0 B2 (by omega)
      replace g1 := cellAt g1 B2 (by omega)
      replace HG := Lib.hid (HG.out.at B2)
      replace HQ := Lib.hid (HQ.out.at B2)
      replace n1 : w.heap.size < W2.heap.size := ltAt n1 B2
      replace HB := Lib.hid (lift HB.out B2)
      replace Hb := Lib.hid (lift Hb.out B2)
      replace hB2 : b2 < W2.heap.size := ltAt hB2 B2
      have p1 : w9.heap.size < W2.heap.size := by rw [hW]; simp <;> omega
      have e0 : W2.cell? ⟨w9.heap.size, 0, none⟩ = some (sv s) := by rw [hW]; go_simp
      have e1 : W2.cell? ⟨w9.heap.size, 1, none⟩ = some (.int .i64 t) := by rw [hW]; go_simp
      have e2 : W2.cell? ⟨w9.heap.size, 2, none⟩ = some (.int .i64 r) := by rw [hW]; go_simp
      have e3 : W2.cell? ⟨w9.heap.size, 3, none⟩ = some (.int .i64 d) := by rw [hW]; go_simp
      clear hW
      clear B2
      have Hb9 := Hb
      go_loopw [30] (fun i wr => ∃ j : Nat, j ≤ q.length ∧ i = .int .i64 j ∧ Hid (∀ y ∈ q.take j, r = 2 → y.2.2.1 = 2 → Ah es s y.1 = false) ∧ Below W2.heap.size W2 wr) (fun i _ => q.length - (intOf i).toNat)
      case atStart => exact ⟨0, Nat.zero_le _, rfl, by simp [Hid], Below.refl _ _⟩
      case round =>
       obtain ⟨j, hj, rfl, hall2, hb⟩ := hrel
       have Hb7 := Lib.hid hb
       replace g0 := cellAt g0 hb (by omega)
       replace g1 := cellAt g1 hb (by omega)
       replace e0 := cellAt e0 hb (by omega)
       replace e1 := cellAt e1 hb (by omega)
       replace e2 := cellAt e2 hb (by omega)
       replace e3 := cellAt e3 hb (by omega)
       replace HG := Lib.hid (HG.out.at hb)
       replace HQ := Lib.hid (HQ.out.at hb)
       replace n1 : w.heap.size < wr.heap.size := ltAt n1 hb
       replace HB := Lib.hid (lift HB.out hb)
       replace hB2 : b2 < wr.heap.size := ltAt hB2 hb
       replace p1 : w9.heap.size < wr.heap.size := ltAt p1 hb
       clear hb
       by_cases hlt2 : j < q.length
       ·obtain ⟨b3, o3, hA3, hB3, y0, y1, y2, y3⟩ := HQ.out.rq.job hlt2
        injection hA3 with hA3
        injection hA3 with hA4 hA5
        subst hA4 hA5
        have hyin : q[j] ∈ q := List.getElem_mem hlt2
        have htake : (r = 2 → q[j].2.2.1 = 2 → Ah es s q[j].1 = false) → ∀ y ∈ q.take (j + 1), r = 2 → y.2.2.1 = 2 → Ah es s y.1 = false := by
         intro h1 y hy
         rw [List.take_succ_eq_append_getElem hlt2, List.mem_append, List.mem_singleton] at hy
         rcases hy with h | h
         ·exact hall2.out y h
         ·rw [h]; exact h1
        generalize q[j] = z at y0 y1 y2 y3 htake hyin
        obtain ⟨s', t', r', d'⟩ := z
        simp only at y0 y1 y2 y3
        have HT := Lib.hid htake
        have Hyin := Lib.hid hyin
        clear htake hyin
        have j1 : (0 : Int) ≤ (j : Int) := by omega
        have j2 : (j : Int) < (q.length : Int) := by omega
        by_cases r2 : r = 2
        ·have rb : (r == 2) = true := by simpa using r2
         by_cases r2' : r' = 2
         ·have rb' : (r' == 2) = true := by simpa using r2'
          have R2 := Lib.hid r2
          have R2' := Lib.hid r2'
          clear r2 r2'
          go_wp2_with fail
          first | (refine wp_named ?_; intro W3 hW) | (refine calls_named ?_; intro W3 hW)
          have B3 : Below wr.heap.size wr W3 := by rw [hW]; exact bq2
          replace g0 := cellAt g0 B3 (by omega)
          replace g1 := cellAt g1 B3 (by omega)
          replace e0 := cellAt e0 B3 (by omega)
          replace e1 := cellAt e1 B3 (by omega)
          replace e2 := cellAt e2 B3 (by omega)
          replace e3 := cellAt e3 B3 (by omega)
          replace HG := Lib.hid (HG.out.at B3)
          replace HQ := Lib.hid (HQ.out.at B3)
          replace n1 : w.heap.size < W3.heap.size := ltAt n1 B3
          replace HB := Lib.hid (lift HB.out B3)
          replace hB2 : b2 < W3.heap.size := ltAt hB2 B3
          replace p1 : w9.heap.size < W3.heap.size := ltAt p1 B3
          replace Hb7 := Lib.hid (lift Hb7.out B3)
          have p2 : wr.heap.size < W3.heap.size := by rw [hW]; simp <;> omega
          have f0 : W3.cell? ⟨wr.heap.size, 0, none⟩ = some (sv s') := by rw [hW]; go_simp
          have f1 : W3.cell? ⟨wr.heap.size, 1, none⟩ = some (.int .i64 t') := by rw [hW]; go_simp
          have f2 : W3.cell? ⟨wr.heap.size, 2, none⟩ = some (.int .i64 r') := by rw [hW]; go_simp
          have f3 : W3.cell? ⟨wr.heap.size, 3, none⟩ = some (.int .i64 d') := by rw [hW]; go_simp
          clear hW
          clear B3
          refine (refAhead_any An Ae ns.length cn ce es s s' W3 HG.out.re (by omega)).mono ?_
          rintro e v5 ⟨rfl, hb⟩
          replace g0 := cellAt g0 hb (by omega)
          replace g1 := cellAt g1 hb (by omega)
          replace e0 := cellAt e0 hb (by omega)
          replace e1 := cellAt e1 hb (by omega)
          replace e2 := cellAt e2 hb (by omega)
          replace e3 := cellAt e3 hb (by omega)
          replace f0 := cellAt f0 hb (by omega)
          replace f1 := cellAt f1 hb (by omega)
          replace f2 := cellAt f2 hb (by omega)
          replace f3 := cellAt f3 hb (by omega)
          replace HG := Lib.hid (HG.out.at hb)
          replace HQ := Lib.hid (HQ.out.at hb)
          replace n1 : w.heap.size < v5.heap.size := ltAt n1 hb
          replace HB := Lib.hid (lift HB.out hb)
          replace hB2 : b2 < v5.heap.size := ltAt hB2 hb
          replace p1 : w9.heap.size < v5.heap.size := ltAt p1 hb
          replace Hb7 := Lib.hid (lift Hb7.out hb)
          replace p2 : wr.heap.size < v5.heap.size := ltAt p2 hb
          clear hb
          cases hp1 : es.any (aheadB s s')
          ·have HT2 := Lib.hid (HT.out (fun _ _ => hp1))
           go_wp2_with fail
           go_roundw
           case rel => exact ⟨j + 1, by omega, by go_num, HT2.out, Hb7.out⟩
           case measure => simp [intOf]; omega
          ·have HN3 := Lib.hid (show noPair es q = false by
            cases hn : noPair es q
            ·rfl
            ·have h5 := (noPair_run h2).1 hn _ Hxin.out _ Hyin.out R2.out R2'.out
             have h6 : es.any (aheadB s s') = false := h5
             rw [hp1] at h6; cases h6)
           go_wp2_with fail
           go_ret
           exact ⟨ret_bool (by rw [HM.out]; simp [HN3.out]), HB.out⟩
         ·have rb' : (r' == 2) = false := by simpa using r2'
          have R2' := Lib.hid r2'
          clear r2'
          have HT2 := Lib.hid (HT.out (fun _ h => absurd h R2'.out))
          go_wp2_with fail
          go_roundw
          case rel => exact ⟨j + 1, by omega, by go_num, HT2.out, (Hb7.out.alloc Hb7.out.size _)⟩
          case measure => simp [intOf]; omega
        ·have rb : (r == 2) = false := by simpa using r2
         have R2 := Lib.hid r2
         clear r2
         have HT2 := Lib.hid (HT.out (fun h _ => absurd h R2.out))
         go_wp2_with fail
         go_roundw
         case rel => exact ⟨j + 1, by omega, by go_num, HT2.out, (Hb7.out.alloc Hb7.out.size _)⟩
         case measure => simp [intOf]; omega
       ·have hjM : j = q.length := by omega
        have hfin := hall2.out
        rw [hjM, List.take_length] at hfin
        have HF := Lib.hid hfin
        clear hfin
        go_wp2_with fail
        go_roundw
        case rel =>
         refine ⟨m + 1, by omega, by go_num, fun k hk hkm => ?_, Hb9.out.trans (Hb7.out.mono Hb9.out.size)⟩
         by_cases e : k = m
         ·subst e
          rw [Hx.out]
          intro y hy
          exact HF.out y hy
         ·exact Hall.out k hk (by omega)
        case measure => simp [intOf]; omega
     ·have HN := Lib.hid (show noPair es q = true from (noPair_run h2).2 fun x hx y hy => by
       obtain ⟨k, hk, rfl⟩ := List.mem_iff_getElem.1 hx
       exact Hall.out k hk (by omega) y hy)
      go_wp2_with fail
      go_ret
      exact ⟨ret_bool (by rw [HM.out]; simp [H1.out, H2.out, H3.out, HN.out]), HB.out⟩
end Od
end Go.Proofs.YtmlogmcnblgnbaaGreat
end

section
/- The walks of matinsref20.fact and Fact. (bel2) -/
namespace Go.Proofs.YtmlogmcnblgnbaaGreat
open Go.RowKit Go.Sort Go.Maps
set_option linter.unusedSimpArgs false

namespace Od
/-- What the reference knows: how some units' jobs end. -/
structure KnownI (w : World) (md : Nat) (es : List Ed) (fails : List Str) (q : List Jb) (D : Str → Option Value) : Prop where
 dm : MapIs strK w md (cntD q D) D
 ok : ∀ s v, D s = some v → v = .int .i64 (endU es fails q s)
theorem KnownI.on {w w' : World} {md : Nat} {es : List Ed} {fails : List Str} {q : List Jb} {D : Str → Option Value} (h : KnownI w md es fails q D) (hb : Below w.heap.size w w') : KnownI w' md es fails q D := ⟨h.dm.on hb, h.ok⟩
/-- The rows that the reference reads. -/
structure RSt (w : World) (B0 md : Nat) (Ae A Af : Option Addr) (es : List Ed) (q : List Jb) (fails : List Str) : Prop where
 re : Rd w B0 3 Ae es.length (edsC es)
 rq : Rd w B0 4 A q.length (jbsC q)
 rf : Rd w B0 1 Af fails.length (svs fails)
 lb : B0 ≤ md
 lz : B0 ≤ w.heap.size
section
variable {w w' : World} {B0 md : Nat} {Ae A Af : Option Addr} {es : List Ed} {q : List Jb} {fails : List Str}
theorem RSt.kept (h : RSt w B0 md Ae A Af es q fails) (hk : Keeps (But w md) w w') : RSt w' B0 md Ae A Af es q fails :=
 ⟨But.rd h.re h.lb h.lz hk, But.rd h.rq h.lb h.lz hk, But.rd h.rf h.lb h.lz hk, h.lb, Nat.le_trans h.lz hk.size⟩
theorem RSt.on (h : RSt w B0 md Ae A Af es q fails) (hb : Below w.heap.size w w') : RSt w' B0 md Ae A Af es q fails := h.kept (But.below hb)
end
def KnewI (md : Nat) (es : List Ed) (fails : List Str) (q : List Jb) (X : Str → Prop) (D : Str → Option Value) (w w' : World) : Prop :=
 ∃ D', KnownI w' md es fails q D' ∧ Keeps (But w md) w w' ∧ ∀ s, X s → D' s = D s
theorem KnewI.below {md : Nat} {es : List Ed} {fails : List Str} {q : List Jb} {X : Str → Prop} {D : Str → Option Value} {w w' : World} (h : KnownI w md es fails q D) (hb : Below w.heap.size w w') : KnewI md es fails q X D w w' := ⟨D, h.on hb, But.below hb, fun _ _ => rfl⟩
/-- All blocks of w but two. -/
def But2 (w : World) (md pp : Nat) (b : Nat) : Prop := b < w.heap.size ∧ b ≠ md ∧ b ≠ pp
section
variable {w w' w'' : World} {md pp : Nat}
theorem But2.refl : Keeps (But2 w md pp) w w := Keeps.refl _ _
theorem But2.then (h : Keeps (But2 w md pp) w w') (h' : Keeps (But w' md) w' w'') : Keeps (But2 w md pp) w w'' :=
 ⟨h'.os.trans h.os, h'.tape.trans h.tape, h'.output.trans h.output, Nat.le_trans h.size h'.size, fun j hj => (h'.block j ⟨Nat.lt_of_lt_of_le hj.1 h.size, hj.2.1⟩).trans (h.block j hj)⟩
theorem But2.set (h : Keeps (But2 w md pp) w w') (j : Nat) (v : Value) : Keeps (But2 w md pp) w (w'.setCell ⟨pp, j, none⟩ v) :=
 ⟨h.os, h.tape, h.output, by have := h.size; simpa using this, fun b hb => (Below.heap_setCell w' ⟨pp, j, none⟩ v b hb.2.2).trans (h.block b hb)⟩
theorem But2.cell {b o : Nat} {v : Value} (h : Keeps (But2 w md pp) w w') (c : w.cell? ⟨b, o, none⟩ = some v) (hb : b < w.heap.size) (h1 : ¬ b = md) (h2 : ¬ b = pp) : w'.cell? ⟨b, o, none⟩ = some v := (World.cell?_of_block (a := ⟨b, o, none⟩) (h.block b ⟨hb, h1, h2⟩)).trans c
theorem But2.fro {b o : Nat} (h : Keeps (But2 w md pp) w w') (c : w.frozen? ⟨b, o, none⟩ = false) (hb : b < w.heap.size) (h1 : ¬ b = md) (h2 : ¬ b = pp) : w'.frozen? ⟨b, o, none⟩ = false := (World.frozen?_of_block (a := ⟨b, o, none⟩) (h.block b ⟨hb, h1, h2⟩)).trans c
theorem But2.rd {B k n : Nat} {A : Option Addr} {xs : List Value} (h : Keeps (But2 w md pp) w w') (hr : Rd w B k A n xs) (h1 : B ≤ md) (h2 : B ≤ pp) (h3 : B ≤ w.heap.size) : Rd w' B k A n xs :=
 hr.keep fun p hp => World.cell?_of_block (h.block p.block ⟨by omega, by omega, by omega⟩)
theorem RSt.kept2 {B0 : Nat} {Ae A Af : Option Addr} {es : List Ed} {q : List Jb} {fails : List Str} (h : RSt w B0 md Ae A Af es q fails) (hk : Keeps (But2 w md pp) w w') (hp : B0 ≤ pp) : RSt w' B0 md Ae A Af es q fails :=
 ⟨But2.rd hk h.re h.lb hp h.lz, But2.rd hk h.rq h.lb hp h.lz, But2.rd hk h.rf h.lb hp h.lz, h.lb, Nat.le_trans h.lz hk.size⟩
theorem KnownI.set {es : List Ed} {q : List Jb} {fails : List Str} {D : Str → Option Value} (h : KnownI w md es fails q D) (hne : ¬ md = pp) (j : Nat) (v : Value) : KnownI (w.setCell ⟨pp, j, none⟩ v) md es fails q D :=
 ⟨h.dm.same (Below.heap_setCell w ⟨pp, j, none⟩ v md hne), h.ok⟩
end
def Vx (j : Jb) (b : Int) (a : Bool) : Int := if (!skipB j && a) = true then 3 else b
/-- What a call of a job hands back. -/
def FcIs (B0 md : Nat) (An Ae : Option Addr) (nn cn ce : Nat) (A : Option Addr) (c : Nat) (Af : Option Addr) (cf : Nat) (es : List Ed) (fails : List Str) (q : List Jb) (j : Jb) : Prop :=
 ∀ (D : Str → Option Value) (w : World), RSt w B0 md Ae A Af es q fails → KnownI w md es fails q D →
  Calls Tryz.prog 59 #[gV An nn cn Ae es.length ce, .slice A q.length c, .slice Af fails.length cf, jbV j, .map (some md)] w fun e w' => e = .returned (jbV (factJ es fails q j)) ∧ KnewI md es fails q (ofX es q j.1) D w w'
theorem hasB_dec' (xs : List Str) (s : Str) : hasB xs s = decide (s ∈ xs) := by
 rw [Bool.eq_iff_iff, hasB_iff]; simp
theorem zeroI (w : World) : (zeroValue 3).run Tryz.prog w = .ok (.int .i64 0) w := Tryz.zeroValue3 w
section
variable (B0 md : Nat) (An Ae : Option Addr) (nn cn ce : Nat) (A : Option Addr) (c : Nat) (Af : Option Addr) (cf : Nat) (es : List Ed) (fails : List Str) (q : List Jb)
theorem KnewI.setI {md : Nat} {es : List Ed} {fails : List Str} {q : List Jb} {X : Str → Prop} {D : Str → Option Value} {w w1 : World} (h : KnewI md es fails q X D w w1) {p : Nat} {v : Value} (hp : w.heap.size ≤ p) (hne : p ≠ md) (j : Nat) : KnewI md es fails q X D w (w1.setCell ⟨p, j, none⟩ v) := by
 obtain ⟨D', h1, h2, h3⟩ := h
 have hh : ∀ b, b ≠ p → (w1.setCell ⟨p, j, none⟩ v).heap[b]? = w1.heap[b]? := fun b hb => Below.heap_setCell w1 ⟨p, j, none⟩ v b hb
 exact ⟨D', ⟨h1.dm.same (hh md (fun e => hne e.symm)), h1.ok⟩, ⟨h2.os, h2.tape, h2.output, by have := h2.size; simpa using this, fun b hb => (hh b (by have := hb.1; omega)).trans (h2.block b hb)⟩, h3⟩
theorem Nat.le_refl' (w : World) : w.heap.size ≤ w.heap.size + 1 + 1 := by omega
set_option maxRecDepth 100000 in
set_option maxHeartbeats 16000000 in
theorem factR_step (j : Jb) (hi : isB es = true) (hm : mayQ q = true) (hl : es.length ≤ 100000) (hlq : q.length ≤ 1000000) (hlf : fails.length ≤ 140737488355328) (hokq : OkJs q) (hjq : j ∈ q)
  (hof : ∀ y ∈ q, rank es q y.1 < rank es q j.1 → FcIs B0 md An Ae nn cn ce A c Af cf es fails q y) : FcIs B0 md An Ae nn cn ce A c Af cf es fails q j := by
 intro D w hR hK
 obtain ⟨s, t, r, d⟩ := j
 have hok : okS s := by have := hokq _ hjq; unfold okS maxLen; simp only at this; omega
 have hmd : md < w.heap.size := hK.dm.lt
 have hB3 : B0 ≤ w.heap.size + 1 + 1 + 1 := by have := hR.lz; omega
 have hne3 : w.heap.size + 1 + 1 ≠ md := by omega
 have hq1 := (mayQ_iff.1 hm).2.1 _ hjq
 have HR := Lib.hid hR
 have HK := Lib.hid hK
 have HOf := Lib.hid hof
 have HQ := Lib.hid hjq
 have HI := Lib.hid hi
 have HM := Lib.hid hm
 have HMj := Lib.hid hq1
 clear hR hK hof hi hq1
 by_cases r3 : r = 3
 ·subst r3
  have HV := Lib.hid (show factJ es fails q (s, t, 3, d) = (s, t, 3, d) from factJ_ended rfl)
  go_enter Tryz.func59, Tryz.ntmps59
  go_wp2_with fail
  refine bodyPost_ret (v := jbV (s, t, 3, d)) ?_ rfl ⟨by rw [HV.out], KnewI.below HK.out (by repeat (first | exact Below.refl _ _ | assumption | refine Below.alloc ?_ (by first | omega | (simp <;> omega)) _ | refine Below.setCell ?_ (by first | omega | (simp <;> omega)) _ | refine Below.drew ?_))⟩
  simp [results, Tryz.results59, go_sem, jbV]
 ·have b3 : (r == 3) = false := by simpa using r3
  have HV0 := Lib.hid (show factJ es fails q (s, t, r, d) = (s, if t = 3 then 1 else t, 3, endU es fails q s) from factJ_open r3)
  have HE0 := Lib.hid (end_open HI.out (fails := fails) (mayQ.dq HM.out) HQ.out r3)
  have R3 := Lib.hid r3
  clear r3
  by_cases t2 : t = 2
  ·subst t2
   have HV := Lib.hid (show factJ es fails q (s, 2, r, d) = (s, 2, 3, 1) by rw [HV0.out, HE0.out]; rfl)
   go_enter Tryz.func59, Tryz.ntmps59
   go_wp2_with fail
   refine bodyPost_ret (v := jbV (s, 2, 3, 1)) ?_ rfl ⟨by rw [HV.out], KnewI.below HK.out (by repeat (first | exact Below.refl _ _ | assumption | refine Below.alloc ?_ (by first | omega | (simp <;> omega)) _ | refine Below.setCell ?_ (by first | omega | (simp <;> omega)) _ | refine Below.drew ?_))⟩
   simp [results, Tryz.results59, go_sem, jbV]
  ·have b2 : (t == 2) = false := by simpa using t2
   by_cases t4 : t = 4
   ·subst t4
    have HV := Lib.hid (show factJ es fails q (s, 4, r, d) = (s, 4, 3, if hasB fails s = true then 2 else 1) by rw [HV0.out, HE0.out, hasB_dec']; simp [startsB])
    go_enter Tryz.func59, Tryz.ntmps59
    go_wp2_with fail
    refine (HasS_any Af cf fails s _ ((HR.out.on (by repeat (first | exact Below.refl _ _ | assumption | refine Below.alloc ?_ (by first | omega | (simp <;> omega)) _ | refine Below.setCell ?_ (by first | omega | (simp <;> omega)) _ | refine Below.drew ?_))).rf.more (RSt.lz (HR.out.on (by repeat (first | exact Below.refl _ _ | assumption | refine Below.alloc ?_ (by first | omega | (simp <;> omega)) _ | refine Below.setCell ?_ (by first | omega | (simp <;> omega)) _ | refine Below.drew ?_))))) hlf).mono ?_
    rintro e w2 ⟨rfl, rfl⟩
    cases hh : hasB fails s
    ·go_wp2_with fail
     refine bodyPost_ret (v := jbV (s, 4, 3, 1)) ?_ rfl ⟨by rw [HV.out, hh]; rfl, KnewI.below HK.out (by repeat (first | exact Below.refl _ _ | assumption | refine Below.alloc ?_ (by first | omega | (simp <;> omega)) _ | refine Below.setCell ?_ (by first | omega | (simp <;> omega)) _ | refine Below.drew ?_))⟩
     simp [results, Tryz.results59, go_sem, jbV]
    ·go_wp2_with fail
     refine bodyPost_ret (v := jbV (s, 4, 3, 2)) ?_ rfl ⟨by rw [HV.out, hh]; rfl, KnewI.below HK.out (by repeat (first | exact Below.refl _ _ | assumption | refine Below.alloc ?_ (by first | omega | (simp <;> omega)) _ | refine Below.setCell ?_ (by first | omega | (simp <;> omega)) _ | refine Below.drew ?_))⟩
     simp [results, Tryz.results59, go_sem, jbV]
   ·have b4 : (t == 4) = false := by simpa using t4
    have ht : t = 1 ∨ t = 3 := by
     have h1 := (mayJ_iff.1 HMj.out).2.1
     have h2 := (mayJ_iff.1 HMj.out).2.2.1
     simp only at h1 h2
     omega
    have HVal0 := Lib.hid (show factJ es fails q (s, t, r, d) = (s, 1, 3, endU es fails q s) by rw [HV0.out]; rcases ht with h | h <;> rw [h] <;> rfl)
    have HVal := Lib.hid HVal0.out
    have HEnd := Lib.hid (end_starts HI.out (fails := fails) HM.out HQ.out R3.out ht)
    simp only at HEnd
    clear HMj t2 t4 ht HVal0 HV0
    cases hD : D s with
    | some v =>
     have hv := HK.out.ok s v hD
     subst hv
     generalize endU es fails q s = ev at hD HVal
     go_enter Tryz.func59, Tryz.ntmps59
     go_wp2_with (first
      | (at_lookup; refine wpList_lookOk_is _ (by rfl) (.tmp 41) (.tmp 43) 81 (by rfl) 3 Tryz.underlying81 (.int .i64 0) (zeroI _) md _ D (by rfl) (HK.out.dm.on (by repeat (first | exact Below.refl _ _ | assumption | refine Below.alloc ?_ (by first | omega | (simp <;> omega)) _ | refine Below.setCell ?_ (by first | omega | (simp <;> omega)) _ | refine Below.drew ?_))) s (by rfl) hok ?_; rw [hD]; simp only [Option.getD_some, Option.isSome_some])
      | fail)
     refine bodyPost_ret (v := jbV (s, 1, 3, ev)) ?_ rfl ⟨by rw [HVal.out], KnewI.below HK.out (by repeat (first | exact Below.refl _ _ | assumption | refine Below.alloc ?_ (by first | omega | (simp <;> omega)) _ | refine Below.setCell ?_ (by first | omega | (simp <;> omega)) _ | refine Below.drew ?_))⟩
     simp [results, Tryz.results59, go_sem, jbV]
    | none =>
     have HD := Lib.hid hD
     go_enter Tryz.func59, Tryz.ntmps59
     go_wp2_with (first
      | (at_lookup; refine wpList_lookOk_is _ (by rfl) (.tmp 41) (.tmp 43) 81 (by rfl) 3 Tryz.underlying81 (.int .i64 0) (zeroI _) md _ D (by rfl) (HK.out.dm.on (by repeat (first | exact Below.refl _ _ | assumption | refine Below.alloc ?_ (by first | omega | (simp <;> omega)) _ | refine Below.setCell ?_ (by first | omega | (simp <;> omega)) _ | refine Below.drew ?_))) s (by rfl) hok ?_; rw [hD]; simp only [Option.getD_none, Option.isSome_none])
      | fail)
     refine (HasS_any Af cf fails s _ ((HR.out.on (by repeat (first | exact Below.refl _ _ | assumption | refine Below.alloc ?_ (by first | omega | (simp <;> omega)) _ | refine Below.setCell ?_ (by first | omega | (simp <;> omega)) _ | refine Below.drew ?_))).rf.more (RSt.lz (HR.out.on (by repeat (first | exact Below.refl _ _ | assumption | refine Below.alloc ?_ (by first | omega | (simp <;> omega)) _ | refine Below.setCell ?_ (by first | omega | (simp <;> omega)) _ | refine Below.drew ?_))))) hlf).mono ?_
     rintro e w2 ⟨rfl, rfl⟩
     cases hh : hasB fails s
     ·have HBase := Lib.hid (show (if s ∈ fails then 2 else 1 : Int) = 1 by rw [hasB_dec'] at hh; simpa using hh)
      go_wp2_with fail
      first | (refine wp_named ?_; intro W2 hW) | (refine calls_named ?_; intro W2 hW)
      have b02 : Below w.heap.size w W2 := by rw [hW]; exact bq2
      have g0 : W2.cell? ⟨w.heap.size, 0, none⟩ = some (.slice An nn cn) := by rw [hW]; go_simp
      have g1 : W2.cell? ⟨w.heap.size, 1, none⟩ = some (.slice Ae es.length ce) := by rw [hW]; go_simp
      have e0 : W2.cell? ⟨w.heap.size + 1, 0, none⟩ = some (sv s) := by rw [hW]; go_simp
      have e1 : W2.cell? ⟨w.heap.size + 1, 1, none⟩ = some (.int .i64 t) := by rw [hW]; go_simp
      have e2 : W2.cell? ⟨w.heap.size + 1, 2, none⟩ = some (.int .i64 r) := by rw [hW]; go_simp
      have y0 : W2.cell? ⟨w.heap.size + 1 + 1, 0, none⟩ = some (.string ⟨#[]⟩) := by rw [hW]; go_simp
      have y1 : W2.cell? ⟨w.heap.size + 1 + 1, 1, none⟩ = some (.int .i64 0) := by rw [hW]; go_simp
      have y2 : W2.cell? ⟨w.heap.size + 1 + 1, 2, none⟩ = some (.int .i64 0) := by rw [hW]; go_simp
      have y3 : W2.cell? ⟨w.heap.size + 1 + 1, 3, none⟩ = some (.int .i64 0) := by rw [hW]; go_simp
      have f0 : W2.frozen? ⟨w.heap.size + 1 + 1, 0, none⟩ = false := by rw [hW]; go_simp
      have f1 : W2.frozen? ⟨w.heap.size + 1 + 1, 1, none⟩ = false := by rw [hW]; go_simp
      have f2 : W2.frozen? ⟨w.heap.size + 1 + 1, 2, none⟩ = false := by rw [hW]; go_simp
      have f3 : W2.frozen? ⟨w.heap.size + 1 + 1, 3, none⟩ = false := by rw [hW]; go_simp
      have z0 : W2.cell? ⟨w.heap.size + 1 + 1 + 1, 0, none⟩ = some (sv s) := by rw [hW]; go_simp
      have z1 : W2.cell? ⟨w.heap.size + 1 + 1 + 1, 1, none⟩ = some (.int .i64 1) := by rw [hW]; go_simp
      have z2 : W2.cell? ⟨w.heap.size + 1 + 1 + 1, 2, none⟩ = some (.int .i64 3) := by rw [hW]; go_simp
      have z3 : W2.cell? ⟨w.heap.size + 1 + 1 + 1, 3, none⟩ = some (.int .i64 1) := by rw [hW]; go_simp
      have u3 : W2.frozen? ⟨w.heap.size + 1 + 1 + 1, 3, none⟩ = false := by rw [hW]; go_simp
      have lW : w.heap.size + 1 + 1 + 1 < W2.heap.size := by rw [hW]; simp <;> omega
      clear hW
      have HR2 := Lib.hid (HR.out.on b02)
      have HK2 := Lib.hid (HK.out.on b02)
      have HB2 := Lib.hid b02
      clear b02 HR HK
      go_wp2_with fail
      go_loopw [58] (fun i wr => ∃ (m : Nat) (D2 : Str → Option Value), m ≤ q.length ∧ i = .int .i64 m ∧ Hid (KnownI wr md es fails q D2) ∧ Hid (∀ x, lackX es q s x → D2 x = D x) ∧ Hid (Keeps (But2 W2 md (w.heap.size + 1 + 1 + 1)) W2 wr) ∧
       (wr.cell? ⟨w.heap.size + 1 + 1 + 1, 0, none⟩ = some (sv s) ∧ wr.cell? ⟨w.heap.size + 1 + 1 + 1, 1, none⟩ = some (.int .i64 1) ∧ wr.cell? ⟨w.heap.size + 1 + 1 + 1, 2, none⟩ = some (.int .i64 3) ∧ wr.cell? ⟨w.heap.size + 1 + 1 + 1, 3, none⟩ = some (.int .i64 (Vx (s, t, r, d) 1 ((q.take m).any (lostF es (endU es fails q) s)))) ∧ wr.frozen? ⟨w.heap.size + 1 + 1 + 1, 3, none⟩ = false)) (fun i _ => q.length - (intOf i).toNat)
      case atStart => exact ⟨0, D, Nat.zero_le _, rfl, HK2, fun _ _ => rfl, But2.refl, z0, z1, z2, by simpa [Vx] using z3, u3⟩
      case round =>
       obtain ⟨m, D2, hmq, rfl, HKn, HSm, HKp, z0', z1', z2', z3', u3'⟩ := hrel
       have hsz2 : W2.heap.size ≤ wr.heap.size := HKp.out.size
       replace g0 := But2.cell HKp.out g0 (by omega) (by omega) (by omega)
       replace g1 := But2.cell HKp.out g1 (by omega) (by omega) (by omega)
       replace e0 := But2.cell HKp.out e0 (by omega) (by omega) (by omega)
       replace e1 := But2.cell HKp.out e1 (by omega) (by omega) (by omega)
       replace e2 := But2.cell HKp.out e2 (by omega) (by omega) (by omega)
       replace y0 := But2.cell HKp.out y0 (by omega) (by omega) (by omega)
       replace y1 := But2.cell HKp.out y1 (by omega) (by omega) (by omega)
       replace y2 := But2.cell HKp.out y2 (by omega) (by omega) (by omega)
       replace y3 := But2.cell HKp.out y3 (by omega) (by omega) (by omega)
       replace f0 := But2.fro HKp.out f0 (by omega) (by omega) (by omega)
       replace f1 := But2.fro HKp.out f1 (by omega) (by omega) (by omega)
       replace f2 := But2.fro HKp.out f2 (by omega) (by omega) (by omega)
       replace f3 := But2.fro HKp.out f3 (by omega) (by omega) (by omega)
       replace z0 := z0'
       replace z1 := z1'
       replace z2 := z2'
       replace z3 := z3'
       replace u3 := u3'
       clear z0' z1' z2' z3' u3'
       have lr : w.heap.size + 1 + 1 + 1 < wr.heap.size := by omega
       have lr0 : w.heap.size < wr.heap.size := by omega
       have lr1 : w.heap.size + 1 < wr.heap.size := by omega
       have lr2 : w.heap.size + 1 + 1 < wr.heap.size := by omega
       have HR := Lib.hid (HR2.out.kept2 HKp.out hB3)
       have hmp : ¬ md = w.heap.size + 1 + 1 + 1 := by omega
       by_cases hlt : m < q.length
       ·have hs := any_take_succ (p := lostF es (endU es fails q) s) hlt
        obtain ⟨b2, o2, hA, hB2, x0, x1, x2, x3⟩ := (HR.out.rq.more HR.out.lz).job hlt
        have hyq : q[m] ∈ q := List.getElem_mem hlt
        have hrk : Ah es q[m].1 s = true → rank es q q[m].1 < rank es q s := fun h => rank_lt HI.out (q := q) (o := q[m].1) (u := s) (List.mem_map.2 ⟨q[m], hyq, rfl⟩) h
        subst hA
        generalize q[m] = y at x0 x1 x2 x3 hs hyq hrk
        obtain ⟨s', t', r', d'⟩ := y
        simp only at x0 x1 x2 x3 hrk
        have HS := Lib.hid hs
        have HYq := Lib.hid hyq
        have HRk := Lib.hid hrk
        clear hs hyq hrk
        have m1 : (0 : Int) ≤ (m : Int) := by omega
        have m2 : (m : Int) < (q.length : Int) := by omega
        go_upto_region 20 with fail
        first | (refine wp_named ?_; intro W4 hW) | (refine calls_named ?_; intro W4 hW)
        have B4 : Below wr.heap.size wr W4 := by rw [hW]; exact bq2
        replace g0 := cellAt g0 B4 (by omega)
        replace g1 := cellAt g1 B4 (by omega)
        replace e0 := cellAt e0 B4 (by omega)
        replace e1 := cellAt e1 B4 (by omega)
        replace e2 := cellAt e2 B4 (by omega)
        replace z0 := cellAt z0 B4 (by omega)
        replace z1 := cellAt z1 B4 (by omega)
        replace z2 := cellAt z2 B4 (by omega)
        replace z3 := cellAt z3 B4 (by omega)
        replace u3 := froAt u3 B4 (by omega)
        replace HR := Lib.hid (HR.out.on B4)
        replace HKn := Lib.hid (HKn.out.on B4)
        replace HKp := Lib.hid (But2.then HKp.out (But.below B4))
        replace lr : w.heap.size + 1 + 1 + 1 < W4.heap.size := ltAt lr B4
        replace lr0 : w.heap.size < W4.heap.size := ltAt lr0 B4
        replace lr1 : w.heap.size + 1 < W4.heap.size := ltAt lr1 B4
        clear y0 y1 y2 y3 f0 f1 f2 f3
        have i0 : W4.cell? ⟨wr.heap.size, 0, none⟩ = some (sv s') := by rw [hW]; go_simp
        have i1 : W4.cell? ⟨wr.heap.size, 1, none⟩ = some (.int .i64 t') := by rw [hW]; go_simp
        have i2 : W4.cell? ⟨wr.heap.size, 2, none⟩ = some (.int .i64 r') := by rw [hW]; go_simp
        have i3 : W4.cell? ⟨wr.heap.size, 3, none⟩ = some (.int .i64 d') := by rw [hW]; go_simp
        have il : wr.heap.size < W4.heap.size := by rw [hW]; simp <;> omega
        clear hW
        clear B4 x0 x1 x2 x3
        go_cut [16] (fun nd wx => nd = .bool (hasE es s s' 1 || hasE es s s' 4) ∧ Below W4.heap.size W4 wx)
        case first =>
         have HBc : Hid (Below W4.heap.size W4 W4) := Below.refl _ _
         go_wp2_with fail
         refine (Has_any An Ae nn cn ce es s s' 1 _ (HR.out.re.more HR.out.lz) (by omega)).mono ?_
         rintro e v3 ⟨rfl, hb⟩
         replace g0 := cellAt g0 hb (by omega)
         replace g1 := cellAt g1 hb (by omega)
         replace e0 := cellAt e0 hb (by omega)
         replace e1 := cellAt e1 hb (by omega)
         replace e2 := cellAt e2 hb (by omega)
         replace z0 := cellAt z0 hb (by omega)
         replace z1 := cellAt z1 hb (by omega)
         replace z2 := cellAt z2 hb (by omega)
         replace z3 := cellAt z3 hb (by omega)
         replace u3 := froAt u3 hb (by omega)
         replace i0 := cellAt i0 hb (by omega)
         replace i1 := cellAt i1 hb (by omega)
         replace i2 := cellAt i2 hb (by omega)
         replace i3 := cellAt i3 hb (by omega)
         replace HR := Lib.hid (HR.out.on hb)
         replace HKn := Lib.hid (HKn.out.on hb)
         replace HKp := Lib.hid (But2.then HKp.out (But.below hb))
         replace lr : w.heap.size + 1 + 1 + 1 < v3.heap.size := ltAt lr hb
         replace lr0 : w.heap.size < v3.heap.size := ltAt lr0 hb
         replace lr1 : w.heap.size + 1 < v3.heap.size := ltAt lr1 hb
         replace il : wr.heap.size < v3.heap.size := ltAt il hb
         replace HBc := Lib.hid (lift HBc.out hb)
         clear hb
         cases h1 : es.any (· == (s, s', 1))
         ·go_wp2_with fail
          refine (Has_any An Ae nn cn ce es s s' 4 _ (HR.out.re.more HR.out.lz) (by omega)).mono ?_
          rintro e v4 ⟨rfl, hb⟩
          replace g0 := cellAt g0 hb (by omega)
          replace g1 := cellAt g1 hb (by omega)
          replace e0 := cellAt e0 hb (by omega)
          replace e1 := cellAt e1 hb (by omega)
          replace e2 := cellAt e2 hb (by omega)
          replace z0 := cellAt z0 hb (by omega)
          replace z1 := cellAt z1 hb (by omega)
          replace z2 := cellAt z2 hb (by omega)
          replace z3 := cellAt z3 hb (by omega)
          replace u3 := froAt u3 hb (by omega)
          replace i0 := cellAt i0 hb (by omega)
          replace i1 := cellAt i1 hb (by omega)
          replace i2 := cellAt i2 hb (by omega)
          replace i3 := cellAt i3 hb (by omega)
          replace HR := Lib.hid (HR.out.on hb)
          replace HKn := Lib.hid (HKn.out.on hb)
          replace HKp := Lib.hid (But2.then HKp.out (But.below hb))
          replace lr : w.heap.size + 1 + 1 + 1 < v4.heap.size := ltAt lr hb
          replace lr0 : w.heap.size < v4.heap.size := ltAt lr0 hb
          replace lr1 : w.heap.size + 1 < v4.heap.size := ltAt lr1 hb
          replace il : wr.heap.size < v4.heap.size := ltAt il hb
          replace HBc := Lib.hid (lift HBc.out hb)
          clear hb
          go_wp2_with fail
          go_meet
          exact ⟨by rw [show hasE es s s' 1 = false from h1]; rfl, HBc.out⟩
         ·go_wp2_with fail
          go_meet
          exact ⟨by rw [show hasE es s s' 1 = true from h1]; rfl, HBc.out⟩
        case rest =>
         obtain ⟨rfl, hb⟩ := hcut
         replace g0 := cellAt g0 hb (by omega)
         replace g1 := cellAt g1 hb (by omega)
         replace e0 := cellAt e0 hb (by omega)
         replace e1 := cellAt e1 hb (by omega)
         replace e2 := cellAt e2 hb (by omega)
         replace z0 := cellAt z0 hb (by omega)
         replace z1 := cellAt z1 hb (by omega)
         replace z2 := cellAt z2 hb (by omega)
         replace z3 := cellAt z3 hb (by omega)
         replace u3 := froAt u3 hb (by omega)
         replace i0 := cellAt i0 hb (by omega)
         replace i1 := cellAt i1 hb (by omega)
         replace i2 := cellAt i2 hb (by omega)
         replace i3 := cellAt i3 hb (by omega)
         replace HR := Lib.hid (HR.out.on hb)
         replace HKn := Lib.hid (HKn.out.on hb)
         replace HKp := Lib.hid (But2.then HKp.out (But.below hb))
         replace lr : w.heap.size + 1 + 1 + 1 < wc.heap.size := ltAt lr hb
         replace lr0 : w.heap.size < wc.heap.size := ltAt lr0 hb
         replace lr1 : w.heap.size + 1 < wc.heap.size := ltAt lr1 hb
         replace il : wr.heap.size < wc.heap.size := ltAt il hb
         clear hb
         generalize hnd : (hasE es s s' 1 || hasE es s s' 4) = nd
         have HLb := Lib.hid (show lostF es (endU es fails q) s (s', t', r', d') = (nd && (Ah es s' s && (!((t' != 1) && (t' != 3)) && endU es fails q s' != 1))) by
          have hst0 : startsB (s', t', r', d') = !((t' != 1) && (t' != 3)) := by unfold startsB; simp [bne]
          unfold lostF
          rw [← hnd, hst0])
         clear hnd
         obtain ⟨w5, rfl⟩ : ∃ wo : World, wo = wc := ⟨_, rfl⟩
         go_upto_region 21 with fail
         go_cut [106] (fun cd wx => cd = .bool (!(nd && (Ah es s' s && (!((t' != 1) && (t' != 3)) && !((t == 1) && (r == 2)))))) ∧ Below w5.heap.size w5 wx)
         case first =>
          have HBc : Hid (Below w5.heap.size w5 w5) := Below.refl _ _
          cases nd
          ·go_wp2_with fail
           go_meet
           exact ⟨rfl, HBc.out⟩
          ·go_wp2_with fail
           refine (refAhead_any An Ae nn cn ce es s' s _ (HR.out.re.more HR.out.lz) (by omega)).mono ?_
           rintro e v5 ⟨rfl, hb⟩
           replace g0 := cellAt g0 hb (by omega)
           replace g1 := cellAt g1 hb (by omega)
           replace e0 := cellAt e0 hb (by omega)
           replace e1 := cellAt e1 hb (by omega)
           replace e2 := cellAt e2 hb (by omega)
           replace z0 := cellAt z0 hb (by omega)
           replace z1 := cellAt z1 hb (by omega)
           replace z2 := cellAt z2 hb (by omega)
           replace z3 := cellAt z3 hb (by omega)
           replace u3 := froAt u3 hb (by omega)
           replace i0 := cellAt i0 hb (by omega)
           replace i1 := cellAt i1 hb (by omega)
           replace i2 := cellAt i2 hb (by omega)
           replace i3 := cellAt i3 hb (by omega)
           replace HR := Lib.hid (HR.out.on hb)
           replace HKn := Lib.hid (HKn.out.on hb)
           replace HKp := Lib.hid (But2.then HKp.out (But.below hb))
           replace lr : w.heap.size + 1 + 1 + 1 < v5.heap.size := ltAt lr hb
           replace lr0 : w.heap.size < v5.heap.size := ltAt lr0 hb
           replace lr1 : w.heap.size + 1 < v5.heap.size := ltAt lr1 hb
           replace il : wr.heap.size < v5.heap.size := ltAt il hb
           replace HBc := Lib.hid (lift HBc.out hb)
           clear hb
           cases ha : es.any (aheadB s' s)
           ·have ha' : Ah es s' s = false := ha
            go_wp2_with fail
            go_meet
            exact ⟨by simp only [ha']; rfl, HBc.out⟩
           ·have ha' : Ah es s' s = true := ha
            cases tb : (t' != 1)
            ·cases tj : (t == 1)
             ·go_wp2_with fail
              go_meet
              exact ⟨by simp only [ha', tb, tj]; rfl, HBc.out⟩
             ·cases rj : (r == 2)
              ·go_wp2_with fail
               go_meet
               exact ⟨by simp only [ha', tb, tj, rj]; rfl, HBc.out⟩
              ·go_wp2_with fail
               go_meet
               exact ⟨by simp only [ha', tb, tj, rj]; rfl, HBc.out⟩
            ·cases tc : (t' != 3)
             ·cases tj : (t == 1)
              ·go_wp2_with fail
               go_meet
               exact ⟨by simp only [ha', tb, tc, tj]; rfl, HBc.out⟩
              ·cases rj : (r == 2)
               ·go_wp2_with fail
                go_meet
                exact ⟨by simp only [ha', tb, tc, tj, rj]; rfl, HBc.out⟩
               ·go_wp2_with fail
                go_meet
                exact ⟨by simp only [ha', tb, tc, tj, rj]; rfl, HBc.out⟩
             ·go_wp2_with fail
              go_meet
              exact ⟨by simp only [ha', tb, tc]; rfl, HBc.out⟩
         case rest =>
          obtain ⟨rfl, hb⟩ := hcut
          replace g0 := cellAt g0 hb (by omega)
          replace g1 := cellAt g1 hb (by omega)
          replace e0 := cellAt e0 hb (by omega)
          replace e1 := cellAt e1 hb (by omega)
          replace e2 := cellAt e2 hb (by omega)
          replace z0 := cellAt z0 hb (by omega)
          replace z1 := cellAt z1 hb (by omega)
          replace z2 := cellAt z2 hb (by omega)
          replace z3 := cellAt z3 hb (by omega)
          replace u3 := froAt u3 hb (by omega)
          replace i0 := cellAt i0 hb (by omega)
          replace i1 := cellAt i1 hb (by omega)
          replace i2 := cellAt i2 hb (by omega)
          replace i3 := cellAt i3 hb (by omega)
          replace HR := Lib.hid (HR.out.on hb)
          replace HKn := Lib.hid (HKn.out.on hb)
          replace HKp := Lib.hid (But2.then HKp.out (But.below hb))
          replace lr : w.heap.size + 1 + 1 + 1 < wc.heap.size := ltAt lr hb
          replace lr0 : w.heap.size < wc.heap.size := ltAt lr0 hb
          replace lr1 : w.heap.size + 1 < wc.heap.size := ltAt lr1 hb
          replace il : wr.heap.size < wc.heap.size := ltAt il hb
          clear hb
          have HSk := Lib.hid (show skipB (s, t, r, d) = ((t == 1) && (r == 2)) from rfl)
          generalize hst1 : (!((t' != 1) && (t' != 3))) = st at HLb ⊢
          generalize hah : Ah es s' s = ah at HLb ⊢
          generalize hsk : ((t == 1) && (r == 2)) = sk at HSk ⊢
          cases hcd : (nd && (ah && (st && !sk)))
          ·cases sk
           ·have HF := Lib.hid (show lostF es (endU es fails q) s (s', t', r', d') = false by
             rw [HLb.out]
             cases nd <;> cases ah <;> cases st <;> simp_all)
            have HS2 := Lib.hid (show Vx (s, t, r, d) 1 ((q.take (m + 1)).any (lostF es (endU es fails q) s)) = Vx (s, t, r, d) 1 ((q.take m).any (lostF es (endU es fails q) s)) by unfold Vx; rw [HS.out, HF.out, Bool.or_false])
            go_wp2_with fail
            go_roundw
            case rel => exact ⟨m + 1, D2, by omega, by go_num, HKn, HSm, HKp, by rw [HS2.out]; exact ⟨z0, z1, z2, z3, u3⟩⟩
            case measure => simp [intOf]; omega
           ·have hskip := HSk.out
            have HS2 := Lib.hid (show Vx (s, t, r, d) 1 ((q.take (m + 1)).any (lostF es (endU es fails q) s)) = Vx (s, t, r, d) 1 ((q.take m).any (lostF es (endU es fails q) s)) by unfold Vx; rw [hskip]; simp)
            go_wp2_with fail
            go_roundw
            case rel => exact ⟨m + 1, D2, by omega, by go_num, HKn, HSm, HKp, by rw [HS2.out]; exact ⟨z0, z1, z2, z3, u3⟩⟩
            case measure => simp [intOf]; omega
          ·have hand : nd = true ∧ ah = true ∧ st = true ∧ sk = false := by cases nd <;> cases ah <;> cases st <;> cases sk <;> simp_all
           obtain ⟨hnd1, hah1, hst2, hsk1⟩ := hand
           subst hnd1 hah1 hst2 hsk1
           have hskip := HSk.out
           have ha' : Ah es s' s = true := hah
           clear hst1 hsk hcd
           have hyr := HRk.out ha'
           go_wp2_with fail
           refine (HOf.out (s', t', r', d') HYq.out hyr D2 _ HR.out HKn.out).mono ?_
           rintro e w6 ⟨rfl, hkn6⟩
           obtain ⟨D3, hk3, hkp3, hsm3⟩ := hkn6
           have HE := fact_end HI.out (fails := fails) (mayQ.dq HM.out) HYq.out
           simp only at HE
           generalize hzz : factJ es fails q (s', t', r', d') = zz at HE ⊢
           obtain ⟨v0, v1, v2, v3⟩ := zz
           simp only at HE
           have HE3 := Lib.hid HE
           clear HE hzz
           have hfl := fld3 (sv v0) (.int .i64 v1) (.int .i64 v2) (.int .i64 v3)
           have HSm3 := Lib.hid (show ∀ x, lackX es q s x → D3 x = D x from fun x hx => (hsm3 x ⟨Nat.le_trans (Nat.le_of_lt hyr) hx, fun e => by rw [e] at hx; exact absurd hyr (Nat.not_lt.2 hx)⟩).trans (HSm.out x hx))
           have HKn3 := Lib.hid hk3
           clear hsm3 hk3
           replace g0 := cellK g0 hkp3 (by omega) (by omega)
           replace g1 := cellK g1 hkp3 (by omega) (by omega)
           replace e0 := cellK e0 hkp3 (by omega) (by omega)
           replace e1 := cellK e1 hkp3 (by omega) (by omega)
           replace e2 := cellK e2 hkp3 (by omega) (by omega)
           replace z0 := cellK z0 hkp3 (by omega) (by omega)
           replace z1 := cellK z1 hkp3 (by omega) (by omega)
           replace z2 := cellK z2 hkp3 (by omega) (by omega)
           replace z3 := cellK z3 hkp3 (by omega) (by omega)
           replace u3 := froK u3 hkp3 (by omega) (by omega)
           replace i0 := cellK i0 hkp3 (by omega) (by omega)
           replace i1 := cellK i1 hkp3 (by omega) (by omega)
           replace i2 := cellK i2 hkp3 (by omega) (by omega)
           replace i3 := cellK i3 hkp3 (by omega) (by omega)
           replace HR := Lib.hid (HR.out.kept hkp3)
           clear HKn
           replace HKp := Lib.hid (But2.then HKp.out hkp3)
           replace lr : w.heap.size + 1 + 1 + 1 < w6.heap.size := Nat.lt_of_lt_of_le lr (Keeps.size hkp3)
           replace lr0 : w.heap.size < w6.heap.size := Nat.lt_of_lt_of_le lr0 (Keeps.size hkp3)
           replace lr1 : w.heap.size + 1 < w6.heap.size := Nat.lt_of_lt_of_le lr1 (Keeps.size hkp3)
           replace il : wr.heap.size < w6.heap.size := Nat.lt_of_lt_of_le il (Keeps.size hkp3)
           clear HSm
           have HKn := HKn3
           have HSm := HSm3
           clear hkp3 HKn3 HSm3
           cases h1 : (v3 != 1)
           ·have HF := Lib.hid (show lostF es (endU es fails q) s (s', t', r', d') = false by rw [HLb.out, ← HE3.out, h1]; simp)
            have HS2 := Lib.hid (show Vx (s, t, r, d) 1 ((q.take (m + 1)).any (lostF es (endU es fails q) s)) = Vx (s, t, r, d) 1 ((q.take m).any (lostF es (endU es fails q) s)) by unfold Vx; rw [HS.out, HF.out, Bool.or_false])
            go_wp2_with fail
            go_roundw
            case rel => exact ⟨m + 1, D3, by omega, by go_num, HKn, HSm, HKp, by rw [HS2.out]; exact ⟨z0, z1, z2, z3, u3⟩⟩
            case measure => simp [intOf]; omega
           ·have HF := Lib.hid (show lostF es (endU es fails q) s (s', t', r', d') = true by rw [HLb.out, ← HE3.out, h1]; rfl)
            have HS2 := Lib.hid (show Vx (s, t, r, d) 1 ((q.take (m + 1)).any (lostF es (endU es fails q) s)) = 3 by unfold Vx; rw [HS.out, HF.out, Bool.or_true, hskip]; rfl)
            go_wp2_with fail
            go_roundw
            case rel =>
             refine ⟨m + 1, D3, by omega, by go_num, HKn.out.set hmp 3 (.int .i64 3), HSm, But2.set HKp.out 3 (.int .i64 3), ?_⟩
             rw [HS2.out]
             refine ⟨?_, ?_, ?_, ?_, ?_⟩ <;> go_simp
            case measure => simp [intOf]; omega
       ·obtain rfl : m = q.length := by omega
        rw [List.take_length] at z3
        have hval : Vx (s, t, r, d) 1 (q.any (lostF es (endU es fails q) s)) = endU es fails q s := by rw [HEnd.out]; unfold endB Vx; rw [HBase.out]
        rw [hval] at z3
        generalize hev : endU es fails q s = ev at z3 HVal hval
        have HEv := Lib.hid hev
        clear hev
        have hcn := cntD_le q D2
        have hcm := Lib.hid (show cntD q D2 < maxLen by unfold maxLen; omega)
        clear hcn hval
        go_wp2_with (first
         | (at_mapUpdate; refine wpList_update_is _ (by rfl) (.tmp 117) (.tmp 119) (.tmp 121) 81 (by rfl) 3 Tryz.underlying81 md _ D2 (by rfl) HKn.out.dm hcm.out s (.int .i64 ev) (by rfl) (by rfl) hok ?_; intro w5 hm5 hg5; have hS : Keeps (But wr md) wr w5 := But.grown hg5; have HM5 := Lib.hid (show ∃ D3, MapIs strK w5 md (cntD q D2 + 1) D3 ∧ D3 s = some (.int .i64 ev) ∧ ∀ x, x ≠ s → D3 x = D2 x from ⟨_, hm5, by simp, fun x hx => by simp [hx]⟩); have l5 : w.heap.size + 1 + 1 + 1 < w5.heap.size := Nat.lt_of_lt_of_le lr hS.size; replace z0 := cellK z0 hS lr (by omega); replace z1 := cellK z1 hS lr (by omega); replace z2 := cellK z2 hS lr (by omega); replace z3 := cellK z3 hS lr (by omega); replace y0 := cellK y0 hS (by omega) (by omega); replace y1 := cellK y1 hS (by omega) (by omega); replace y2 := cellK y2 hS (by omega) (by omega); replace y3 := cellK y3 hS (by omega) (by omega); replace f0 := froK f0 hS (by omega) (by omega); replace f1 := froK f1 hS (by omega) (by omega); replace f2 := froK f2 hS (by omega) (by omega); replace f3 := froK f3 hS (by omega) (by omega); have HS5 := Lib.hid hS; clear hm5 hg5 hS)
         | fail)
        have hfin : KnewI md es fails q (ofX es q s) D w w5 := by
         obtain ⟨D3, g1, g2, g3⟩ := HM5.out
         have hD2 : D2 s = none := (HSm.out s (Nat.le_refl _)).trans HD.out
         have hcnt := cntD_put (D' := D3) HQ.out hD2 (by show (D3 s).isSome = true; rw [g2]; rfl) (fun x hx => g3 x hx)
         have hkk : Keeps (But w md) w w5 := by
          have h1 := But.trans (But.below HB2.out) (show Keeps (But W2 md) W2 W2 from Keeps.refl _ _)
          have h2 := But2.then HKp.out HS5.out
          exact ⟨h2.os.trans HB2.out.os, h2.tape.trans HB2.out.tape, h2.output.trans HB2.out.output, Nat.le_trans HB2.out.size h2.size, fun j hj => (h2.block j ⟨Nat.lt_of_lt_of_le hj.1 HB2.out.size, hj.2, by have := hj.1; omega⟩).trans (HB2.out.block j hj.1)⟩
         refine ⟨D3, ⟨g1.mono hcnt, fun x v hv => ?_⟩, hkk, fun x hx => (g3 x hx.2).trans (HSm.out x hx.1)⟩
         by_cases hx : x = s
         ·subst hx
          rw [g2] at hv
          injection hv with hv
          rw [← hv, HEv.out]
         ·rw [g3 x hx] at hv
          exact HKn.out.ok x v hv
        have HFin := Lib.hid hfin
        clear hfin
        refine bodyPost_ret (v := jbV (s, 1, 3, ev)) ?_ rfl ⟨by rw [HVal.out], (((HFin.out.setI (Nat.le_refl' w) hne3 0).setI (Nat.le_refl' w) hne3 1).setI (Nat.le_refl' w) hne3 2).setI (Nat.le_refl' w) hne3 3⟩
        simp [results, Tryz.results59, go_sem, y0, y1, y2, y3, jbV]
     ·have HBase := Lib.hid (show (if s ∈ fails then 2 else 1 : Int) = 2 by rw [hasB_dec'] at hh; simpa using hh)
      go_wp2_with fail
      first | (refine wp_named ?_; intro W2 hW) | (refine calls_named ?_; intro W2 hW)
      have b02 : Below w.heap.size w W2 := by rw [hW]; exact bq2
      have g0 : W2.cell? ⟨w.heap.size, 0, none⟩ = some (.slice An nn cn) := by rw [hW]; go_simp
      have g1 : W2.cell? ⟨w.heap.size, 1, none⟩ = some (.slice Ae es.length ce) := by rw [hW]; go_simp
      have e0 : W2.cell? ⟨w.heap.size + 1, 0, none⟩ = some (sv s) := by rw [hW]; go_simp
      have e1 : W2.cell? ⟨w.heap.size + 1, 1, none⟩ = some (.int .i64 t) := by rw [hW]; go_simp
      have e2 : W2.cell? ⟨w.heap.size + 1, 2, none⟩ = some (.int .i64 r) := by rw [hW]; go_simp
      have y0 : W2.cell? ⟨w.heap.size + 1 + 1, 0, none⟩ = some (.string ⟨#[]⟩) := by rw [hW]; go_simp
      have y1 : W2.cell? ⟨w.heap.size + 1 + 1, 1, none⟩ = some (.int .i64 0) := by rw [hW]; go_simp
      have y2 : W2.cell? ⟨w.heap.size + 1 + 1, 2, none⟩ = some (.int .i64 0) := by rw [hW]; go_simp
      have y3 : W2.cell? ⟨w.heap.size + 1 + 1, 3, none⟩ = some (.int .i64 0) := by rw [hW]; go_simp
      have f0 : W2.frozen? ⟨w.heap.size + 1 + 1, 0, none⟩ = false := by rw [hW]; go_simp
      have f1 : W2.frozen? ⟨w.heap.size + 1 + 1, 1, none⟩ = false := by rw [hW]; go_simp
      have f2 : W2.frozen? ⟨w.heap.size + 1 + 1, 2, none⟩ = false := by rw [hW]; go_simp
      have f3 : W2.frozen? ⟨w.heap.size + 1 + 1, 3, none⟩ = false := by rw [hW]; go_simp
      have z0 : W2.cell? ⟨w.heap.size + 1 + 1 + 1, 0, none⟩ = some (sv s) := by rw [hW]; go_simp
      have z1 : W2.cell? ⟨w.heap.size + 1 + 1 + 1, 1, none⟩ = some (.int .i64 1) := by rw [hW]; go_simp
      have z2 : W2.cell? ⟨w.heap.size + 1 + 1 + 1, 2, none⟩ = some (.int .i64 3) := by rw [hW]; go_simp
      have z3 : W2.cell? ⟨w.heap.size + 1 + 1 + 1, 3, none⟩ = some (.int .i64 2) := by rw [hW]; go_simp
      have u3 : W2.frozen? ⟨w.heap.size + 1 + 1 + 1, 3, none⟩ = false := by rw [hW]; go_simp
      have lW : w.heap.size + 1 + 1 + 1 < W2.heap.size := by rw [hW]; simp <;> omega
      clear hW
      have HR2 := Lib.hid (HR.out.on b02)
      have HK2 := Lib.hid (HK.out.on b02)
      have HB2 := Lib.hid b02
      clear b02 HR HK
      go_wp2_with fail
      go_loopw [58] (fun i wr => ∃ (m : Nat) (D2 : Str → Option Value), m ≤ q.length ∧ i = .int .i64 m ∧ Hid (KnownI wr md es fails q D2) ∧ Hid (∀ x, lackX es q s x → D2 x = D x) ∧ Hid (Keeps (But2 W2 md (w.heap.size + 1 + 1 + 1)) W2 wr) ∧
       (wr.cell? ⟨w.heap.size + 1 + 1 + 1, 0, none⟩ = some (sv s) ∧ wr.cell? ⟨w.heap.size + 1 + 1 + 1, 1, none⟩ = some (.int .i64 1) ∧ wr.cell? ⟨w.heap.size + 1 + 1 + 1, 2, none⟩ = some (.int .i64 3) ∧ wr.cell? ⟨w.heap.size + 1 + 1 + 1, 3, none⟩ = some (.int .i64 (Vx (s, t, r, d) 2 ((q.take m).any (lostF es (endU es fails q) s)))) ∧ wr.frozen? ⟨w.heap.size + 1 + 1 + 1, 3, none⟩ = false)) (fun i _ => q.length - (intOf i).toNat)
      case atStart => exact ⟨0, D, Nat.zero_le _, rfl, HK2, fun _ _ => rfl, But2.refl, z0, z1, z2, by simpa [Vx] using z3, u3⟩
      case round =>
       obtain ⟨m, D2, hmq, rfl, HKn, HSm, HKp, z0', z1', z2', z3', u3'⟩ := hrel
       have hsz2 : W2.heap.size ≤ wr.heap.size := HKp.out.size
       replace g0 := But2.cell HKp.out g0 (by omega) (by omega) (by omega)
       replace g1 := But2.cell HKp.out g1 (by omega) (by omega) (by omega)
       replace e0 := But2.cell HKp.out e0 (by omega) (by omega) (by omega)
       replace e1 := But2.cell HKp.out e1 (by omega) (by omega) (by omega)
       replace e2 := But2.cell HKp.out e2 (by omega) (by omega) (by omega)
       replace y0 := But2.cell HKp.out y0 (by omega) (by omega) (by omega)
       replace y1 := But2.cell HKp.out y1 (by omega) (by omega) (by omega)
       replace y2 := But2.cell HKp.out y2 (by omega) (by omega) (by omega)
       replace y3 := But2.cell HKp.out y3 (by omega) (by omega) (by omega)
       replace f0 := But2.fro HKp.out f0 (by omega) (by omega) (by omega)
       replace f1 := But2.fro HKp.out f1 (by omega) (by omega) (by omega)
       replace f2 := But2.fro HKp.out f2 (by omega) (by omega) (by omega)
       replace f3 := But2.fro HKp.out f3 (by omega) (by omega) (by omega)
       replace z0 := z0'
       replace z1 := z1'
       replace z2 := z2'
       replace z3 := z3'
       replace u3 := u3'
       clear z0' z1' z2' z3' u3'
       have lr : w.heap.size + 1 + 1 + 1 < wr.heap.size := by omega
       have lr0 : w.heap.size < wr.heap.size := by omega
       have lr1 : w.heap.size + 1 < wr.heap.size := by omega
       have lr2 : w.heap.size + 1 + 1 < wr.heap.size := by omega
       have HR := Lib.hid (HR2.out.kept2 HKp.out hB3)
       have hmp : ¬ md = w.heap.size + 1 + 1 + 1 := by omega
       by_cases hlt : m < q.length
       ·have hs := any_take_succ (p := lostF es (endU es fails q) s) hlt
        obtain ⟨b2, o2, hA, hB2, x0, x1, x2, x3⟩ := (HR.out.rq.more HR.out.lz).job hlt
        have hyq : q[m] ∈ q := List.getElem_mem hlt
        have hrk : Ah es q[m].1 s = true → rank es q q[m].1 < rank es q s := fun h => rank_lt HI.out (q := q) (o := q[m].1) (u := s) (List.mem_map.2 ⟨q[m], hyq, rfl⟩) h
        subst hA
        generalize q[m] = y at x0 x1 x2 x3 hs hyq hrk
        obtain ⟨s', t', r', d'⟩ := y
        simp only at x0 x1 x2 x3 hrk
        have HS := Lib.hid hs
        have HYq := Lib.hid hyq
        have HRk := Lib.hid hrk
        clear hs hyq hrk
        have m1 : (0 : Int) ≤ (m : Int) := by omega
        have m2 : (m : Int) < (q.length : Int) := by omega
        go_upto_region 20 with fail
        first | (refine wp_named ?_; intro W4 hW) | (refine calls_named ?_; intro W4 hW)
        have B4 : Below wr.heap.size wr W4 := by rw [hW]; exact bq2
        replace g0 := cellAt g0 B4 (by omega)
        replace g1 := cellAt g1 B4 (by omega)
        replace e0 := cellAt e0 B4 (by omega)
        replace e1 := cellAt e1 B4 (by omega)
        replace e2 := cellAt e2 B4 (by omega)
        replace z0 := cellAt z0 B4 (by omega)
        replace z1 := cellAt z1 B4 (by omega)
        replace z2 := cellAt z2 B4 (by omega)
        replace z3 := cellAt z3 B4 (by omega)
        replace u3 := froAt u3 B4 (by omega)
        replace HR := Lib.hid (HR.out.on B4)
        replace HKn := Lib.hid (HKn.out.on B4)
        replace HKp := Lib.hid (But2.then HKp.out (But.below B4))
        replace lr : w.heap.size + 1 + 1 + 1 < W4.heap.size := ltAt lr B4
        replace lr0 : w.heap.size < W4.heap.size := ltAt lr0 B4
        replace lr1 : w.heap.size + 1 < W4.heap.size := ltAt lr1 B4
        clear y0 y1 y2 y3 f0 f1 f2 f3
        have i0 : W4.cell? ⟨wr.heap.size, 0, none⟩ = some (sv s') := by rw [hW]; go_simp
        have i1 : W4.cell? ⟨wr.heap.size, 1, none⟩ = some (.int .i64 t') := by rw [hW]; go_simp
        have i2 : W4.cell? ⟨wr.heap.size, 2, none⟩ = some (.int .i64 r') := by rw [hW]; go_simp
        have i3 : W4.cell? ⟨wr.heap.size, 3, none⟩ = some (.int .i64 d') := by rw [hW]; go_simp
        have il : wr.heap.size < W4.heap.size := by rw [hW]; simp <;> omega
        clear hW
        clear B4 x0 x1 x2 x3
        go_cut [16] (fun nd wx => nd = .bool (hasE es s s' 1 || hasE es s s' 4) ∧ Below W4.heap.size W4 wx)
        case first =>
         have HBc : Hid (Below W4.heap.size W4 W4) := Below.refl _ _
         go_wp2_with fail
         refine (Has_any An Ae nn cn ce es s s' 1 _ (HR.out.re.more HR.out.lz) (by omega)).mono ?_
         rintro e v3 ⟨rfl, hb⟩
         replace g0 := cellAt g0 hb (by omega)
         replace g1 := cellAt g1 hb (by omega)
         replace e0 := cellAt e0 hb (by omega)
         replace e1 := cellAt e1 hb (by omega)
         replace e2 := cellAt e2 hb (by omega)
         replace z0 := cellAt z0 hb (by omega)
         replace z1 := cellAt z1 hb (by omega)
         replace z2 := cellAt z2 hb (by omega)
         replace z3 := cellAt z3 hb (by omega)
         replace u3 := froAt u3 hb (by omega)
         replace i0 := cellAt i0 hb (by omega)
         replace i1 := cellAt i1 hb (by omega)
         replace i2 := cellAt i2 hb (by omega)
         replace i3 := cellAt i3 hb (by omega)
         replace HR := Lib.hid (HR.out.on hb)
         replace HKn := Lib.hid (HKn.out.on hb)
         replace HKp := Lib.hid (But2.then HKp.out (But.below hb))
         replace lr : w.heap.size + 1 + 1 + 1 < v3.heap.size := ltAt lr hb
         replace lr0 : w.heap.size < v3.heap.size := ltAt lr0 hb
         replace lr1 : w.heap.size + 1 < v3.heap.size := ltAt lr1 hb
         replace il : wr.heap.size < v3.heap.size := ltAt il hb
         replace HBc := Lib.hid (lift HBc.out hb)
         clear hb
         cases h1 : es.any (· == (s, s', 1))
         ·go_wp2_with fail
          refine (Has_any An Ae nn cn ce es s s' 4 _ (HR.out.re.more HR.out.lz) (by omega)).mono ?_
          rintro e v4 ⟨rfl, hb⟩
          replace g0 := cellAt g0 hb (by omega)
          replace g1 := cellAt g1 hb (by omega)
          replace e0 := cellAt e0 hb (by omega)
          replace e1 := cellAt e1 hb (by omega)
          replace e2 := cellAt e2 hb (by omega)
          replace z0 := cellAt z0 hb (by omega)
          replace z1 := cellAt z1 hb (by omega)
          replace z2 := cellAt z2 hb (by omega)
          replace z3 := cellAt z3 hb (by omega)
          replace u3 := froAt u3 hb (by omega)
          replace i0 := cellAt i0 hb (by omega)
          replace i1 := cellAt i1 hb (by omega)
          replace i2 := cellAt i2 hb (by omega)
          replace i3 := cellAt i3 hb (by omega)
          replace HR := Lib.hid (HR.out.on hb)
          replace HKn := Lib.hid (HKn.out.on hb)
          replace HKp := Lib.hid (But2.then HKp.out (But.below hb))
          replace lr : w.heap.size + 1 + 1 + 1 < v4.heap.size := ltAt lr hb
          replace lr0 : w.heap.size < v4.heap.size := ltAt lr0 hb
          replace lr1 : w.heap.size + 1 < v4.heap.size := ltAt lr1 hb
          replace il : wr.heap.size < v4.heap.size := ltAt il hb
          replace HBc := Lib.hid (lift HBc.out hb)
          clear hb
          go_wp2_with fail
          go_meet
          exact ⟨by rw [show hasE es s s' 1 = false from h1]; rfl, HBc.out⟩
         ·go_wp2_with fail
          go_meet
          exact ⟨by rw [show hasE es s s' 1 = true from h1]; rfl, HBc.out⟩
        case rest =>
         obtain ⟨rfl, hb⟩ := hcut
         replace g0 := cellAt g0 hb (by omega)
         replace g1 := cellAt g1 hb (by omega)
         replace e0 := cellAt e0 hb (by omega)
         replace e1 := cellAt e1 hb (by omega)
         replace e2 := cellAt e2 hb (by omega)
         replace z0 := cellAt z0 hb (by omega)
         replace z1 := cellAt z1 hb (by omega)
         replace z2 := cellAt z2 hb (by omega)
         replace z3 := cellAt z3 hb (by omega)
         replace u3 := froAt u3 hb (by omega)
         replace i0 := cellAt i0 hb (by omega)
         replace i1 := cellAt i1 hb (by omega)
         replace i2 := cellAt i2 hb (by omega)
         replace i3 := cellAt i3 hb (by omega)
         replace HR := Lib.hid (HR.out.on hb)
         replace HKn := Lib.hid (HKn.out.on hb)
         replace HKp := Lib.hid (But2.then HKp.out (But.below hb))
         replace lr : w.heap.size + 1 + 1 + 1 < wc.heap.size := ltAt lr hb
         replace lr0 : w.heap.size < wc.heap.size := ltAt lr0 hb
         replace lr1 : w.heap.size + 1 < wc.heap.size := ltAt lr1 hb
         replace il : wr.heap.size < wc.heap.size := ltAt il hb
         clear hb
         generalize hnd : (hasE es s s' 1 || hasE es s s' 4) = nd
         have HLb := Lib.hid (show lostF es (endU es fails q) s (s', t', r', d') = (nd && (Ah es s' s && (!((t' != 1) && (t' != 3)) && endU es fails q s' != 1))) by
          have hst0 : startsB (s', t', r', d') = !((t' != 1) && (t' != 3)) := by unfold startsB; simp [bne]
          unfold lostF
          rw [← hnd, hst0])
         clear hnd
         obtain ⟨w5, rfl⟩ : ∃ wo : World, wo = wc := ⟨_, rfl⟩
         go_upto_region 21 with fail
         go_cut [106] (fun cd wx => cd = .bool (!(nd && (Ah es s' s && (!((t' != 1) && (t' != 3)) && !((t == 1) && (r == 2)))))) ∧ Below w5.heap.size w5 wx)
         case first =>
          have HBc : Hid (Below w5.heap.size w5 w5) := Below.refl _ _
          cases nd
          ·go_wp2_with fail
           go_meet
           exact ⟨rfl, HBc.out⟩
          ·go_wp2_with fail
           refine (refAhead_any An Ae nn cn ce es s' s _ (HR.out.re.more HR.out.lz) (by omega)).mono ?_
           rintro e v5 ⟨rfl, hb⟩
           replace g0 := cellAt g0 hb (by omega)
           replace g1 := cellAt g1 hb (by omega)
           replace e0 := cellAt e0 hb (by omega)
           replace e1 := cellAt e1 hb (by omega)
           replace e2 := cellAt e2 hb (by omega)
           replace z0 := cellAt z0 hb (by omega)
           replace z1 := cellAt z1 hb (by omega)
           replace z2 := cellAt z2 hb (by omega)
           replace z3 := cellAt z3 hb (by omega)
           replace u3 := froAt u3 hb (by omega)
           replace i0 := cellAt i0 hb (by omega)
           replace i1 := cellAt i1 hb (by omega)
           replace i2 := cellAt i2 hb (by omega)
           replace i3 := cellAt i3 hb (by omega)
           replace HR := Lib.hid (HR.out.on hb)
           replace HKn := Lib.hid (HKn.out.on hb)
           replace HKp := Lib.hid (But2.then HKp.out (But.below hb))
           replace lr : w.heap.size + 1 + 1 + 1 < v5.heap.size := ltAt lr hb
           replace lr0 : w.heap.size < v5.heap.size := ltAt lr0 hb
           replace lr1 : w.heap.size + 1 < v5.heap.size := ltAt lr1 hb
           replace il : wr.heap.size < v5.heap.size := ltAt il hb
           replace HBc := Lib.hid (lift HBc.out hb)
           clear hb
           cases ha : es.any (aheadB s' s)
           ·have ha' : Ah es s' s = false := ha
            go_wp2_with fail
            go_meet
            exact ⟨by simp only [ha']; rfl, HBc.out⟩
           ·have ha' : Ah es s' s = true := ha
            cases tb : (t' != 1)
            ·cases tj : (t == 1)
             ·go_wp2_with fail
              go_meet
              exact ⟨by simp only [ha', tb, tj]; rfl, HBc.out⟩
             ·cases rj : (r == 2)
              ·go_wp2_with fail
               go_meet
               exact ⟨by simp only [ha', tb, tj, rj]; rfl, HBc.out⟩
              ·go_wp2_with fail
               go_meet
               exact ⟨by simp only [ha', tb, tj, rj]; rfl, HBc.out⟩
            ·cases tc : (t' != 3)
             ·cases tj : (t == 1)
              ·go_wp2_with fail
               go_meet
               exact ⟨by simp only [ha', tb, tc, tj]; rfl, HBc.out⟩
              ·cases rj : (r == 2)
               ·go_wp2_with fail
                go_meet
                exact ⟨by simp only [ha', tb, tc, tj, rj]; rfl, HBc.out⟩
               ·go_wp2_with fail
                go_meet
                exact ⟨by simp only [ha', tb, tc, tj, rj]; rfl, HBc.out⟩
             ·go_wp2_with fail
              go_meet
              exact ⟨by simp only [ha', tb, tc]; rfl, HBc.out⟩
         case rest =>
          obtain ⟨rfl, hb⟩ := hcut
          replace g0 := cellAt g0 hb (by omega)
          replace g1 := cellAt g1 hb (by omega)
          replace e0 := cellAt e0 hb (by omega)
          replace e1 := cellAt e1 hb (by omega)
          replace e2 := cellAt e2 hb (by omega)
          replace z0 := cellAt z0 hb (by omega)
          replace z1 := cellAt z1 hb (by omega)
          replace z2 := cellAt z2 hb (by omega)
          replace z3 := cellAt z3 hb (by omega)
          replace u3 := froAt u3 hb (by omega)
          replace i0 := cellAt i0 hb (by omega)
          replace i1 := cellAt i1 hb (by omega)
          replace i2 := cellAt i2 hb (by omega)
          replace i3 := cellAt i3 hb (by omega)
          replace HR := Lib.hid (HR.out.on hb)
          replace HKn := Lib.hid (HKn.out.on hb)
          replace HKp := Lib.hid (But2.then HKp.out (But.below hb))
          replace lr : w.heap.size + 1 + 1 + 1 < wc.heap.size := ltAt lr hb
          replace lr0 : w.heap.size < wc.heap.size := ltAt lr0 hb
          replace lr1 : w.heap.size + 1 < wc.heap.size := ltAt lr1 hb
          replace il : wr.heap.size < wc.heap.size := ltAt il hb
          clear hb
          have HSk := Lib.hid (show skipB (s, t, r, d) = ((t == 1) && (r == 2)) from rfl)
          generalize hst1 : (!((t' != 1) && (t' != 3))) = st at HLb ⊢
          generalize hah : Ah es s' s = ah at HLb ⊢
          generalize hsk : ((t == 1) && (r == 2)) = sk at HSk ⊢
          cases hcd : (nd && (ah && (st && !sk)))
          ·cases sk
           ·have HF := Lib.hid (show lostF es (endU es fails q) s (s', t', r', d') = false by
             rw [HLb.out]
             cases nd <;> cases ah <;> cases st <;> simp_all)
            have HS2 := Lib.hid (show Vx (s, t, r, d) 2 ((q.take (m + 1)).any (lostF es (endU es fails q) s)) = Vx (s, t, r, d) 2 ((q.take m).any (lostF es (endU es fails q) s)) by unfold Vx; rw [HS.out, HF.out, Bool.or_false])
            go_wp2_with fail
            go_roundw
            case rel => exact ⟨m + 1, D2, by omega, by go_num, HKn, HSm, HKp, by rw [HS2.out]; exact ⟨z0, z1, z2, z3, u3⟩⟩
            case measure => simp [intOf]; omega
           ·have hskip := HSk.out
            have HS2 := Lib.hid (show Vx (s, t, r, d) 2 ((q.take (m + 1)).any (lostF es (endU es fails q) s)) = Vx (s, t, r, d) 2 ((q.take m).any (lostF es (endU es fails q) s)) by unfold Vx; rw [hskip]; simp)
            go_wp2_with fail
            go_roundw
            case rel => exact ⟨m + 1, D2, by omega, by go_num, HKn, HSm, HKp, by rw [HS2.out]; exact ⟨z0, z1, z2, z3, u3⟩⟩
            case measure => simp [intOf]; omega
          ·have hand : nd = true ∧ ah = true ∧ st = true ∧ sk = false := by cases nd <;> cases ah <;> cases st <;> cases sk <;> simp_all
           obtain ⟨hnd1, hah1, hst2, hsk1⟩ := hand
           subst hnd1 hah1 hst2 hsk1
           have hskip := HSk.out
           have ha' : Ah es s' s = true := hah
           clear hst1 hsk hcd
           have hyr := HRk.out ha'
           go_wp2_with fail
           refine (HOf.out (s', t', r', d') HYq.out hyr D2 _ HR.out HKn.out).mono ?_
           rintro e w6 ⟨rfl, hkn6⟩
           obtain ⟨D3, hk3, hkp3, hsm3⟩ := hkn6
           have HE := fact_end HI.out (fails := fails) (mayQ.dq HM.out) HYq.out
           simp only at HE
           generalize hzz : factJ es fails q (s', t', r', d') = zz at HE ⊢
           obtain ⟨v0, v1, v2, v3⟩ := zz
           simp only at HE
           have HE3 := Lib.hid HE
           clear HE hzz
           have hfl := fld3 (sv v0) (.int .i64 v1) (.int .i64 v2) (.int .i64 v3)
           have HSm3 := Lib.hid (show ∀ x, lackX es q s x → D3 x = D x from fun x hx => (hsm3 x ⟨Nat.le_trans (Nat.le_of_lt hyr) hx, fun e => by rw [e] at hx; exact absurd hyr (Nat.not_lt.2 hx)⟩).trans (HSm.out x hx))
           have HKn3 := Lib.hid hk3
           clear hsm3 hk3
           replace g0 := cellK g0 hkp3 (by omega) (by omega)
           replace g1 := cellK g1 hkp3 (by omega) (by omega)
           replace e0 := cellK e0 hkp3 (by omega) (by omega)
           replace e1 := cellK e1 hkp3 (by omega) (by omega)
           replace e2 := cellK e2 hkp3 (by omega) (by omega)
           replace z0 := cellK z0 hkp3 (by omega) (by omega)
           replace z1 := cellK z1 hkp3 (by omega) (by omega)
           replace z2 := cellK z2 hkp3 (by omega) (by omega)
           replace z3 := cellK z3 hkp3 (by omega) (by omega)
           replace u3 := froK u3 hkp3 (by omega) (by omega)
           replace i0 := cellK i0 hkp3 (by omega) (by omega)
           replace i1 := cellK i1 hkp3 (by omega) (by omega)
           replace i2 := cellK i2 hkp3 (by omega) (by omega)
           replace i3 := cellK i3 hkp3 (by omega) (by omega)
           replace HR := Lib.hid (HR.out.kept hkp3)
           clear HKn
           replace HKp := Lib.hid (But2.then HKp.out hkp3)
           replace lr : w.heap.size + 1 + 1 + 1 < w6.heap.size := Nat.lt_of_lt_of_le lr (Keeps.size hkp3)
           replace lr0 : w.heap.size < w6.heap.size := Nat.lt_of_lt_of_le lr0 (Keeps.size hkp3)
           replace lr1 : w.heap.size + 1 < w6.heap.size := Nat.lt_of_lt_of_le lr1 (Keeps.size hkp3)
           replace il : wr.heap.size < w6.heap.size := Nat.lt_of_lt_of_le il (Keeps.size hkp3)
           clear HSm
           have HKn := HKn3
           have HSm := HSm3
           clear hkp3 HKn3 HSm3
           cases h1 : (v3 != 1)
           ·have HF := Lib.hid (show lostF es (endU es fails q) s (s', t', r', d') = false by rw [HLb.out, ← HE3.out, h1]; simp)
            have HS2 := Lib.hid (show Vx (s, t, r, d) 2 ((q.take (m + 1)).any (lostF es (endU es fails q) s)) = Vx (s, t, r, d) 2 ((q.take m).any (lostF es (endU es fails q) s)) by unfold Vx; rw [HS.out, HF.out, Bool.or_false])
            go_wp2_with fail
            go_roundw
            case rel => exact ⟨m + 1, D3, by omega, by go_num, HKn, HSm, HKp, by rw [HS2.out]; exact ⟨z0, z1, z2, z3, u3⟩⟩
            case measure => simp [intOf]; omega
           ·have HF := Lib.hid (show lostF es (endU es fails q) s (s', t', r', d') = true by rw [HLb.out, ← HE3.out, h1]; rfl)
            have HS2 := Lib.hid (show Vx (s, t, r, d) 2 ((q.take (m + 1)).any (lostF es (endU es fails q) s)) = 3 by unfold Vx; rw [HS.out, HF.out, Bool.or_true, hskip]; rfl)
            go_wp2_with fail
            go_roundw
            case rel =>
             refine ⟨m + 1, D3, by omega, by go_num, HKn.out.set hmp 3 (.int .i64 3), HSm, But2.set HKp.out 3 (.int .i64 3), ?_⟩
             rw [HS2.out]
             refine ⟨?_, ?_, ?_, ?_, ?_⟩ <;> go_simp
            case measure => simp [intOf]; omega
       ·obtain rfl : m = q.length := by omega
        rw [List.take_length] at z3
        have hval : Vx (s, t, r, d) 2 (q.any (lostF es (endU es fails q) s)) = endU es fails q s := by rw [HEnd.out]; unfold endB Vx; rw [HBase.out]
        rw [hval] at z3
        generalize hev : endU es fails q s = ev at z3 HVal hval
        have HEv := Lib.hid hev
        clear hev
        have hcn := cntD_le q D2
        have hcm := Lib.hid (show cntD q D2 < maxLen by unfold maxLen; omega)
        clear hcn hval
        go_wp2_with (first
         | (at_mapUpdate; refine wpList_update_is _ (by rfl) (.tmp 117) (.tmp 119) (.tmp 121) 81 (by rfl) 3 Tryz.underlying81 md _ D2 (by rfl) HKn.out.dm hcm.out s (.int .i64 ev) (by rfl) (by rfl) hok ?_; intro w5 hm5 hg5; have hS : Keeps (But wr md) wr w5 := But.grown hg5; have HM5 := Lib.hid (show ∃ D3, MapIs strK w5 md (cntD q D2 + 1) D3 ∧ D3 s = some (.int .i64 ev) ∧ ∀ x, x ≠ s → D3 x = D2 x from ⟨_, hm5, by simp, fun x hx => by simp [hx]⟩); have l5 : w.heap.size + 1 + 1 + 1 < w5.heap.size := Nat.lt_of_lt_of_le lr hS.size; replace z0 := cellK z0 hS lr (by omega); replace z1 := cellK z1 hS lr (by omega); replace z2 := cellK z2 hS lr (by omega); replace z3 := cellK z3 hS lr (by omega); replace y0 := cellK y0 hS (by omega) (by omega); replace y1 := cellK y1 hS (by omega) (by omega); replace y2 := cellK y2 hS (by omega) (by omega); replace y3 := cellK y3 hS (by omega) (by omega); replace f0 := froK f0 hS (by omega) (by omega); replace f1 := froK f1 hS (by omega) (by omega); replace f2 := froK f2 hS (by omega) (by omega); replace f3 := froK f3 hS (by omega) (by omega); have HS5 := Lib.hid hS; clear hm5 hg5 hS)
         | fail)
        have hfin : KnewI md es fails q (ofX es q s) D w w5 := by
         obtain ⟨D3, g1, g2, g3⟩ := HM5.out
         have hD2 : D2 s = none := (HSm.out s (Nat.le_refl _)).trans HD.out
         have hcnt := cntD_put (D' := D3) HQ.out hD2 (by show (D3 s).isSome = true; rw [g2]; rfl) (fun x hx => g3 x hx)
         have hkk : Keeps (But w md) w w5 := by
          have h1 := But.trans (But.below HB2.out) (show Keeps (But W2 md) W2 W2 from Keeps.refl _ _)
          have h2 := But2.then HKp.out HS5.out
          exact ⟨h2.os.trans HB2.out.os, h2.tape.trans HB2.out.tape, h2.output.trans HB2.out.output, Nat.le_trans HB2.out.size h2.size, fun j hj => (h2.block j ⟨Nat.lt_of_lt_of_le hj.1 HB2.out.size, hj.2, by have := hj.1; omega⟩).trans (HB2.out.block j hj.1)⟩
         refine ⟨D3, ⟨g1.mono hcnt, fun x v hv => ?_⟩, hkk, fun x hx => (g3 x hx.2).trans (HSm.out x hx.1)⟩
         by_cases hx : x = s
         ·subst hx
          rw [g2] at hv
          injection hv with hv
          rw [← hv, HEv.out]
         ·rw [g3 x hx] at hv
          exact HKn.out.ok x v hv
        have HFin := Lib.hid hfin
        clear hfin
        refine bodyPost_ret (v := jbV (s, 1, 3, ev)) ?_ rfl ⟨by rw [HVal.out], (((HFin.out.setI (Nat.le_refl' w) hne3 0).setI (Nat.le_refl' w) hne3 1).setI (Nat.le_refl' w) hne3 2).setI (Nat.le_refl' w) hne3 3⟩
        simp [results, Tryz.results59, go_sem, y0, y1, y2, y3, jbV]
theorem factR_any (hi : isB es = true) (hm : mayQ q = true) (hl : es.length ≤ 100000) (hlq : q.length ≤ 1000000) (hlf : fails.length ≤ 140737488355328) (hokq : OkJs q) :
  ∀ (n : Nat) (j : Jb), j ∈ q → rank es q j.1 < n → FcIs B0 md An Ae nn cn ce A c Af cf es fails q j
 | 0, _, _, h => by omega
 | n + 1, j, hj, h => factR_step B0 md An Ae nn cn ce A c Af cf es fails q j hi hm hl hlq hlf hokq hj fun y hy hr => factR_any hi hm hl hlq hlf hokq n y hy (by omega)
end
set_option maxRecDepth 100000 in
set_option maxHeartbeats 16000000 in
theorem FactR_any (An Ae : Option Addr) (cn ce : Nat) (ns : List Nd) (es : List Ed) (A : Option Addr) (c : Nat) (q : List Jb) (Af : Option Addr) (cf : Nat) (fails : List Str) (w : World) (hg : GIq w An Ae ns es) (hq : QIn w A c q) (hf : Rd w w.heap.size 1 Af fails.length (svs fails)) (hlq : q.length ≤ 1000) (hlf : fails.length ≤ 140737488355328) :
  Calls Tryz.prog 28 #[gV An ns.length cn Ae es.length ce, .slice A q.length c, .slice Af fails.length cf] w (RdIs 4 (facR ns es fails q).length (jbsC (facR ns es fails q)) w) := by
 obtain ⟨i0, hi, hz0, hz1, hz2⟩ := info_parts infoJb
 have HG := Lib.hid hg
 have HQ := Lib.hid hq
 have HFl := Lib.hid hf
 clear hg hq hf
 go_enter Tryz.func28, Tryz.ntmps28
 go_wp2_with fail
 first | (refine wp_named ?_; intro W1 hW) | (refine calls_named ?_; intro W1 hW)
 have B1 : Below w.heap.size w W1 := by rw [hW]; exact bq2
 replace HG := Lib.hid (HG.out.at B1)
 replace HQ := Lib.hid (HQ.out.at B1)
 replace HFl := Lib.hid (HFl.out.at B1)
 have n1 : w.heap.size < W1.heap.size := by rw [hW]; simp <;> omega
 have g0 : W1.cell? ⟨w.heap.size, 0, none⟩ = some (.slice An ns.length cn) := by rw [hW]; go_simp
 have g1 : W1.cell? ⟨w.heap.size, 1, none⟩ = some (.slice Ae es.length ce) := by rw [hW]; go_simp
 clear hW
 have HB := Lib.hid B1
 clear B1
 refine (Sound20_any An Ae cn ce ns es A c q W1 HG.out HQ.out).mono ?_
 rintro e w2 ⟨rfl, hb⟩
 replace g0 := cellAt g0 hb (by omega)
 replace g1 := cellAt g1 hb (by omega)
 replace HG := Lib.hid (HG.out.at hb)
 replace HQ := Lib.hid (HQ.out.at hb)
 replace HFl := Lib.hid (HFl.out.at hb)
 replace n1 : w.heap.size < w2.heap.size := ltAt n1 hb
 replace HB := Lib.hid (lift HB.out hb)
 clear hb
 cases hs : soundQ ns es q
 ·have HE := Lib.hid (show facR ns es fails q = [] by unfold facR; rw [hs]; rfl)
  go_wp2_with fail
  go_ret
  rw [HE.out]
  exact ⟨none, 0, rfl, Nat.le_refl _, Rd.none_, HB.out⟩
 ·obtain ⟨hm, hib⟩ := sound_ends hs
  have HE := Lib.hid (show facR ns es fails q = factQ es fails q by unfold facR; rw [hs]; rfl)
  have HM := Lib.hid hm
  have HI := Lib.hid hib
  clear hm hib hs
  have hmm : ∀ (t : TypeId) (w : World), (Instr.makeMap t none).run Tryz.prog w = .ok (.map (some w.heap.size)) (w.alloc (.map #[] 0)) := fun _ _ => rfl
  have HGe := Lib.hid (show es.length ≤ 100000 by have := HG.out.le; omega)
  have HG2 := HG
  have HQ2 := HQ
  have HFl2 := HFl
  have HB2 := HB
  go_wp2_with fail
  first | (refine wp_named ?_; intro w3 hW) | (refine calls_named ?_; intro w3 hW)
  have b23 : Below w2.heap.size w2 w3 := by rw [hW]; exact bq2
  have g03 : w3.cell? ⟨w.heap.size, 0, none⟩ = some (.slice An ns.length cn) := cellAt g0 b23 n1
  have g13 : w3.cell? ⟨w.heap.size, 1, none⟩ = some (.slice Ae es.length ce) := cellAt g1 b23 n1
  have l3 : w2.heap.size < w3.heap.size := by rw [hW]; simp
  have md0 : MapIs strK w3 w2.heap.size 0 (fun _ => none) := by rw [hW]; exact MapIs.made strK w2
  clear hW g0 g1
  have HMd := Lib.hid (show KnownI w3 w2.heap.size es fails q (fun _ => none) from ⟨md0.mono (Nat.zero_le _), fun s v h => by cases h⟩)
  have hst : RSt w3 w2.heap.size w2.heap.size Ae A Af es q fails := ⟨HG2.out.re.below b23, HQ2.out.rq.below b23, HFl2.out.below b23, Nat.le_refl _, b23.size⟩
  have HSt := Lib.hid hst
  have HLow := Lib.hid (lift HB2.out b23)
  have hz2w : w.heap.size ≤ w2.heap.size := HB2.out.size
  have HOk := Lib.hid HQ2.out.ok
  clear md0 hst b23 HG HQ HFl HG2 HQ2 HFl2 HB HB2
  go_wp2_with fail
  go_loopw [8, 18] (fun v i wr => ∃ (m : Nat) (A9 : Option Addr) (c9 : Nat), m ≤ q.length ∧ i = .int .i64 m ∧ v = .slice A9 ((factQ es fails q).take m).length c9 ∧ Hid (wr.ownsRow w3.heap.size 48 4 (.slice A9 ((factQ es fails q).take m).length c9) ((factQ es fails q).take m).length (jbsC ((factQ es fails q).take m))) ∧ Hid (∃ D, KnownI wr w2.heap.size es fails q D) ∧ Hid (Keeps (But w3 w2.heap.size) w3 wr)) (fun _ i _ => q.length - (intOf i).toNat)
  case atStart => exact ⟨0, none, 0, Nat.zero_le _, rfl, rfl, World.ownsRow_nil _ _ _ _, ⟨_, HMd.out⟩, But.below (Below.refl _ _)⟩
  case round =>
   obtain ⟨m, A9, c9, hmq, rfl, rfl, HO, HKD, HK⟩ := hrel
   have hszr : w3.heap.size ≤ wr.heap.size := HK.out.size
   by_cases hlt : m < q.length
   ·obtain ⟨D, hD⟩ := HKD.out
    have HKw := Lib.hid hD
    have HSr := Lib.hid (HSt.out.kept HK.out)
    obtain ⟨b2, o2, hA, hB2, x0, x1, x2, x3⟩ := (HSr.out.rq.more HSr.out.lz).job hlt
    have hft := factQ_take (es := es) (fails := fails) hlt
    have hin := List.getElem_mem hlt
    have hlen : ((factQ es fails q).take m).length ≤ 1000 := by simp [fact_len]; omega
    have g0 := cellK g03 HK.out (by omega) (by omega)
    have g1 := cellK g13 HK.out (by omega) (by omega)
    have n1r : w.heap.size < wr.heap.size := by omega
    subst hA
    generalize q[m] = x at x0 x1 x2 x3 hft hin
    obtain ⟨s, t, r, d⟩ := x
    simp only at x0 x1 x2 x3
    generalize (factQ es fails q).take m = L at HO hlen hft ⊢
    have HFt := Lib.hid hft
    have HIn := Lib.hid hin
    have m1 : (0 : Int) ≤ (m : Int) := by omega
    have m2 : (m : Int) < (q.length : Int) := by omega
    have h63 := Lib.hid (show L.length + 1 ≤ maxLen by unfold maxLen; omega)
    have hby := Lib.hid (show (L.length + 1) * 40 ≤ 140737488355328 by omega)
    clear hft hin hD
    go_wp2_with fail
    first | (refine wp_named ?_; intro W4 hW) | (refine calls_named ?_; intro W4 hW)
    have b34 : Below wr.heap.size wr W4 := by rw [hW]; exact bq2
    clear hW
    have HB4 := Lib.hid b34
    clear b34 x0 x1 x2 x3 g0 g1
    refine (factR_any w2.heap.size w2.heap.size An Ae ns.length cn ce _ c Af cf es fails q HI.out HM.out HGe.out (by omega) hlf HOk.out _ (s, t, r, d) HIn.out (Nat.lt_succ_self _) D W4 (HSr.out.on HB4.out) (HKw.out.on HB4.out)).mono ?_
    rintro e w5 ⟨rfl, D2, hk5, hkp5, _⟩
    have HK5 := Lib.hid (But.trans (But.two HK.out HB4.out) hkp5)
    have HKn5 := Lib.hid hk5
    have HO5 := Lib.hid (hkp5.own (own_on HO.out HB4.out) (fun g hg => ⟨((own_on HO.out HB4.out).lt g hg).2, fun e => by have := (HO.out.lt g hg).1; omega⟩))
    have hz5 : w3.heap.size ≤ w5.heap.size := HK5.out.size
    clear hk5 hkp5 HK HB4 HKw HSr
    generalize factJ es fails q (s, t, r, d) = z at HFt ⊢
    obtain ⟨s', t', r', d'⟩ := z
    go_wp2_with (first | (at_builtin; refine wpList_append_rd (w5.alloc (.cells #[sv s', .int .i64 t', .int .i64 r', .int .i64 d'] 48)) (by rfl) (.tmp 22) (.tmp 29) 26 (by rfl) w3.heap.size 48 i0 _ 4 40 Tryz.underlying26 hi hz0 hz1 hz2 rfl (by decide) _ _ _ (by rfl) (own_alloc HO5.out _) _ (some ⟨w5.heap.size, 0, none⟩) 1 1 [sv s', .int .i64 t', .int .i64 r', .int .i64 d'] (by rfl) (Rd.lit w5 [sv s', .int .i64 t', .int .i64 r', .int .i64 d'] 48 4 1 rfl) (one_jbV s' t' r' d') h63.out hby.out (by simp; omega) ?_; intro A8 c8 w8 hown8 hg8 hat8; have HO8 := Lib.hid hown8; have HG8 := Lib.hid hg8; clear hown8 hg8 hat8) | fail)
    go_roundw
    case rel =>
     have hll : ((factQ es fails q).take (m + 1)).length = L.length + 1 := by rw [HFt.out]; simp
     refine ⟨m + 1, A8, c8, by omega, by go_num, by rw [hll], ?_, ⟨D2, ⟨((HKn5.out.dm.alloc _).kept HG8.out (fun e => by have := (HO5.out.lt _ e.symm).1; omega)), HKn5.out.ok⟩⟩, But.row (But.two HK5.out ((Below.refl _ _).alloc (Nat.le_refl _) _)) HG8.out (fun b hb => (HO5.out.lt b hb).1)⟩
     rw [hll, HFt.out]
     simpa [jbsC, jbC, Hid] using HO8.out
    case measure => simp [intOf]; omega
   ·have hft : (factQ es fails q).take m = factQ es fails q := List.take_of_length_le (by rw [fact_len]; omega)
    rw [hft] at HO ⊢
    have HR := Lib.hid (own_rd' HO.out)
    have HC := Lib.hid (own_cap HO.out).1
    have HLow2 := Lib.hid (But.low HLow.out HK.out (by omega))
    go_wp2_with fail
    go_ret
    rw [HE.out]
    exact ⟨A9, c9, rfl, HC.out, HR.out, HLow2.out⟩
end Od
end Go.Proofs.YtmlogmcnblgnbaaGreat
end

section
/- The walk of the law WaveFact. (bel2) -/
namespace Go.Proofs.YtmlogmcnblgnbaaGreat
open Go.RowKit Go.Sort
set_option linter.unusedSimpArgs false

namespace Od

set_option maxRecDepth 100000 in
set_option maxHeartbeats 8000000 in
theorem waveFact_any (An Ae : Option Addr) (cn ce : Nat) (ns : List Nd) (es : List Ed) (A : Option Addr) (c : Nat) (q : List Jb) (Af : Option Addr) (cf : Nat) (fails : List Str) (w : World) (hg : GIw w An Ae ns es) (hq : QIn w A c q) (hf : Rd w w.heap.size 1 Af fails.length (svs fails)) (hlf : fails.length ≤ 140737488351232) :
  Calls Tryz.prog 5 #[gV An ns.length cn Ae es.length ce, .slice A q.length c, .slice Af fails.length cf] w fun e w' => e = .returned (.bool true) ∧ Below w.heap.size w w' := by
 have HG := Lib.hid hg
 have HQ := Lib.hid hq
 have HFl := Lib.hid hf
 clear hg hq hf
 cases d40 : decide ((40 : Int) < (q.length : Int))
 ·have h40 : ¬ (40 : Int) < (q.length : Int) := by simpa using d40
  go_enter Tryz.func5, Tryz.ntmps5
  go_wp2_with fail
  first | (refine wp_named ?_; intro W1 hW) | (refine calls_named ?_; intro W1 hW)
  have B1 : Below w.heap.size w W1 := by rw [hW]; exact bq2
  replace HG := Lib.hid (HG.out.at B1)
  replace HQ := Lib.hid (HQ.out.at B1)
  replace HFl := Lib.hid (HFl.out.at B1)
  have nw1 : w.heap.size < W1.heap.size := by rw [hW]; simp <;> omega
  have c0 : W1.cell? ⟨w.heap.size, 0, none⟩ = some (.slice An ns.length cn) := by rw [hW]; go_simp
  have c1 : W1.cell? ⟨w.heap.size, 1, none⟩ = some (.slice Ae es.length ce) := by rw [hW]; go_simp
  clear hW
  have HB := Lib.hid B1
  clear B1
  refine (shown_any W1).mono ?_
  rintro e w2 ⟨rfl, hb⟩
  replace c0 := cellAt c0 hb (by omega)
  replace c1 := cellAt c1 hb (by omega)
  replace HG := Lib.hid (HG.out.at hb)
  replace HQ := Lib.hid (HQ.out.at hb)
  replace HFl := Lib.hid (HFl.out.at hb)
  replace nw1 : w.heap.size < w2.heap.size := ltAt nw1 hb
  replace HB := Lib.hid (lift HB.out hb)
  clear hb
  go_wp2_with fail
  refine (small_any An Ae cn ce ns es w2).mono ?_
  rintro e w3 ⟨rfl, hb⟩
  replace c0 := cellAt c0 hb (by omega)
  replace c1 := cellAt c1 hb (by omega)
  replace HG := Lib.hid (HG.out.at hb)
  replace HQ := Lib.hid (HQ.out.at hb)
  replace HFl := Lib.hid (HFl.out.at hb)
  replace nw1 : w.heap.size < w3.heap.size := ltAt nw1 hb
  replace HB := Lib.hid (lift HB.out hb)
  clear hb
  cases hsm : smallB ns es
  ·go_wp2_with fail
   go_ret
   exact ⟨rfl, HB.out⟩
  ·have hs2 := smallB_iff.1 hsm
   have hl1 := hs2.1
   have hl2 := hs2.2
   clear hs2
   have hxl := facR_len ns es fails q
   generalize hx : facR ns es fails q = x at *
   have HX := Lib.hid hx
   clear hx
   go_wp2_with fail
   try go_wp2_with fail
   refine wp_region_held_drew (S := fun w' => Below w3.heap.size w3 w') (by kernel_rfl) (Below.drew (Below.refl _ _)) (fun hHeld => ?_)
   refine tY (i := 0) (v := ?_) rfl ?_ hHeld ?_; rotate_left 1; focus (intro w' hSw; have hCell := fun (b o : Nat) (h : b < w3.heap.size) => hSw.cell (p := ⟨b, o, none⟩) h; clear hSw; go_simp; try with_reducible rfl)
   (try simp only [Act.put, zn1, zn2, zn3])
   refine tY (i := 1) (v := ?_) rfl ?_ hHeld ?_; rotate_left 1; focus (intro w' hSw; clear hSw; go_simp; try with_reducible rfl)
   (try simp only [Act.put, zn1, zn2, zn3])
   refine tY (i := 2) (v := ?_) rfl ?_ hHeld ?_; rotate_left 1; focus (intro w' hSw; clear hSw; go_simp; try with_reducible rfl)
   (try simp only [Act.put, zn1, zn2, zn3])
   refine tY (i := 4) (v := ?_) rfl ?_ hHeld ?_; rotate_left 1; focus (intro w' hSw; have hCell := fun (b o : Nat) (h : b < w3.heap.size) => hSw.cell (p := ⟨b, o, none⟩) h; clear hSw; go_simp; try with_reducible rfl)
   (try simp only [Act.put, zn1, zn2, zn3])
   refine tY (i := 5) (v := ?_) rfl ?_ hHeld ?_; rotate_left 1; focus (intro w' hSw; clear hSw; go_simp; try with_reducible rfl)
   (try simp only [Act.put, zn1, zn2, zn3])
   refine tY (i := 6) (v := ?_) rfl ?_ hHeld ?_; rotate_left 1; focus (intro w' hSw; clear hSw; go_simp; try with_reducible rfl)
   (try simp only [Act.put, zn1, zn2, zn3])
   refine ready_one (i := 3) rfl (by kernel_rfl) (fun K hK => ?_)
   go_simp
   refine (FactW_any An Ae cn ce ns es A c q Af cf fails _ ((HG.out.at hHeld).q (by omega) (by omega)) (HQ.out.at hHeld) (HFl.out.at hHeld) (by omega) (by omega)).mono ?_
   rw [HX.out]
   rintro e x1 ⟨A5, c5, rfl, hc5, ho5, hb⟩
   have HR5 := Lib.hid ho5
   clear ho5
   refine hK.out _ _ ?_ (fun hHeld2 => ?_)
   ·(try dsimp only); first | exact Below.trans hHeld (Below.mono hb hHeld.size) | exact hHeld | exact Below.drew hHeld | exact bq2
   clear hK K hHeld; have hHeld := hHeld2; clear hHeld2; (try simp only [Act.put, zn1, zn2, zn3])
   refine ready_one (i := 7) rfl (by kernel_rfl) (fun K hK => ?_)
   go_simp
   refine (FactR_any An Ae cn ce ns es A c q Af cf fails _ ((HG.out.at hHeld).q (by omega) (by omega)) (HQ.out.at hHeld) (HFl.out.at hHeld) (by omega) (by omega)).mono ?_
   rw [HX.out]
   rintro e x2 ⟨A6, c6, rfl, hc6, ho6, hb⟩
   have HR6 := Lib.hid ho6
   have HR5b := Lib.hid (HR5.out.at hb)
   clear ho6
   refine hK.out _ _ ?_ (fun hHeld2 => ?_)
   ·(try dsimp only); first | exact Below.trans hHeld (Below.mono hb hHeld.size) | exact hHeld | exact Below.drew hHeld | exact bq2
   clear hK K hHeld; have hHeld := hHeld2; clear hHeld2; (try simp only [Act.put, zn1, zn2, zn3])
   refine ready_one (i := 8) rfl (by kernel_rfl) (fun K hK => ?_)
   go_simp
   refine (SameJobs_any A5 A6 c5 c6 x x _ HR5b.out HR6.out (by omega)).mono ?_
   rw [decide_eq_true rfl]
   rintro e x3 ⟨rfl, hb⟩
   refine hK.out _ _ ?_ (fun hHeld2 => ?_)
   ·(try dsimp only); first | exact Below.trans hHeld (Below.mono hb hHeld.size) | exact hHeld | exact Below.drew hHeld | exact bq2
   clear hK K hHeld; have hHeld := hHeld2; clear hHeld2; (try simp only [Act.put, zn1, zn2, zn3])
   refine tY (i := 9) (v := ?_) rfl ?_ hHeld ?_; rotate_left 1; focus (intro w' hSw; clear hSw; go_simp; try with_reducible rfl)
   (try simp only [Act.put, zn1, zn2, zn3])
   refine wpAnyH_done (by kernel_rfl) ?_ _
   go_wp2_with fail
   go_ret
   exact ⟨rfl, lift HB.out hHeld⟩
 ·go_enter Tryz.func5, Tryz.ntmps5
  go_wp2_with fail
  first | (refine wp_named ?_; intro W1 hW) | (refine calls_named ?_; intro W1 hW)
  have B1 : Below w.heap.size w W1 := by rw [hW]; exact bq2
  replace HG := Lib.hid (HG.out.at B1)
  replace HQ := Lib.hid (HQ.out.at B1)
  replace HFl := Lib.hid (HFl.out.at B1)
  have nw1 : w.heap.size < W1.heap.size := by rw [hW]; simp <;> omega
  have c0 : W1.cell? ⟨w.heap.size, 0, none⟩ = some (.slice An ns.length cn) := by rw [hW]; go_simp
  have c1 : W1.cell? ⟨w.heap.size, 1, none⟩ = some (.slice Ae es.length ce) := by rw [hW]; go_simp
  clear hW
  have HB := Lib.hid B1
  clear B1
  refine (shown_any W1).mono ?_
  rintro e w2 ⟨rfl, hb⟩
  replace c0 := cellAt c0 hb (by omega)
  replace c1 := cellAt c1 hb (by omega)
  replace HG := Lib.hid (HG.out.at hb)
  replace HQ := Lib.hid (HQ.out.at hb)
  replace HFl := Lib.hid (HFl.out.at hb)
  replace nw1 : w.heap.size < w2.heap.size := ltAt nw1 hb
  replace HB := Lib.hid (lift HB.out hb)
  clear hb
  go_wp2_with fail
  refine (small_any An Ae cn ce ns es w2).mono ?_
  rintro e w3 ⟨rfl, hb⟩
  replace c0 := cellAt c0 hb (by omega)
  replace c1 := cellAt c1 hb (by omega)
  replace HG := Lib.hid (HG.out.at hb)
  replace HQ := Lib.hid (HQ.out.at hb)
  replace HFl := Lib.hid (HFl.out.at hb)
  replace nw1 : w.heap.size < w3.heap.size := ltAt nw1 hb
  replace HB := Lib.hid (lift HB.out hb)
  clear hb
  cases hsm : smallB ns es
  ·go_wp2_with fail
   go_ret
   exact ⟨rfl, HB.out⟩
  ·go_wp2_with fail
   go_ret
   exact ⟨rfl, HB.out⟩
end Od
end Go.Proofs.YtmlogmcnblgnbaaGreat
end
