/- My texts, joined for the claim: RPairs RReach QIs15 QSound20 QWithW QLost20 QRise20 QReady20. -/
import Derived.Test.YtanfnejbnmenkaaGreatZB1
import Derived.Test.YtanfnejbnmenkaaGreatZQueueAM0x0
import Derived.Test.YtanfnejbnmenkaaGreatZB5
import Derived.Test.YtanfnejbnmenkaaGreatZB10
import Derived.Test.YtanfnejbnmenkaaGreatZB11
import Derived.Test.YtanfnejbnmenkaaGreatZB15

section
/- The walk of matinsref15.pairs: all pairs that edges say, rising, each once. -/
namespace Go.Proofs.YtanfnejbnmenkaaGreat
open Go.RowKit Go.Sort

namespace Od
/-- The pairs of the first j edges. -/
def accP (es : List Ed) (j : Nat) : List Pr := canon ltP ((es.take j).filterMap pairE)
theorem accP_zero (es : List Ed) : accP es 0 = [] := by simp [accP, canon]
theorem accP_all (es : List Ed) : accP es es.length = prsL es := by simp [accP, prsL]
theorem accP_none {es : List Ed} {j : Nat} (hj : j < es.length) (h : pairE es[j] = none) : accP es (j + 1) = accP es j := by
  unfold accP; rw [List.take_succ_eq_append_getElem hj, List.filterMap_append]; simp only [List.filterMap_cons, List.filterMap_nil, h, List.append_nil]
theorem accP_some {es : List Ed} {j : Nat} (hj : j < es.length) {p : Pr} (h : pairE es[j] = some p) : accP es (j + 1) = insL ltP p (accP es j) := by
  unfold accP; rw [List.take_succ_eq_append_getElem hj, List.filterMap_append]; simp only [List.filterMap_cons, List.filterMap_nil, h, canon, List.foldl_append, List.foldl_cons, List.foldl_nil]
theorem accP_len (es : List Ed) (j : Nat) : (accP es j).length ≤ es.length := by
  have h1 := canon_len (lt := ltP) ((es.take j).filterMap pairE)
  have h2 := List.length_filterMap_le pairE (es.take j)
  have h3 := List.length_take_le j es
  have h4 : (es.take j).length ≤ es.length := by rw [List.length_take]; omega
  unfold accP; omega
theorem prsC_take (l : List Pr) (k : Nat) : (prsC l).take (k * 2) = prsC (l.take k) := by
  induction l generalizing k with
  | nil => simp [prsC]
  | cons p l ih =>
    cases k with
    | zero => simp [prsC]
    | succ k => simp only [prsC, List.flatMap_cons, List.take_succ_cons, Nat.succ_mul]; rw [List.take_append, List.take_of_length_le (by rw [prC_len]; omega), prC_len, show k * 2 + 2 - 2 = k * 2 by omega]; have := ih k; simp only [prsC] at this; rw [this]
theorem prsC_drop (l : List Pr) (k : Nat) : (prsC l).drop (k * 2) = prsC (l.drop k) := by
  induction l generalizing k with
  | nil => simp [prsC]
  | cons p l ih =>
    cases k with
    | zero => simp [prsC]
    | succ k => simp only [prsC, List.flatMap_cons, List.drop_succ_cons, Nat.succ_mul]; rw [List.drop_append, List.drop_of_length_le (by rw [prC_len]; omega), prC_len, show k * 2 + 2 - 2 = k * 2 by omega]; have := ih k; simp only [prsC] at this; rw [this]; rfl
theorem one_prsC (l : List Pr) : ∀ u ∈ prsC l, u.oneCell' = true := fun u hu => by
  obtain ⟨p, _, h⟩ := List.mem_flatMap.1 hu
  simp [prC] at h; rcases h with rfl | rfl <;> rfl
theorem one_prC (p : Pr) : ∀ u ∈ prC p, u.oneCell' = true := fun u h => by
  simp [prC] at h; rcases h with rfl | rfl <;> rfl
theorem ltP_mk (a b x y : Str) : ltP (a, b) (x, y) = (Op.bytesLess a x || (a == x && Op.bytesLess b y)) := rfl

set_option maxRecDepth 100000 in
set_option maxHeartbeats 8000000 in
theorem pairs15_any (An Ae : Option Addr) (nn cn ce : Nat) (es : List Ed) (w : World) (hr : Rd w w.heap.size 3 Ae es.length (edsC es)) (hl : es.length ≤ 100000) :
    Calls Tryz.prog 78 #[gV An nn cn Ae es.length ce] w (RdNew 2 (prsL es).length (prsC (prsL es)) w) := by
  obtain ⟨i0, hi, hz0, hz1, hz2⟩ := info_parts inP2
  have Hr := Lib.hid hr
  have heq := p2_eq
  clear hr
  go_enter Tryz.func78, Tryz.ntmps78
  go_wp2_with fail
  first | (refine wp_named ?_; intro W1 hW) | (refine calls_named ?_; intro W1 hW)
  have B1 : Below w.heap.size w W1 := by rw [hW]; exact (by repeat (first | exact Below.refl _ _ | assumption | refine Below.alloc ?_ (by simp <;> omega) _ | refine Below.setCell ?_ (by simp <;> omega) _ | refine Below.drew ?_))
  replace Hr := Lib.hid (Hr.out.at B1)
  clear hW
  have HB1 := Lib.hid B1
  clear B1
  go_loopw [3, 11] (fun v i wr => ∃ (j : Nat) (A : Option Addr) (c : Nat), j ≤ es.length ∧ i = .int .i64 j ∧ v = .slice A (accP es j).length c ∧ (accP es j).length ≤ c ∧ Rd wr wr.heap.size 2 A (accP es j).length (prsC (accP es j)) ∧ FreshA w.heap.size A (accP es j).length ∧ Below W1.heap.size W1 wr) (fun _ i _ => es.length - (intOf i).toNat)
  case atStart => exact ⟨0, none, 0, Nat.zero_le _, rfl, by simp [accP_zero], by simp [accP_zero], by rw [accP_zero]; exact Rd.none_, fun h => absurd h (by simp [accP_zero]), Below.refl _ _⟩
  case round =>
    obtain ⟨j, A, c, hj, rfl, rfl, hc, hra, hfr, hb⟩ := hrel
    have HFr := Lib.hid hfr
    clear hfr
    obtain ⟨wo, rfl⟩ : ∃ wo : World, wo = wr := ⟨_, rfl⟩
    by_cases hlt : j < es.length
    · obtain ⟨b, o, rfl, hB, hc0, hc1, hc2⟩ := (Hr.out.at hb).edge hlt
      have HRa := Lib.hid hra
      have HB := Lib.hid hb
      have hal := accP_len es j
      generalize hx : es[j] = e at hc0 hc1 hc2
      obtain ⟨s, d, r⟩ := e
      have Hx := Lib.hid hx
      clear hx hra hb
      simp only at hc0 hc1 hc2
      by_cases h8 : r = 8
      · subst h8
        have hp : pairE es[j] = some (d, s) := by rw [Hx.out]; simp [pairE]
        have HN := Lib.hid (accP_some hlt hp)
        clear hp
        go_wp2_with fail
        first | (refine wp_named ?_; intro W2 hW) | (refine calls_named ?_; intro W2 hW)
        have B2 : Below wo.heap.size wo W2 := by rw [hW]; exact (by repeat (first | exact Below.refl _ _ | assumption | refine Below.alloc ?_ (by simp <;> omega) _ | refine Below.setCell ?_ (by simp <;> omega) _ | refine Below.drew ?_))
        replace HRa := Lib.hid (HRa.out.at B2)
        replace HB := Lib.hid (HB.out.trans (B2.mono HB.out.size))
        have n2 : (wo.heap.size + 1) < W2.heap.size := by rw [hW]; simp <;> omega
        have cp0 : W2.cell? ⟨wo.heap.size + 1, 0, none⟩ = some (sv d) := by rw [hW]; go_simp
        have cp1 : W2.cell? ⟨wo.heap.size + 1, 1, none⟩ = some (sv s) := by rw [hW]; go_simp
        clear hW
        clear B2
        generalize hacc : accP es j = acc at *
        have HAcc := Lib.hid hacc
        clear hacc
        have HSs := Lib.hid (show SS ltP acc by rw [← HAcc.out]; exact canon_ss toP _)
        go_loopw [7] (fun i wr => ∃ k : Nat, k ≤ acc.length ∧ i = .int .i64 k ∧ Hid (∀ q ∈ acc.take k, ltP q (d, s) = true) ∧ Below W2.heap.size W2 wr) (fun i _ => acc.length - (intOf i).toNat)
        case atStart => exact ⟨0, Nat.zero_le _, rfl, by simp [Hid], Below.refl _ _⟩
        case round =>
          obtain ⟨k, hk, rfl, hall, hbq⟩ := hrel
          replace cp0 := cellAt cp0 hbq (by omega)
          replace cp1 := cellAt cp1 hbq (by omega)
          replace HRa := Lib.hid (HRa.out.at hbq)
          replace HB := Lib.hid (HB.out.trans (hbq.mono HB.out.size))
          replace n2 : (wo.heap.size + 1) < wr.heap.size := ltAt n2 hbq
          by_cases hlt2 : k < acc.length
          · obtain ⟨b2, o2, hA, hB2, hq0, hq1⟩ := HRa.out.pair hlt2
            subst hA
            generalize hq : acc[k] = q at hq0 hq1
            obtain ⟨a1, a2⟩ := q
            have Hq := Lib.hid hq
            clear hq
            simp only at hq0 hq1
            cases l1 : Op.bytesLess a1 d
            · cases l2 : (a1 == d)
              · have hge : ∀ h : k < acc.length, ltP acc[k] (d, s) = false := fun _ => by rw [Hq.out, ltP_mk]; simp [l1, l2]
                have hne : ¬ acc[k]? = some (d, s) := by rw [List.getElem?_eq_getElem hlt2, Hq.out]; intro e; injection e with e; injection e with e1 e2; rw [e1] at l2; simp at l2
                have Hge := Lib.hid (And.intro hge hne)
                clear hge hne
                try go_wp2_with fail
                refine wp_region_held_drew (S := fun w' => Below wr.heap.size wr w') (by kernel_rfl) (Below.drew (Below.refl _ _)) (fun hHeld => ?_)
                refine tY (i := 0) (v := ?_) rfl ?_ hHeld ?_; rotate_left 1; focus (intro w' hSw; clear hSw; go_simp; try with_reducible rfl)
                (try simp only [Act.put, zn1, zn2, zn3])
                refine tY (i := 1) (v := ?_) rfl ?_ hHeld ?_; rotate_left 1; focus (intro w' hSw; clear hSw; go_simp; try with_reducible rfl)
                (try simp only [Act.put, zn1, zn2, zn3])
                refine tY (i := 2) (v := ?_) rfl ?_ hHeld ?_; rotate_left 1; focus (intro w' hSw; clear hSw; go_simp; try with_reducible rfl)
                (try simp only [Act.put, zn1, zn2, zn3])
                refine tY (i := 3) (v := ?_) rfl ?_ hHeld ?_; rotate_left 1; focus (intro w' hSw; clear hSw; go_simp; try with_reducible rfl)
                (try simp only [Act.put, zn1, zn2, zn3])
                refine tY (i := 4) (v := ?_) rfl ?_ hHeld ?_; rotate_left 1; focus (intro w' hSw; clear hSw; go_simp; try with_reducible rfl)
                (try simp only [Act.put, zn1, zn2, zn3])
                refine tY (i := 5) (v := ?_) rfl ?_ hHeld ?_; rotate_left 1; focus (intro w' hSw; clear hSw; go_simp; try with_reducible rfl)
                (try simp only [Act.put, zn1, zn2, zn3])
                refine tY (i := 6) (v := ?_) rfl ?_ hHeld ?_; rotate_left 1; focus (intro w' hSw; clear hSw; go_simp; try with_reducible rfl)
                (try simp only [Act.put, zn1, zn2, zn3])
                refine tY (i := 7) (v := ?_) rfl ?_ hHeld ?_; rotate_left 1; focus (intro w' hSw; clear hSw; go_simp; try with_reducible rfl)
                (try simp only [Act.put, zn1, zn2, zn3])
                refine tY (i := 8) (v := ?_) rfl ?_ hHeld ?_; rotate_left 1; focus (intro w' hSw; clear hSw; go_simp; try with_reducible rfl)
                (try simp only [Act.put, zn1, zn2, zn3])
                refine tY (i := 9) (v := ?_) rfl ?_ hHeld ?_; rotate_left 1; focus (intro w' hSw; have hCell := fun (b o : Nat) (h : b < wr.heap.size) => hSw.cell (p := ⟨b, o, none⟩) h; clear hSw; go_simp; try with_reducible rfl)
                (try simp only [Act.put, zn1, zn2, zn3])
                refine tY (i := 10) (v := ?_) rfl ?_ hHeld ?_; rotate_left 1; focus (intro w' hSw; clear hSw; go_simp; try with_reducible rfl)
                (try simp only [Act.put, zn1, zn2, zn3])
                refine tY (i := 11) (v := ?_) rfl ?_ hHeld ?_; rotate_left 1; focus (intro w' hSw; have hCell := fun (b o : Nat) (h : b < wr.heap.size) => hSw.cell (p := ⟨b, o, none⟩) h; clear hSw; go_simp; try with_reducible rfl)
                (try simp only [Act.put, zn1, zn2, zn3])
                refine tY (i := 12) (v := ?_) rfl ?_ hHeld ?_; rotate_left 1; focus (intro w' hSw; clear hSw; go_simp; try with_reducible rfl)
                (try simp only [Act.put, zn1, zn2, zn3])
                refine tY (i := 13) (v := ?_) rfl ?_ hHeld ?_; rotate_left 1; focus (intro w' hSw; clear hSw; go_simp; try with_reducible rfl)
                (try simp only [Act.put, zn1, zn2, zn3])
                refine tY (i := 14) (v := ?_) rfl ?_ hHeld ?_; rotate_left 1; focus (intro w' hSw; clear hSw; go_simp; try with_reducible rfl)
                (try simp only [Act.put, zn1, zn2, zn3])
                refine tY (i := 15) (v := ?_) rfl ?_ hHeld ?_; rotate_left 1; focus (intro w' hSw; clear hSw; go_simp; try with_reducible rfl)
                (try simp only [Act.put, zn1, zn2, zn3])
                refine tY (i := 16) (v := ?_) rfl ?_ hHeld ?_; rotate_left 1; focus (intro w' hSw; clear hSw; go_simp; try with_reducible rfl)
                (try simp only [Act.put, zn1, zn2, zn3])
                refine tY (i := 17) (v := ?_) rfl ?_ hHeld ?_; rotate_left 1; focus (intro w' hSw; clear hSw; go_simp; try with_reducible rfl)
                (try simp only [Act.put, zn1, zn2, zn3])
                refine tY (i := 18) (v := ?_) rfl ?_ hHeld ?_; rotate_left 1; focus (intro w' hSw; have hCell := fun (b o : Nat) (h : b < wr.heap.size) => hSw.cell (p := ⟨b, o, none⟩) h; clear hSw; go_simp; try with_reducible rfl)
                (try simp only [Act.put, zn1, zn2, zn3])
                refine tY (i := 19) (v := ?_) rfl ?_ hHeld ?_; rotate_left 1; focus (intro w' hSw; clear hSw; go_simp; try with_reducible rfl)
                (try simp only [Act.put, zn1, zn2, zn3])
                refine tY (i := 20) (v := ?_) rfl ?_ hHeld ?_; rotate_left 1; focus (intro w' hSw; have hCell := fun (b o : Nat) (h : b < wr.heap.size) => hSw.cell (p := ⟨b, o, none⟩) h; clear hSw; go_simp; try with_reducible rfl)
                (try simp only [Act.put, zn1, zn2, zn3])
                refine tY (i := 21) (v := ?_) rfl ?_ hHeld ?_; rotate_left 1; focus (intro w' hSw; clear hSw; go_simp; try with_reducible rfl)
                (try simp only [Act.put, zn1, zn2, zn3])
                refine tY (i := 22) (v := ?_) rfl ?_ hHeld ?_; rotate_left 1; focus (intro w' hSw; clear hSw; go_simp; try with_reducible rfl)
                (try simp only [Act.put, zn1, zn2, zn3])
                refine tS (i := 23) rfl hHeld ?_; (try simp only [Act.put, zn1, zn2, zn3])
                refine tS (i := 24) rfl hHeld ?_; (try simp only [Act.put, zn1, zn2, zn3])
                refine tS (i := 25) rfl hHeld ?_; (try simp only [Act.put, zn1, zn2, zn3])
                refine tS (i := 26) rfl hHeld ?_; (try simp only [Act.put, zn1, zn2, zn3])
                refine tS (i := 27) rfl hHeld ?_; (try simp only [Act.put, zn1, zn2, zn3])
                refine tS (i := 28) rfl hHeld ?_; (try simp only [Act.put, zn1, zn2, zn3])
                refine tS (i := 29) rfl hHeld ?_; (try simp only [Act.put, zn1, zn2, zn3])
                refine tS (i := 30) rfl hHeld ?_; (try simp only [Act.put, zn1, zn2, zn3])
                refine tY (i := 31) (v := ?_) rfl ?_ hHeld ?_; rotate_left 1; focus (intro w' hSw; clear hSw; go_simp; try with_reducible rfl)
                (try simp only [Act.put, zn1, zn2, zn3])
                refine tY (i := 32) (v := ?_) rfl ?_ hHeld ?_; rotate_left 1; focus (intro w' hSw; clear hSw; go_simp; try with_reducible rfl)
                (try simp only [Act.put, zn1, zn2, zn3])
                refine tY (i := 33) (v := ?_) rfl ?_ hHeld ?_; rotate_left 1; focus (intro w' hSw; clear hSw; go_simp; try with_reducible rfl)
                (try simp only [Act.put, zn1, zn2, zn3])
                refine wpAnyH_done (by kernel_rfl) ?_ _
                replace cp0 := cellAt cp0 hHeld (by omega)
                replace cp1 := cellAt cp1 hHeld (by omega)
                replace hq0 := cellAt hq0 hHeld (by omega)
                replace hq1 := cellAt hq1 hHeld (by omega)
                replace HRa := Lib.hid (HRa.out.at hHeld)
                replace HB := Lib.hid (HB.out.trans (hHeld.mono HB.out.size))
                replace n2 : (wo.heap.size + 1) < wr.drew.heap.size := ltAt n2 hHeld
                replace hB2 : b2 < wr.drew.heap.size := ltAt hB2 hHeld
                go_wp2_with fail
                first | (refine wp_named ?_; intro W3 hW) | (refine calls_named ?_; intro W3 hW)
                have B3 : Below wr.drew.heap.size wr.drew W3 := by rw [hW]; exact (by repeat (first | exact Below.refl _ _ | assumption | refine Below.alloc ?_ (by simp <;> omega) _ | refine Below.setCell ?_ (by simp <;> omega) _ | refine Below.drew ?_))
                replace cp0 := cellAt cp0 B3 (by omega)
                replace cp1 := cellAt cp1 B3 (by omega)
                replace hq0 := cellAt hq0 B3 (by omega)
                replace hq1 := cellAt hq1 B3 (by omega)
                replace HRa := Lib.hid (HRa.out.at B3)
                replace HB := Lib.hid (HB.out.trans (B3.mono HB.out.size))
                replace n2 : (wo.heap.size + 1) < W3.heap.size := ltAt n2 B3
                replace hB2 : b2 < W3.heap.size := ltAt hB2 B3
                clear hW
                clear B3
                try go_wp2_with fail
                refine wp_region_held_drew (S := fun w' => Below W3.heap.size W3 w') (by kernel_rfl) (Below.drew (Below.refl _ _)) (fun hHeld => ?_)
                refine tY (i := 0) (v := ?_) rfl ?_ hHeld ?_; rotate_left 1; focus (intro w' hSw; clear hSw; go_simp; try with_reducible rfl)
                (try simp only [Act.put, zn1, zn2, zn3])
                refine tY (i := 1) (v := ?_) rfl ?_ hHeld ?_; rotate_left 1; focus (intro w' hSw; clear hSw; go_simp; try with_reducible rfl)
                (try simp only [Act.put, zn1, zn2, zn3])
                refine tY (i := 2) (v := ?_) rfl ?_ hHeld ?_; rotate_left 1; focus (intro w' hSw; clear hSw; go_simp; try with_reducible rfl)
                (try simp only [Act.put, zn1, zn2, zn3])
                refine tY (i := 3) (v := ?_) rfl ?_ hHeld ?_; rotate_left 1; focus (intro w' hSw; clear hSw; go_simp; try with_reducible rfl)
                (try simp only [Act.put, zn1, zn2, zn3])
                refine tY (i := 4) (v := ?_) rfl ?_ hHeld ?_; rotate_left 1; focus (intro w' hSw; clear hSw; go_simp; try with_reducible rfl)
                (try simp only [Act.put, zn1, zn2, zn3])
                refine tY (i := 5) (v := ?_) rfl ?_ hHeld ?_; rotate_left 1; focus (intro w' hSw; clear hSw; go_simp; try with_reducible rfl)
                (try simp only [Act.put, zn1, zn2, zn3])
                refine tY (i := 6) (v := ?_) rfl ?_ hHeld ?_; rotate_left 1; focus (intro w' hSw; clear hSw; go_simp; try with_reducible rfl)
                (try simp only [Act.put, zn1, zn2, zn3])
                refine tY (i := 7) (v := ?_) rfl ?_ hHeld ?_; rotate_left 1; focus (intro w' hSw; clear hSw; go_simp; try with_reducible rfl)
                (try simp only [Act.put, zn1, zn2, zn3])
                refine tY (i := 8) (v := ?_) rfl ?_ hHeld ?_; rotate_left 1; focus (intro w' hSw; have hCell := fun (b o : Nat) (h : b < W3.heap.size) => hSw.cell (p := ⟨b, o, none⟩) h; clear hSw; go_simp; try with_reducible rfl)
                (try simp only [Act.put, zn1, zn2, zn3])
                refine tY (i := 9) (v := ?_) rfl ?_ hHeld ?_; rotate_left 1; focus (intro w' hSw; have hCell := fun (b o : Nat) (h : b < W3.heap.size) => hSw.cell (p := ⟨b, o, none⟩) h; clear hSw; go_simp; try with_reducible rfl)
                (try simp only [Act.put, zn1, zn2, zn3])
                refine tY (i := 10) (v := ?_) rfl ?_ hHeld ?_; rotate_left 1; focus (intro w' hSw; clear hSw; go_simp; try with_reducible rfl)
                (try simp only [Act.put, zn1, zn2, zn3])
                refine tY (i := 11) (v := ?_) rfl ?_ hHeld ?_; rotate_left 1; focus (intro w' hSw; clear hSw; go_simp; try with_reducible rfl)
                (try simp only [Act.put, zn1, zn2, zn3])
                refine wpAnyH_done (by kernel_rfl) ?_ _
                replace cp0 := cellAt cp0 hHeld (by omega)
                replace cp1 := cellAt cp1 hHeld (by omega)
                replace hq0 := cellAt hq0 hHeld (by omega)
                replace hq1 := cellAt hq1 hHeld (by omega)
                replace HRa := Lib.hid (HRa.out.at hHeld)
                replace HB := Lib.hid (HB.out.trans (hHeld.mono HB.out.size))
                replace n2 : (wo.heap.size + 1) < W3.drew.heap.size := ltAt n2 hHeld
                replace hB2 : b2 < W3.drew.heap.size := ltAt hB2 hHeld
                go_wp2_with fail
                obtain ⟨hge, hne⟩ := Hge.out
                have hins : insL ltP (d, s) acc = acc.take k ++ (d, s) :: acc.drop k := by rw [insL_cut acc k hk hall hge, if_neg hne]
                have HI := Lib.hid hins
                first | (refine wp_named ?_; intro W4 hW) | (refine calls_named ?_; intro W4 hW)
                have B4 : Below W3.drew.heap.size W3.drew W4 := by rw [hW]; exact (by repeat (first | exact Below.refl _ _ | assumption | refine Below.alloc ?_ (by simp <;> omega) _ | refine Below.setCell ?_ (by simp <;> omega) _ | refine Below.drew ?_))
                replace cp0 := cellAt cp0 B4 (by omega)
                replace cp1 := cellAt cp1 B4 (by omega)
                replace hq0 := cellAt hq0 B4 (by omega)
                replace hq1 := cellAt hq1 B4 (by omega)
                replace HRa := Lib.hid (HRa.out.at B4)
                replace HB := Lib.hid (HB.out.trans (B4.mono HB.out.size))
                replace n2 : (wo.heap.size + 1) < W4.heap.size := ltAt n2 B4
                replace hB2 : b2 < W4.heap.size := ltAt hB2 B4
                clear hW
                clear B4 hins hge hne
                have hz4 := Nat.le_trans HB1.out.size HB.out.size
                have HR1 := Lib.hid (HRa.out.takeA hk)
                have HR2 := Lib.hid (HRa.out.dropA hk hc)
                have hs1 := run_slice_full (P := Tryz.prog) Tryz.underlying102 hi (some ⟨b2, o2, none⟩) acc.length c k (Nat.le_trans hk hc)
                have hs2 := run_slice_tail (P := Tryz.prog) Tryz.underlying102 hi (some ⟨b2, o2, none⟩) acc.length c k hk
                rw [hz1] at hs1 hs2
                have HLk := Lib.hid (show (acc.drop k).length = acc.length - k from List.length_drop)
                try go_wp2_with fail
                refine wp_region_held_drew (S := fun w' => Below W4.heap.size W4 w') (by kernel_rfl) (Below.drew (Below.refl _ _)) (fun hHeld => ?_)
                refine tY (i := 0) (v := ?_) rfl ?_ hHeld ?_; rotate_left 1; focus (intro w' hSw; clear hSw; go_simp; try with_reducible rfl)
                (try simp only [Act.put, zn1, zn2, zn3])
                refine tY (i := 1) (v := ?_) rfl ?_ hHeld ?_; rotate_left 1; focus (intro w' hSw; clear hSw; go_simp; try with_reducible rfl)
                (try simp only [Act.put, zn1, zn2, zn3])
                refine tY (i := 2) (v := ?_) rfl ?_ hHeld ?_; rotate_left 1; focus (intro w' hSw; clear hSw; go_simp; try with_reducible rfl)
                (try simp only [Act.put, zn1, zn2, zn3])
                refine tY (i := 3) (v := ?_) rfl ?_ hHeld ?_; rotate_left 1; focus (intro w' hSw; clear hSw; go_simp; try with_reducible rfl)
                (try simp only [Act.put, zn1, zn2, zn3])
                refine tY (i := 4) (v := ?_) rfl ?_ hHeld ?_; rotate_left 1; focus (intro w' hSw; have hCell := fun (b o : Nat) (h : b < W4.heap.size) => hSw.cell (p := ⟨b, o, none⟩) h; clear hSw; go_simp; try with_reducible rfl)
                (try simp only [Act.put, zn1, zn2, zn3])
                refine tY (i := 6) (v := ?_) rfl ?_ hHeld ?_; rotate_left 1; focus (intro w' hSw; clear hSw; go_simp; try with_reducible rfl)
                (try simp only [Act.put, zn1, zn2, zn3])
                refine tY (i := 7) (v := ?_) rfl ?_ hHeld ?_; rotate_left 1; focus (intro w' hSw; clear hSw; go_simp; try with_reducible rfl)
                (try simp only [Act.put, zn1, zn2, zn3])
                refine tY (i := 8) (v := ?_) rfl ?_ hHeld ?_; rotate_left 1; focus (intro w' hSw; clear hSw; go_simp; try with_reducible rfl)
                (try simp only [Act.put, zn1, zn2, zn3])
                refine ready_one (i := 5) rfl (by kernel_rfl) (fun K hK => ?_)
                go_simp
                refine hK.out _ _ ?_ (fun hHeld2 => ?_)
                · (try dsimp only); first | exact hHeld | exact (by repeat (first | exact Below.refl _ _ | assumption | refine Below.alloc ?_ (by simp <;> omega) _ | refine Below.setCell ?_ (by simp <;> omega) _ | refine Below.drew ?_))
                clear hK K hHeld; have hHeld := hHeld2; clear hHeld2; (try simp only [Act.put, zn1, zn2, zn3])
                refine ready_one (i := 9) rfl (by kernel_rfl) (fun K hK => ?_)
                refine step_append_full (by rfl) (.tmp 89) (.tmp 92) 102 (by rfl) 104 i0 _ 2 32 Tryz.underlying102 hi hz0 hz1 hz2 rfl _ (some ⟨W4.heap.size, 0, none⟩) 1 (prC (d, s)) (by rfl) (Rd.lit W4.drew (prC (d, s)) 104 2 1 rfl) (Nat.le_refl _) _ _ (acc.length - k) (c - k) _ (by rfl) (HR2.out.at' (Nat.le_refl _) hHeld) (one_drop (one_prsC acc) _) (by unfold maxLen; omega) (by omega) ?_
                intro A2 c2 v2 hc2 hr2 hb
                have HR3 := Lib.hid hr2
                clear hr2
                refine hK.out _ _ ?_ (fun hHeld2 => ?_)
                · (try dsimp only); first | exact Below.trans hHeld (Below.mono hb hHeld.size) | exact hHeld | exact Below.drew hHeld | exact (by repeat (first | exact Below.refl _ _ | assumption | refine Below.alloc ?_ (by simp <;> omega) _ | refine Below.setCell ?_ (by simp <;> omega) _ | refine Below.drew ?_))
                clear hK K hHeld; have hHeld := hHeld2; clear hHeld2; (try simp only [Act.put, zn1, zn2, zn3])
                refine ready_one (i := 10) rfl (by kernel_rfl) (fun K hK => ?_)
                refine step_append_fresh (by rfl) (.tmp 87) (.tmp 93) 102 (by rfl) 104 i0 _ 2 32 Tryz.underlying102 hi hz0 hz1 hz2 rfl _ _ k _ (by rfl) (HR1.out.at' (Nat.le_refl _) hHeld) (Nat.le_refl _) _ A2 (1 + (acc.length - k)) c2 _ (by rfl) HR3.out (one_app (one_prC _) (one_drop (one_prsC acc) _)) (by unfold maxLen; omega) (by omega) ?_
                intro A3 c3 v3 hc3 hr3 hb hf3
                have hz5 := Nat.le_trans hz4 hHeld.size
                have HR4 := Lib.hid hr3
                clear hr3
                refine hK.out _ _ ?_ (fun hHeld2 => ?_)
                · (try dsimp only); first | exact Below.trans hHeld (Below.mono hb hHeld.size) | exact hHeld | exact Below.drew hHeld | exact (by repeat (first | exact Below.refl _ _ | assumption | refine Below.alloc ?_ (by simp <;> omega) _ | refine Below.setCell ?_ (by simp <;> omega) _ | refine Below.drew ?_))
                clear hK K hHeld; have hHeld := hHeld2; clear hHeld2; (try simp only [Act.put, zn1, zn2, zn3])
                refine tY (i := 11) (v := ?_) rfl ?_ hHeld ?_; rotate_left 1; focus (intro w' hSw; clear hSw; go_simp; try with_reducible rfl)
                (try simp only [Act.put, zn1, zn2, zn3])
                refine wpAnyH_done (by kernel_rfl) ?_ _
                replace cp0 := cellAt cp0 hHeld (by omega)
                replace cp1 := cellAt cp1 hHeld (by omega)
                replace hq0 := cellAt hq0 hHeld (by omega)
                replace hq1 := cellAt hq1 hHeld (by omega)
                replace HRa := Lib.hid (HRa.out.at hHeld)
                replace HB := Lib.hid (HB.out.trans (hHeld.mono HB.out.size))
                replace n2 : (wo.heap.size + 1) < v3.heap.size := ltAt n2 hHeld
                replace hB2 : b2 < v3.heap.size := ltAt hB2 hHeld
                clear hs1 hs2
                go_wp2_with fail
                go_roundw
                case rel =>
                  have hlen : k + (1 + (acc.length - k)) = (accP es (j + 1)).length := by rw [HN.out, HI.out, List.length_append, List.length_cons, List.length_take, HLk.out]; omega
                  refine ⟨j + 1, A3, c3, by omega, by go_num, by rw [hlen], by rw [← hlen]; exact hc3, ?_, fun _ ad e => Nat.le_trans hz5 (hf3 (by omega) ad e), HB.out⟩
                  have h4 := HR4.out
                  rw [hlen] at h4
                  have hx : (prsC acc).take (k * 2) ++ (prC (d, s) ++ (prsC acc).drop (k * 2)) = prsC (accP es (j + 1)) := by rw [HN.out, HI.out, prsC_take, prsC_drop]; simp [prsC]
                  rw [hx] at h4
                  exact h4
                case measure => simp [intOf]; omega
              · cases l3 : Op.bytesLess a2 s
                · have hge : ∀ h : k < acc.length, ltP acc[k] (d, s) = false := fun _ => by rw [Hq.out, ltP_mk]; simp [l1, l3]
                  have Hge := Lib.hid hge
                  clear hge
                  cases l4 : (a2 == s)
                  · have hne : ¬ acc[k]? = some (d, s) := by rw [List.getElem?_eq_getElem hlt2, Hq.out]; intro e; injection e with e; injection e with e1 e2; rw [e2] at l4; simp at l4
                    have Hne := Lib.hid hne
                    clear hne
                    try go_wp2_with fail
                    refine wp_region_held_drew (S := fun w' => Below wr.heap.size wr w') (by kernel_rfl) (Below.drew (Below.refl _ _)) (fun hHeld => ?_)
                    refine tY (i := 0) (v := ?_) rfl ?_ hHeld ?_; rotate_left 1; focus (intro w' hSw; clear hSw; go_simp; try with_reducible rfl)
                    (try simp only [Act.put, zn1, zn2, zn3])
                    refine tY (i := 1) (v := ?_) rfl ?_ hHeld ?_; rotate_left 1; focus (intro w' hSw; clear hSw; go_simp; try with_reducible rfl)
                    (try simp only [Act.put, zn1, zn2, zn3])
                    refine tY (i := 2) (v := ?_) rfl ?_ hHeld ?_; rotate_left 1; focus (intro w' hSw; clear hSw; go_simp; try with_reducible rfl)
                    (try simp only [Act.put, zn1, zn2, zn3])
                    refine tY (i := 3) (v := ?_) rfl ?_ hHeld ?_; rotate_left 1; focus (intro w' hSw; clear hSw; go_simp; try with_reducible rfl)
                    (try simp only [Act.put, zn1, zn2, zn3])
                    refine tY (i := 4) (v := ?_) rfl ?_ hHeld ?_; rotate_left 1; focus (intro w' hSw; clear hSw; go_simp; try with_reducible rfl)
                    (try simp only [Act.put, zn1, zn2, zn3])
                    refine tY (i := 5) (v := ?_) rfl ?_ hHeld ?_; rotate_left 1; focus (intro w' hSw; clear hSw; go_simp; try with_reducible rfl)
                    (try simp only [Act.put, zn1, zn2, zn3])
                    refine tY (i := 6) (v := ?_) rfl ?_ hHeld ?_; rotate_left 1; focus (intro w' hSw; clear hSw; go_simp; try with_reducible rfl)
                    (try simp only [Act.put, zn1, zn2, zn3])
                    refine tY (i := 7) (v := ?_) rfl ?_ hHeld ?_; rotate_left 1; focus (intro w' hSw; clear hSw; go_simp; try with_reducible rfl)
                    (try simp only [Act.put, zn1, zn2, zn3])
                    refine tY (i := 8) (v := ?_) rfl ?_ hHeld ?_; rotate_left 1; focus (intro w' hSw; clear hSw; go_simp; try with_reducible rfl)
                    (try simp only [Act.put, zn1, zn2, zn3])
                    refine tY (i := 9) (v := ?_) rfl ?_ hHeld ?_; rotate_left 1; focus (intro w' hSw; have hCell := fun (b o : Nat) (h : b < wr.heap.size) => hSw.cell (p := ⟨b, o, none⟩) h; clear hSw; go_simp; try with_reducible rfl)
                    (try simp only [Act.put, zn1, zn2, zn3])
                    refine tY (i := 10) (v := ?_) rfl ?_ hHeld ?_; rotate_left 1; focus (intro w' hSw; clear hSw; go_simp; try with_reducible rfl)
                    (try simp only [Act.put, zn1, zn2, zn3])
                    refine tY (i := 11) (v := ?_) rfl ?_ hHeld ?_; rotate_left 1; focus (intro w' hSw; have hCell := fun (b o : Nat) (h : b < wr.heap.size) => hSw.cell (p := ⟨b, o, none⟩) h; clear hSw; go_simp; try with_reducible rfl)
                    (try simp only [Act.put, zn1, zn2, zn3])
                    refine tY (i := 12) (v := ?_) rfl ?_ hHeld ?_; rotate_left 1; focus (intro w' hSw; clear hSw; go_simp; try with_reducible rfl)
                    (try simp only [Act.put, zn1, zn2, zn3])
                    refine tY (i := 13) (v := ?_) rfl ?_ hHeld ?_; rotate_left 1; focus (intro w' hSw; clear hSw; go_simp; try with_reducible rfl)
                    (try simp only [Act.put, zn1, zn2, zn3])
                    refine tY (i := 14) (v := ?_) rfl ?_ hHeld ?_; rotate_left 1; focus (intro w' hSw; clear hSw; go_simp; try with_reducible rfl)
                    (try simp only [Act.put, zn1, zn2, zn3])
                    refine tY (i := 15) (v := ?_) rfl ?_ hHeld ?_; rotate_left 1; focus (intro w' hSw; clear hSw; go_simp; try with_reducible rfl)
                    (try simp only [Act.put, zn1, zn2, zn3])
                    refine tY (i := 16) (v := ?_) rfl ?_ hHeld ?_; rotate_left 1; focus (intro w' hSw; clear hSw; go_simp; try with_reducible rfl)
                    (try simp only [Act.put, zn1, zn2, zn3])
                    refine tY (i := 17) (v := ?_) rfl ?_ hHeld ?_; rotate_left 1; focus (intro w' hSw; clear hSw; go_simp; try with_reducible rfl)
                    (try simp only [Act.put, zn1, zn2, zn3])
                    refine tY (i := 18) (v := ?_) rfl ?_ hHeld ?_; rotate_left 1; focus (intro w' hSw; have hCell := fun (b o : Nat) (h : b < wr.heap.size) => hSw.cell (p := ⟨b, o, none⟩) h; clear hSw; go_simp; try with_reducible rfl)
                    (try simp only [Act.put, zn1, zn2, zn3])
                    refine tY (i := 19) (v := ?_) rfl ?_ hHeld ?_; rotate_left 1; focus (intro w' hSw; clear hSw; go_simp; try with_reducible rfl)
                    (try simp only [Act.put, zn1, zn2, zn3])
                    refine tY (i := 20) (v := ?_) rfl ?_ hHeld ?_; rotate_left 1; focus (intro w' hSw; have hCell := fun (b o : Nat) (h : b < wr.heap.size) => hSw.cell (p := ⟨b, o, none⟩) h; clear hSw; go_simp; try with_reducible rfl)
                    (try simp only [Act.put, zn1, zn2, zn3])
                    refine tY (i := 21) (v := ?_) rfl ?_ hHeld ?_; rotate_left 1; focus (intro w' hSw; clear hSw; go_simp; try with_reducible rfl)
                    (try simp only [Act.put, zn1, zn2, zn3])
                    refine tY (i := 22) (v := ?_) rfl ?_ hHeld ?_; rotate_left 1; focus (intro w' hSw; clear hSw; go_simp; try with_reducible rfl)
                    (try simp only [Act.put, zn1, zn2, zn3])
                    refine tY (i := 23) (v := ?_) rfl ?_ hHeld ?_; rotate_left 1; focus (intro w' hSw; clear hSw; go_simp; try with_reducible rfl)
                    (try simp only [Act.put, zn1, zn2, zn3])
                    refine tY (i := 24) (v := ?_) rfl ?_ hHeld ?_; rotate_left 1; focus (intro w' hSw; clear hSw; go_simp; try with_reducible rfl)
                    (try simp only [Act.put, zn1, zn2, zn3])
                    refine tY (i := 25) (v := ?_) rfl ?_ hHeld ?_; rotate_left 1; focus (intro w' hSw; clear hSw; go_simp; try with_reducible rfl)
                    (try simp only [Act.put, zn1, zn2, zn3])
                    refine tY (i := 26) (v := ?_) rfl ?_ hHeld ?_; rotate_left 1; focus (intro w' hSw; clear hSw; go_simp; try with_reducible rfl)
                    (try simp only [Act.put, zn1, zn2, zn3])
                    refine tY (i := 27) (v := ?_) rfl ?_ hHeld ?_; rotate_left 1; focus (intro w' hSw; have hCell := fun (b o : Nat) (h : b < wr.heap.size) => hSw.cell (p := ⟨b, o, none⟩) h; clear hSw; go_simp; try with_reducible rfl)
                    (try simp only [Act.put, zn1, zn2, zn3])
                    refine tY (i := 28) (v := ?_) rfl ?_ hHeld ?_; rotate_left 1; focus (intro w' hSw; clear hSw; go_simp; try with_reducible rfl)
                    (try simp only [Act.put, zn1, zn2, zn3])
                    refine tY (i := 29) (v := ?_) rfl ?_ hHeld ?_; rotate_left 1; focus (intro w' hSw; have hCell := fun (b o : Nat) (h : b < wr.heap.size) => hSw.cell (p := ⟨b, o, none⟩) h; clear hSw; go_simp; try with_reducible rfl)
                    (try simp only [Act.put, zn1, zn2, zn3])
                    refine tY (i := 30) (v := ?_) rfl ?_ hHeld ?_; rotate_left 1; focus (intro w' hSw; clear hSw; go_simp; try with_reducible rfl)
                    (try simp only [Act.put, zn1, zn2, zn3])
                    refine tY (i := 31) (v := ?_) rfl ?_ hHeld ?_; rotate_left 1; focus (intro w' hSw; clear hSw; go_simp; try with_reducible rfl)
                    (try simp only [Act.put, zn1, zn2, zn3])
                    refine tY (i := 32) (v := ?_) rfl ?_ hHeld ?_; rotate_left 1; focus (intro w' hSw; clear hSw; go_simp; try with_reducible rfl)
                    (try simp only [Act.put, zn1, zn2, zn3])
                    refine tY (i := 33) (v := ?_) rfl ?_ hHeld ?_; rotate_left 1; focus (intro w' hSw; clear hSw; go_simp; try with_reducible rfl)
                    (try simp only [Act.put, zn1, zn2, zn3])
                    refine wpAnyH_done (by kernel_rfl) ?_ _
                    replace cp0 := cellAt cp0 hHeld (by omega)
                    replace cp1 := cellAt cp1 hHeld (by omega)
                    replace hq0 := cellAt hq0 hHeld (by omega)
                    replace hq1 := cellAt hq1 hHeld (by omega)
                    replace HRa := Lib.hid (HRa.out.at hHeld)
                    replace HB := Lib.hid (HB.out.trans (hHeld.mono HB.out.size))
                    replace n2 : (wo.heap.size + 1) < wr.drew.heap.size := ltAt n2 hHeld
                    replace hB2 : b2 < wr.drew.heap.size := ltAt hB2 hHeld
                    go_wp2_with fail
                    first | (refine wp_named ?_; intro W3 hW) | (refine calls_named ?_; intro W3 hW)
                    have B3 : Below wr.drew.heap.size wr.drew W3 := by rw [hW]; exact (by repeat (first | exact Below.refl _ _ | assumption | refine Below.alloc ?_ (by simp <;> omega) _ | refine Below.setCell ?_ (by simp <;> omega) _ | refine Below.drew ?_))
                    replace cp0 := cellAt cp0 B3 (by omega)
                    replace cp1 := cellAt cp1 B3 (by omega)
                    replace hq0 := cellAt hq0 B3 (by omega)
                    replace hq1 := cellAt hq1 B3 (by omega)
                    replace HRa := Lib.hid (HRa.out.at B3)
                    replace HB := Lib.hid (HB.out.trans (B3.mono HB.out.size))
                    replace n2 : (wo.heap.size + 1) < W3.heap.size := ltAt n2 B3
                    replace hB2 : b2 < W3.heap.size := ltAt hB2 B3
                    clear hW
                    clear B3
                    try go_wp2_with fail
                    refine wp_region_held_drew (S := fun w' => Below W3.heap.size W3 w') (by kernel_rfl) (Below.drew (Below.refl _ _)) (fun hHeld => ?_)
                    refine tY (i := 0) (v := ?_) rfl ?_ hHeld ?_; rotate_left 1; focus (intro w' hSw; clear hSw; go_simp; try with_reducible rfl)
                    (try simp only [Act.put, zn1, zn2, zn3])
                    refine tY (i := 1) (v := ?_) rfl ?_ hHeld ?_; rotate_left 1; focus (intro w' hSw; clear hSw; go_simp; try with_reducible rfl)
                    (try simp only [Act.put, zn1, zn2, zn3])
                    refine tY (i := 2) (v := ?_) rfl ?_ hHeld ?_; rotate_left 1; focus (intro w' hSw; clear hSw; go_simp; try with_reducible rfl)
                    (try simp only [Act.put, zn1, zn2, zn3])
                    refine tY (i := 3) (v := ?_) rfl ?_ hHeld ?_; rotate_left 1; focus (intro w' hSw; clear hSw; go_simp; try with_reducible rfl)
                    (try simp only [Act.put, zn1, zn2, zn3])
                    refine tY (i := 4) (v := ?_) rfl ?_ hHeld ?_; rotate_left 1; focus (intro w' hSw; clear hSw; go_simp; try with_reducible rfl)
                    (try simp only [Act.put, zn1, zn2, zn3])
                    refine tY (i := 5) (v := ?_) rfl ?_ hHeld ?_; rotate_left 1; focus (intro w' hSw; clear hSw; go_simp; try with_reducible rfl)
                    (try simp only [Act.put, zn1, zn2, zn3])
                    refine tY (i := 6) (v := ?_) rfl ?_ hHeld ?_; rotate_left 1; focus (intro w' hSw; clear hSw; go_simp; try with_reducible rfl)
                    (try simp only [Act.put, zn1, zn2, zn3])
                    refine tY (i := 7) (v := ?_) rfl ?_ hHeld ?_; rotate_left 1; focus (intro w' hSw; clear hSw; go_simp; try with_reducible rfl)
                    (try simp only [Act.put, zn1, zn2, zn3])
                    refine tY (i := 8) (v := ?_) rfl ?_ hHeld ?_; rotate_left 1; focus (intro w' hSw; have hCell := fun (b o : Nat) (h : b < W3.heap.size) => hSw.cell (p := ⟨b, o, none⟩) h; clear hSw; go_simp; try with_reducible rfl)
                    (try simp only [Act.put, zn1, zn2, zn3])
                    refine tY (i := 9) (v := ?_) rfl ?_ hHeld ?_; rotate_left 1; focus (intro w' hSw; have hCell := fun (b o : Nat) (h : b < W3.heap.size) => hSw.cell (p := ⟨b, o, none⟩) h; clear hSw; go_simp; try with_reducible rfl)
                    (try simp only [Act.put, zn1, zn2, zn3])
                    refine tY (i := 10) (v := ?_) rfl ?_ hHeld ?_; rotate_left 1; focus (intro w' hSw; clear hSw; go_simp; try with_reducible rfl)
                    (try simp only [Act.put, zn1, zn2, zn3])
                    refine tY (i := 11) (v := ?_) rfl ?_ hHeld ?_; rotate_left 1; focus (intro w' hSw; clear hSw; go_simp; try with_reducible rfl)
                    (try simp only [Act.put, zn1, zn2, zn3])
                    refine wpAnyH_done (by kernel_rfl) ?_ _
                    replace cp0 := cellAt cp0 hHeld (by omega)
                    replace cp1 := cellAt cp1 hHeld (by omega)
                    replace hq0 := cellAt hq0 hHeld (by omega)
                    replace hq1 := cellAt hq1 hHeld (by omega)
                    replace HRa := Lib.hid (HRa.out.at hHeld)
                    replace HB := Lib.hid (HB.out.trans (hHeld.mono HB.out.size))
                    replace n2 : (wo.heap.size + 1) < W3.drew.heap.size := ltAt n2 hHeld
                    replace hB2 : b2 < W3.drew.heap.size := ltAt hB2 hHeld
                    go_wp2_with fail
                    have hge := Hge.out
                    have hne := Hne.out
                    have hins : insL ltP (d, s) acc = acc.take k ++ (d, s) :: acc.drop k := by rw [insL_cut acc k hk hall hge, if_neg hne]
                    have HI := Lib.hid hins
                    first | (refine wp_named ?_; intro W4 hW) | (refine calls_named ?_; intro W4 hW)
                    have B4 : Below W3.drew.heap.size W3.drew W4 := by rw [hW]; exact (by repeat (first | exact Below.refl _ _ | assumption | refine Below.alloc ?_ (by simp <;> omega) _ | refine Below.setCell ?_ (by simp <;> omega) _ | refine Below.drew ?_))
                    replace cp0 := cellAt cp0 B4 (by omega)
                    replace cp1 := cellAt cp1 B4 (by omega)
                    replace hq0 := cellAt hq0 B4 (by omega)
                    replace hq1 := cellAt hq1 B4 (by omega)
                    replace HRa := Lib.hid (HRa.out.at B4)
                    replace HB := Lib.hid (HB.out.trans (B4.mono HB.out.size))
                    replace n2 : (wo.heap.size + 1) < W4.heap.size := ltAt n2 B4
                    replace hB2 : b2 < W4.heap.size := ltAt hB2 B4
                    clear hW
                    clear B4 hins hge hne
                    have hz4 := Nat.le_trans HB1.out.size HB.out.size
                    have HR1 := Lib.hid (HRa.out.takeA hk)
                    have HR2 := Lib.hid (HRa.out.dropA hk hc)
                    have hs1 := run_slice_full (P := Tryz.prog) Tryz.underlying102 hi (some ⟨b2, o2, none⟩) acc.length c k (Nat.le_trans hk hc)
                    have hs2 := run_slice_tail (P := Tryz.prog) Tryz.underlying102 hi (some ⟨b2, o2, none⟩) acc.length c k hk
                    rw [hz1] at hs1 hs2
                    have HLk := Lib.hid (show (acc.drop k).length = acc.length - k from List.length_drop)
                    try go_wp2_with fail
                    refine wp_region_held_drew (S := fun w' => Below W4.heap.size W4 w') (by kernel_rfl) (Below.drew (Below.refl _ _)) (fun hHeld => ?_)
                    refine tY (i := 0) (v := ?_) rfl ?_ hHeld ?_; rotate_left 1; focus (intro w' hSw; clear hSw; go_simp; try with_reducible rfl)
                    (try simp only [Act.put, zn1, zn2, zn3])
                    refine tY (i := 1) (v := ?_) rfl ?_ hHeld ?_; rotate_left 1; focus (intro w' hSw; clear hSw; go_simp; try with_reducible rfl)
                    (try simp only [Act.put, zn1, zn2, zn3])
                    refine tY (i := 2) (v := ?_) rfl ?_ hHeld ?_; rotate_left 1; focus (intro w' hSw; clear hSw; go_simp; try with_reducible rfl)
                    (try simp only [Act.put, zn1, zn2, zn3])
                    refine tY (i := 3) (v := ?_) rfl ?_ hHeld ?_; rotate_left 1; focus (intro w' hSw; clear hSw; go_simp; try with_reducible rfl)
                    (try simp only [Act.put, zn1, zn2, zn3])
                    refine tY (i := 4) (v := ?_) rfl ?_ hHeld ?_; rotate_left 1; focus (intro w' hSw; have hCell := fun (b o : Nat) (h : b < W4.heap.size) => hSw.cell (p := ⟨b, o, none⟩) h; clear hSw; go_simp; try with_reducible rfl)
                    (try simp only [Act.put, zn1, zn2, zn3])
                    refine tY (i := 6) (v := ?_) rfl ?_ hHeld ?_; rotate_left 1; focus (intro w' hSw; clear hSw; go_simp; try with_reducible rfl)
                    (try simp only [Act.put, zn1, zn2, zn3])
                    refine tY (i := 7) (v := ?_) rfl ?_ hHeld ?_; rotate_left 1; focus (intro w' hSw; clear hSw; go_simp; try with_reducible rfl)
                    (try simp only [Act.put, zn1, zn2, zn3])
                    refine tY (i := 8) (v := ?_) rfl ?_ hHeld ?_; rotate_left 1; focus (intro w' hSw; clear hSw; go_simp; try with_reducible rfl)
                    (try simp only [Act.put, zn1, zn2, zn3])
                    refine ready_one (i := 5) rfl (by kernel_rfl) (fun K hK => ?_)
                    go_simp
                    refine hK.out _ _ ?_ (fun hHeld2 => ?_)
                    · (try dsimp only); first | exact hHeld | exact (by repeat (first | exact Below.refl _ _ | assumption | refine Below.alloc ?_ (by simp <;> omega) _ | refine Below.setCell ?_ (by simp <;> omega) _ | refine Below.drew ?_))
                    clear hK K hHeld; have hHeld := hHeld2; clear hHeld2; (try simp only [Act.put, zn1, zn2, zn3])
                    refine ready_one (i := 9) rfl (by kernel_rfl) (fun K hK => ?_)
                    refine step_append_full (by rfl) (.tmp 89) (.tmp 92) 102 (by rfl) 104 i0 _ 2 32 Tryz.underlying102 hi hz0 hz1 hz2 rfl _ (some ⟨W4.heap.size, 0, none⟩) 1 (prC (d, s)) (by rfl) (Rd.lit W4.drew (prC (d, s)) 104 2 1 rfl) (Nat.le_refl _) _ _ (acc.length - k) (c - k) _ (by rfl) (HR2.out.at' (Nat.le_refl _) hHeld) (one_drop (one_prsC acc) _) (by unfold maxLen; omega) (by omega) ?_
                    intro A2 c2 v2 hc2 hr2 hb
                    have HR3 := Lib.hid hr2
                    clear hr2
                    refine hK.out _ _ ?_ (fun hHeld2 => ?_)
                    · (try dsimp only); first | exact Below.trans hHeld (Below.mono hb hHeld.size) | exact hHeld | exact Below.drew hHeld | exact (by repeat (first | exact Below.refl _ _ | assumption | refine Below.alloc ?_ (by simp <;> omega) _ | refine Below.setCell ?_ (by simp <;> omega) _ | refine Below.drew ?_))
                    clear hK K hHeld; have hHeld := hHeld2; clear hHeld2; (try simp only [Act.put, zn1, zn2, zn3])
                    refine ready_one (i := 10) rfl (by kernel_rfl) (fun K hK => ?_)
                    refine step_append_fresh (by rfl) (.tmp 87) (.tmp 93) 102 (by rfl) 104 i0 _ 2 32 Tryz.underlying102 hi hz0 hz1 hz2 rfl _ _ k _ (by rfl) (HR1.out.at' (Nat.le_refl _) hHeld) (Nat.le_refl _) _ A2 (1 + (acc.length - k)) c2 _ (by rfl) HR3.out (one_app (one_prC _) (one_drop (one_prsC acc) _)) (by unfold maxLen; omega) (by omega) ?_
                    intro A3 c3 v3 hc3 hr3 hb hf3
                    have hz5 := Nat.le_trans hz4 hHeld.size
                    have HR4 := Lib.hid hr3
                    clear hr3
                    refine hK.out _ _ ?_ (fun hHeld2 => ?_)
                    · (try dsimp only); first | exact Below.trans hHeld (Below.mono hb hHeld.size) | exact hHeld | exact Below.drew hHeld | exact (by repeat (first | exact Below.refl _ _ | assumption | refine Below.alloc ?_ (by simp <;> omega) _ | refine Below.setCell ?_ (by simp <;> omega) _ | refine Below.drew ?_))
                    clear hK K hHeld; have hHeld := hHeld2; clear hHeld2; (try simp only [Act.put, zn1, zn2, zn3])
                    refine tY (i := 11) (v := ?_) rfl ?_ hHeld ?_; rotate_left 1; focus (intro w' hSw; clear hSw; go_simp; try with_reducible rfl)
                    (try simp only [Act.put, zn1, zn2, zn3])
                    refine wpAnyH_done (by kernel_rfl) ?_ _
                    replace cp0 := cellAt cp0 hHeld (by omega)
                    replace cp1 := cellAt cp1 hHeld (by omega)
                    replace hq0 := cellAt hq0 hHeld (by omega)
                    replace hq1 := cellAt hq1 hHeld (by omega)
                    replace HRa := Lib.hid (HRa.out.at hHeld)
                    replace HB := Lib.hid (HB.out.trans (hHeld.mono HB.out.size))
                    replace n2 : (wo.heap.size + 1) < v3.heap.size := ltAt n2 hHeld
                    replace hB2 : b2 < v3.heap.size := ltAt hB2 hHeld
                    clear hs1 hs2
                    go_wp2_with fail
                    go_roundw
                    case rel =>
                      have hlen : k + (1 + (acc.length - k)) = (accP es (j + 1)).length := by rw [HN.out, HI.out, List.length_append, List.length_cons, List.length_take, HLk.out]; omega
                      refine ⟨j + 1, A3, c3, by omega, by go_num, by rw [hlen], by rw [← hlen]; exact hc3, ?_, fun _ ad e => Nat.le_trans hz5 (hf3 (by omega) ad e), HB.out⟩
                      have h4 := HR4.out
                      rw [hlen] at h4
                      have hx : (prsC acc).take (k * 2) ++ (prC (d, s) ++ (prsC acc).drop (k * 2)) = prsC (accP es (j + 1)) := by rw [HN.out, HI.out, prsC_take, prsC_drop]; simp [prsC]
                      rw [hx] at h4
                      exact h4
                    case measure => simp [intOf]; omega
                  · skip
                    try go_wp2_with fail
                    refine wp_region_held_drew (S := fun w' => Below wr.heap.size wr w') (by kernel_rfl) (Below.drew (Below.refl _ _)) (fun hHeld => ?_)
                    refine tY (i := 0) (v := ?_) rfl ?_ hHeld ?_; rotate_left 1; focus (intro w' hSw; clear hSw; go_simp; try with_reducible rfl)
                    (try simp only [Act.put, zn1, zn2, zn3])
                    refine tY (i := 1) (v := ?_) rfl ?_ hHeld ?_; rotate_left 1; focus (intro w' hSw; clear hSw; go_simp; try with_reducible rfl)
                    (try simp only [Act.put, zn1, zn2, zn3])
                    refine tY (i := 2) (v := ?_) rfl ?_ hHeld ?_; rotate_left 1; focus (intro w' hSw; clear hSw; go_simp; try with_reducible rfl)
                    (try simp only [Act.put, zn1, zn2, zn3])
                    refine tY (i := 3) (v := ?_) rfl ?_ hHeld ?_; rotate_left 1; focus (intro w' hSw; clear hSw; go_simp; try with_reducible rfl)
                    (try simp only [Act.put, zn1, zn2, zn3])
                    refine tY (i := 4) (v := ?_) rfl ?_ hHeld ?_; rotate_left 1; focus (intro w' hSw; clear hSw; go_simp; try with_reducible rfl)
                    (try simp only [Act.put, zn1, zn2, zn3])
                    refine tY (i := 5) (v := ?_) rfl ?_ hHeld ?_; rotate_left 1; focus (intro w' hSw; clear hSw; go_simp; try with_reducible rfl)
                    (try simp only [Act.put, zn1, zn2, zn3])
                    refine tY (i := 6) (v := ?_) rfl ?_ hHeld ?_; rotate_left 1; focus (intro w' hSw; clear hSw; go_simp; try with_reducible rfl)
                    (try simp only [Act.put, zn1, zn2, zn3])
                    refine tY (i := 7) (v := ?_) rfl ?_ hHeld ?_; rotate_left 1; focus (intro w' hSw; clear hSw; go_simp; try with_reducible rfl)
                    (try simp only [Act.put, zn1, zn2, zn3])
                    refine tY (i := 8) (v := ?_) rfl ?_ hHeld ?_; rotate_left 1; focus (intro w' hSw; clear hSw; go_simp; try with_reducible rfl)
                    (try simp only [Act.put, zn1, zn2, zn3])
                    refine tY (i := 9) (v := ?_) rfl ?_ hHeld ?_; rotate_left 1; focus (intro w' hSw; have hCell := fun (b o : Nat) (h : b < wr.heap.size) => hSw.cell (p := ⟨b, o, none⟩) h; clear hSw; go_simp; try with_reducible rfl)
                    (try simp only [Act.put, zn1, zn2, zn3])
                    refine tY (i := 10) (v := ?_) rfl ?_ hHeld ?_; rotate_left 1; focus (intro w' hSw; clear hSw; go_simp; try with_reducible rfl)
                    (try simp only [Act.put, zn1, zn2, zn3])
                    refine tY (i := 11) (v := ?_) rfl ?_ hHeld ?_; rotate_left 1; focus (intro w' hSw; have hCell := fun (b o : Nat) (h : b < wr.heap.size) => hSw.cell (p := ⟨b, o, none⟩) h; clear hSw; go_simp; try with_reducible rfl)
                    (try simp only [Act.put, zn1, zn2, zn3])
                    refine tY (i := 12) (v := ?_) rfl ?_ hHeld ?_; rotate_left 1; focus (intro w' hSw; clear hSw; go_simp; try with_reducible rfl)
                    (try simp only [Act.put, zn1, zn2, zn3])
                    refine tY (i := 13) (v := ?_) rfl ?_ hHeld ?_; rotate_left 1; focus (intro w' hSw; clear hSw; go_simp; try with_reducible rfl)
                    (try simp only [Act.put, zn1, zn2, zn3])
                    refine tY (i := 14) (v := ?_) rfl ?_ hHeld ?_; rotate_left 1; focus (intro w' hSw; clear hSw; go_simp; try with_reducible rfl)
                    (try simp only [Act.put, zn1, zn2, zn3])
                    refine tY (i := 15) (v := ?_) rfl ?_ hHeld ?_; rotate_left 1; focus (intro w' hSw; clear hSw; go_simp; try with_reducible rfl)
                    (try simp only [Act.put, zn1, zn2, zn3])
                    refine tY (i := 16) (v := ?_) rfl ?_ hHeld ?_; rotate_left 1; focus (intro w' hSw; clear hSw; go_simp; try with_reducible rfl)
                    (try simp only [Act.put, zn1, zn2, zn3])
                    refine tY (i := 17) (v := ?_) rfl ?_ hHeld ?_; rotate_left 1; focus (intro w' hSw; clear hSw; go_simp; try with_reducible rfl)
                    (try simp only [Act.put, zn1, zn2, zn3])
                    refine tY (i := 18) (v := ?_) rfl ?_ hHeld ?_; rotate_left 1; focus (intro w' hSw; have hCell := fun (b o : Nat) (h : b < wr.heap.size) => hSw.cell (p := ⟨b, o, none⟩) h; clear hSw; go_simp; try with_reducible rfl)
                    (try simp only [Act.put, zn1, zn2, zn3])
                    refine tY (i := 19) (v := ?_) rfl ?_ hHeld ?_; rotate_left 1; focus (intro w' hSw; clear hSw; go_simp; try with_reducible rfl)
                    (try simp only [Act.put, zn1, zn2, zn3])
                    refine tY (i := 20) (v := ?_) rfl ?_ hHeld ?_; rotate_left 1; focus (intro w' hSw; have hCell := fun (b o : Nat) (h : b < wr.heap.size) => hSw.cell (p := ⟨b, o, none⟩) h; clear hSw; go_simp; try with_reducible rfl)
                    (try simp only [Act.put, zn1, zn2, zn3])
                    refine tY (i := 21) (v := ?_) rfl ?_ hHeld ?_; rotate_left 1; focus (intro w' hSw; clear hSw; go_simp; try with_reducible rfl)
                    (try simp only [Act.put, zn1, zn2, zn3])
                    refine tY (i := 22) (v := ?_) rfl ?_ hHeld ?_; rotate_left 1; focus (intro w' hSw; clear hSw; go_simp; try with_reducible rfl)
                    (try simp only [Act.put, zn1, zn2, zn3])
                    refine tY (i := 23) (v := ?_) rfl ?_ hHeld ?_; rotate_left 1; focus (intro w' hSw; clear hSw; go_simp; try with_reducible rfl)
                    (try simp only [Act.put, zn1, zn2, zn3])
                    refine tY (i := 24) (v := ?_) rfl ?_ hHeld ?_; rotate_left 1; focus (intro w' hSw; clear hSw; go_simp; try with_reducible rfl)
                    (try simp only [Act.put, zn1, zn2, zn3])
                    refine tY (i := 25) (v := ?_) rfl ?_ hHeld ?_; rotate_left 1; focus (intro w' hSw; clear hSw; go_simp; try with_reducible rfl)
                    (try simp only [Act.put, zn1, zn2, zn3])
                    refine tY (i := 26) (v := ?_) rfl ?_ hHeld ?_; rotate_left 1; focus (intro w' hSw; clear hSw; go_simp; try with_reducible rfl)
                    (try simp only [Act.put, zn1, zn2, zn3])
                    refine tY (i := 27) (v := ?_) rfl ?_ hHeld ?_; rotate_left 1; focus (intro w' hSw; have hCell := fun (b o : Nat) (h : b < wr.heap.size) => hSw.cell (p := ⟨b, o, none⟩) h; clear hSw; go_simp; try with_reducible rfl)
                    (try simp only [Act.put, zn1, zn2, zn3])
                    refine tY (i := 28) (v := ?_) rfl ?_ hHeld ?_; rotate_left 1; focus (intro w' hSw; clear hSw; go_simp; try with_reducible rfl)
                    (try simp only [Act.put, zn1, zn2, zn3])
                    refine tY (i := 29) (v := ?_) rfl ?_ hHeld ?_; rotate_left 1; focus (intro w' hSw; have hCell := fun (b o : Nat) (h : b < wr.heap.size) => hSw.cell (p := ⟨b, o, none⟩) h; clear hSw; go_simp; try with_reducible rfl)
                    (try simp only [Act.put, zn1, zn2, zn3])
                    refine tY (i := 30) (v := ?_) rfl ?_ hHeld ?_; rotate_left 1; focus (intro w' hSw; clear hSw; go_simp; try with_reducible rfl)
                    (try simp only [Act.put, zn1, zn2, zn3])
                    refine tY (i := 31) (v := ?_) rfl ?_ hHeld ?_; rotate_left 1; focus (intro w' hSw; clear hSw; go_simp; try with_reducible rfl)
                    (try simp only [Act.put, zn1, zn2, zn3])
                    refine tY (i := 32) (v := ?_) rfl ?_ hHeld ?_; rotate_left 1; focus (intro w' hSw; clear hSw; go_simp; try with_reducible rfl)
                    (try simp only [Act.put, zn1, zn2, zn3])
                    refine tY (i := 33) (v := ?_) rfl ?_ hHeld ?_; rotate_left 1; focus (intro w' hSw; clear hSw; go_simp; try with_reducible rfl)
                    (try simp only [Act.put, zn1, zn2, zn3])
                    refine wpAnyH_done (by kernel_rfl) ?_ _
                    replace cp0 := cellAt cp0 hHeld (by omega)
                    replace cp1 := cellAt cp1 hHeld (by omega)
                    replace hq0 := cellAt hq0 hHeld (by omega)
                    replace hq1 := cellAt hq1 hHeld (by omega)
                    replace HRa := Lib.hid (HRa.out.at hHeld)
                    replace HB := Lib.hid (HB.out.trans (hHeld.mono HB.out.size))
                    replace n2 : (wo.heap.size + 1) < wr.drew.heap.size := ltAt n2 hHeld
                    replace hB2 : b2 < wr.drew.heap.size := ltAt hB2 hHeld
                    go_wp2_with fail
                    first | (refine wp_named ?_; intro W3 hW) | (refine calls_named ?_; intro W3 hW)
                    have B3 : Below wr.drew.heap.size wr.drew W3 := by rw [hW]; exact (by repeat (first | exact Below.refl _ _ | assumption | refine Below.alloc ?_ (by simp <;> omega) _ | refine Below.setCell ?_ (by simp <;> omega) _ | refine Below.drew ?_))
                    replace cp0 := cellAt cp0 B3 (by omega)
                    replace cp1 := cellAt cp1 B3 (by omega)
                    replace hq0 := cellAt hq0 B3 (by omega)
                    replace hq1 := cellAt hq1 B3 (by omega)
                    replace HRa := Lib.hid (HRa.out.at B3)
                    replace HB := Lib.hid (HB.out.trans (B3.mono HB.out.size))
                    replace n2 : (wo.heap.size + 1) < W3.heap.size := ltAt n2 B3
                    replace hB2 : b2 < W3.heap.size := ltAt hB2 B3
                    clear hW
                    clear B3
                    try go_wp2_with fail
                    refine wp_region_held_drew (S := fun w' => Below W3.heap.size W3 w') (by kernel_rfl) (Below.drew (Below.refl _ _)) (fun hHeld => ?_)
                    refine tY (i := 0) (v := ?_) rfl ?_ hHeld ?_; rotate_left 1; focus (intro w' hSw; clear hSw; go_simp; try with_reducible rfl)
                    (try simp only [Act.put, zn1, zn2, zn3])
                    refine tY (i := 1) (v := ?_) rfl ?_ hHeld ?_; rotate_left 1; focus (intro w' hSw; clear hSw; go_simp; try with_reducible rfl)
                    (try simp only [Act.put, zn1, zn2, zn3])
                    refine tY (i := 2) (v := ?_) rfl ?_ hHeld ?_; rotate_left 1; focus (intro w' hSw; clear hSw; go_simp; try with_reducible rfl)
                    (try simp only [Act.put, zn1, zn2, zn3])
                    refine tY (i := 3) (v := ?_) rfl ?_ hHeld ?_; rotate_left 1; focus (intro w' hSw; clear hSw; go_simp; try with_reducible rfl)
                    (try simp only [Act.put, zn1, zn2, zn3])
                    refine tY (i := 4) (v := ?_) rfl ?_ hHeld ?_; rotate_left 1; focus (intro w' hSw; clear hSw; go_simp; try with_reducible rfl)
                    (try simp only [Act.put, zn1, zn2, zn3])
                    refine tY (i := 5) (v := ?_) rfl ?_ hHeld ?_; rotate_left 1; focus (intro w' hSw; clear hSw; go_simp; try with_reducible rfl)
                    (try simp only [Act.put, zn1, zn2, zn3])
                    refine tY (i := 6) (v := ?_) rfl ?_ hHeld ?_; rotate_left 1; focus (intro w' hSw; clear hSw; go_simp; try with_reducible rfl)
                    (try simp only [Act.put, zn1, zn2, zn3])
                    refine tY (i := 7) (v := ?_) rfl ?_ hHeld ?_; rotate_left 1; focus (intro w' hSw; clear hSw; go_simp; try with_reducible rfl)
                    (try simp only [Act.put, zn1, zn2, zn3])
                    refine tY (i := 8) (v := ?_) rfl ?_ hHeld ?_; rotate_left 1; focus (intro w' hSw; have hCell := fun (b o : Nat) (h : b < W3.heap.size) => hSw.cell (p := ⟨b, o, none⟩) h; clear hSw; go_simp; try with_reducible rfl)
                    (try simp only [Act.put, zn1, zn2, zn3])
                    refine tY (i := 9) (v := ?_) rfl ?_ hHeld ?_; rotate_left 1; focus (intro w' hSw; have hCell := fun (b o : Nat) (h : b < W3.heap.size) => hSw.cell (p := ⟨b, o, none⟩) h; clear hSw; go_simp; try with_reducible rfl)
                    (try simp only [Act.put, zn1, zn2, zn3])
                    refine tY (i := 10) (v := ?_) rfl ?_ hHeld ?_; rotate_left 1; focus (intro w' hSw; clear hSw; go_simp; try with_reducible rfl)
                    (try simp only [Act.put, zn1, zn2, zn3])
                    refine tY (i := 11) (v := ?_) rfl ?_ hHeld ?_; rotate_left 1; focus (intro w' hSw; clear hSw; go_simp; try with_reducible rfl)
                    (try simp only [Act.put, zn1, zn2, zn3])
                    refine wpAnyH_done (by kernel_rfl) ?_ _
                    replace cp0 := cellAt cp0 hHeld (by omega)
                    replace cp1 := cellAt cp1 hHeld (by omega)
                    replace hq0 := cellAt hq0 hHeld (by omega)
                    replace hq1 := cellAt hq1 hHeld (by omega)
                    replace HRa := Lib.hid (HRa.out.at hHeld)
                    replace HB := Lib.hid (HB.out.trans (hHeld.mono HB.out.size))
                    replace n2 : (wo.heap.size + 1) < W3.drew.heap.size := ltAt n2 hHeld
                    replace hB2 : b2 < W3.drew.heap.size := ltAt hB2 hHeld
                    go_wp2_with fail
                    have hge := Hge.out
                    go_roundw
                    case rel =>
                      have hins : accP es (j + 1) = acc := by rw [HN.out, insL_cut acc k hk hall hge, if_pos]; rw [List.getElem?_eq_getElem hlt2, Hq.out]; simp_all
                      exact ⟨j + 1, _, c, by omega, by go_num, by rw [hins], by rw [hins]; exact hc, by rw [hins]; exact HRa.out.at (by repeat (first | exact Below.refl _ _ | assumption | refine Below.alloc ?_ (by simp <;> omega) _ | refine Below.setCell ?_ (by simp <;> omega) _ | refine Below.drew ?_)), by rw [hins]; exact HFr.out, HB.out.trans (Below.mono (by repeat (first | exact Below.refl _ _ | assumption | refine Below.alloc ?_ (by simp <;> omega) _ | refine Below.setCell ?_ (by simp <;> omega) _ | refine Below.drew ?_)) HB.out.size)⟩
                    case measure => simp [intOf]; omega
                · skip
                  try go_wp2_with fail
                  refine wp_region_held_drew (S := fun w' => Below wr.heap.size wr w') (by kernel_rfl) (Below.drew (Below.refl _ _)) (fun hHeld => ?_)
                  refine tY (i := 0) (v := ?_) rfl ?_ hHeld ?_; rotate_left 1; focus (intro w' hSw; clear hSw; go_simp; try with_reducible rfl)
                  (try simp only [Act.put, zn1, zn2, zn3])
                  refine tY (i := 1) (v := ?_) rfl ?_ hHeld ?_; rotate_left 1; focus (intro w' hSw; clear hSw; go_simp; try with_reducible rfl)
                  (try simp only [Act.put, zn1, zn2, zn3])
                  refine tY (i := 2) (v := ?_) rfl ?_ hHeld ?_; rotate_left 1; focus (intro w' hSw; clear hSw; go_simp; try with_reducible rfl)
                  (try simp only [Act.put, zn1, zn2, zn3])
                  refine tY (i := 3) (v := ?_) rfl ?_ hHeld ?_; rotate_left 1; focus (intro w' hSw; clear hSw; go_simp; try with_reducible rfl)
                  (try simp only [Act.put, zn1, zn2, zn3])
                  refine tY (i := 4) (v := ?_) rfl ?_ hHeld ?_; rotate_left 1; focus (intro w' hSw; clear hSw; go_simp; try with_reducible rfl)
                  (try simp only [Act.put, zn1, zn2, zn3])
                  refine tY (i := 5) (v := ?_) rfl ?_ hHeld ?_; rotate_left 1; focus (intro w' hSw; clear hSw; go_simp; try with_reducible rfl)
                  (try simp only [Act.put, zn1, zn2, zn3])
                  refine tY (i := 6) (v := ?_) rfl ?_ hHeld ?_; rotate_left 1; focus (intro w' hSw; clear hSw; go_simp; try with_reducible rfl)
                  (try simp only [Act.put, zn1, zn2, zn3])
                  refine tY (i := 7) (v := ?_) rfl ?_ hHeld ?_; rotate_left 1; focus (intro w' hSw; clear hSw; go_simp; try with_reducible rfl)
                  (try simp only [Act.put, zn1, zn2, zn3])
                  refine tY (i := 8) (v := ?_) rfl ?_ hHeld ?_; rotate_left 1; focus (intro w' hSw; clear hSw; go_simp; try with_reducible rfl)
                  (try simp only [Act.put, zn1, zn2, zn3])
                  refine tY (i := 9) (v := ?_) rfl ?_ hHeld ?_; rotate_left 1; focus (intro w' hSw; have hCell := fun (b o : Nat) (h : b < wr.heap.size) => hSw.cell (p := ⟨b, o, none⟩) h; clear hSw; go_simp; try with_reducible rfl)
                  (try simp only [Act.put, zn1, zn2, zn3])
                  refine tY (i := 10) (v := ?_) rfl ?_ hHeld ?_; rotate_left 1; focus (intro w' hSw; clear hSw; go_simp; try with_reducible rfl)
                  (try simp only [Act.put, zn1, zn2, zn3])
                  refine tY (i := 11) (v := ?_) rfl ?_ hHeld ?_; rotate_left 1; focus (intro w' hSw; have hCell := fun (b o : Nat) (h : b < wr.heap.size) => hSw.cell (p := ⟨b, o, none⟩) h; clear hSw; go_simp; try with_reducible rfl)
                  (try simp only [Act.put, zn1, zn2, zn3])
                  refine tY (i := 12) (v := ?_) rfl ?_ hHeld ?_; rotate_left 1; focus (intro w' hSw; clear hSw; go_simp; try with_reducible rfl)
                  (try simp only [Act.put, zn1, zn2, zn3])
                  refine tY (i := 13) (v := ?_) rfl ?_ hHeld ?_; rotate_left 1; focus (intro w' hSw; clear hSw; go_simp; try with_reducible rfl)
                  (try simp only [Act.put, zn1, zn2, zn3])
                  refine tY (i := 14) (v := ?_) rfl ?_ hHeld ?_; rotate_left 1; focus (intro w' hSw; clear hSw; go_simp; try with_reducible rfl)
                  (try simp only [Act.put, zn1, zn2, zn3])
                  refine tY (i := 15) (v := ?_) rfl ?_ hHeld ?_; rotate_left 1; focus (intro w' hSw; clear hSw; go_simp; try with_reducible rfl)
                  (try simp only [Act.put, zn1, zn2, zn3])
                  refine tY (i := 16) (v := ?_) rfl ?_ hHeld ?_; rotate_left 1; focus (intro w' hSw; clear hSw; go_simp; try with_reducible rfl)
                  (try simp only [Act.put, zn1, zn2, zn3])
                  refine tY (i := 17) (v := ?_) rfl ?_ hHeld ?_; rotate_left 1; focus (intro w' hSw; clear hSw; go_simp; try with_reducible rfl)
                  (try simp only [Act.put, zn1, zn2, zn3])
                  refine tY (i := 18) (v := ?_) rfl ?_ hHeld ?_; rotate_left 1; focus (intro w' hSw; have hCell := fun (b o : Nat) (h : b < wr.heap.size) => hSw.cell (p := ⟨b, o, none⟩) h; clear hSw; go_simp; try with_reducible rfl)
                  (try simp only [Act.put, zn1, zn2, zn3])
                  refine tY (i := 19) (v := ?_) rfl ?_ hHeld ?_; rotate_left 1; focus (intro w' hSw; clear hSw; go_simp; try with_reducible rfl)
                  (try simp only [Act.put, zn1, zn2, zn3])
                  refine tY (i := 20) (v := ?_) rfl ?_ hHeld ?_; rotate_left 1; focus (intro w' hSw; have hCell := fun (b o : Nat) (h : b < wr.heap.size) => hSw.cell (p := ⟨b, o, none⟩) h; clear hSw; go_simp; try with_reducible rfl)
                  (try simp only [Act.put, zn1, zn2, zn3])
                  refine tY (i := 21) (v := ?_) rfl ?_ hHeld ?_; rotate_left 1; focus (intro w' hSw; clear hSw; go_simp; try with_reducible rfl)
                  (try simp only [Act.put, zn1, zn2, zn3])
                  refine tY (i := 22) (v := ?_) rfl ?_ hHeld ?_; rotate_left 1; focus (intro w' hSw; clear hSw; go_simp; try with_reducible rfl)
                  (try simp only [Act.put, zn1, zn2, zn3])
                  refine tY (i := 23) (v := ?_) rfl ?_ hHeld ?_; rotate_left 1; focus (intro w' hSw; clear hSw; go_simp; try with_reducible rfl)
                  (try simp only [Act.put, zn1, zn2, zn3])
                  refine tY (i := 24) (v := ?_) rfl ?_ hHeld ?_; rotate_left 1; focus (intro w' hSw; clear hSw; go_simp; try with_reducible rfl)
                  (try simp only [Act.put, zn1, zn2, zn3])
                  refine tY (i := 25) (v := ?_) rfl ?_ hHeld ?_; rotate_left 1; focus (intro w' hSw; clear hSw; go_simp; try with_reducible rfl)
                  (try simp only [Act.put, zn1, zn2, zn3])
                  refine tY (i := 26) (v := ?_) rfl ?_ hHeld ?_; rotate_left 1; focus (intro w' hSw; clear hSw; go_simp; try with_reducible rfl)
                  (try simp only [Act.put, zn1, zn2, zn3])
                  refine tY (i := 27) (v := ?_) rfl ?_ hHeld ?_; rotate_left 1; focus (intro w' hSw; have hCell := fun (b o : Nat) (h : b < wr.heap.size) => hSw.cell (p := ⟨b, o, none⟩) h; clear hSw; go_simp; try with_reducible rfl)
                  (try simp only [Act.put, zn1, zn2, zn3])
                  refine tY (i := 28) (v := ?_) rfl ?_ hHeld ?_; rotate_left 1; focus (intro w' hSw; clear hSw; go_simp; try with_reducible rfl)
                  (try simp only [Act.put, zn1, zn2, zn3])
                  refine tY (i := 29) (v := ?_) rfl ?_ hHeld ?_; rotate_left 1; focus (intro w' hSw; have hCell := fun (b o : Nat) (h : b < wr.heap.size) => hSw.cell (p := ⟨b, o, none⟩) h; clear hSw; go_simp; try with_reducible rfl)
                  (try simp only [Act.put, zn1, zn2, zn3])
                  refine tY (i := 30) (v := ?_) rfl ?_ hHeld ?_; rotate_left 1; focus (intro w' hSw; clear hSw; go_simp; try with_reducible rfl)
                  (try simp only [Act.put, zn1, zn2, zn3])
                  refine tY (i := 31) (v := ?_) rfl ?_ hHeld ?_; rotate_left 1; focus (intro w' hSw; clear hSw; go_simp; try with_reducible rfl)
                  (try simp only [Act.put, zn1, zn2, zn3])
                  refine tY (i := 32) (v := ?_) rfl ?_ hHeld ?_; rotate_left 1; focus (intro w' hSw; clear hSw; go_simp; try with_reducible rfl)
                  (try simp only [Act.put, zn1, zn2, zn3])
                  refine tY (i := 33) (v := ?_) rfl ?_ hHeld ?_; rotate_left 1; focus (intro w' hSw; clear hSw; go_simp; try with_reducible rfl)
                  (try simp only [Act.put, zn1, zn2, zn3])
                  refine wpAnyH_done (by kernel_rfl) ?_ _
                  replace cp0 := cellAt cp0 hHeld (by omega)
                  replace cp1 := cellAt cp1 hHeld (by omega)
                  replace hq0 := cellAt hq0 hHeld (by omega)
                  replace hq1 := cellAt hq1 hHeld (by omega)
                  replace HRa := Lib.hid (HRa.out.at hHeld)
                  replace HB := Lib.hid (HB.out.trans (hHeld.mono HB.out.size))
                  replace n2 : (wo.heap.size + 1) < wr.drew.heap.size := ltAt n2 hHeld
                  replace hB2 : b2 < wr.drew.heap.size := ltAt hB2 hHeld
                  go_wp2_with fail
                  go_roundw
                  case rel =>
                    refine ⟨k + 1, by omega, by go_num, fun q hq => ?_, lift hbq hHeld⟩
                    rw [List.take_succ_eq_append_getElem hlt2, List.mem_append, List.mem_singleton] at hq
                    rcases hq with h | h
                    · exact hall q h
                    · rw [h, Hq.out, ltP_mk]; simp [l1, l2, l3]
                  case measure => simp [intOf]; omega
            · skip
              try go_wp2_with fail
              refine wp_region_held_drew (S := fun w' => Below wr.heap.size wr w') (by kernel_rfl) (Below.drew (Below.refl _ _)) (fun hHeld => ?_)
              refine tY (i := 0) (v := ?_) rfl ?_ hHeld ?_; rotate_left 1; focus (intro w' hSw; clear hSw; go_simp; try with_reducible rfl)
              (try simp only [Act.put, zn1, zn2, zn3])
              refine tY (i := 1) (v := ?_) rfl ?_ hHeld ?_; rotate_left 1; focus (intro w' hSw; clear hSw; go_simp; try with_reducible rfl)
              (try simp only [Act.put, zn1, zn2, zn3])
              refine tY (i := 2) (v := ?_) rfl ?_ hHeld ?_; rotate_left 1; focus (intro w' hSw; clear hSw; go_simp; try with_reducible rfl)
              (try simp only [Act.put, zn1, zn2, zn3])
              refine tY (i := 3) (v := ?_) rfl ?_ hHeld ?_; rotate_left 1; focus (intro w' hSw; clear hSw; go_simp; try with_reducible rfl)
              (try simp only [Act.put, zn1, zn2, zn3])
              refine tY (i := 4) (v := ?_) rfl ?_ hHeld ?_; rotate_left 1; focus (intro w' hSw; clear hSw; go_simp; try with_reducible rfl)
              (try simp only [Act.put, zn1, zn2, zn3])
              refine tY (i := 5) (v := ?_) rfl ?_ hHeld ?_; rotate_left 1; focus (intro w' hSw; clear hSw; go_simp; try with_reducible rfl)
              (try simp only [Act.put, zn1, zn2, zn3])
              refine tY (i := 6) (v := ?_) rfl ?_ hHeld ?_; rotate_left 1; focus (intro w' hSw; clear hSw; go_simp; try with_reducible rfl)
              (try simp only [Act.put, zn1, zn2, zn3])
              refine tY (i := 7) (v := ?_) rfl ?_ hHeld ?_; rotate_left 1; focus (intro w' hSw; clear hSw; go_simp; try with_reducible rfl)
              (try simp only [Act.put, zn1, zn2, zn3])
              refine tY (i := 8) (v := ?_) rfl ?_ hHeld ?_; rotate_left 1; focus (intro w' hSw; clear hSw; go_simp; try with_reducible rfl)
              (try simp only [Act.put, zn1, zn2, zn3])
              refine tY (i := 9) (v := ?_) rfl ?_ hHeld ?_; rotate_left 1; focus (intro w' hSw; have hCell := fun (b o : Nat) (h : b < wr.heap.size) => hSw.cell (p := ⟨b, o, none⟩) h; clear hSw; go_simp; try with_reducible rfl)
              (try simp only [Act.put, zn1, zn2, zn3])
              refine tY (i := 10) (v := ?_) rfl ?_ hHeld ?_; rotate_left 1; focus (intro w' hSw; clear hSw; go_simp; try with_reducible rfl)
              (try simp only [Act.put, zn1, zn2, zn3])
              refine tY (i := 11) (v := ?_) rfl ?_ hHeld ?_; rotate_left 1; focus (intro w' hSw; have hCell := fun (b o : Nat) (h : b < wr.heap.size) => hSw.cell (p := ⟨b, o, none⟩) h; clear hSw; go_simp; try with_reducible rfl)
              (try simp only [Act.put, zn1, zn2, zn3])
              refine tY (i := 12) (v := ?_) rfl ?_ hHeld ?_; rotate_left 1; focus (intro w' hSw; clear hSw; go_simp; try with_reducible rfl)
              (try simp only [Act.put, zn1, zn2, zn3])
              refine tY (i := 13) (v := ?_) rfl ?_ hHeld ?_; rotate_left 1; focus (intro w' hSw; clear hSw; go_simp; try with_reducible rfl)
              (try simp only [Act.put, zn1, zn2, zn3])
              refine tS (i := 14) rfl hHeld ?_; (try simp only [Act.put, zn1, zn2, zn3])
              refine tS (i := 15) rfl hHeld ?_; (try simp only [Act.put, zn1, zn2, zn3])
              refine tS (i := 16) rfl hHeld ?_; (try simp only [Act.put, zn1, zn2, zn3])
              refine tS (i := 17) rfl hHeld ?_; (try simp only [Act.put, zn1, zn2, zn3])
              refine tS (i := 18) rfl hHeld ?_; (try simp only [Act.put, zn1, zn2, zn3])
              refine tS (i := 19) rfl hHeld ?_; (try simp only [Act.put, zn1, zn2, zn3])
              refine tS (i := 20) rfl hHeld ?_; (try simp only [Act.put, zn1, zn2, zn3])
              refine tS (i := 21) rfl hHeld ?_; (try simp only [Act.put, zn1, zn2, zn3])
              refine tS (i := 22) rfl hHeld ?_; (try simp only [Act.put, zn1, zn2, zn3])
              refine tS (i := 23) rfl hHeld ?_; (try simp only [Act.put, zn1, zn2, zn3])
              refine tS (i := 24) rfl hHeld ?_; (try simp only [Act.put, zn1, zn2, zn3])
              refine tS (i := 25) rfl hHeld ?_; (try simp only [Act.put, zn1, zn2, zn3])
              refine tS (i := 26) rfl hHeld ?_; (try simp only [Act.put, zn1, zn2, zn3])
              refine tS (i := 27) rfl hHeld ?_; (try simp only [Act.put, zn1, zn2, zn3])
              refine tS (i := 28) rfl hHeld ?_; (try simp only [Act.put, zn1, zn2, zn3])
              refine tS (i := 29) rfl hHeld ?_; (try simp only [Act.put, zn1, zn2, zn3])
              refine tS (i := 30) rfl hHeld ?_; (try simp only [Act.put, zn1, zn2, zn3])
              refine tS (i := 31) rfl hHeld ?_; (try simp only [Act.put, zn1, zn2, zn3])
              refine tY (i := 32) (v := ?_) rfl ?_ hHeld ?_; rotate_left 1; focus (intro w' hSw; clear hSw; go_simp; try with_reducible rfl)
              (try simp only [Act.put, zn1, zn2, zn3])
              refine tY (i := 33) (v := ?_) rfl ?_ hHeld ?_; rotate_left 1; focus (intro w' hSw; clear hSw; go_simp; try with_reducible rfl)
              (try simp only [Act.put, zn1, zn2, zn3])
              refine wpAnyH_done (by kernel_rfl) ?_ _
              replace cp0 := cellAt cp0 hHeld (by omega)
              replace cp1 := cellAt cp1 hHeld (by omega)
              replace hq0 := cellAt hq0 hHeld (by omega)
              replace hq1 := cellAt hq1 hHeld (by omega)
              replace HRa := Lib.hid (HRa.out.at hHeld)
              replace HB := Lib.hid (HB.out.trans (hHeld.mono HB.out.size))
              replace n2 : (wo.heap.size + 1) < wr.drew.heap.size := ltAt n2 hHeld
              replace hB2 : b2 < wr.drew.heap.size := ltAt hB2 hHeld
              go_wp2_with fail
              go_roundw
              case rel =>
                refine ⟨k + 1, by omega, by go_num, fun q hq => ?_, lift hbq hHeld⟩
                rw [List.take_succ_eq_append_getElem hlt2, List.mem_append, List.mem_singleton] at hq
                rcases hq with h | h
                · exact hall q h
                · rw [h, Hq.out, ltP_mk]; simp [l1]
              case measure => simp [intOf]; omega
          · have hge : ∀ h : k < acc.length, ltP acc[k] (d, s) = false := fun h => absurd h hlt2
            have hne : ¬ acc[k]? = some (d, s) := by rw [List.getElem?_eq_none (by omega)]; simp
            have Hge := Lib.hid (And.intro hge hne)
            clear hge hne
            try go_wp2_with fail
            refine wp_region_held_drew (S := fun w' => Below wr.heap.size wr w') (by kernel_rfl) (Below.drew (Below.refl _ _)) (fun hHeld => ?_)
            refine tY (i := 0) (v := ?_) rfl ?_ hHeld ?_; rotate_left 1; focus (intro w' hSw; clear hSw; go_simp; try with_reducible rfl)
            (try simp only [Act.put, zn1, zn2, zn3])
            refine tY (i := 1) (v := ?_) rfl ?_ hHeld ?_; rotate_left 1; focus (intro w' hSw; clear hSw; go_simp; try with_reducible rfl)
            (try simp only [Act.put, zn1, zn2, zn3])
            refine tY (i := 2) (v := ?_) rfl ?_ hHeld ?_; rotate_left 1; focus (intro w' hSw; clear hSw; go_simp; try with_reducible rfl)
            (try simp only [Act.put, zn1, zn2, zn3])
            refine tY (i := 3) (v := ?_) rfl ?_ hHeld ?_; rotate_left 1; focus (intro w' hSw; clear hSw; go_simp; try with_reducible rfl)
            (try simp only [Act.put, zn1, zn2, zn3])
            refine tY (i := 4) (v := ?_) rfl ?_ hHeld ?_; rotate_left 1; focus (intro w' hSw; clear hSw; go_simp; try with_reducible rfl)
            (try simp only [Act.put, zn1, zn2, zn3])
            refine tS (i := 5) rfl hHeld ?_; (try simp only [Act.put, zn1, zn2, zn3])
            refine tS (i := 6) rfl hHeld ?_; (try simp only [Act.put, zn1, zn2, zn3])
            refine tS (i := 7) rfl hHeld ?_; (try simp only [Act.put, zn1, zn2, zn3])
            refine tS (i := 8) rfl hHeld ?_; (try simp only [Act.put, zn1, zn2, zn3])
            refine tS (i := 9) rfl hHeld ?_; (try simp only [Act.put, zn1, zn2, zn3])
            refine tS (i := 10) rfl hHeld ?_; (try simp only [Act.put, zn1, zn2, zn3])
            refine tS (i := 11) rfl hHeld ?_; (try simp only [Act.put, zn1, zn2, zn3])
            refine tS (i := 12) rfl hHeld ?_; (try simp only [Act.put, zn1, zn2, zn3])
            refine tS (i := 13) rfl hHeld ?_; (try simp only [Act.put, zn1, zn2, zn3])
            refine tS (i := 14) rfl hHeld ?_; (try simp only [Act.put, zn1, zn2, zn3])
            refine tS (i := 15) rfl hHeld ?_; (try simp only [Act.put, zn1, zn2, zn3])
            refine tS (i := 16) rfl hHeld ?_; (try simp only [Act.put, zn1, zn2, zn3])
            refine tS (i := 17) rfl hHeld ?_; (try simp only [Act.put, zn1, zn2, zn3])
            refine tS (i := 18) rfl hHeld ?_; (try simp only [Act.put, zn1, zn2, zn3])
            refine tS (i := 19) rfl hHeld ?_; (try simp only [Act.put, zn1, zn2, zn3])
            refine tS (i := 20) rfl hHeld ?_; (try simp only [Act.put, zn1, zn2, zn3])
            refine tS (i := 21) rfl hHeld ?_; (try simp only [Act.put, zn1, zn2, zn3])
            refine tS (i := 22) rfl hHeld ?_; (try simp only [Act.put, zn1, zn2, zn3])
            refine tS (i := 23) rfl hHeld ?_; (try simp only [Act.put, zn1, zn2, zn3])
            refine tS (i := 24) rfl hHeld ?_; (try simp only [Act.put, zn1, zn2, zn3])
            refine tS (i := 25) rfl hHeld ?_; (try simp only [Act.put, zn1, zn2, zn3])
            refine tS (i := 26) rfl hHeld ?_; (try simp only [Act.put, zn1, zn2, zn3])
            refine tS (i := 27) rfl hHeld ?_; (try simp only [Act.put, zn1, zn2, zn3])
            refine tS (i := 28) rfl hHeld ?_; (try simp only [Act.put, zn1, zn2, zn3])
            refine tS (i := 29) rfl hHeld ?_; (try simp only [Act.put, zn1, zn2, zn3])
            refine tS (i := 30) rfl hHeld ?_; (try simp only [Act.put, zn1, zn2, zn3])
            refine tS (i := 31) rfl hHeld ?_; (try simp only [Act.put, zn1, zn2, zn3])
            refine tS (i := 32) rfl hHeld ?_; (try simp only [Act.put, zn1, zn2, zn3])
            refine tY (i := 33) (v := ?_) rfl ?_ hHeld ?_; rotate_left 1; focus (intro w' hSw; clear hSw; go_simp; try with_reducible rfl)
            (try simp only [Act.put, zn1, zn2, zn3])
            refine wpAnyH_done (by kernel_rfl) ?_ _
            replace cp0 := cellAt cp0 hHeld (by omega)
            replace cp1 := cellAt cp1 hHeld (by omega)
            replace HRa := Lib.hid (HRa.out.at hHeld)
            replace HB := Lib.hid (HB.out.trans (hHeld.mono HB.out.size))
            replace n2 : (wo.heap.size + 1) < wr.drew.heap.size := ltAt n2 hHeld
            go_wp2_with fail
            first | (refine wp_named ?_; intro W3 hW) | (refine calls_named ?_; intro W3 hW)
            have B3 : Below wr.drew.heap.size wr.drew W3 := by rw [hW]; exact (by repeat (first | exact Below.refl _ _ | assumption | refine Below.alloc ?_ (by simp <;> omega) _ | refine Below.setCell ?_ (by simp <;> omega) _ | refine Below.drew ?_))
            replace cp0 := cellAt cp0 B3 (by omega)
            replace cp1 := cellAt cp1 B3 (by omega)
            replace HRa := Lib.hid (HRa.out.at B3)
            replace HB := Lib.hid (HB.out.trans (B3.mono HB.out.size))
            replace n2 : (wo.heap.size + 1) < W3.heap.size := ltAt n2 B3
            clear hW
            clear B3
            try go_wp2_with fail
            refine wp_region_held_drew (S := fun w' => Below W3.heap.size W3 w') (by kernel_rfl) (Below.drew (Below.refl _ _)) (fun hHeld => ?_)
            refine tY (i := 0) (v := ?_) rfl ?_ hHeld ?_; rotate_left 1; focus (intro w' hSw; clear hSw; go_simp; try with_reducible rfl)
            (try simp only [Act.put, zn1, zn2, zn3])
            refine tY (i := 1) (v := ?_) rfl ?_ hHeld ?_; rotate_left 1; focus (intro w' hSw; clear hSw; go_simp; try with_reducible rfl)
            (try simp only [Act.put, zn1, zn2, zn3])
            refine tY (i := 2) (v := ?_) rfl ?_ hHeld ?_; rotate_left 1; focus (intro w' hSw; clear hSw; go_simp; try with_reducible rfl)
            (try simp only [Act.put, zn1, zn2, zn3])
            refine tY (i := 3) (v := ?_) rfl ?_ hHeld ?_; rotate_left 1; focus (intro w' hSw; clear hSw; go_simp; try with_reducible rfl)
            (try simp only [Act.put, zn1, zn2, zn3])
            refine tY (i := 4) (v := ?_) rfl ?_ hHeld ?_; rotate_left 1; focus (intro w' hSw; clear hSw; go_simp; try with_reducible rfl)
            (try simp only [Act.put, zn1, zn2, zn3])
            refine tS (i := 5) rfl hHeld ?_; (try simp only [Act.put, zn1, zn2, zn3])
            refine tS (i := 6) rfl hHeld ?_; (try simp only [Act.put, zn1, zn2, zn3])
            refine tS (i := 7) rfl hHeld ?_; (try simp only [Act.put, zn1, zn2, zn3])
            refine tS (i := 8) rfl hHeld ?_; (try simp only [Act.put, zn1, zn2, zn3])
            refine tS (i := 9) rfl hHeld ?_; (try simp only [Act.put, zn1, zn2, zn3])
            refine tS (i := 10) rfl hHeld ?_; (try simp only [Act.put, zn1, zn2, zn3])
            refine tY (i := 11) (v := ?_) rfl ?_ hHeld ?_; rotate_left 1; focus (intro w' hSw; clear hSw; go_simp; try with_reducible rfl)
            (try simp only [Act.put, zn1, zn2, zn3])
            refine wpAnyH_done (by kernel_rfl) ?_ _
            replace cp0 := cellAt cp0 hHeld (by omega)
            replace cp1 := cellAt cp1 hHeld (by omega)
            replace HRa := Lib.hid (HRa.out.at hHeld)
            replace HB := Lib.hid (HB.out.trans (hHeld.mono HB.out.size))
            replace n2 : (wo.heap.size + 1) < W3.drew.heap.size := ltAt n2 hHeld
            go_wp2_with fail
            obtain ⟨hge, hne⟩ := Hge.out
            have hins : insL ltP (d, s) acc = acc.take k ++ (d, s) :: acc.drop k := by rw [insL_cut acc k hk hall hge, if_neg hne]
            have HI := Lib.hid hins
            first | (refine wp_named ?_; intro W4 hW) | (refine calls_named ?_; intro W4 hW)
            have B4 : Below W3.drew.heap.size W3.drew W4 := by rw [hW]; exact (by repeat (first | exact Below.refl _ _ | assumption | refine Below.alloc ?_ (by simp <;> omega) _ | refine Below.setCell ?_ (by simp <;> omega) _ | refine Below.drew ?_))
            replace cp0 := cellAt cp0 B4 (by omega)
            replace cp1 := cellAt cp1 B4 (by omega)
            replace HRa := Lib.hid (HRa.out.at B4)
            replace HB := Lib.hid (HB.out.trans (B4.mono HB.out.size))
            replace n2 : (wo.heap.size + 1) < W4.heap.size := ltAt n2 B4
            clear hW
            clear B4 hins hge hne
            have hz4 := Nat.le_trans HB1.out.size HB.out.size
            have HR1 := Lib.hid (HRa.out.takeA hk)
            have HR2 := Lib.hid (HRa.out.dropA hk hc)
            have hs1 := run_slice_full (P := Tryz.prog) Tryz.underlying102 hi A acc.length c k (Nat.le_trans hk hc)
            have hs2 := run_slice_tail (P := Tryz.prog) Tryz.underlying102 hi A acc.length c k hk
            rw [hz1] at hs1 hs2
            have HLk := Lib.hid (show (acc.drop k).length = acc.length - k from List.length_drop)
            try go_wp2_with fail
            refine wp_region_held_drew (S := fun w' => Below W4.heap.size W4 w') (by kernel_rfl) (Below.drew (Below.refl _ _)) (fun hHeld => ?_)
            refine tY (i := 0) (v := ?_) rfl ?_ hHeld ?_; rotate_left 1; focus (intro w' hSw; clear hSw; go_simp; try with_reducible rfl)
            (try simp only [Act.put, zn1, zn2, zn3])
            refine tY (i := 1) (v := ?_) rfl ?_ hHeld ?_; rotate_left 1; focus (intro w' hSw; clear hSw; go_simp; try with_reducible rfl)
            (try simp only [Act.put, zn1, zn2, zn3])
            refine tY (i := 2) (v := ?_) rfl ?_ hHeld ?_; rotate_left 1; focus (intro w' hSw; clear hSw; go_simp; try with_reducible rfl)
            (try simp only [Act.put, zn1, zn2, zn3])
            refine tY (i := 3) (v := ?_) rfl ?_ hHeld ?_; rotate_left 1; focus (intro w' hSw; clear hSw; go_simp; try with_reducible rfl)
            (try simp only [Act.put, zn1, zn2, zn3])
            refine tY (i := 4) (v := ?_) rfl ?_ hHeld ?_; rotate_left 1; focus (intro w' hSw; have hCell := fun (b o : Nat) (h : b < W4.heap.size) => hSw.cell (p := ⟨b, o, none⟩) h; clear hSw; go_simp; try with_reducible rfl)
            (try simp only [Act.put, zn1, zn2, zn3])
            refine tY (i := 6) (v := ?_) rfl ?_ hHeld ?_; rotate_left 1; focus (intro w' hSw; clear hSw; go_simp; try with_reducible rfl)
            (try simp only [Act.put, zn1, zn2, zn3])
            refine tY (i := 7) (v := ?_) rfl ?_ hHeld ?_; rotate_left 1; focus (intro w' hSw; clear hSw; go_simp; try with_reducible rfl)
            (try simp only [Act.put, zn1, zn2, zn3])
            refine tY (i := 8) (v := ?_) rfl ?_ hHeld ?_; rotate_left 1; focus (intro w' hSw; clear hSw; go_simp; try with_reducible rfl)
            (try simp only [Act.put, zn1, zn2, zn3])
            refine ready_one (i := 5) rfl (by kernel_rfl) (fun K hK => ?_)
            go_simp
            refine hK.out _ _ ?_ (fun hHeld2 => ?_)
            · (try dsimp only); first | exact hHeld | exact (by repeat (first | exact Below.refl _ _ | assumption | refine Below.alloc ?_ (by simp <;> omega) _ | refine Below.setCell ?_ (by simp <;> omega) _ | refine Below.drew ?_))
            clear hK K hHeld; have hHeld := hHeld2; clear hHeld2; (try simp only [Act.put, zn1, zn2, zn3])
            refine ready_one (i := 9) rfl (by kernel_rfl) (fun K hK => ?_)
            refine step_append_full (by rfl) (.tmp 89) (.tmp 92) 102 (by rfl) 104 i0 _ 2 32 Tryz.underlying102 hi hz0 hz1 hz2 rfl _ (some ⟨W4.heap.size, 0, none⟩) 1 (prC (d, s)) (by rfl) (Rd.lit W4.drew (prC (d, s)) 104 2 1 rfl) (Nat.le_refl _) _ _ (acc.length - k) (c - k) _ (by rfl) (HR2.out.at' (Nat.le_refl _) hHeld) (one_drop (one_prsC acc) _) (by unfold maxLen; omega) (by omega) ?_
            intro A2 c2 v2 hc2 hr2 hb
            have HR3 := Lib.hid hr2
            clear hr2
            refine hK.out _ _ ?_ (fun hHeld2 => ?_)
            · (try dsimp only); first | exact Below.trans hHeld (Below.mono hb hHeld.size) | exact hHeld | exact Below.drew hHeld | exact (by repeat (first | exact Below.refl _ _ | assumption | refine Below.alloc ?_ (by simp <;> omega) _ | refine Below.setCell ?_ (by simp <;> omega) _ | refine Below.drew ?_))
            clear hK K hHeld; have hHeld := hHeld2; clear hHeld2; (try simp only [Act.put, zn1, zn2, zn3])
            refine ready_one (i := 10) rfl (by kernel_rfl) (fun K hK => ?_)
            refine step_append_fresh (by rfl) (.tmp 87) (.tmp 93) 102 (by rfl) 104 i0 _ 2 32 Tryz.underlying102 hi hz0 hz1 hz2 rfl _ _ k _ (by rfl) (HR1.out.at' (Nat.le_refl _) hHeld) (Nat.le_refl _) _ A2 (1 + (acc.length - k)) c2 _ (by rfl) HR3.out (one_app (one_prC _) (one_drop (one_prsC acc) _)) (by unfold maxLen; omega) (by omega) ?_
            intro A3 c3 v3 hc3 hr3 hb hf3
            have hz5 := Nat.le_trans hz4 hHeld.size
            have HR4 := Lib.hid hr3
            clear hr3
            refine hK.out _ _ ?_ (fun hHeld2 => ?_)
            · (try dsimp only); first | exact Below.trans hHeld (Below.mono hb hHeld.size) | exact hHeld | exact Below.drew hHeld | exact (by repeat (first | exact Below.refl _ _ | assumption | refine Below.alloc ?_ (by simp <;> omega) _ | refine Below.setCell ?_ (by simp <;> omega) _ | refine Below.drew ?_))
            clear hK K hHeld; have hHeld := hHeld2; clear hHeld2; (try simp only [Act.put, zn1, zn2, zn3])
            refine tY (i := 11) (v := ?_) rfl ?_ hHeld ?_; rotate_left 1; focus (intro w' hSw; clear hSw; go_simp; try with_reducible rfl)
            (try simp only [Act.put, zn1, zn2, zn3])
            refine wpAnyH_done (by kernel_rfl) ?_ _
            replace cp0 := cellAt cp0 hHeld (by omega)
            replace cp1 := cellAt cp1 hHeld (by omega)
            replace HRa := Lib.hid (HRa.out.at hHeld)
            replace HB := Lib.hid (HB.out.trans (hHeld.mono HB.out.size))
            replace n2 : (wo.heap.size + 1) < v3.heap.size := ltAt n2 hHeld
            clear hs1 hs2
            go_wp2_with fail
            go_roundw
            case rel =>
              have hlen : k + (1 + (acc.length - k)) = (accP es (j + 1)).length := by rw [HN.out, HI.out, List.length_append, List.length_cons, List.length_take, HLk.out]; omega
              refine ⟨j + 1, A3, c3, by omega, by go_num, by rw [hlen], by rw [← hlen]; exact hc3, ?_, fun _ ad e => Nat.le_trans hz5 (hf3 (by omega) ad e), HB.out⟩
              have h4 := HR4.out
              rw [hlen] at h4
              have hx : (prsC acc).take (k * 2) ++ (prC (d, s) ++ (prsC acc).drop (k * 2)) = prsC (accP es (j + 1)) := by rw [HN.out, HI.out, prsC_take, prsC_drop]; simp [prsC]
              rw [hx] at h4
              exact h4
            case measure => simp [intOf]; omega
      · by_cases h7 : r = 7
        · subst h7
          have hp : pairE es[j] = some (s, d) := by rw [Hx.out]; simp [pairE]
          have HN := Lib.hid (accP_some hlt hp)
          clear hp
          go_wp2_with fail
          first | (refine wp_named ?_; intro W2 hW) | (refine calls_named ?_; intro W2 hW)
          have B2 : Below wo.heap.size wo W2 := by rw [hW]; exact (by repeat (first | exact Below.refl _ _ | assumption | refine Below.alloc ?_ (by simp <;> omega) _ | refine Below.setCell ?_ (by simp <;> omega) _ | refine Below.drew ?_))
          replace HRa := Lib.hid (HRa.out.at B2)
          replace HB := Lib.hid (HB.out.trans (B2.mono HB.out.size))
          have n2 : (wo.heap.size + 1) < W2.heap.size := by rw [hW]; simp <;> omega
          have cp0 : W2.cell? ⟨wo.heap.size + 1, 0, none⟩ = some (sv s) := by rw [hW]; go_simp
          have cp1 : W2.cell? ⟨wo.heap.size + 1, 1, none⟩ = some (sv d) := by rw [hW]; go_simp
          clear hW
          clear B2
          generalize hacc : accP es j = acc at *
          have HAcc := Lib.hid hacc
          clear hacc
          have HSs := Lib.hid (show SS ltP acc by rw [← HAcc.out]; exact canon_ss toP _)
          go_loopw [7] (fun i wr => ∃ k : Nat, k ≤ acc.length ∧ i = .int .i64 k ∧ Hid (∀ q ∈ acc.take k, ltP q (s, d) = true) ∧ Below W2.heap.size W2 wr) (fun i _ => acc.length - (intOf i).toNat)
          case atStart => exact ⟨0, Nat.zero_le _, rfl, by simp [Hid], Below.refl _ _⟩
          case round =>
            obtain ⟨k, hk, rfl, hall, hbq⟩ := hrel
            replace cp0 := cellAt cp0 hbq (by omega)
            replace cp1 := cellAt cp1 hbq (by omega)
            replace HRa := Lib.hid (HRa.out.at hbq)
            replace HB := Lib.hid (HB.out.trans (hbq.mono HB.out.size))
            replace n2 : (wo.heap.size + 1) < wr.heap.size := ltAt n2 hbq
            by_cases hlt2 : k < acc.length
            · obtain ⟨b2, o2, hA, hB2, hq0, hq1⟩ := HRa.out.pair hlt2
              subst hA
              generalize hq : acc[k] = q at hq0 hq1
              obtain ⟨a1, a2⟩ := q
              have Hq := Lib.hid hq
              clear hq
              simp only at hq0 hq1
              cases l1 : Op.bytesLess a1 s
              · cases l2 : (a1 == s)
                · have hge : ∀ h : k < acc.length, ltP acc[k] (s, d) = false := fun _ => by rw [Hq.out, ltP_mk]; simp [l1, l2]
                  have hne : ¬ acc[k]? = some (s, d) := by rw [List.getElem?_eq_getElem hlt2, Hq.out]; intro e; injection e with e; injection e with e1 e2; rw [e1] at l2; simp at l2
                  have Hge := Lib.hid (And.intro hge hne)
                  clear hge hne
                  try go_wp2_with fail
                  refine wp_region_held_drew (S := fun w' => Below wr.heap.size wr w') (by kernel_rfl) (Below.drew (Below.refl _ _)) (fun hHeld => ?_)
                  refine tY (i := 0) (v := ?_) rfl ?_ hHeld ?_; rotate_left 1; focus (intro w' hSw; clear hSw; go_simp; try with_reducible rfl)
                  (try simp only [Act.put, zn1, zn2, zn3])
                  refine tY (i := 1) (v := ?_) rfl ?_ hHeld ?_; rotate_left 1; focus (intro w' hSw; clear hSw; go_simp; try with_reducible rfl)
                  (try simp only [Act.put, zn1, zn2, zn3])
                  refine tY (i := 2) (v := ?_) rfl ?_ hHeld ?_; rotate_left 1; focus (intro w' hSw; clear hSw; go_simp; try with_reducible rfl)
                  (try simp only [Act.put, zn1, zn2, zn3])
                  refine tY (i := 3) (v := ?_) rfl ?_ hHeld ?_; rotate_left 1; focus (intro w' hSw; clear hSw; go_simp; try with_reducible rfl)
                  (try simp only [Act.put, zn1, zn2, zn3])
                  refine tY (i := 4) (v := ?_) rfl ?_ hHeld ?_; rotate_left 1; focus (intro w' hSw; clear hSw; go_simp; try with_reducible rfl)
                  (try simp only [Act.put, zn1, zn2, zn3])
                  refine tY (i := 5) (v := ?_) rfl ?_ hHeld ?_; rotate_left 1; focus (intro w' hSw; clear hSw; go_simp; try with_reducible rfl)
                  (try simp only [Act.put, zn1, zn2, zn3])
                  refine tY (i := 6) (v := ?_) rfl ?_ hHeld ?_; rotate_left 1; focus (intro w' hSw; clear hSw; go_simp; try with_reducible rfl)
                  (try simp only [Act.put, zn1, zn2, zn3])
                  refine tY (i := 7) (v := ?_) rfl ?_ hHeld ?_; rotate_left 1; focus (intro w' hSw; clear hSw; go_simp; try with_reducible rfl)
                  (try simp only [Act.put, zn1, zn2, zn3])
                  refine tY (i := 8) (v := ?_) rfl ?_ hHeld ?_; rotate_left 1; focus (intro w' hSw; clear hSw; go_simp; try with_reducible rfl)
                  (try simp only [Act.put, zn1, zn2, zn3])
                  refine tY (i := 9) (v := ?_) rfl ?_ hHeld ?_; rotate_left 1; focus (intro w' hSw; have hCell := fun (b o : Nat) (h : b < wr.heap.size) => hSw.cell (p := ⟨b, o, none⟩) h; clear hSw; go_simp; try with_reducible rfl)
                  (try simp only [Act.put, zn1, zn2, zn3])
                  refine tY (i := 10) (v := ?_) rfl ?_ hHeld ?_; rotate_left 1; focus (intro w' hSw; clear hSw; go_simp; try with_reducible rfl)
                  (try simp only [Act.put, zn1, zn2, zn3])
                  refine tY (i := 11) (v := ?_) rfl ?_ hHeld ?_; rotate_left 1; focus (intro w' hSw; have hCell := fun (b o : Nat) (h : b < wr.heap.size) => hSw.cell (p := ⟨b, o, none⟩) h; clear hSw; go_simp; try with_reducible rfl)
                  (try simp only [Act.put, zn1, zn2, zn3])
                  refine tY (i := 12) (v := ?_) rfl ?_ hHeld ?_; rotate_left 1; focus (intro w' hSw; clear hSw; go_simp; try with_reducible rfl)
                  (try simp only [Act.put, zn1, zn2, zn3])
                  refine tY (i := 13) (v := ?_) rfl ?_ hHeld ?_; rotate_left 1; focus (intro w' hSw; clear hSw; go_simp; try with_reducible rfl)
                  (try simp only [Act.put, zn1, zn2, zn3])
                  refine tY (i := 14) (v := ?_) rfl ?_ hHeld ?_; rotate_left 1; focus (intro w' hSw; clear hSw; go_simp; try with_reducible rfl)
                  (try simp only [Act.put, zn1, zn2, zn3])
                  refine tY (i := 15) (v := ?_) rfl ?_ hHeld ?_; rotate_left 1; focus (intro w' hSw; clear hSw; go_simp; try with_reducible rfl)
                  (try simp only [Act.put, zn1, zn2, zn3])
                  refine tY (i := 16) (v := ?_) rfl ?_ hHeld ?_; rotate_left 1; focus (intro w' hSw; clear hSw; go_simp; try with_reducible rfl)
                  (try simp only [Act.put, zn1, zn2, zn3])
                  refine tY (i := 17) (v := ?_) rfl ?_ hHeld ?_; rotate_left 1; focus (intro w' hSw; clear hSw; go_simp; try with_reducible rfl)
                  (try simp only [Act.put, zn1, zn2, zn3])
                  refine tY (i := 18) (v := ?_) rfl ?_ hHeld ?_; rotate_left 1; focus (intro w' hSw; have hCell := fun (b o : Nat) (h : b < wr.heap.size) => hSw.cell (p := ⟨b, o, none⟩) h; clear hSw; go_simp; try with_reducible rfl)
                  (try simp only [Act.put, zn1, zn2, zn3])
                  refine tY (i := 19) (v := ?_) rfl ?_ hHeld ?_; rotate_left 1; focus (intro w' hSw; clear hSw; go_simp; try with_reducible rfl)
                  (try simp only [Act.put, zn1, zn2, zn3])
                  refine tY (i := 20) (v := ?_) rfl ?_ hHeld ?_; rotate_left 1; focus (intro w' hSw; have hCell := fun (b o : Nat) (h : b < wr.heap.size) => hSw.cell (p := ⟨b, o, none⟩) h; clear hSw; go_simp; try with_reducible rfl)
                  (try simp only [Act.put, zn1, zn2, zn3])
                  refine tY (i := 21) (v := ?_) rfl ?_ hHeld ?_; rotate_left 1; focus (intro w' hSw; clear hSw; go_simp; try with_reducible rfl)
                  (try simp only [Act.put, zn1, zn2, zn3])
                  refine tY (i := 22) (v := ?_) rfl ?_ hHeld ?_; rotate_left 1; focus (intro w' hSw; clear hSw; go_simp; try with_reducible rfl)
                  (try simp only [Act.put, zn1, zn2, zn3])
                  refine tS (i := 23) rfl hHeld ?_; (try simp only [Act.put, zn1, zn2, zn3])
                  refine tS (i := 24) rfl hHeld ?_; (try simp only [Act.put, zn1, zn2, zn3])
                  refine tS (i := 25) rfl hHeld ?_; (try simp only [Act.put, zn1, zn2, zn3])
                  refine tS (i := 26) rfl hHeld ?_; (try simp only [Act.put, zn1, zn2, zn3])
                  refine tS (i := 27) rfl hHeld ?_; (try simp only [Act.put, zn1, zn2, zn3])
                  refine tS (i := 28) rfl hHeld ?_; (try simp only [Act.put, zn1, zn2, zn3])
                  refine tS (i := 29) rfl hHeld ?_; (try simp only [Act.put, zn1, zn2, zn3])
                  refine tS (i := 30) rfl hHeld ?_; (try simp only [Act.put, zn1, zn2, zn3])
                  refine tY (i := 31) (v := ?_) rfl ?_ hHeld ?_; rotate_left 1; focus (intro w' hSw; clear hSw; go_simp; try with_reducible rfl)
                  (try simp only [Act.put, zn1, zn2, zn3])
                  refine tY (i := 32) (v := ?_) rfl ?_ hHeld ?_; rotate_left 1; focus (intro w' hSw; clear hSw; go_simp; try with_reducible rfl)
                  (try simp only [Act.put, zn1, zn2, zn3])
                  refine tY (i := 33) (v := ?_) rfl ?_ hHeld ?_; rotate_left 1; focus (intro w' hSw; clear hSw; go_simp; try with_reducible rfl)
                  (try simp only [Act.put, zn1, zn2, zn3])
                  refine wpAnyH_done (by kernel_rfl) ?_ _
                  replace cp0 := cellAt cp0 hHeld (by omega)
                  replace cp1 := cellAt cp1 hHeld (by omega)
                  replace hq0 := cellAt hq0 hHeld (by omega)
                  replace hq1 := cellAt hq1 hHeld (by omega)
                  replace HRa := Lib.hid (HRa.out.at hHeld)
                  replace HB := Lib.hid (HB.out.trans (hHeld.mono HB.out.size))
                  replace n2 : (wo.heap.size + 1) < wr.drew.heap.size := ltAt n2 hHeld
                  replace hB2 : b2 < wr.drew.heap.size := ltAt hB2 hHeld
                  go_wp2_with fail
                  first | (refine wp_named ?_; intro W3 hW) | (refine calls_named ?_; intro W3 hW)
                  have B3 : Below wr.drew.heap.size wr.drew W3 := by rw [hW]; exact (by repeat (first | exact Below.refl _ _ | assumption | refine Below.alloc ?_ (by simp <;> omega) _ | refine Below.setCell ?_ (by simp <;> omega) _ | refine Below.drew ?_))
                  replace cp0 := cellAt cp0 B3 (by omega)
                  replace cp1 := cellAt cp1 B3 (by omega)
                  replace hq0 := cellAt hq0 B3 (by omega)
                  replace hq1 := cellAt hq1 B3 (by omega)
                  replace HRa := Lib.hid (HRa.out.at B3)
                  replace HB := Lib.hid (HB.out.trans (B3.mono HB.out.size))
                  replace n2 : (wo.heap.size + 1) < W3.heap.size := ltAt n2 B3
                  replace hB2 : b2 < W3.heap.size := ltAt hB2 B3
                  clear hW
                  clear B3
                  try go_wp2_with fail
                  refine wp_region_held_drew (S := fun w' => Below W3.heap.size W3 w') (by kernel_rfl) (Below.drew (Below.refl _ _)) (fun hHeld => ?_)
                  refine tY (i := 0) (v := ?_) rfl ?_ hHeld ?_; rotate_left 1; focus (intro w' hSw; clear hSw; go_simp; try with_reducible rfl)
                  (try simp only [Act.put, zn1, zn2, zn3])
                  refine tY (i := 1) (v := ?_) rfl ?_ hHeld ?_; rotate_left 1; focus (intro w' hSw; clear hSw; go_simp; try with_reducible rfl)
                  (try simp only [Act.put, zn1, zn2, zn3])
                  refine tY (i := 2) (v := ?_) rfl ?_ hHeld ?_; rotate_left 1; focus (intro w' hSw; clear hSw; go_simp; try with_reducible rfl)
                  (try simp only [Act.put, zn1, zn2, zn3])
                  refine tY (i := 3) (v := ?_) rfl ?_ hHeld ?_; rotate_left 1; focus (intro w' hSw; clear hSw; go_simp; try with_reducible rfl)
                  (try simp only [Act.put, zn1, zn2, zn3])
                  refine tY (i := 4) (v := ?_) rfl ?_ hHeld ?_; rotate_left 1; focus (intro w' hSw; clear hSw; go_simp; try with_reducible rfl)
                  (try simp only [Act.put, zn1, zn2, zn3])
                  refine tY (i := 5) (v := ?_) rfl ?_ hHeld ?_; rotate_left 1; focus (intro w' hSw; clear hSw; go_simp; try with_reducible rfl)
                  (try simp only [Act.put, zn1, zn2, zn3])
                  refine tY (i := 6) (v := ?_) rfl ?_ hHeld ?_; rotate_left 1; focus (intro w' hSw; clear hSw; go_simp; try with_reducible rfl)
                  (try simp only [Act.put, zn1, zn2, zn3])
                  refine tY (i := 7) (v := ?_) rfl ?_ hHeld ?_; rotate_left 1; focus (intro w' hSw; clear hSw; go_simp; try with_reducible rfl)
                  (try simp only [Act.put, zn1, zn2, zn3])
                  refine tY (i := 8) (v := ?_) rfl ?_ hHeld ?_; rotate_left 1; focus (intro w' hSw; have hCell := fun (b o : Nat) (h : b < W3.heap.size) => hSw.cell (p := ⟨b, o, none⟩) h; clear hSw; go_simp; try with_reducible rfl)
                  (try simp only [Act.put, zn1, zn2, zn3])
                  refine tY (i := 9) (v := ?_) rfl ?_ hHeld ?_; rotate_left 1; focus (intro w' hSw; have hCell := fun (b o : Nat) (h : b < W3.heap.size) => hSw.cell (p := ⟨b, o, none⟩) h; clear hSw; go_simp; try with_reducible rfl)
                  (try simp only [Act.put, zn1, zn2, zn3])
                  refine tY (i := 10) (v := ?_) rfl ?_ hHeld ?_; rotate_left 1; focus (intro w' hSw; clear hSw; go_simp; try with_reducible rfl)
                  (try simp only [Act.put, zn1, zn2, zn3])
                  refine tY (i := 11) (v := ?_) rfl ?_ hHeld ?_; rotate_left 1; focus (intro w' hSw; clear hSw; go_simp; try with_reducible rfl)
                  (try simp only [Act.put, zn1, zn2, zn3])
                  refine wpAnyH_done (by kernel_rfl) ?_ _
                  replace cp0 := cellAt cp0 hHeld (by omega)
                  replace cp1 := cellAt cp1 hHeld (by omega)
                  replace hq0 := cellAt hq0 hHeld (by omega)
                  replace hq1 := cellAt hq1 hHeld (by omega)
                  replace HRa := Lib.hid (HRa.out.at hHeld)
                  replace HB := Lib.hid (HB.out.trans (hHeld.mono HB.out.size))
                  replace n2 : (wo.heap.size + 1) < W3.drew.heap.size := ltAt n2 hHeld
                  replace hB2 : b2 < W3.drew.heap.size := ltAt hB2 hHeld
                  go_wp2_with fail
                  obtain ⟨hge, hne⟩ := Hge.out
                  have hins : insL ltP (s, d) acc = acc.take k ++ (s, d) :: acc.drop k := by rw [insL_cut acc k hk hall hge, if_neg hne]
                  have HI := Lib.hid hins
                  first | (refine wp_named ?_; intro W4 hW) | (refine calls_named ?_; intro W4 hW)
                  have B4 : Below W3.drew.heap.size W3.drew W4 := by rw [hW]; exact (by repeat (first | exact Below.refl _ _ | assumption | refine Below.alloc ?_ (by simp <;> omega) _ | refine Below.setCell ?_ (by simp <;> omega) _ | refine Below.drew ?_))
                  replace cp0 := cellAt cp0 B4 (by omega)
                  replace cp1 := cellAt cp1 B4 (by omega)
                  replace hq0 := cellAt hq0 B4 (by omega)
                  replace hq1 := cellAt hq1 B4 (by omega)
                  replace HRa := Lib.hid (HRa.out.at B4)
                  replace HB := Lib.hid (HB.out.trans (B4.mono HB.out.size))
                  replace n2 : (wo.heap.size + 1) < W4.heap.size := ltAt n2 B4
                  replace hB2 : b2 < W4.heap.size := ltAt hB2 B4
                  clear hW
                  clear B4 hins hge hne
                  have hz4 := Nat.le_trans HB1.out.size HB.out.size
                  have HR1 := Lib.hid (HRa.out.takeA hk)
                  have HR2 := Lib.hid (HRa.out.dropA hk hc)
                  have hs1 := run_slice_full (P := Tryz.prog) Tryz.underlying102 hi (some ⟨b2, o2, none⟩) acc.length c k (Nat.le_trans hk hc)
                  have hs2 := run_slice_tail (P := Tryz.prog) Tryz.underlying102 hi (some ⟨b2, o2, none⟩) acc.length c k hk
                  rw [hz1] at hs1 hs2
                  have HLk := Lib.hid (show (acc.drop k).length = acc.length - k from List.length_drop)
                  try go_wp2_with fail
                  refine wp_region_held_drew (S := fun w' => Below W4.heap.size W4 w') (by kernel_rfl) (Below.drew (Below.refl _ _)) (fun hHeld => ?_)
                  refine tY (i := 0) (v := ?_) rfl ?_ hHeld ?_; rotate_left 1; focus (intro w' hSw; clear hSw; go_simp; try with_reducible rfl)
                  (try simp only [Act.put, zn1, zn2, zn3])
                  refine tY (i := 1) (v := ?_) rfl ?_ hHeld ?_; rotate_left 1; focus (intro w' hSw; clear hSw; go_simp; try with_reducible rfl)
                  (try simp only [Act.put, zn1, zn2, zn3])
                  refine tY (i := 2) (v := ?_) rfl ?_ hHeld ?_; rotate_left 1; focus (intro w' hSw; clear hSw; go_simp; try with_reducible rfl)
                  (try simp only [Act.put, zn1, zn2, zn3])
                  refine tY (i := 3) (v := ?_) rfl ?_ hHeld ?_; rotate_left 1; focus (intro w' hSw; clear hSw; go_simp; try with_reducible rfl)
                  (try simp only [Act.put, zn1, zn2, zn3])
                  refine tY (i := 4) (v := ?_) rfl ?_ hHeld ?_; rotate_left 1; focus (intro w' hSw; have hCell := fun (b o : Nat) (h : b < W4.heap.size) => hSw.cell (p := ⟨b, o, none⟩) h; clear hSw; go_simp; try with_reducible rfl)
                  (try simp only [Act.put, zn1, zn2, zn3])
                  refine tY (i := 6) (v := ?_) rfl ?_ hHeld ?_; rotate_left 1; focus (intro w' hSw; clear hSw; go_simp; try with_reducible rfl)
                  (try simp only [Act.put, zn1, zn2, zn3])
                  refine tY (i := 7) (v := ?_) rfl ?_ hHeld ?_; rotate_left 1; focus (intro w' hSw; clear hSw; go_simp; try with_reducible rfl)
                  (try simp only [Act.put, zn1, zn2, zn3])
                  refine tY (i := 8) (v := ?_) rfl ?_ hHeld ?_; rotate_left 1; focus (intro w' hSw; clear hSw; go_simp; try with_reducible rfl)
                  (try simp only [Act.put, zn1, zn2, zn3])
                  refine ready_one (i := 5) rfl (by kernel_rfl) (fun K hK => ?_)
                  go_simp
                  refine hK.out _ _ ?_ (fun hHeld2 => ?_)
                  · (try dsimp only); first | exact hHeld | exact (by repeat (first | exact Below.refl _ _ | assumption | refine Below.alloc ?_ (by simp <;> omega) _ | refine Below.setCell ?_ (by simp <;> omega) _ | refine Below.drew ?_))
                  clear hK K hHeld; have hHeld := hHeld2; clear hHeld2; (try simp only [Act.put, zn1, zn2, zn3])
                  refine ready_one (i := 9) rfl (by kernel_rfl) (fun K hK => ?_)
                  refine step_append_full (by rfl) (.tmp 89) (.tmp 92) 102 (by rfl) 104 i0 _ 2 32 Tryz.underlying102 hi hz0 hz1 hz2 rfl _ (some ⟨W4.heap.size, 0, none⟩) 1 (prC (s, d)) (by rfl) (Rd.lit W4.drew (prC (s, d)) 104 2 1 rfl) (Nat.le_refl _) _ _ (acc.length - k) (c - k) _ (by rfl) (HR2.out.at' (Nat.le_refl _) hHeld) (one_drop (one_prsC acc) _) (by unfold maxLen; omega) (by omega) ?_
                  intro A2 c2 v2 hc2 hr2 hb
                  have HR3 := Lib.hid hr2
                  clear hr2
                  refine hK.out _ _ ?_ (fun hHeld2 => ?_)
                  · (try dsimp only); first | exact Below.trans hHeld (Below.mono hb hHeld.size) | exact hHeld | exact Below.drew hHeld | exact (by repeat (first | exact Below.refl _ _ | assumption | refine Below.alloc ?_ (by simp <;> omega) _ | refine Below.setCell ?_ (by simp <;> omega) _ | refine Below.drew ?_))
                  clear hK K hHeld; have hHeld := hHeld2; clear hHeld2; (try simp only [Act.put, zn1, zn2, zn3])
                  refine ready_one (i := 10) rfl (by kernel_rfl) (fun K hK => ?_)
                  refine step_append_fresh (by rfl) (.tmp 87) (.tmp 93) 102 (by rfl) 104 i0 _ 2 32 Tryz.underlying102 hi hz0 hz1 hz2 rfl _ _ k _ (by rfl) (HR1.out.at' (Nat.le_refl _) hHeld) (Nat.le_refl _) _ A2 (1 + (acc.length - k)) c2 _ (by rfl) HR3.out (one_app (one_prC _) (one_drop (one_prsC acc) _)) (by unfold maxLen; omega) (by omega) ?_
                  intro A3 c3 v3 hc3 hr3 hb hf3
                  have hz5 := Nat.le_trans hz4 hHeld.size
                  have HR4 := Lib.hid hr3
                  clear hr3
                  refine hK.out _ _ ?_ (fun hHeld2 => ?_)
                  · (try dsimp only); first | exact Below.trans hHeld (Below.mono hb hHeld.size) | exact hHeld | exact Below.drew hHeld | exact (by repeat (first | exact Below.refl _ _ | assumption | refine Below.alloc ?_ (by simp <;> omega) _ | refine Below.setCell ?_ (by simp <;> omega) _ | refine Below.drew ?_))
                  clear hK K hHeld; have hHeld := hHeld2; clear hHeld2; (try simp only [Act.put, zn1, zn2, zn3])
                  refine tY (i := 11) (v := ?_) rfl ?_ hHeld ?_; rotate_left 1; focus (intro w' hSw; clear hSw; go_simp; try with_reducible rfl)
                  (try simp only [Act.put, zn1, zn2, zn3])
                  refine wpAnyH_done (by kernel_rfl) ?_ _
                  replace cp0 := cellAt cp0 hHeld (by omega)
                  replace cp1 := cellAt cp1 hHeld (by omega)
                  replace hq0 := cellAt hq0 hHeld (by omega)
                  replace hq1 := cellAt hq1 hHeld (by omega)
                  replace HRa := Lib.hid (HRa.out.at hHeld)
                  replace HB := Lib.hid (HB.out.trans (hHeld.mono HB.out.size))
                  replace n2 : (wo.heap.size + 1) < v3.heap.size := ltAt n2 hHeld
                  replace hB2 : b2 < v3.heap.size := ltAt hB2 hHeld
                  clear hs1 hs2
                  go_wp2_with fail
                  go_roundw
                  case rel =>
                    have hlen : k + (1 + (acc.length - k)) = (accP es (j + 1)).length := by rw [HN.out, HI.out, List.length_append, List.length_cons, List.length_take, HLk.out]; omega
                    refine ⟨j + 1, A3, c3, by omega, by go_num, by rw [hlen], by rw [← hlen]; exact hc3, ?_, fun _ ad e => Nat.le_trans hz5 (hf3 (by omega) ad e), HB.out⟩
                    have h4 := HR4.out
                    rw [hlen] at h4
                    have hx : (prsC acc).take (k * 2) ++ (prC (s, d) ++ (prsC acc).drop (k * 2)) = prsC (accP es (j + 1)) := by rw [HN.out, HI.out, prsC_take, prsC_drop]; simp [prsC]
                    rw [hx] at h4
                    exact h4
                  case measure => simp [intOf]; omega
                · cases l3 : Op.bytesLess a2 d
                  · have hge : ∀ h : k < acc.length, ltP acc[k] (s, d) = false := fun _ => by rw [Hq.out, ltP_mk]; simp [l1, l3]
                    have Hge := Lib.hid hge
                    clear hge
                    cases l4 : (a2 == d)
                    · have hne : ¬ acc[k]? = some (s, d) := by rw [List.getElem?_eq_getElem hlt2, Hq.out]; intro e; injection e with e; injection e with e1 e2; rw [e2] at l4; simp at l4
                      have Hne := Lib.hid hne
                      clear hne
                      try go_wp2_with fail
                      refine wp_region_held_drew (S := fun w' => Below wr.heap.size wr w') (by kernel_rfl) (Below.drew (Below.refl _ _)) (fun hHeld => ?_)
                      refine tY (i := 0) (v := ?_) rfl ?_ hHeld ?_; rotate_left 1; focus (intro w' hSw; clear hSw; go_simp; try with_reducible rfl)
                      (try simp only [Act.put, zn1, zn2, zn3])
                      refine tY (i := 1) (v := ?_) rfl ?_ hHeld ?_; rotate_left 1; focus (intro w' hSw; clear hSw; go_simp; try with_reducible rfl)
                      (try simp only [Act.put, zn1, zn2, zn3])
                      refine tY (i := 2) (v := ?_) rfl ?_ hHeld ?_; rotate_left 1; focus (intro w' hSw; clear hSw; go_simp; try with_reducible rfl)
                      (try simp only [Act.put, zn1, zn2, zn3])
                      refine tY (i := 3) (v := ?_) rfl ?_ hHeld ?_; rotate_left 1; focus (intro w' hSw; clear hSw; go_simp; try with_reducible rfl)
                      (try simp only [Act.put, zn1, zn2, zn3])
                      refine tY (i := 4) (v := ?_) rfl ?_ hHeld ?_; rotate_left 1; focus (intro w' hSw; clear hSw; go_simp; try with_reducible rfl)
                      (try simp only [Act.put, zn1, zn2, zn3])
                      refine tY (i := 5) (v := ?_) rfl ?_ hHeld ?_; rotate_left 1; focus (intro w' hSw; clear hSw; go_simp; try with_reducible rfl)
                      (try simp only [Act.put, zn1, zn2, zn3])
                      refine tY (i := 6) (v := ?_) rfl ?_ hHeld ?_; rotate_left 1; focus (intro w' hSw; clear hSw; go_simp; try with_reducible rfl)
                      (try simp only [Act.put, zn1, zn2, zn3])
                      refine tY (i := 7) (v := ?_) rfl ?_ hHeld ?_; rotate_left 1; focus (intro w' hSw; clear hSw; go_simp; try with_reducible rfl)
                      (try simp only [Act.put, zn1, zn2, zn3])
                      refine tY (i := 8) (v := ?_) rfl ?_ hHeld ?_; rotate_left 1; focus (intro w' hSw; clear hSw; go_simp; try with_reducible rfl)
                      (try simp only [Act.put, zn1, zn2, zn3])
                      refine tY (i := 9) (v := ?_) rfl ?_ hHeld ?_; rotate_left 1; focus (intro w' hSw; have hCell := fun (b o : Nat) (h : b < wr.heap.size) => hSw.cell (p := ⟨b, o, none⟩) h; clear hSw; go_simp; try with_reducible rfl)
                      (try simp only [Act.put, zn1, zn2, zn3])
                      refine tY (i := 10) (v := ?_) rfl ?_ hHeld ?_; rotate_left 1; focus (intro w' hSw; clear hSw; go_simp; try with_reducible rfl)
                      (try simp only [Act.put, zn1, zn2, zn3])
                      refine tY (i := 11) (v := ?_) rfl ?_ hHeld ?_; rotate_left 1; focus (intro w' hSw; have hCell := fun (b o : Nat) (h : b < wr.heap.size) => hSw.cell (p := ⟨b, o, none⟩) h; clear hSw; go_simp; try with_reducible rfl)
                      (try simp only [Act.put, zn1, zn2, zn3])
                      refine tY (i := 12) (v := ?_) rfl ?_ hHeld ?_; rotate_left 1; focus (intro w' hSw; clear hSw; go_simp; try with_reducible rfl)
                      (try simp only [Act.put, zn1, zn2, zn3])
                      refine tY (i := 13) (v := ?_) rfl ?_ hHeld ?_; rotate_left 1; focus (intro w' hSw; clear hSw; go_simp; try with_reducible rfl)
                      (try simp only [Act.put, zn1, zn2, zn3])
                      refine tY (i := 14) (v := ?_) rfl ?_ hHeld ?_; rotate_left 1; focus (intro w' hSw; clear hSw; go_simp; try with_reducible rfl)
                      (try simp only [Act.put, zn1, zn2, zn3])
                      refine tY (i := 15) (v := ?_) rfl ?_ hHeld ?_; rotate_left 1; focus (intro w' hSw; clear hSw; go_simp; try with_reducible rfl)
                      (try simp only [Act.put, zn1, zn2, zn3])
                      refine tY (i := 16) (v := ?_) rfl ?_ hHeld ?_; rotate_left 1; focus (intro w' hSw; clear hSw; go_simp; try with_reducible rfl)
                      (try simp only [Act.put, zn1, zn2, zn3])
                      refine tY (i := 17) (v := ?_) rfl ?_ hHeld ?_; rotate_left 1; focus (intro w' hSw; clear hSw; go_simp; try with_reducible rfl)
                      (try simp only [Act.put, zn1, zn2, zn3])
                      refine tY (i := 18) (v := ?_) rfl ?_ hHeld ?_; rotate_left 1; focus (intro w' hSw; have hCell := fun (b o : Nat) (h : b < wr.heap.size) => hSw.cell (p := ⟨b, o, none⟩) h; clear hSw; go_simp; try with_reducible rfl)
                      (try simp only [Act.put, zn1, zn2, zn3])
                      refine tY (i := 19) (v := ?_) rfl ?_ hHeld ?_; rotate_left 1; focus (intro w' hSw; clear hSw; go_simp; try with_reducible rfl)
                      (try simp only [Act.put, zn1, zn2, zn3])
                      refine tY (i := 20) (v := ?_) rfl ?_ hHeld ?_; rotate_left 1; focus (intro w' hSw; have hCell := fun (b o : Nat) (h : b < wr.heap.size) => hSw.cell (p := ⟨b, o, none⟩) h; clear hSw; go_simp; try with_reducible rfl)
                      (try simp only [Act.put, zn1, zn2, zn3])
                      refine tY (i := 21) (v := ?_) rfl ?_ hHeld ?_; rotate_left 1; focus (intro w' hSw; clear hSw; go_simp; try with_reducible rfl)
                      (try simp only [Act.put, zn1, zn2, zn3])
                      refine tY (i := 22) (v := ?_) rfl ?_ hHeld ?_; rotate_left 1; focus (intro w' hSw; clear hSw; go_simp; try with_reducible rfl)
                      (try simp only [Act.put, zn1, zn2, zn3])
                      refine tY (i := 23) (v := ?_) rfl ?_ hHeld ?_; rotate_left 1; focus (intro w' hSw; clear hSw; go_simp; try with_reducible rfl)
                      (try simp only [Act.put, zn1, zn2, zn3])
                      refine tY (i := 24) (v := ?_) rfl ?_ hHeld ?_; rotate_left 1; focus (intro w' hSw; clear hSw; go_simp; try with_reducible rfl)
                      (try simp only [Act.put, zn1, zn2, zn3])
                      refine tY (i := 25) (v := ?_) rfl ?_ hHeld ?_; rotate_left 1; focus (intro w' hSw; clear hSw; go_simp; try with_reducible rfl)
                      (try simp only [Act.put, zn1, zn2, zn3])
                      refine tY (i := 26) (v := ?_) rfl ?_ hHeld ?_; rotate_left 1; focus (intro w' hSw; clear hSw; go_simp; try with_reducible rfl)
                      (try simp only [Act.put, zn1, zn2, zn3])
                      refine tY (i := 27) (v := ?_) rfl ?_ hHeld ?_; rotate_left 1; focus (intro w' hSw; have hCell := fun (b o : Nat) (h : b < wr.heap.size) => hSw.cell (p := ⟨b, o, none⟩) h; clear hSw; go_simp; try with_reducible rfl)
                      (try simp only [Act.put, zn1, zn2, zn3])
                      refine tY (i := 28) (v := ?_) rfl ?_ hHeld ?_; rotate_left 1; focus (intro w' hSw; clear hSw; go_simp; try with_reducible rfl)
                      (try simp only [Act.put, zn1, zn2, zn3])
                      refine tY (i := 29) (v := ?_) rfl ?_ hHeld ?_; rotate_left 1; focus (intro w' hSw; have hCell := fun (b o : Nat) (h : b < wr.heap.size) => hSw.cell (p := ⟨b, o, none⟩) h; clear hSw; go_simp; try with_reducible rfl)
                      (try simp only [Act.put, zn1, zn2, zn3])
                      refine tY (i := 30) (v := ?_) rfl ?_ hHeld ?_; rotate_left 1; focus (intro w' hSw; clear hSw; go_simp; try with_reducible rfl)
                      (try simp only [Act.put, zn1, zn2, zn3])
                      refine tY (i := 31) (v := ?_) rfl ?_ hHeld ?_; rotate_left 1; focus (intro w' hSw; clear hSw; go_simp; try with_reducible rfl)
                      (try simp only [Act.put, zn1, zn2, zn3])
                      refine tY (i := 32) (v := ?_) rfl ?_ hHeld ?_; rotate_left 1; focus (intro w' hSw; clear hSw; go_simp; try with_reducible rfl)
                      (try simp only [Act.put, zn1, zn2, zn3])
                      refine tY (i := 33) (v := ?_) rfl ?_ hHeld ?_; rotate_left 1; focus (intro w' hSw; clear hSw; go_simp; try with_reducible rfl)
                      (try simp only [Act.put, zn1, zn2, zn3])
                      refine wpAnyH_done (by kernel_rfl) ?_ _
                      replace cp0 := cellAt cp0 hHeld (by omega)
                      replace cp1 := cellAt cp1 hHeld (by omega)
                      replace hq0 := cellAt hq0 hHeld (by omega)
                      replace hq1 := cellAt hq1 hHeld (by omega)
                      replace HRa := Lib.hid (HRa.out.at hHeld)
                      replace HB := Lib.hid (HB.out.trans (hHeld.mono HB.out.size))
                      replace n2 : (wo.heap.size + 1) < wr.drew.heap.size := ltAt n2 hHeld
                      replace hB2 : b2 < wr.drew.heap.size := ltAt hB2 hHeld
                      go_wp2_with fail
                      first | (refine wp_named ?_; intro W3 hW) | (refine calls_named ?_; intro W3 hW)
                      have B3 : Below wr.drew.heap.size wr.drew W3 := by rw [hW]; exact (by repeat (first | exact Below.refl _ _ | assumption | refine Below.alloc ?_ (by simp <;> omega) _ | refine Below.setCell ?_ (by simp <;> omega) _ | refine Below.drew ?_))
                      replace cp0 := cellAt cp0 B3 (by omega)
                      replace cp1 := cellAt cp1 B3 (by omega)
                      replace hq0 := cellAt hq0 B3 (by omega)
                      replace hq1 := cellAt hq1 B3 (by omega)
                      replace HRa := Lib.hid (HRa.out.at B3)
                      replace HB := Lib.hid (HB.out.trans (B3.mono HB.out.size))
                      replace n2 : (wo.heap.size + 1) < W3.heap.size := ltAt n2 B3
                      replace hB2 : b2 < W3.heap.size := ltAt hB2 B3
                      clear hW
                      clear B3
                      try go_wp2_with fail
                      refine wp_region_held_drew (S := fun w' => Below W3.heap.size W3 w') (by kernel_rfl) (Below.drew (Below.refl _ _)) (fun hHeld => ?_)
                      refine tY (i := 0) (v := ?_) rfl ?_ hHeld ?_; rotate_left 1; focus (intro w' hSw; clear hSw; go_simp; try with_reducible rfl)
                      (try simp only [Act.put, zn1, zn2, zn3])
                      refine tY (i := 1) (v := ?_) rfl ?_ hHeld ?_; rotate_left 1; focus (intro w' hSw; clear hSw; go_simp; try with_reducible rfl)
                      (try simp only [Act.put, zn1, zn2, zn3])
                      refine tY (i := 2) (v := ?_) rfl ?_ hHeld ?_; rotate_left 1; focus (intro w' hSw; clear hSw; go_simp; try with_reducible rfl)
                      (try simp only [Act.put, zn1, zn2, zn3])
                      refine tY (i := 3) (v := ?_) rfl ?_ hHeld ?_; rotate_left 1; focus (intro w' hSw; clear hSw; go_simp; try with_reducible rfl)
                      (try simp only [Act.put, zn1, zn2, zn3])
                      refine tY (i := 4) (v := ?_) rfl ?_ hHeld ?_; rotate_left 1; focus (intro w' hSw; clear hSw; go_simp; try with_reducible rfl)
                      (try simp only [Act.put, zn1, zn2, zn3])
                      refine tY (i := 5) (v := ?_) rfl ?_ hHeld ?_; rotate_left 1; focus (intro w' hSw; clear hSw; go_simp; try with_reducible rfl)
                      (try simp only [Act.put, zn1, zn2, zn3])
                      refine tY (i := 6) (v := ?_) rfl ?_ hHeld ?_; rotate_left 1; focus (intro w' hSw; clear hSw; go_simp; try with_reducible rfl)
                      (try simp only [Act.put, zn1, zn2, zn3])
                      refine tY (i := 7) (v := ?_) rfl ?_ hHeld ?_; rotate_left 1; focus (intro w' hSw; clear hSw; go_simp; try with_reducible rfl)
                      (try simp only [Act.put, zn1, zn2, zn3])
                      refine tY (i := 8) (v := ?_) rfl ?_ hHeld ?_; rotate_left 1; focus (intro w' hSw; have hCell := fun (b o : Nat) (h : b < W3.heap.size) => hSw.cell (p := ⟨b, o, none⟩) h; clear hSw; go_simp; try with_reducible rfl)
                      (try simp only [Act.put, zn1, zn2, zn3])
                      refine tY (i := 9) (v := ?_) rfl ?_ hHeld ?_; rotate_left 1; focus (intro w' hSw; have hCell := fun (b o : Nat) (h : b < W3.heap.size) => hSw.cell (p := ⟨b, o, none⟩) h; clear hSw; go_simp; try with_reducible rfl)
                      (try simp only [Act.put, zn1, zn2, zn3])
                      refine tY (i := 10) (v := ?_) rfl ?_ hHeld ?_; rotate_left 1; focus (intro w' hSw; clear hSw; go_simp; try with_reducible rfl)
                      (try simp only [Act.put, zn1, zn2, zn3])
                      refine tY (i := 11) (v := ?_) rfl ?_ hHeld ?_; rotate_left 1; focus (intro w' hSw; clear hSw; go_simp; try with_reducible rfl)
                      (try simp only [Act.put, zn1, zn2, zn3])
                      refine wpAnyH_done (by kernel_rfl) ?_ _
                      replace cp0 := cellAt cp0 hHeld (by omega)
                      replace cp1 := cellAt cp1 hHeld (by omega)
                      replace hq0 := cellAt hq0 hHeld (by omega)
                      replace hq1 := cellAt hq1 hHeld (by omega)
                      replace HRa := Lib.hid (HRa.out.at hHeld)
                      replace HB := Lib.hid (HB.out.trans (hHeld.mono HB.out.size))
                      replace n2 : (wo.heap.size + 1) < W3.drew.heap.size := ltAt n2 hHeld
                      replace hB2 : b2 < W3.drew.heap.size := ltAt hB2 hHeld
                      go_wp2_with fail
                      have hge := Hge.out
                      have hne := Hne.out
                      have hins : insL ltP (s, d) acc = acc.take k ++ (s, d) :: acc.drop k := by rw [insL_cut acc k hk hall hge, if_neg hne]
                      have HI := Lib.hid hins
                      first | (refine wp_named ?_; intro W4 hW) | (refine calls_named ?_; intro W4 hW)
                      have B4 : Below W3.drew.heap.size W3.drew W4 := by rw [hW]; exact (by repeat (first | exact Below.refl _ _ | assumption | refine Below.alloc ?_ (by simp <;> omega) _ | refine Below.setCell ?_ (by simp <;> omega) _ | refine Below.drew ?_))
                      replace cp0 := cellAt cp0 B4 (by omega)
                      replace cp1 := cellAt cp1 B4 (by omega)
                      replace hq0 := cellAt hq0 B4 (by omega)
                      replace hq1 := cellAt hq1 B4 (by omega)
                      replace HRa := Lib.hid (HRa.out.at B4)
                      replace HB := Lib.hid (HB.out.trans (B4.mono HB.out.size))
                      replace n2 : (wo.heap.size + 1) < W4.heap.size := ltAt n2 B4
                      replace hB2 : b2 < W4.heap.size := ltAt hB2 B4
                      clear hW
                      clear B4 hins hge hne
                      have hz4 := Nat.le_trans HB1.out.size HB.out.size
                      have HR1 := Lib.hid (HRa.out.takeA hk)
                      have HR2 := Lib.hid (HRa.out.dropA hk hc)
                      have hs1 := run_slice_full (P := Tryz.prog) Tryz.underlying102 hi (some ⟨b2, o2, none⟩) acc.length c k (Nat.le_trans hk hc)
                      have hs2 := run_slice_tail (P := Tryz.prog) Tryz.underlying102 hi (some ⟨b2, o2, none⟩) acc.length c k hk
                      rw [hz1] at hs1 hs2
                      have HLk := Lib.hid (show (acc.drop k).length = acc.length - k from List.length_drop)
                      try go_wp2_with fail
                      refine wp_region_held_drew (S := fun w' => Below W4.heap.size W4 w') (by kernel_rfl) (Below.drew (Below.refl _ _)) (fun hHeld => ?_)
                      refine tY (i := 0) (v := ?_) rfl ?_ hHeld ?_; rotate_left 1; focus (intro w' hSw; clear hSw; go_simp; try with_reducible rfl)
                      (try simp only [Act.put, zn1, zn2, zn3])
                      refine tY (i := 1) (v := ?_) rfl ?_ hHeld ?_; rotate_left 1; focus (intro w' hSw; clear hSw; go_simp; try with_reducible rfl)
                      (try simp only [Act.put, zn1, zn2, zn3])
                      refine tY (i := 2) (v := ?_) rfl ?_ hHeld ?_; rotate_left 1; focus (intro w' hSw; clear hSw; go_simp; try with_reducible rfl)
                      (try simp only [Act.put, zn1, zn2, zn3])
                      refine tY (i := 3) (v := ?_) rfl ?_ hHeld ?_; rotate_left 1; focus (intro w' hSw; clear hSw; go_simp; try with_reducible rfl)
                      (try simp only [Act.put, zn1, zn2, zn3])
                      refine tY (i := 4) (v := ?_) rfl ?_ hHeld ?_; rotate_left 1; focus (intro w' hSw; have hCell := fun (b o : Nat) (h : b < W4.heap.size) => hSw.cell (p := ⟨b, o, none⟩) h; clear hSw; go_simp; try with_reducible rfl)
                      (try simp only [Act.put, zn1, zn2, zn3])
                      refine tY (i := 6) (v := ?_) rfl ?_ hHeld ?_; rotate_left 1; focus (intro w' hSw; clear hSw; go_simp; try with_reducible rfl)
                      (try simp only [Act.put, zn1, zn2, zn3])
                      refine tY (i := 7) (v := ?_) rfl ?_ hHeld ?_; rotate_left 1; focus (intro w' hSw; clear hSw; go_simp; try with_reducible rfl)
                      (try simp only [Act.put, zn1, zn2, zn3])
                      refine tY (i := 8) (v := ?_) rfl ?_ hHeld ?_; rotate_left 1; focus (intro w' hSw; clear hSw; go_simp; try with_reducible rfl)
                      (try simp only [Act.put, zn1, zn2, zn3])
                      refine ready_one (i := 5) rfl (by kernel_rfl) (fun K hK => ?_)
                      go_simp
                      refine hK.out _ _ ?_ (fun hHeld2 => ?_)
                      · (try dsimp only); first | exact hHeld | exact (by repeat (first | exact Below.refl _ _ | assumption | refine Below.alloc ?_ (by simp <;> omega) _ | refine Below.setCell ?_ (by simp <;> omega) _ | refine Below.drew ?_))
                      clear hK K hHeld; have hHeld := hHeld2; clear hHeld2; (try simp only [Act.put, zn1, zn2, zn3])
                      refine ready_one (i := 9) rfl (by kernel_rfl) (fun K hK => ?_)
                      refine step_append_full (by rfl) (.tmp 89) (.tmp 92) 102 (by rfl) 104 i0 _ 2 32 Tryz.underlying102 hi hz0 hz1 hz2 rfl _ (some ⟨W4.heap.size, 0, none⟩) 1 (prC (s, d)) (by rfl) (Rd.lit W4.drew (prC (s, d)) 104 2 1 rfl) (Nat.le_refl _) _ _ (acc.length - k) (c - k) _ (by rfl) (HR2.out.at' (Nat.le_refl _) hHeld) (one_drop (one_prsC acc) _) (by unfold maxLen; omega) (by omega) ?_
                      intro A2 c2 v2 hc2 hr2 hb
                      have HR3 := Lib.hid hr2
                      clear hr2
                      refine hK.out _ _ ?_ (fun hHeld2 => ?_)
                      · (try dsimp only); first | exact Below.trans hHeld (Below.mono hb hHeld.size) | exact hHeld | exact Below.drew hHeld | exact (by repeat (first | exact Below.refl _ _ | assumption | refine Below.alloc ?_ (by simp <;> omega) _ | refine Below.setCell ?_ (by simp <;> omega) _ | refine Below.drew ?_))
                      clear hK K hHeld; have hHeld := hHeld2; clear hHeld2; (try simp only [Act.put, zn1, zn2, zn3])
                      refine ready_one (i := 10) rfl (by kernel_rfl) (fun K hK => ?_)
                      refine step_append_fresh (by rfl) (.tmp 87) (.tmp 93) 102 (by rfl) 104 i0 _ 2 32 Tryz.underlying102 hi hz0 hz1 hz2 rfl _ _ k _ (by rfl) (HR1.out.at' (Nat.le_refl _) hHeld) (Nat.le_refl _) _ A2 (1 + (acc.length - k)) c2 _ (by rfl) HR3.out (one_app (one_prC _) (one_drop (one_prsC acc) _)) (by unfold maxLen; omega) (by omega) ?_
                      intro A3 c3 v3 hc3 hr3 hb hf3
                      have hz5 := Nat.le_trans hz4 hHeld.size
                      have HR4 := Lib.hid hr3
                      clear hr3
                      refine hK.out _ _ ?_ (fun hHeld2 => ?_)
                      · (try dsimp only); first | exact Below.trans hHeld (Below.mono hb hHeld.size) | exact hHeld | exact Below.drew hHeld | exact (by repeat (first | exact Below.refl _ _ | assumption | refine Below.alloc ?_ (by simp <;> omega) _ | refine Below.setCell ?_ (by simp <;> omega) _ | refine Below.drew ?_))
                      clear hK K hHeld; have hHeld := hHeld2; clear hHeld2; (try simp only [Act.put, zn1, zn2, zn3])
                      refine tY (i := 11) (v := ?_) rfl ?_ hHeld ?_; rotate_left 1; focus (intro w' hSw; clear hSw; go_simp; try with_reducible rfl)
                      (try simp only [Act.put, zn1, zn2, zn3])
                      refine wpAnyH_done (by kernel_rfl) ?_ _
                      replace cp0 := cellAt cp0 hHeld (by omega)
                      replace cp1 := cellAt cp1 hHeld (by omega)
                      replace hq0 := cellAt hq0 hHeld (by omega)
                      replace hq1 := cellAt hq1 hHeld (by omega)
                      replace HRa := Lib.hid (HRa.out.at hHeld)
                      replace HB := Lib.hid (HB.out.trans (hHeld.mono HB.out.size))
                      replace n2 : (wo.heap.size + 1) < v3.heap.size := ltAt n2 hHeld
                      replace hB2 : b2 < v3.heap.size := ltAt hB2 hHeld
                      clear hs1 hs2
                      go_wp2_with fail
                      go_roundw
                      case rel =>
                        have hlen : k + (1 + (acc.length - k)) = (accP es (j + 1)).length := by rw [HN.out, HI.out, List.length_append, List.length_cons, List.length_take, HLk.out]; omega
                        refine ⟨j + 1, A3, c3, by omega, by go_num, by rw [hlen], by rw [← hlen]; exact hc3, ?_, fun _ ad e => Nat.le_trans hz5 (hf3 (by omega) ad e), HB.out⟩
                        have h4 := HR4.out
                        rw [hlen] at h4
                        have hx : (prsC acc).take (k * 2) ++ (prC (s, d) ++ (prsC acc).drop (k * 2)) = prsC (accP es (j + 1)) := by rw [HN.out, HI.out, prsC_take, prsC_drop]; simp [prsC]
                        rw [hx] at h4
                        exact h4
                      case measure => simp [intOf]; omega
                    · skip
                      try go_wp2_with fail
                      refine wp_region_held_drew (S := fun w' => Below wr.heap.size wr w') (by kernel_rfl) (Below.drew (Below.refl _ _)) (fun hHeld => ?_)
                      refine tY (i := 0) (v := ?_) rfl ?_ hHeld ?_; rotate_left 1; focus (intro w' hSw; clear hSw; go_simp; try with_reducible rfl)
                      (try simp only [Act.put, zn1, zn2, zn3])
                      refine tY (i := 1) (v := ?_) rfl ?_ hHeld ?_; rotate_left 1; focus (intro w' hSw; clear hSw; go_simp; try with_reducible rfl)
                      (try simp only [Act.put, zn1, zn2, zn3])
                      refine tY (i := 2) (v := ?_) rfl ?_ hHeld ?_; rotate_left 1; focus (intro w' hSw; clear hSw; go_simp; try with_reducible rfl)
                      (try simp only [Act.put, zn1, zn2, zn3])
                      refine tY (i := 3) (v := ?_) rfl ?_ hHeld ?_; rotate_left 1; focus (intro w' hSw; clear hSw; go_simp; try with_reducible rfl)
                      (try simp only [Act.put, zn1, zn2, zn3])
                      refine tY (i := 4) (v := ?_) rfl ?_ hHeld ?_; rotate_left 1; focus (intro w' hSw; clear hSw; go_simp; try with_reducible rfl)
                      (try simp only [Act.put, zn1, zn2, zn3])
                      refine tY (i := 5) (v := ?_) rfl ?_ hHeld ?_; rotate_left 1; focus (intro w' hSw; clear hSw; go_simp; try with_reducible rfl)
                      (try simp only [Act.put, zn1, zn2, zn3])
                      refine tY (i := 6) (v := ?_) rfl ?_ hHeld ?_; rotate_left 1; focus (intro w' hSw; clear hSw; go_simp; try with_reducible rfl)
                      (try simp only [Act.put, zn1, zn2, zn3])
                      refine tY (i := 7) (v := ?_) rfl ?_ hHeld ?_; rotate_left 1; focus (intro w' hSw; clear hSw; go_simp; try with_reducible rfl)
                      (try simp only [Act.put, zn1, zn2, zn3])
                      refine tY (i := 8) (v := ?_) rfl ?_ hHeld ?_; rotate_left 1; focus (intro w' hSw; clear hSw; go_simp; try with_reducible rfl)
                      (try simp only [Act.put, zn1, zn2, zn3])
                      refine tY (i := 9) (v := ?_) rfl ?_ hHeld ?_; rotate_left 1; focus (intro w' hSw; have hCell := fun (b o : Nat) (h : b < wr.heap.size) => hSw.cell (p := ⟨b, o, none⟩) h; clear hSw; go_simp; try with_reducible rfl)
                      (try simp only [Act.put, zn1, zn2, zn3])
                      refine tY (i := 10) (v := ?_) rfl ?_ hHeld ?_; rotate_left 1; focus (intro w' hSw; clear hSw; go_simp; try with_reducible rfl)
                      (try simp only [Act.put, zn1, zn2, zn3])
                      refine tY (i := 11) (v := ?_) rfl ?_ hHeld ?_; rotate_left 1; focus (intro w' hSw; have hCell := fun (b o : Nat) (h : b < wr.heap.size) => hSw.cell (p := ⟨b, o, none⟩) h; clear hSw; go_simp; try with_reducible rfl)
                      (try simp only [Act.put, zn1, zn2, zn3])
                      refine tY (i := 12) (v := ?_) rfl ?_ hHeld ?_; rotate_left 1; focus (intro w' hSw; clear hSw; go_simp; try with_reducible rfl)
                      (try simp only [Act.put, zn1, zn2, zn3])
                      refine tY (i := 13) (v := ?_) rfl ?_ hHeld ?_; rotate_left 1; focus (intro w' hSw; clear hSw; go_simp; try with_reducible rfl)
                      (try simp only [Act.put, zn1, zn2, zn3])
                      refine tY (i := 14) (v := ?_) rfl ?_ hHeld ?_; rotate_left 1; focus (intro w' hSw; clear hSw; go_simp; try with_reducible rfl)
                      (try simp only [Act.put, zn1, zn2, zn3])
                      refine tY (i := 15) (v := ?_) rfl ?_ hHeld ?_; rotate_left 1; focus (intro w' hSw; clear hSw; go_simp; try with_reducible rfl)
                      (try simp only [Act.put, zn1, zn2, zn3])
                      refine tY (i := 16) (v := ?_) rfl ?_ hHeld ?_; rotate_left 1; focus (intro w' hSw; clear hSw; go_simp; try with_reducible rfl)
                      (try simp only [Act.put, zn1, zn2, zn3])
                      refine tY (i := 17) (v := ?_) rfl ?_ hHeld ?_; rotate_left 1; focus (intro w' hSw; clear hSw; go_simp; try with_reducible rfl)
                      (try simp only [Act.put, zn1, zn2, zn3])
                      refine tY (i := 18) (v := ?_) rfl ?_ hHeld ?_; rotate_left 1; focus (intro w' hSw; have hCell := fun (b o : Nat) (h : b < wr.heap.size) => hSw.cell (p := ⟨b, o, none⟩) h; clear hSw; go_simp; try with_reducible rfl)
                      (try simp only [Act.put, zn1, zn2, zn3])
                      refine tY (i := 19) (v := ?_) rfl ?_ hHeld ?_; rotate_left 1; focus (intro w' hSw; clear hSw; go_simp; try with_reducible rfl)
                      (try simp only [Act.put, zn1, zn2, zn3])
                      refine tY (i := 20) (v := ?_) rfl ?_ hHeld ?_; rotate_left 1; focus (intro w' hSw; have hCell := fun (b o : Nat) (h : b < wr.heap.size) => hSw.cell (p := ⟨b, o, none⟩) h; clear hSw; go_simp; try with_reducible rfl)
                      (try simp only [Act.put, zn1, zn2, zn3])
                      refine tY (i := 21) (v := ?_) rfl ?_ hHeld ?_; rotate_left 1; focus (intro w' hSw; clear hSw; go_simp; try with_reducible rfl)
                      (try simp only [Act.put, zn1, zn2, zn3])
                      refine tY (i := 22) (v := ?_) rfl ?_ hHeld ?_; rotate_left 1; focus (intro w' hSw; clear hSw; go_simp; try with_reducible rfl)
                      (try simp only [Act.put, zn1, zn2, zn3])
                      refine tY (i := 23) (v := ?_) rfl ?_ hHeld ?_; rotate_left 1; focus (intro w' hSw; clear hSw; go_simp; try with_reducible rfl)
                      (try simp only [Act.put, zn1, zn2, zn3])
                      refine tY (i := 24) (v := ?_) rfl ?_ hHeld ?_; rotate_left 1; focus (intro w' hSw; clear hSw; go_simp; try with_reducible rfl)
                      (try simp only [Act.put, zn1, zn2, zn3])
                      refine tY (i := 25) (v := ?_) rfl ?_ hHeld ?_; rotate_left 1; focus (intro w' hSw; clear hSw; go_simp; try with_reducible rfl)
                      (try simp only [Act.put, zn1, zn2, zn3])
                      refine tY (i := 26) (v := ?_) rfl ?_ hHeld ?_; rotate_left 1; focus (intro w' hSw; clear hSw; go_simp; try with_reducible rfl)
                      (try simp only [Act.put, zn1, zn2, zn3])
                      refine tY (i := 27) (v := ?_) rfl ?_ hHeld ?_; rotate_left 1; focus (intro w' hSw; have hCell := fun (b o : Nat) (h : b < wr.heap.size) => hSw.cell (p := ⟨b, o, none⟩) h; clear hSw; go_simp; try with_reducible rfl)
                      (try simp only [Act.put, zn1, zn2, zn3])
                      refine tY (i := 28) (v := ?_) rfl ?_ hHeld ?_; rotate_left 1; focus (intro w' hSw; clear hSw; go_simp; try with_reducible rfl)
                      (try simp only [Act.put, zn1, zn2, zn3])
                      refine tY (i := 29) (v := ?_) rfl ?_ hHeld ?_; rotate_left 1; focus (intro w' hSw; have hCell := fun (b o : Nat) (h : b < wr.heap.size) => hSw.cell (p := ⟨b, o, none⟩) h; clear hSw; go_simp; try with_reducible rfl)
                      (try simp only [Act.put, zn1, zn2, zn3])
                      refine tY (i := 30) (v := ?_) rfl ?_ hHeld ?_; rotate_left 1; focus (intro w' hSw; clear hSw; go_simp; try with_reducible rfl)
                      (try simp only [Act.put, zn1, zn2, zn3])
                      refine tY (i := 31) (v := ?_) rfl ?_ hHeld ?_; rotate_left 1; focus (intro w' hSw; clear hSw; go_simp; try with_reducible rfl)
                      (try simp only [Act.put, zn1, zn2, zn3])
                      refine tY (i := 32) (v := ?_) rfl ?_ hHeld ?_; rotate_left 1; focus (intro w' hSw; clear hSw; go_simp; try with_reducible rfl)
                      (try simp only [Act.put, zn1, zn2, zn3])
                      refine tY (i := 33) (v := ?_) rfl ?_ hHeld ?_; rotate_left 1; focus (intro w' hSw; clear hSw; go_simp; try with_reducible rfl)
                      (try simp only [Act.put, zn1, zn2, zn3])
                      refine wpAnyH_done (by kernel_rfl) ?_ _
                      replace cp0 := cellAt cp0 hHeld (by omega)
                      replace cp1 := cellAt cp1 hHeld (by omega)
                      replace hq0 := cellAt hq0 hHeld (by omega)
                      replace hq1 := cellAt hq1 hHeld (by omega)
                      replace HRa := Lib.hid (HRa.out.at hHeld)
                      replace HB := Lib.hid (HB.out.trans (hHeld.mono HB.out.size))
                      replace n2 : (wo.heap.size + 1) < wr.drew.heap.size := ltAt n2 hHeld
                      replace hB2 : b2 < wr.drew.heap.size := ltAt hB2 hHeld
                      go_wp2_with fail
                      first | (refine wp_named ?_; intro W3 hW) | (refine calls_named ?_; intro W3 hW)
                      have B3 : Below wr.drew.heap.size wr.drew W3 := by rw [hW]; exact (by repeat (first | exact Below.refl _ _ | assumption | refine Below.alloc ?_ (by simp <;> omega) _ | refine Below.setCell ?_ (by simp <;> omega) _ | refine Below.drew ?_))
                      replace cp0 := cellAt cp0 B3 (by omega)
                      replace cp1 := cellAt cp1 B3 (by omega)
                      replace hq0 := cellAt hq0 B3 (by omega)
                      replace hq1 := cellAt hq1 B3 (by omega)
                      replace HRa := Lib.hid (HRa.out.at B3)
                      replace HB := Lib.hid (HB.out.trans (B3.mono HB.out.size))
                      replace n2 : (wo.heap.size + 1) < W3.heap.size := ltAt n2 B3
                      replace hB2 : b2 < W3.heap.size := ltAt hB2 B3
                      clear hW
                      clear B3
                      try go_wp2_with fail
                      refine wp_region_held_drew (S := fun w' => Below W3.heap.size W3 w') (by kernel_rfl) (Below.drew (Below.refl _ _)) (fun hHeld => ?_)
                      refine tY (i := 0) (v := ?_) rfl ?_ hHeld ?_; rotate_left 1; focus (intro w' hSw; clear hSw; go_simp; try with_reducible rfl)
                      (try simp only [Act.put, zn1, zn2, zn3])
                      refine tY (i := 1) (v := ?_) rfl ?_ hHeld ?_; rotate_left 1; focus (intro w' hSw; clear hSw; go_simp; try with_reducible rfl)
                      (try simp only [Act.put, zn1, zn2, zn3])
                      refine tY (i := 2) (v := ?_) rfl ?_ hHeld ?_; rotate_left 1; focus (intro w' hSw; clear hSw; go_simp; try with_reducible rfl)
                      (try simp only [Act.put, zn1, zn2, zn3])
                      refine tY (i := 3) (v := ?_) rfl ?_ hHeld ?_; rotate_left 1; focus (intro w' hSw; clear hSw; go_simp; try with_reducible rfl)
                      (try simp only [Act.put, zn1, zn2, zn3])
                      refine tY (i := 4) (v := ?_) rfl ?_ hHeld ?_; rotate_left 1; focus (intro w' hSw; clear hSw; go_simp; try with_reducible rfl)
                      (try simp only [Act.put, zn1, zn2, zn3])
                      refine tY (i := 5) (v := ?_) rfl ?_ hHeld ?_; rotate_left 1; focus (intro w' hSw; clear hSw; go_simp; try with_reducible rfl)
                      (try simp only [Act.put, zn1, zn2, zn3])
                      refine tY (i := 6) (v := ?_) rfl ?_ hHeld ?_; rotate_left 1; focus (intro w' hSw; clear hSw; go_simp; try with_reducible rfl)
                      (try simp only [Act.put, zn1, zn2, zn3])
                      refine tY (i := 7) (v := ?_) rfl ?_ hHeld ?_; rotate_left 1; focus (intro w' hSw; clear hSw; go_simp; try with_reducible rfl)
                      (try simp only [Act.put, zn1, zn2, zn3])
                      refine tY (i := 8) (v := ?_) rfl ?_ hHeld ?_; rotate_left 1; focus (intro w' hSw; have hCell := fun (b o : Nat) (h : b < W3.heap.size) => hSw.cell (p := ⟨b, o, none⟩) h; clear hSw; go_simp; try with_reducible rfl)
                      (try simp only [Act.put, zn1, zn2, zn3])
                      refine tY (i := 9) (v := ?_) rfl ?_ hHeld ?_; rotate_left 1; focus (intro w' hSw; have hCell := fun (b o : Nat) (h : b < W3.heap.size) => hSw.cell (p := ⟨b, o, none⟩) h; clear hSw; go_simp; try with_reducible rfl)
                      (try simp only [Act.put, zn1, zn2, zn3])
                      refine tY (i := 10) (v := ?_) rfl ?_ hHeld ?_; rotate_left 1; focus (intro w' hSw; clear hSw; go_simp; try with_reducible rfl)
                      (try simp only [Act.put, zn1, zn2, zn3])
                      refine tY (i := 11) (v := ?_) rfl ?_ hHeld ?_; rotate_left 1; focus (intro w' hSw; clear hSw; go_simp; try with_reducible rfl)
                      (try simp only [Act.put, zn1, zn2, zn3])
                      refine wpAnyH_done (by kernel_rfl) ?_ _
                      replace cp0 := cellAt cp0 hHeld (by omega)
                      replace cp1 := cellAt cp1 hHeld (by omega)
                      replace hq0 := cellAt hq0 hHeld (by omega)
                      replace hq1 := cellAt hq1 hHeld (by omega)
                      replace HRa := Lib.hid (HRa.out.at hHeld)
                      replace HB := Lib.hid (HB.out.trans (hHeld.mono HB.out.size))
                      replace n2 : (wo.heap.size + 1) < W3.drew.heap.size := ltAt n2 hHeld
                      replace hB2 : b2 < W3.drew.heap.size := ltAt hB2 hHeld
                      go_wp2_with fail
                      have hge := Hge.out
                      go_roundw
                      case rel =>
                        have hins : accP es (j + 1) = acc := by rw [HN.out, insL_cut acc k hk hall hge, if_pos]; rw [List.getElem?_eq_getElem hlt2, Hq.out]; simp_all
                        exact ⟨j + 1, _, c, by omega, by go_num, by rw [hins], by rw [hins]; exact hc, by rw [hins]; exact HRa.out.at (by repeat (first | exact Below.refl _ _ | assumption | refine Below.alloc ?_ (by simp <;> omega) _ | refine Below.setCell ?_ (by simp <;> omega) _ | refine Below.drew ?_)), by rw [hins]; exact HFr.out, HB.out.trans (Below.mono (by repeat (first | exact Below.refl _ _ | assumption | refine Below.alloc ?_ (by simp <;> omega) _ | refine Below.setCell ?_ (by simp <;> omega) _ | refine Below.drew ?_)) HB.out.size)⟩
                      case measure => simp [intOf]; omega
                  · skip
                    try go_wp2_with fail
                    refine wp_region_held_drew (S := fun w' => Below wr.heap.size wr w') (by kernel_rfl) (Below.drew (Below.refl _ _)) (fun hHeld => ?_)
                    refine tY (i := 0) (v := ?_) rfl ?_ hHeld ?_; rotate_left 1; focus (intro w' hSw; clear hSw; go_simp; try with_reducible rfl)
                    (try simp only [Act.put, zn1, zn2, zn3])
                    refine tY (i := 1) (v := ?_) rfl ?_ hHeld ?_; rotate_left 1; focus (intro w' hSw; clear hSw; go_simp; try with_reducible rfl)
                    (try simp only [Act.put, zn1, zn2, zn3])
                    refine tY (i := 2) (v := ?_) rfl ?_ hHeld ?_; rotate_left 1; focus (intro w' hSw; clear hSw; go_simp; try with_reducible rfl)
                    (try simp only [Act.put, zn1, zn2, zn3])
                    refine tY (i := 3) (v := ?_) rfl ?_ hHeld ?_; rotate_left 1; focus (intro w' hSw; clear hSw; go_simp; try with_reducible rfl)
                    (try simp only [Act.put, zn1, zn2, zn3])
                    refine tY (i := 4) (v := ?_) rfl ?_ hHeld ?_; rotate_left 1; focus (intro w' hSw; clear hSw; go_simp; try with_reducible rfl)
                    (try simp only [Act.put, zn1, zn2, zn3])
                    refine tY (i := 5) (v := ?_) rfl ?_ hHeld ?_; rotate_left 1; focus (intro w' hSw; clear hSw; go_simp; try with_reducible rfl)
                    (try simp only [Act.put, zn1, zn2, zn3])
                    refine tY (i := 6) (v := ?_) rfl ?_ hHeld ?_; rotate_left 1; focus (intro w' hSw; clear hSw; go_simp; try with_reducible rfl)
                    (try simp only [Act.put, zn1, zn2, zn3])
                    refine tY (i := 7) (v := ?_) rfl ?_ hHeld ?_; rotate_left 1; focus (intro w' hSw; clear hSw; go_simp; try with_reducible rfl)
                    (try simp only [Act.put, zn1, zn2, zn3])
                    refine tY (i := 8) (v := ?_) rfl ?_ hHeld ?_; rotate_left 1; focus (intro w' hSw; clear hSw; go_simp; try with_reducible rfl)
                    (try simp only [Act.put, zn1, zn2, zn3])
                    refine tY (i := 9) (v := ?_) rfl ?_ hHeld ?_; rotate_left 1; focus (intro w' hSw; have hCell := fun (b o : Nat) (h : b < wr.heap.size) => hSw.cell (p := ⟨b, o, none⟩) h; clear hSw; go_simp; try with_reducible rfl)
                    (try simp only [Act.put, zn1, zn2, zn3])
                    refine tY (i := 10) (v := ?_) rfl ?_ hHeld ?_; rotate_left 1; focus (intro w' hSw; clear hSw; go_simp; try with_reducible rfl)
                    (try simp only [Act.put, zn1, zn2, zn3])
                    refine tY (i := 11) (v := ?_) rfl ?_ hHeld ?_; rotate_left 1; focus (intro w' hSw; have hCell := fun (b o : Nat) (h : b < wr.heap.size) => hSw.cell (p := ⟨b, o, none⟩) h; clear hSw; go_simp; try with_reducible rfl)
                    (try simp only [Act.put, zn1, zn2, zn3])
                    refine tY (i := 12) (v := ?_) rfl ?_ hHeld ?_; rotate_left 1; focus (intro w' hSw; clear hSw; go_simp; try with_reducible rfl)
                    (try simp only [Act.put, zn1, zn2, zn3])
                    refine tY (i := 13) (v := ?_) rfl ?_ hHeld ?_; rotate_left 1; focus (intro w' hSw; clear hSw; go_simp; try with_reducible rfl)
                    (try simp only [Act.put, zn1, zn2, zn3])
                    refine tY (i := 14) (v := ?_) rfl ?_ hHeld ?_; rotate_left 1; focus (intro w' hSw; clear hSw; go_simp; try with_reducible rfl)
                    (try simp only [Act.put, zn1, zn2, zn3])
                    refine tY (i := 15) (v := ?_) rfl ?_ hHeld ?_; rotate_left 1; focus (intro w' hSw; clear hSw; go_simp; try with_reducible rfl)
                    (try simp only [Act.put, zn1, zn2, zn3])
                    refine tY (i := 16) (v := ?_) rfl ?_ hHeld ?_; rotate_left 1; focus (intro w' hSw; clear hSw; go_simp; try with_reducible rfl)
                    (try simp only [Act.put, zn1, zn2, zn3])
                    refine tY (i := 17) (v := ?_) rfl ?_ hHeld ?_; rotate_left 1; focus (intro w' hSw; clear hSw; go_simp; try with_reducible rfl)
                    (try simp only [Act.put, zn1, zn2, zn3])
                    refine tY (i := 18) (v := ?_) rfl ?_ hHeld ?_; rotate_left 1; focus (intro w' hSw; have hCell := fun (b o : Nat) (h : b < wr.heap.size) => hSw.cell (p := ⟨b, o, none⟩) h; clear hSw; go_simp; try with_reducible rfl)
                    (try simp only [Act.put, zn1, zn2, zn3])
                    refine tY (i := 19) (v := ?_) rfl ?_ hHeld ?_; rotate_left 1; focus (intro w' hSw; clear hSw; go_simp; try with_reducible rfl)
                    (try simp only [Act.put, zn1, zn2, zn3])
                    refine tY (i := 20) (v := ?_) rfl ?_ hHeld ?_; rotate_left 1; focus (intro w' hSw; have hCell := fun (b o : Nat) (h : b < wr.heap.size) => hSw.cell (p := ⟨b, o, none⟩) h; clear hSw; go_simp; try with_reducible rfl)
                    (try simp only [Act.put, zn1, zn2, zn3])
                    refine tY (i := 21) (v := ?_) rfl ?_ hHeld ?_; rotate_left 1; focus (intro w' hSw; clear hSw; go_simp; try with_reducible rfl)
                    (try simp only [Act.put, zn1, zn2, zn3])
                    refine tY (i := 22) (v := ?_) rfl ?_ hHeld ?_; rotate_left 1; focus (intro w' hSw; clear hSw; go_simp; try with_reducible rfl)
                    (try simp only [Act.put, zn1, zn2, zn3])
                    refine tY (i := 23) (v := ?_) rfl ?_ hHeld ?_; rotate_left 1; focus (intro w' hSw; clear hSw; go_simp; try with_reducible rfl)
                    (try simp only [Act.put, zn1, zn2, zn3])
                    refine tY (i := 24) (v := ?_) rfl ?_ hHeld ?_; rotate_left 1; focus (intro w' hSw; clear hSw; go_simp; try with_reducible rfl)
                    (try simp only [Act.put, zn1, zn2, zn3])
                    refine tY (i := 25) (v := ?_) rfl ?_ hHeld ?_; rotate_left 1; focus (intro w' hSw; clear hSw; go_simp; try with_reducible rfl)
                    (try simp only [Act.put, zn1, zn2, zn3])
                    refine tY (i := 26) (v := ?_) rfl ?_ hHeld ?_; rotate_left 1; focus (intro w' hSw; clear hSw; go_simp; try with_reducible rfl)
                    (try simp only [Act.put, zn1, zn2, zn3])
                    refine tY (i := 27) (v := ?_) rfl ?_ hHeld ?_; rotate_left 1; focus (intro w' hSw; have hCell := fun (b o : Nat) (h : b < wr.heap.size) => hSw.cell (p := ⟨b, o, none⟩) h; clear hSw; go_simp; try with_reducible rfl)
                    (try simp only [Act.put, zn1, zn2, zn3])
                    refine tY (i := 28) (v := ?_) rfl ?_ hHeld ?_; rotate_left 1; focus (intro w' hSw; clear hSw; go_simp; try with_reducible rfl)
                    (try simp only [Act.put, zn1, zn2, zn3])
                    refine tY (i := 29) (v := ?_) rfl ?_ hHeld ?_; rotate_left 1; focus (intro w' hSw; have hCell := fun (b o : Nat) (h : b < wr.heap.size) => hSw.cell (p := ⟨b, o, none⟩) h; clear hSw; go_simp; try with_reducible rfl)
                    (try simp only [Act.put, zn1, zn2, zn3])
                    refine tY (i := 30) (v := ?_) rfl ?_ hHeld ?_; rotate_left 1; focus (intro w' hSw; clear hSw; go_simp; try with_reducible rfl)
                    (try simp only [Act.put, zn1, zn2, zn3])
                    refine tY (i := 31) (v := ?_) rfl ?_ hHeld ?_; rotate_left 1; focus (intro w' hSw; clear hSw; go_simp; try with_reducible rfl)
                    (try simp only [Act.put, zn1, zn2, zn3])
                    refine tY (i := 32) (v := ?_) rfl ?_ hHeld ?_; rotate_left 1; focus (intro w' hSw; clear hSw; go_simp; try with_reducible rfl)
                    (try simp only [Act.put, zn1, zn2, zn3])
                    refine tY (i := 33) (v := ?_) rfl ?_ hHeld ?_; rotate_left 1; focus (intro w' hSw; clear hSw; go_simp; try with_reducible rfl)
                    (try simp only [Act.put, zn1, zn2, zn3])
                    refine wpAnyH_done (by kernel_rfl) ?_ _
                    replace cp0 := cellAt cp0 hHeld (by omega)
                    replace cp1 := cellAt cp1 hHeld (by omega)
                    replace hq0 := cellAt hq0 hHeld (by omega)
                    replace hq1 := cellAt hq1 hHeld (by omega)
                    replace HRa := Lib.hid (HRa.out.at hHeld)
                    replace HB := Lib.hid (HB.out.trans (hHeld.mono HB.out.size))
                    replace n2 : (wo.heap.size + 1) < wr.drew.heap.size := ltAt n2 hHeld
                    replace hB2 : b2 < wr.drew.heap.size := ltAt hB2 hHeld
                    go_wp2_with fail
                    go_roundw
                    case rel =>
                      refine ⟨k + 1, by omega, by go_num, fun q hq => ?_, lift hbq hHeld⟩
                      rw [List.take_succ_eq_append_getElem hlt2, List.mem_append, List.mem_singleton] at hq
                      rcases hq with h | h
                      · exact hall q h
                      · rw [h, Hq.out, ltP_mk]; simp [l1, l2, l3]
                    case measure => simp [intOf]; omega
              · skip
                try go_wp2_with fail
                refine wp_region_held_drew (S := fun w' => Below wr.heap.size wr w') (by kernel_rfl) (Below.drew (Below.refl _ _)) (fun hHeld => ?_)
                refine tY (i := 0) (v := ?_) rfl ?_ hHeld ?_; rotate_left 1; focus (intro w' hSw; clear hSw; go_simp; try with_reducible rfl)
                (try simp only [Act.put, zn1, zn2, zn3])
                refine tY (i := 1) (v := ?_) rfl ?_ hHeld ?_; rotate_left 1; focus (intro w' hSw; clear hSw; go_simp; try with_reducible rfl)
                (try simp only [Act.put, zn1, zn2, zn3])
                refine tY (i := 2) (v := ?_) rfl ?_ hHeld ?_; rotate_left 1; focus (intro w' hSw; clear hSw; go_simp; try with_reducible rfl)
                (try simp only [Act.put, zn1, zn2, zn3])
                refine tY (i := 3) (v := ?_) rfl ?_ hHeld ?_; rotate_left 1; focus (intro w' hSw; clear hSw; go_simp; try with_reducible rfl)
                (try simp only [Act.put, zn1, zn2, zn3])
                refine tY (i := 4) (v := ?_) rfl ?_ hHeld ?_; rotate_left 1; focus (intro w' hSw; clear hSw; go_simp; try with_reducible rfl)
                (try simp only [Act.put, zn1, zn2, zn3])
                refine tY (i := 5) (v := ?_) rfl ?_ hHeld ?_; rotate_left 1; focus (intro w' hSw; clear hSw; go_simp; try with_reducible rfl)
                (try simp only [Act.put, zn1, zn2, zn3])
                refine tY (i := 6) (v := ?_) rfl ?_ hHeld ?_; rotate_left 1; focus (intro w' hSw; clear hSw; go_simp; try with_reducible rfl)
                (try simp only [Act.put, zn1, zn2, zn3])
                refine tY (i := 7) (v := ?_) rfl ?_ hHeld ?_; rotate_left 1; focus (intro w' hSw; clear hSw; go_simp; try with_reducible rfl)
                (try simp only [Act.put, zn1, zn2, zn3])
                refine tY (i := 8) (v := ?_) rfl ?_ hHeld ?_; rotate_left 1; focus (intro w' hSw; clear hSw; go_simp; try with_reducible rfl)
                (try simp only [Act.put, zn1, zn2, zn3])
                refine tY (i := 9) (v := ?_) rfl ?_ hHeld ?_; rotate_left 1; focus (intro w' hSw; have hCell := fun (b o : Nat) (h : b < wr.heap.size) => hSw.cell (p := ⟨b, o, none⟩) h; clear hSw; go_simp; try with_reducible rfl)
                (try simp only [Act.put, zn1, zn2, zn3])
                refine tY (i := 10) (v := ?_) rfl ?_ hHeld ?_; rotate_left 1; focus (intro w' hSw; clear hSw; go_simp; try with_reducible rfl)
                (try simp only [Act.put, zn1, zn2, zn3])
                refine tY (i := 11) (v := ?_) rfl ?_ hHeld ?_; rotate_left 1; focus (intro w' hSw; have hCell := fun (b o : Nat) (h : b < wr.heap.size) => hSw.cell (p := ⟨b, o, none⟩) h; clear hSw; go_simp; try with_reducible rfl)
                (try simp only [Act.put, zn1, zn2, zn3])
                refine tY (i := 12) (v := ?_) rfl ?_ hHeld ?_; rotate_left 1; focus (intro w' hSw; clear hSw; go_simp; try with_reducible rfl)
                (try simp only [Act.put, zn1, zn2, zn3])
                refine tY (i := 13) (v := ?_) rfl ?_ hHeld ?_; rotate_left 1; focus (intro w' hSw; clear hSw; go_simp; try with_reducible rfl)
                (try simp only [Act.put, zn1, zn2, zn3])
                refine tS (i := 14) rfl hHeld ?_; (try simp only [Act.put, zn1, zn2, zn3])
                refine tS (i := 15) rfl hHeld ?_; (try simp only [Act.put, zn1, zn2, zn3])
                refine tS (i := 16) rfl hHeld ?_; (try simp only [Act.put, zn1, zn2, zn3])
                refine tS (i := 17) rfl hHeld ?_; (try simp only [Act.put, zn1, zn2, zn3])
                refine tS (i := 18) rfl hHeld ?_; (try simp only [Act.put, zn1, zn2, zn3])
                refine tS (i := 19) rfl hHeld ?_; (try simp only [Act.put, zn1, zn2, zn3])
                refine tS (i := 20) rfl hHeld ?_; (try simp only [Act.put, zn1, zn2, zn3])
                refine tS (i := 21) rfl hHeld ?_; (try simp only [Act.put, zn1, zn2, zn3])
                refine tS (i := 22) rfl hHeld ?_; (try simp only [Act.put, zn1, zn2, zn3])
                refine tS (i := 23) rfl hHeld ?_; (try simp only [Act.put, zn1, zn2, zn3])
                refine tS (i := 24) rfl hHeld ?_; (try simp only [Act.put, zn1, zn2, zn3])
                refine tS (i := 25) rfl hHeld ?_; (try simp only [Act.put, zn1, zn2, zn3])
                refine tS (i := 26) rfl hHeld ?_; (try simp only [Act.put, zn1, zn2, zn3])
                refine tS (i := 27) rfl hHeld ?_; (try simp only [Act.put, zn1, zn2, zn3])
                refine tS (i := 28) rfl hHeld ?_; (try simp only [Act.put, zn1, zn2, zn3])
                refine tS (i := 29) rfl hHeld ?_; (try simp only [Act.put, zn1, zn2, zn3])
                refine tS (i := 30) rfl hHeld ?_; (try simp only [Act.put, zn1, zn2, zn3])
                refine tS (i := 31) rfl hHeld ?_; (try simp only [Act.put, zn1, zn2, zn3])
                refine tY (i := 32) (v := ?_) rfl ?_ hHeld ?_; rotate_left 1; focus (intro w' hSw; clear hSw; go_simp; try with_reducible rfl)
                (try simp only [Act.put, zn1, zn2, zn3])
                refine tY (i := 33) (v := ?_) rfl ?_ hHeld ?_; rotate_left 1; focus (intro w' hSw; clear hSw; go_simp; try with_reducible rfl)
                (try simp only [Act.put, zn1, zn2, zn3])
                refine wpAnyH_done (by kernel_rfl) ?_ _
                replace cp0 := cellAt cp0 hHeld (by omega)
                replace cp1 := cellAt cp1 hHeld (by omega)
                replace hq0 := cellAt hq0 hHeld (by omega)
                replace hq1 := cellAt hq1 hHeld (by omega)
                replace HRa := Lib.hid (HRa.out.at hHeld)
                replace HB := Lib.hid (HB.out.trans (hHeld.mono HB.out.size))
                replace n2 : (wo.heap.size + 1) < wr.drew.heap.size := ltAt n2 hHeld
                replace hB2 : b2 < wr.drew.heap.size := ltAt hB2 hHeld
                go_wp2_with fail
                go_roundw
                case rel =>
                  refine ⟨k + 1, by omega, by go_num, fun q hq => ?_, lift hbq hHeld⟩
                  rw [List.take_succ_eq_append_getElem hlt2, List.mem_append, List.mem_singleton] at hq
                  rcases hq with h | h
                  · exact hall q h
                  · rw [h, Hq.out, ltP_mk]; simp [l1]
                case measure => simp [intOf]; omega
            · have hge : ∀ h : k < acc.length, ltP acc[k] (s, d) = false := fun h => absurd h hlt2
              have hne : ¬ acc[k]? = some (s, d) := by rw [List.getElem?_eq_none (by omega)]; simp
              have Hge := Lib.hid (And.intro hge hne)
              clear hge hne
              try go_wp2_with fail
              refine wp_region_held_drew (S := fun w' => Below wr.heap.size wr w') (by kernel_rfl) (Below.drew (Below.refl _ _)) (fun hHeld => ?_)
              refine tY (i := 0) (v := ?_) rfl ?_ hHeld ?_; rotate_left 1; focus (intro w' hSw; clear hSw; go_simp; try with_reducible rfl)
              (try simp only [Act.put, zn1, zn2, zn3])
              refine tY (i := 1) (v := ?_) rfl ?_ hHeld ?_; rotate_left 1; focus (intro w' hSw; clear hSw; go_simp; try with_reducible rfl)
              (try simp only [Act.put, zn1, zn2, zn3])
              refine tY (i := 2) (v := ?_) rfl ?_ hHeld ?_; rotate_left 1; focus (intro w' hSw; clear hSw; go_simp; try with_reducible rfl)
              (try simp only [Act.put, zn1, zn2, zn3])
              refine tY (i := 3) (v := ?_) rfl ?_ hHeld ?_; rotate_left 1; focus (intro w' hSw; clear hSw; go_simp; try with_reducible rfl)
              (try simp only [Act.put, zn1, zn2, zn3])
              refine tY (i := 4) (v := ?_) rfl ?_ hHeld ?_; rotate_left 1; focus (intro w' hSw; clear hSw; go_simp; try with_reducible rfl)
              (try simp only [Act.put, zn1, zn2, zn3])
              refine tS (i := 5) rfl hHeld ?_; (try simp only [Act.put, zn1, zn2, zn3])
              refine tS (i := 6) rfl hHeld ?_; (try simp only [Act.put, zn1, zn2, zn3])
              refine tS (i := 7) rfl hHeld ?_; (try simp only [Act.put, zn1, zn2, zn3])
              refine tS (i := 8) rfl hHeld ?_; (try simp only [Act.put, zn1, zn2, zn3])
              refine tS (i := 9) rfl hHeld ?_; (try simp only [Act.put, zn1, zn2, zn3])
              refine tS (i := 10) rfl hHeld ?_; (try simp only [Act.put, zn1, zn2, zn3])
              refine tS (i := 11) rfl hHeld ?_; (try simp only [Act.put, zn1, zn2, zn3])
              refine tS (i := 12) rfl hHeld ?_; (try simp only [Act.put, zn1, zn2, zn3])
              refine tS (i := 13) rfl hHeld ?_; (try simp only [Act.put, zn1, zn2, zn3])
              refine tS (i := 14) rfl hHeld ?_; (try simp only [Act.put, zn1, zn2, zn3])
              refine tS (i := 15) rfl hHeld ?_; (try simp only [Act.put, zn1, zn2, zn3])
              refine tS (i := 16) rfl hHeld ?_; (try simp only [Act.put, zn1, zn2, zn3])
              refine tS (i := 17) rfl hHeld ?_; (try simp only [Act.put, zn1, zn2, zn3])
              refine tS (i := 18) rfl hHeld ?_; (try simp only [Act.put, zn1, zn2, zn3])
              refine tS (i := 19) rfl hHeld ?_; (try simp only [Act.put, zn1, zn2, zn3])
              refine tS (i := 20) rfl hHeld ?_; (try simp only [Act.put, zn1, zn2, zn3])
              refine tS (i := 21) rfl hHeld ?_; (try simp only [Act.put, zn1, zn2, zn3])
              refine tS (i := 22) rfl hHeld ?_; (try simp only [Act.put, zn1, zn2, zn3])
              refine tS (i := 23) rfl hHeld ?_; (try simp only [Act.put, zn1, zn2, zn3])
              refine tS (i := 24) rfl hHeld ?_; (try simp only [Act.put, zn1, zn2, zn3])
              refine tS (i := 25) rfl hHeld ?_; (try simp only [Act.put, zn1, zn2, zn3])
              refine tS (i := 26) rfl hHeld ?_; (try simp only [Act.put, zn1, zn2, zn3])
              refine tS (i := 27) rfl hHeld ?_; (try simp only [Act.put, zn1, zn2, zn3])
              refine tS (i := 28) rfl hHeld ?_; (try simp only [Act.put, zn1, zn2, zn3])
              refine tS (i := 29) rfl hHeld ?_; (try simp only [Act.put, zn1, zn2, zn3])
              refine tS (i := 30) rfl hHeld ?_; (try simp only [Act.put, zn1, zn2, zn3])
              refine tS (i := 31) rfl hHeld ?_; (try simp only [Act.put, zn1, zn2, zn3])
              refine tS (i := 32) rfl hHeld ?_; (try simp only [Act.put, zn1, zn2, zn3])
              refine tY (i := 33) (v := ?_) rfl ?_ hHeld ?_; rotate_left 1; focus (intro w' hSw; clear hSw; go_simp; try with_reducible rfl)
              (try simp only [Act.put, zn1, zn2, zn3])
              refine wpAnyH_done (by kernel_rfl) ?_ _
              replace cp0 := cellAt cp0 hHeld (by omega)
              replace cp1 := cellAt cp1 hHeld (by omega)
              replace HRa := Lib.hid (HRa.out.at hHeld)
              replace HB := Lib.hid (HB.out.trans (hHeld.mono HB.out.size))
              replace n2 : (wo.heap.size + 1) < wr.drew.heap.size := ltAt n2 hHeld
              go_wp2_with fail
              first | (refine wp_named ?_; intro W3 hW) | (refine calls_named ?_; intro W3 hW)
              have B3 : Below wr.drew.heap.size wr.drew W3 := by rw [hW]; exact (by repeat (first | exact Below.refl _ _ | assumption | refine Below.alloc ?_ (by simp <;> omega) _ | refine Below.setCell ?_ (by simp <;> omega) _ | refine Below.drew ?_))
              replace cp0 := cellAt cp0 B3 (by omega)
              replace cp1 := cellAt cp1 B3 (by omega)
              replace HRa := Lib.hid (HRa.out.at B3)
              replace HB := Lib.hid (HB.out.trans (B3.mono HB.out.size))
              replace n2 : (wo.heap.size + 1) < W3.heap.size := ltAt n2 B3
              clear hW
              clear B3
              try go_wp2_with fail
              refine wp_region_held_drew (S := fun w' => Below W3.heap.size W3 w') (by kernel_rfl) (Below.drew (Below.refl _ _)) (fun hHeld => ?_)
              refine tY (i := 0) (v := ?_) rfl ?_ hHeld ?_; rotate_left 1; focus (intro w' hSw; clear hSw; go_simp; try with_reducible rfl)
              (try simp only [Act.put, zn1, zn2, zn3])
              refine tY (i := 1) (v := ?_) rfl ?_ hHeld ?_; rotate_left 1; focus (intro w' hSw; clear hSw; go_simp; try with_reducible rfl)
              (try simp only [Act.put, zn1, zn2, zn3])
              refine tY (i := 2) (v := ?_) rfl ?_ hHeld ?_; rotate_left 1; focus (intro w' hSw; clear hSw; go_simp; try with_reducible rfl)
              (try simp only [Act.put, zn1, zn2, zn3])
              refine tY (i := 3) (v := ?_) rfl ?_ hHeld ?_; rotate_left 1; focus (intro w' hSw; clear hSw; go_simp; try with_reducible rfl)
              (try simp only [Act.put, zn1, zn2, zn3])
              refine tY (i := 4) (v := ?_) rfl ?_ hHeld ?_; rotate_left 1; focus (intro w' hSw; clear hSw; go_simp; try with_reducible rfl)
              (try simp only [Act.put, zn1, zn2, zn3])
              refine tS (i := 5) rfl hHeld ?_; (try simp only [Act.put, zn1, zn2, zn3])
              refine tS (i := 6) rfl hHeld ?_; (try simp only [Act.put, zn1, zn2, zn3])
              refine tS (i := 7) rfl hHeld ?_; (try simp only [Act.put, zn1, zn2, zn3])
              refine tS (i := 8) rfl hHeld ?_; (try simp only [Act.put, zn1, zn2, zn3])
              refine tS (i := 9) rfl hHeld ?_; (try simp only [Act.put, zn1, zn2, zn3])
              refine tS (i := 10) rfl hHeld ?_; (try simp only [Act.put, zn1, zn2, zn3])
              refine tY (i := 11) (v := ?_) rfl ?_ hHeld ?_; rotate_left 1; focus (intro w' hSw; clear hSw; go_simp; try with_reducible rfl)
              (try simp only [Act.put, zn1, zn2, zn3])
              refine wpAnyH_done (by kernel_rfl) ?_ _
              replace cp0 := cellAt cp0 hHeld (by omega)
              replace cp1 := cellAt cp1 hHeld (by omega)
              replace HRa := Lib.hid (HRa.out.at hHeld)
              replace HB := Lib.hid (HB.out.trans (hHeld.mono HB.out.size))
              replace n2 : (wo.heap.size + 1) < W3.drew.heap.size := ltAt n2 hHeld
              go_wp2_with fail
              obtain ⟨hge, hne⟩ := Hge.out
              have hins : insL ltP (s, d) acc = acc.take k ++ (s, d) :: acc.drop k := by rw [insL_cut acc k hk hall hge, if_neg hne]
              have HI := Lib.hid hins
              first | (refine wp_named ?_; intro W4 hW) | (refine calls_named ?_; intro W4 hW)
              have B4 : Below W3.drew.heap.size W3.drew W4 := by rw [hW]; exact (by repeat (first | exact Below.refl _ _ | assumption | refine Below.alloc ?_ (by simp <;> omega) _ | refine Below.setCell ?_ (by simp <;> omega) _ | refine Below.drew ?_))
              replace cp0 := cellAt cp0 B4 (by omega)
              replace cp1 := cellAt cp1 B4 (by omega)
              replace HRa := Lib.hid (HRa.out.at B4)
              replace HB := Lib.hid (HB.out.trans (B4.mono HB.out.size))
              replace n2 : (wo.heap.size + 1) < W4.heap.size := ltAt n2 B4
              clear hW
              clear B4 hins hge hne
              have hz4 := Nat.le_trans HB1.out.size HB.out.size
              have HR1 := Lib.hid (HRa.out.takeA hk)
              have HR2 := Lib.hid (HRa.out.dropA hk hc)
              have hs1 := run_slice_full (P := Tryz.prog) Tryz.underlying102 hi A acc.length c k (Nat.le_trans hk hc)
              have hs2 := run_slice_tail (P := Tryz.prog) Tryz.underlying102 hi A acc.length c k hk
              rw [hz1] at hs1 hs2
              have HLk := Lib.hid (show (acc.drop k).length = acc.length - k from List.length_drop)
              try go_wp2_with fail
              refine wp_region_held_drew (S := fun w' => Below W4.heap.size W4 w') (by kernel_rfl) (Below.drew (Below.refl _ _)) (fun hHeld => ?_)
              refine tY (i := 0) (v := ?_) rfl ?_ hHeld ?_; rotate_left 1; focus (intro w' hSw; clear hSw; go_simp; try with_reducible rfl)
              (try simp only [Act.put, zn1, zn2, zn3])
              refine tY (i := 1) (v := ?_) rfl ?_ hHeld ?_; rotate_left 1; focus (intro w' hSw; clear hSw; go_simp; try with_reducible rfl)
              (try simp only [Act.put, zn1, zn2, zn3])
              refine tY (i := 2) (v := ?_) rfl ?_ hHeld ?_; rotate_left 1; focus (intro w' hSw; clear hSw; go_simp; try with_reducible rfl)
              (try simp only [Act.put, zn1, zn2, zn3])
              refine tY (i := 3) (v := ?_) rfl ?_ hHeld ?_; rotate_left 1; focus (intro w' hSw; clear hSw; go_simp; try with_reducible rfl)
              (try simp only [Act.put, zn1, zn2, zn3])
              refine tY (i := 4) (v := ?_) rfl ?_ hHeld ?_; rotate_left 1; focus (intro w' hSw; have hCell := fun (b o : Nat) (h : b < W4.heap.size) => hSw.cell (p := ⟨b, o, none⟩) h; clear hSw; go_simp; try with_reducible rfl)
              (try simp only [Act.put, zn1, zn2, zn3])
              refine tY (i := 6) (v := ?_) rfl ?_ hHeld ?_; rotate_left 1; focus (intro w' hSw; clear hSw; go_simp; try with_reducible rfl)
              (try simp only [Act.put, zn1, zn2, zn3])
              refine tY (i := 7) (v := ?_) rfl ?_ hHeld ?_; rotate_left 1; focus (intro w' hSw; clear hSw; go_simp; try with_reducible rfl)
              (try simp only [Act.put, zn1, zn2, zn3])
              refine tY (i := 8) (v := ?_) rfl ?_ hHeld ?_; rotate_left 1; focus (intro w' hSw; clear hSw; go_simp; try with_reducible rfl)
              (try simp only [Act.put, zn1, zn2, zn3])
              refine ready_one (i := 5) rfl (by kernel_rfl) (fun K hK => ?_)
              go_simp
              refine hK.out _ _ ?_ (fun hHeld2 => ?_)
              · (try dsimp only); first | exact hHeld | exact (by repeat (first | exact Below.refl _ _ | assumption | refine Below.alloc ?_ (by simp <;> omega) _ | refine Below.setCell ?_ (by simp <;> omega) _ | refine Below.drew ?_))
              clear hK K hHeld; have hHeld := hHeld2; clear hHeld2; (try simp only [Act.put, zn1, zn2, zn3])
              refine ready_one (i := 9) rfl (by kernel_rfl) (fun K hK => ?_)
              refine step_append_full (by rfl) (.tmp 89) (.tmp 92) 102 (by rfl) 104 i0 _ 2 32 Tryz.underlying102 hi hz0 hz1 hz2 rfl _ (some ⟨W4.heap.size, 0, none⟩) 1 (prC (s, d)) (by rfl) (Rd.lit W4.drew (prC (s, d)) 104 2 1 rfl) (Nat.le_refl _) _ _ (acc.length - k) (c - k) _ (by rfl) (HR2.out.at' (Nat.le_refl _) hHeld) (one_drop (one_prsC acc) _) (by unfold maxLen; omega) (by omega) ?_
              intro A2 c2 v2 hc2 hr2 hb
              have HR3 := Lib.hid hr2
              clear hr2
              refine hK.out _ _ ?_ (fun hHeld2 => ?_)
              · (try dsimp only); first | exact Below.trans hHeld (Below.mono hb hHeld.size) | exact hHeld | exact Below.drew hHeld | exact (by repeat (first | exact Below.refl _ _ | assumption | refine Below.alloc ?_ (by simp <;> omega) _ | refine Below.setCell ?_ (by simp <;> omega) _ | refine Below.drew ?_))
              clear hK K hHeld; have hHeld := hHeld2; clear hHeld2; (try simp only [Act.put, zn1, zn2, zn3])
              refine ready_one (i := 10) rfl (by kernel_rfl) (fun K hK => ?_)
              refine step_append_fresh (by rfl) (.tmp 87) (.tmp 93) 102 (by rfl) 104 i0 _ 2 32 Tryz.underlying102 hi hz0 hz1 hz2 rfl _ _ k _ (by rfl) (HR1.out.at' (Nat.le_refl _) hHeld) (Nat.le_refl _) _ A2 (1 + (acc.length - k)) c2 _ (by rfl) HR3.out (one_app (one_prC _) (one_drop (one_prsC acc) _)) (by unfold maxLen; omega) (by omega) ?_
              intro A3 c3 v3 hc3 hr3 hb hf3
              have hz5 := Nat.le_trans hz4 hHeld.size
              have HR4 := Lib.hid hr3
              clear hr3
              refine hK.out _ _ ?_ (fun hHeld2 => ?_)
              · (try dsimp only); first | exact Below.trans hHeld (Below.mono hb hHeld.size) | exact hHeld | exact Below.drew hHeld | exact (by repeat (first | exact Below.refl _ _ | assumption | refine Below.alloc ?_ (by simp <;> omega) _ | refine Below.setCell ?_ (by simp <;> omega) _ | refine Below.drew ?_))
              clear hK K hHeld; have hHeld := hHeld2; clear hHeld2; (try simp only [Act.put, zn1, zn2, zn3])
              refine tY (i := 11) (v := ?_) rfl ?_ hHeld ?_; rotate_left 1; focus (intro w' hSw; clear hSw; go_simp; try with_reducible rfl)
              (try simp only [Act.put, zn1, zn2, zn3])
              refine wpAnyH_done (by kernel_rfl) ?_ _
              replace cp0 := cellAt cp0 hHeld (by omega)
              replace cp1 := cellAt cp1 hHeld (by omega)
              replace HRa := Lib.hid (HRa.out.at hHeld)
              replace HB := Lib.hid (HB.out.trans (hHeld.mono HB.out.size))
              replace n2 : (wo.heap.size + 1) < v3.heap.size := ltAt n2 hHeld
              clear hs1 hs2
              go_wp2_with fail
              go_roundw
              case rel =>
                have hlen : k + (1 + (acc.length - k)) = (accP es (j + 1)).length := by rw [HN.out, HI.out, List.length_append, List.length_cons, List.length_take, HLk.out]; omega
                refine ⟨j + 1, A3, c3, by omega, by go_num, by rw [hlen], by rw [← hlen]; exact hc3, ?_, fun _ ad e => Nat.le_trans hz5 (hf3 (by omega) ad e), HB.out⟩
                have h4 := HR4.out
                rw [hlen] at h4
                have hx : (prsC acc).take (k * 2) ++ (prC (s, d) ++ (prsC acc).drop (k * 2)) = prsC (accP es (j + 1)) := by rw [HN.out, HI.out, prsC_take, prsC_drop]; simp [prsC]
                rw [hx] at h4
                exact h4
              case measure => simp [intOf]; omega
        · have hp : pairE es[j] = none := by rw [Hx.out]; simp [pairE, h8, h7]
          have HN := Lib.hid (accP_none hlt hp)
          clear hp
          have t1 : (r == 8) = false := by simpa using h8
          have t2 : (r != 8) = true := by simpa using h8
          have t3 : (r != 7) = true := by simpa using h7
          go_wp2_with fail
          go_roundw
          case rel => exact ⟨j + 1, A, c, by omega, by go_num, by rw [HN.out], by rw [HN.out]; exact hc, by rw [HN.out]; exact HRa.out.at (by repeat (first | exact Below.refl _ _ | assumption | refine Below.alloc ?_ (by simp <;> omega) _ | refine Below.setCell ?_ (by simp <;> omega) _ | refine Below.drew ?_)), by rw [HN.out]; exact HFr.out, HB.out.trans (Below.mono (by repeat (first | exact Below.refl _ _ | assumption | refine Below.alloc ?_ (by simp <;> omega) _ | refine Below.setCell ?_ (by simp <;> omega) _ | refine Below.drew ?_)) HB.out.size)⟩
          case measure => simp [intOf]; omega
    · have hjn : j = es.length := by omega
      subst hjn
      rw [accP_all] at hc hra ⊢
      have HRa := Lib.hid hra
      have HB := Lib.hid hb
      clear hra hb
      go_wp2_with fail
      go_ret
      exact ⟨A, c, rfl, hc, HRa.out, by have h := HFr.out; rw [accP_all] at h; exact h, lift HB1.out HB.out⟩
end Od
end Go.Proofs.YtanfnejbnmenkaaGreat
end

section
/- The walks of matinsref15.reach, leads, Is and Behind. -/
namespace Go.Proofs.YtanfnejbnmenkaaGreat
open Go.RowKit Go.Sort

namespace Od
theorem stepL_succ {l : List Pr} {a : Str} {S : List Str} {k : Nat} (hk : k < l.length) :
    stepL (l.take (k + 1)) a S = if l[k].1 = a ∨ l[k].1 ∈ stepL (l.take k) a S then insL ltS l[k].2 (stepL (l.take k) a S) else stepL (l.take k) a S := by
  unfold stepL; rw [List.take_succ_eq_append_getElem hk, List.foldl_append]; rfl
theorem stepL_ok {l : List Pr} {a : Str} {S : List Str} (h1 : SS ltS S) (h2 : ∀ b, b ∈ S → R l a b) (k : Nat) :
    SS ltS (stepL (l.take k) a S) ∧ (∀ b, b ∈ stepL (l.take k) a S → R l a b) ∧ S.length ≤ (stepL (l.take k) a S).length := by
  have h := step_fold l a (l.take k) S (fun p hp => List.mem_of_mem_take hp) h1 h2
  exact ⟨h.1, h.2.1, h.2.2.1⟩
theorem stepL_closed {l : List Pr} {a : Str} {S : List Str} (h1 : SS ltS S) (h2 : ∀ b, b ∈ S → R l a b) (h : ¬ S.length < (stepL l a S).length) : stepL l a S = S ∧ Closed l a S := by
  have h' := step_fold l a l S (fun p hp => hp) h1 h2
  exact h'.2.2.2 (by have := h'.2.2.1; unfold stepL at h; omega)
theorem any_eq_mem {s : Str} {l : List Str} : (l.any (· == s)) = decide (s ∈ l) := by
  rw [Bool.eq_iff_iff]; simp only [List.any_eq_true, beq_iff_eq, decide_eq_true_eq]; exact ⟨fun ⟨x, h, e⟩ => e ▸ h, fun h => ⟨s, h, rfl⟩⟩

set_option maxRecDepth 100000 in
set_option maxHeartbeats 4000000 in
theorem reach15_any (A : Option Addr) (c : Nat) (l : List Pr) (a : Str) (w : World) (hr : Rd w w.heap.size 2 A l.length (prsC l)) (hl : l.length ≤ 100000) :
    Calls Tryz.prog 105 #[.slice A l.length c, sv a] w (RdIs 1 (reachL l a).length (svs (reachL l a)) w) := by
  have Hr := Lib.hid hr
  clear hr
  go_enter Tryz.func105, Tryz.ntmps105
  go_wp2_with fail
  go_loopw [5, 6] (fun v g wr => ∃ (S : List Str) (A1 : Option Addr) (c1 : Nat) (b : Bool), v = .slice A1 S.length c1 ∧ g = .bool b ∧ S.length ≤ c1 ∧ Rd wr wr.heap.size 1 A1 S.length (svs S) ∧ SS ltS S ∧ (∀ s, s ∈ S → R l a s) ∧ (b = false → Closed l a S) ∧ Below w.heap.size w wr)
    (fun v g _ => match v, g with | .slice _ n _, .bool true => l.length + 1 - n | _, _ => 0)
  case atStart => exact ⟨[], none, 0, true, rfl, rfl, Nat.le_refl _, Rd.none_, List.Pairwise.nil, by simp, by simp, Below.refl _ _⟩
  case round =>
    obtain ⟨S, A1, c1, b, rfl, rfl, hc1, hra, hss, hre, hcl, hb⟩ := hrel
    obtain ⟨w1, rfl⟩ : ∃ wo : World, wo = wr := ⟨_, rfl⟩
    have HA := Lib.hid hra
    have HB := Lib.hid hb
    have HS := Lib.hid (And.intro hss (And.intro hre hcl))
    have hsl := reached_len hss hre
    clear hra hb hss hre hcl
    cases b
    · have heq : S = reachL l a := (Reached.of HS.out.1 HS.out.2.1 (HS.out.2.2 rfl)).eq
      subst heq
      go_wp2_with fail
      go_ret
      exact RdIs.of hc1 HA.out HB.out rfl rfl
    · go_wp2_with fail
      go_loopw [5, 6, 16] (fun v g i wr => ∃ (k : Nat) (A2 : Option Addr) (c2 : Nat), k ≤ l.length ∧ i = .int .i64 k ∧ v = .slice A2 (stepL (l.take k) a S).length c2 ∧ (stepL (l.take k) a S).length ≤ c2 ∧ Rd wr wr.heap.size 1 A2 (stepL (l.take k) a S).length (svs (stepL (l.take k) a S)) ∧
        g = .bool (decide (S.length < (stepL (l.take k) a S).length)) ∧ Below w1.heap.size w1 wr) (fun _ _ i _ => l.length - (intOf i).toNat)
      case atStart => exact ⟨0, A1, c1, Nat.zero_le _, rfl, rfl, hc1, HA.out, by simp [stepL], Below.refl _ _⟩
      case round =>
        obtain ⟨k, A2, c2, hk, rfl, rfl, hc2, hra, rfl, hb⟩ := hrel
        obtain ⟨w2, rfl⟩ : ∃ wo : World, wo = wr := ⟨_, rfl⟩
        have HT := stepL_ok HS.out.1 HS.out.2.1 k
        have htl := reached_len HT.1 HT.2.1
        have HTh := Lib.hid HT
        by_cases hlt : k < l.length
        · have hsu := @stepL_succ l a S k hlt
          generalize hT : stepL (l.take k) a S = T at *
          have HTe := Lib.hid hT
          obtain ⟨bl, o, rfl, hB, hc0, hc3⟩ := (Hr.out.at (HB.out.trans (hb.mono HB.out.size))).pair hlt
          generalize hx : l[k] = x at hc0 hc3 hsu
          obtain ⟨x, y⟩ := x
          have HA2 := Lib.hid hra
          have HB2 := Lib.hid hb
          have HSu := Lib.hid hsu
          simp only at hc0 hc3
          clear hra hb hx hsu hT HT
          go_wp2_with fail
          first | (refine wp_named ?_; intro W3 hW) | (refine calls_named ?_; intro W3 hW)
          have B3 : Below w2.heap.size w2 W3 := by rw [hW]; exact (by repeat (first | exact Below.refl _ _ | assumption | refine Below.alloc ?_ (by simp <;> omega) _ | refine Below.setCell ?_ (by simp <;> omega) _ | refine Below.drew ?_))
          replace HA2 := Lib.hid (HA2.out.at B3)
          replace HB2 := Lib.hid (HB2.out.trans (B3.mono HB2.out.size))
          have n3 : w2.heap.size < W3.heap.size := by rw [hW]; simp <;> omega
          have c30 : W3.cell? ⟨w2.heap.size, 0, none⟩ = some (sv x) := by rw [hW]; go_simp
          have c31 : W3.cell? ⟨w2.heap.size, 1, none⟩ = some (sv y) := by rw [hW]; go_simp
          clear hW
          clear B3
          go_loop [9, 10, 26] (fun ne th i => ∃ j : Nat, j ≤ T.length ∧ i = .int .i64 j ∧ ne = .bool ((x == a) || (T.take j).any (· == x)) ∧ th = .bool ((T.take j).any (· == y))) (fun _ _ i => T.length - (intOf i).toNat)
          case atStart => exact ⟨0, Nat.zero_le _, rfl, by simp, by simp⟩
          case round =>
            obtain ⟨j, hj, rfl, rfl, rfl⟩ := hrel
            by_cases hlt2 : j < T.length
            · obtain ⟨b2, o2, rfl, hB2, hs0⟩ := HA2.out.str hlt2
              have e1 := @any_take_succ Str (· == x) T j hlt2
              have e2 := @any_take_succ Str (· == y) T j hlt2
              generalize hs : T[j] = s at hs0 e1 e2
              have E1 := Lib.hid e1
              have E2 := Lib.hid e2
              clear hs e1 e2
              cases hn : ((x == a) || (T.take j).any (· == x)) <;> cases ht : (T.take j).any (· == y)
              all_goals
                have Hn := Lib.hid (And.intro hn ht)
                clear hn ht
                go_wp2_with fail
                go_round
                case rel =>
                  refine ⟨j + 1, by omega, by go_num, ?_, ?_⟩
                  · rw [E1.out, ← Bool.or_assoc, Hn.out.1]; simp
                  · rw [E2.out, Hn.out.2]; simp
                case measure => simp [intOf]; omega
            · have hjn : j = T.length := by omega
              subst hjn
              rw [List.take_length] at *
              have HM := HTh.out
              have hkk : ∀ v : World, True := fun _ => trivial
              clear hkk
              have hkeep : ¬ ((x = a ∨ x ∈ T) ∧ ¬ y ∈ T) → stepL (l.take (k + 1)) a S = T := fun h => by
                rw [HSu.out]
                by_cases h1 : x = a ∨ x ∈ T
                · rw [if_pos h1]; exact insL_of_mem toS HM.1 (Decidable.byContradiction fun h2 => h ⟨h1, h2⟩)
                · rw [if_neg h1]
              have hgrow : (x = a ∨ x ∈ T) ∧ ¬ y ∈ T → stepL (l.take (k + 1)) a S = insL ltS y T ∧ S.length < (insL ltS y T).length := fun h => by
                refine ⟨by rw [HSu.out, if_pos h.1], ?_⟩
                rw [insL_len toS HM.1 h.2]; have := HM.2.2; omega
              have HK := Lib.hid (And.intro hkeep hgrow)
              clear hkeep hgrow HM
              cases hn : ((x == a) || T.any (· == x))
              · have hno : ¬ ((x = a ∨ x ∈ T) ∧ ¬ y ∈ T) := fun h => by
                  rw [any_eq_mem, Bool.or_eq_false_iff] at hn
                  rcases h.1 with e | e
                  · rw [e] at hn; simp at hn
                  · simp [e] at hn
                have HNo := Lib.hid (HK.out.1 hno)
                clear hno
                have Hn := Lib.hid hn
                clear hn
                go_wp2_with fail
                go_roundw
                case rel => exact ⟨k + 1, A2, c2, by omega, by go_num, by rw [HNo.out], by rw [HNo.out]; exact hc2, by rw [HNo.out]; exact HA2.out, by rw [HNo.out], HB2.out⟩
                case measure => simp [intOf]; omega
              · cases ht : T.any (· == y)
                · have hyes : (x = a ∨ x ∈ T) ∧ ¬ y ∈ T := by
                    rw [any_eq_mem] at hn ht
                    exact ⟨by simpa using hn, by simpa using ht⟩
                  have HY := Lib.hid (HK.out.2 hyes)
                  have Hn := Lib.hid (And.intro hn ht)
                  clear hyes hn ht
                  go_wp2_with fail
                  refine (put15_any A2 c2 T y W3 HA2.out hc2 (by omega)).mono ?_
                  rintro e v ⟨A3, c3, rfl, hc3, hr3, hb⟩
                  have HA3 := Lib.hid hr3
                  replace c30 := cellAt c30 hb (by omega)
                  replace c31 := cellAt c31 hb (by omega)
                  replace HA2 := Lib.hid (HA2.out.at hb)
                  replace HB2 := Lib.hid (HB2.out.trans (hb.mono HB2.out.size))
                  replace n3 : w2.heap.size < v.heap.size := ltAt n3 hb
                  clear hr3 hb
                  go_wp2_with fail
                  go_roundw
                  case rel => exact ⟨k + 1, A3, c3, by omega, by go_num, by rw [HY.out.1], by rw [HY.out.1]; exact hc3, by rw [HY.out.1]; exact HA3.out, by rw [HY.out.1]; simp [HY.out.2], HB2.out⟩
                  case measure => simp [intOf]; omega
                · have hno : ¬ ((x = a ∨ x ∈ T) ∧ ¬ y ∈ T) := fun h => by
                    rw [any_eq_mem] at ht; simp [h.2] at ht
                  have HNo := Lib.hid (HK.out.1 hno)
                  have Hn := Lib.hid (And.intro hn ht)
                  clear hno hn ht
                  go_wp2_with fail
                  go_roundw
                  case rel => exact ⟨k + 1, A2, c2, by omega, by go_num, by rw [HNo.out], by rw [HNo.out]; exact hc2, by rw [HNo.out]; exact HA2.out, by rw [HNo.out], HB2.out⟩
                  case measure => simp [intOf]; omega
        · have hkn : k = l.length := by omega
          subst hkn
          rw [List.take_length] at *
          have HA2 := Lib.hid hra
          have HB2 := Lib.hid (HB.out.trans (hb.mono HB.out.size))
          clear hra hb
          have HT2 := HTh.out
          have HT3 := Lib.hid HT2
          cases hg : decide (S.length < (stepL l a S).length)
          · have hcl := stepL_closed HS.out.1 HS.out.2.1 (by simpa using hg)
            have HCl := Lib.hid hcl
            have Hg := Lib.hid hg
            clear hcl hg HT2
            go_wp2_with fail
            go_roundw
            case rel => exact ⟨stepL l a S, A2, c2, false, rfl, rfl, hc2, HA2.out, HT3.out.1, HT3.out.2.1, fun _ => by rw [HCl.out.1]; exact HCl.out.2, HB2.out⟩
            case measure => simp; omega
          · have hgl : S.length < (stepL l a S).length := by simpa using hg
            have Hg := Lib.hid hg
            clear hg HT2
            go_wp2_with fail
            go_roundw
            case rel => exact ⟨stepL l a S, A2, c2, true, rfl, rfl, hc2, HA2.out, HT3.out.1, HT3.out.2.1, (fun h => by cases h), HB2.out⟩
            case measure => simp; omega
end Od
end Go.Proofs.YtanfnejbnmenkaaGreat
end

section
/- The walks of matinsref15.leads, Is and Behind. -/
namespace Go.Proofs.YtanfnejbnmenkaaGreat
open Go.RowKit Go.Sort

namespace Od
set_option maxRecDepth 100000 in
set_option maxHeartbeats 1000000 in
theorem leads15_any (A : Option Addr) (c : Nat) (l : List Pr) (a b : Str) (w : World) (hr : Rd w w.heap.size 2 A l.length (prsC l)) (hl : l.length ≤ 100000) :
    Calls Tryz.prog 79 #[.slice A l.length c, sv a, sv b] w fun e w' => e = .returned (.bool (decide (b ∈ reachL l a))) ∧ Below w.heap.size w w' := by
  have Hr := Lib.hid hr
  clear hr
  rw [← any_eq_mem]
  go_enter Tryz.func79, Tryz.ntmps79
  go_wp2_with fail
  refine (reach15_any A c l a w Hr.out hl).mono ?_
  rintro e w1 ⟨A1, c1, rfl, hc1, hr1, hb⟩
  have HR := Lib.hid hr1
  have HB := Lib.hid hb
  have hln := reached_len (reachL_ok l a).1 (fun s hs => mem_reachL.1 hs)
  clear hr1 hb
  generalize hT : reachL l a = T at *
  have HT := Lib.hid hT
  clear hT
  go_wp2_with fail
  go_loop [13] (fun i => ∃ j : Nat, j ≤ T.length ∧ i = .int .i64 j ∧ Hid ((T.take j).any (· == b) = false)) (fun i => T.length - (intOf i).toNat)
  case atStart => exact ⟨0, Nat.zero_le _, rfl, by simp [Hid]⟩
  case round =>
    obtain ⟨j, hj, rfl, hall⟩ := hrel
    by_cases hlt : j < T.length
    · obtain ⟨bl, o, rfl, hB, hs0⟩ := HR.out.str hlt
      have e1 := @any_take_succ Str (· == b) T j hlt
      have e2 := @any_of_at Str (· == b) T j hlt
      generalize hs : T[j] = s at hs0 e1 e2
      have E1 := Lib.hid e1
      have E2 := Lib.hid e2
      clear hs e1 e2
      cases hsb : (s == b)
      · have Hsb := Lib.hid hsb
        go_wp2_with fail
        go_round
        case rel => exact ⟨j + 1, by omega, by go_num, by show _ = false; rw [E1.out, hall.out, Hsb.out]; rfl⟩
        case measure => simp [intOf]; omega
      · have Hsb := Lib.hid (E2.out hsb)
        go_wp2_with fail
        go_ret
        exact ⟨ret_bool (by rw [HT.out]; exact Hsb.out.symm), HB.out⟩
    · have hjn : j = T.length := by omega
      subst hjn
      go_wp2_with fail
      go_ret
      have h := hall.out
      rw [List.take_length] at h
      exact ⟨ret_bool (by rw [HT.out]; exact h.symm), HB.out⟩

theorem isB_any (es : List Ed) : isB es = !(prsL es).any (fun p => decide (p.1 ∈ reachL (prsL es) p.2) || p.1 == p.2) := by
  unfold isB
  congr 2
  funext p
  rw [Bool.or_comm]
set_option maxRecDepth 100000 in
set_option maxHeartbeats 1000000 in
theorem Is15_any (An Ae : Option Addr) (nn cn ce : Nat) (es : List Ed) (w : World) (hr : Rd w w.heap.size 3 Ae es.length (edsC es)) (hl : es.length ≤ 100000) :
    Calls Tryz.prog 45 #[gV An nn cn Ae es.length ce] w fun e w' => e = .returned (.bool (isB es)) ∧ Below w.heap.size w w' := by
  have Hr := Lib.hid hr
  clear hr
  have hpl := prsL_len es
  rw [isB_any]
  go_enter Tryz.func45, Tryz.ntmps45
  go_wp2_with fail
  first | (refine wp_named ?_; intro W1 hW) | (refine calls_named ?_; intro W1 hW)
  have B1 : Below w.heap.size w W1 := by rw [hW]; exact (by repeat (first | exact Below.refl _ _ | assumption | refine Below.alloc ?_ (by simp <;> omega) _ | refine Below.setCell ?_ (by simp <;> omega) _ | refine Below.drew ?_))
  replace Hr := Lib.hid (Hr.out.at B1)
  clear hW
  refine (pairs15_any An Ae nn cn ce es W1 Hr.out hl).mono ?_
  rintro e w2 ⟨A, c, rfl, hc, hrp, hfr, hb⟩
  have HP := Lib.hid hrp
  have HB := Lib.hid (lift B1 hb)
  clear hrp hb B1
  generalize hL : prsL es = l at *
  have HL := Lib.hid hL
  clear hL
  generalize hq : (fun p : Pr => decide (p.1 ∈ reachL l p.2) || p.1 == p.2) = q
  have HQ := Lib.hid hq
  clear hq
  go_wp2_with fail
  go_loopw [10] (fun i wr => ∃ j : Nat, j ≤ l.length ∧ i = .int .i64 j ∧ Hid ((l.take j).any q = false) ∧ Below w2.heap.size w2 wr) (fun i _ => l.length - (intOf i).toNat)
  case atStart => exact ⟨0, Nat.zero_le _, rfl, by simp [Hid], Below.refl _ _⟩
  case round =>
    obtain ⟨j, hj, rfl, hall, hb⟩ := hrel
    by_cases hlt : j < l.length
    · obtain ⟨bl, o, hA, hB, hc0, hc1⟩ := (HP.out.at hb).pair hlt
      have e1 := @any_take_succ Pr q l j hlt
      have e2 := @any_of_at Pr q l j hlt
      generalize hx : l[j] = p at hc0 hc1 e1 e2
      obtain ⟨x, y⟩ := p
      simp only at hc0 hc1
      have E1 := Lib.hid e1
      have E2 := Lib.hid e2
      have hqv : q (x, y) = (decide (x ∈ reachL l y) || x == y) := by rw [← HQ.out]
      have HQv := Lib.hid hqv
      have HPr := Lib.hid (HP.out.at hb)
      have HBr := Lib.hid (lift HB.out hb)
      have HB2 := Lib.hid hb
      clear hx e1 e2 hqv hb
      subst hA
      go_wp2_with fail
      first | (refine wp_named ?_; intro W3 hW) | (refine calls_named ?_; intro W3 hW)
      have B3 : Below wr.heap.size wr W3 := by rw [hW]; exact (by repeat (first | exact Below.refl _ _ | assumption | refine Below.alloc ?_ (by simp <;> omega) _ | refine Below.setCell ?_ (by simp <;> omega) _ | refine Below.drew ?_))
      replace HPr := Lib.hid (HPr.out.at B3)
      replace HBr := Lib.hid (lift HBr.out B3)
      replace HB2 := Lib.hid (HB2.out.trans (B3.mono HB2.out.size))
      have n3 : wr.heap.size < W3.heap.size := by rw [hW]; simp <;> omega
      have c30 : W3.cell? ⟨wr.heap.size, 0, none⟩ = some (sv x) := by rw [hW]; go_simp
      have c31 : W3.cell? ⟨wr.heap.size, 1, none⟩ = some (sv y) := by rw [hW]; go_simp
      clear hW
      refine (leads15_any _ c l y x W3 HPr.out (by omega)).mono ?_
      rintro e v ⟨rfl, hb⟩
      replace c30 := cellAt c30 hb (by omega)
      replace c31 := cellAt c31 hb (by omega)
      replace HPr := Lib.hid (HPr.out.at hb)
      replace HBr := Lib.hid (lift HBr.out hb)
      replace HB2 := Lib.hid (HB2.out.trans (hb.mono HB2.out.size))
      replace n3 : wr.heap.size < v.heap.size := ltAt n3 hb
      clear hb B3
      cases hd : decide (x ∈ reachL l y)
      · rw [hd, Bool.false_or] at HQv
        cases he : (x == y)
        · have HE := Lib.hid he
          go_wp2_with fail
          go_roundw
          case rel => exact ⟨j + 1, by omega, by go_num, by show _ = false; rw [E1.out, hall.out, HQv.out, HE.out]; rfl, HB2.out⟩
          case measure => simp [intOf]; omega
        · have HE := Lib.hid (E2.out (HQv.out.trans he))
          go_wp2_with fail
          go_ret
          exact ⟨ret_bool (by rw [HL.out, HQ.out, HE.out]; rfl), HBr.out⟩
      · rw [hd, Bool.true_or] at HQv
        have HE := Lib.hid (E2.out HQv.out)
        go_wp2_with fail
        go_ret
        exact ⟨ret_bool (by rw [HL.out, HQ.out, HE.out]; rfl), HBr.out⟩
    · have hjn : j = l.length := by omega
      subst hjn
      have HBr := Lib.hid (lift HB.out hb)
      clear hb
      go_wp2_with fail
      go_ret
      have h := hall.out
      rw [List.take_length] at h
      exact ⟨ret_bool (by rw [HL.out, HQ.out, h]; rfl), HBr.out⟩
end Od
end Go.Proofs.YtanfnejbnmenkaaGreat
end

section
/- The walk of matinsref20.Sound. (bel2) -/
namespace Go.Proofs.YtanfnejbnmenkaaGreat
open Go.RowKit Go.Sort
set_option linter.unusedSimpArgs false

namespace Od
set_option maxRecDepth 100000 in
set_option maxHeartbeats 16000000 in
theorem Sound20_any (An Ae : Option Addr) (cn ce : Nat) (ns : List Nd) (es : List Ed) (A : Option Addr) (c : Nat) (q : List Jb) (w : World) (hg : GIq w An Ae ns es) (hq : QIn w A c q) :
    Calls Tryz.prog 20 #[gV An ns.length cn Ae es.length ce, .slice A q.length c] w fun e w' => e = .returned (.bool (soundQ ns es q)) ∧ Below w.heap.size w w' := by
  have hln := hg.ln
  have hle := hg.le
  have HG := Lib.hid hg
  have HQ := Lib.hid hq
  have HM := Lib.hid (show soundQ ns es q = (mayG ns es && (isB es && (mayQ q && noPair es q))) from rfl)
  clear hg hq
  go_enter Tryz.func20, Tryz.ntmps20
  go_wp2_with fail
  first | (refine wp_named ?_; intro W1 hW) | (refine calls_named ?_; intro W1 hW)
  have B1 : Below w.heap.size w W1 := by rw [hW]; exact (by repeat (first | exact Below.refl _ _ | assumption | refine Below.alloc ?_ (by first | omega | (simp <;> omega)) _ | refine Below.setCell ?_ (by first | omega | (simp <;> omega)) _ | refine Below.drew ?_))
  replace HG := Lib.hid (HG.out.at B1)
  replace HQ := Lib.hid (HQ.out.at B1)
  have n1 : w.heap.size < W1.heap.size := by rw [hW]; simp <;> omega
  have g0 : W1.cell? ⟨w.heap.size, 0, none⟩ = some (.slice An ns.length cn) := by rw [hW]; go_simp
  have g1 : W1.cell? ⟨w.heap.size, 1, none⟩ = some (.slice Ae es.length ce) := by rw [hW]; go_simp
  clear hW
  have HB := Lib.hid B1
  clear B1
  refine (May15_any An Ae cn ce ns es W1 HG.out.rn HG.out.re (by omega) HG.out.okn).mono ?_
  rintro e w2 ⟨rfl, hb⟩
  replace g0 := cellAt g0 hb (by omega)
  replace g1 := cellAt g1 hb (by omega)
  replace HG := Lib.hid (HG.out.at hb)
  replace HQ := Lib.hid (HQ.out.at hb)
  replace n1 : w.heap.size < w2.heap.size := ltAt n1 hb
  replace HB := Lib.hid (lift HB.out hb)
  clear hb
  cases h1 : mayG ns es
  · have H1 := Lib.hid h1
    go_wp2_with fail
    go_ret
    exact ⟨ret_bool (by rw [HM.out]; simp [H1.out]), HB.out⟩
  · have H1 := Lib.hid h1
    go_wp2_with fail
    refine (Is15_any An Ae ns.length cn ce es w2 HG.out.re (by omega)).mono ?_
    rintro e w3 ⟨rfl, hb⟩
    replace g0 := cellAt g0 hb (by omega)
    replace g1 := cellAt g1 hb (by omega)
    replace HG := Lib.hid (HG.out.at hb)
    replace HQ := Lib.hid (HQ.out.at hb)
    replace n1 : w.heap.size < w3.heap.size := ltAt n1 hb
    replace HB := Lib.hid (lift HB.out hb)
    clear hb
    cases h2 : isB es
    · have H2 := Lib.hid h2
      go_wp2_with fail
      go_ret
      exact ⟨ret_bool (by rw [HM.out]; simp [H1.out, H2.out]), HB.out⟩
    · have H2 := Lib.hid h2
      go_wp2_with fail
      refine (May20_any A c q w3 HQ.out.rq HQ.out.ok).mono ?_
      rintro e w4 ⟨rfl, hb⟩
      replace g0 := cellAt g0 hb (by omega)
      replace g1 := cellAt g1 hb (by omega)
      replace HG := Lib.hid (HG.out.at hb)
      replace HQ := Lib.hid (HQ.out.at hb)
      replace n1 : w.heap.size < w4.heap.size := ltAt n1 hb
      replace HB := Lib.hid (lift HB.out hb)
      clear hb
      cases h3 : mayQ q
      · have H3 := Lib.hid h3
        go_wp2_with fail
        go_ret
        exact ⟨ret_bool (by rw [HM.out]; simp [H1.out, H2.out, H3.out]), HB.out⟩
      · have H3 := Lib.hid h3
        have hlq2 : q.length ≤ 64 := (mayQ_iff.1 h3).1
        clear h3
        go_wp2_with fail
        go_loopw [24] (fun i wr => ∃ m : Nat, m ≤ q.length ∧ i = .int .i64 m ∧ Hid (∀ k (hk : k < q.length), k < m → ∀ y ∈ q, q[k].2.2.1 = 2 → y.2.2.1 = 2 → Ah es q[k].1 y.1 = false) ∧ Below w4.heap.size w4 wr) (fun i _ => q.length - (intOf i).toNat)
        case atStart => exact ⟨0, Nat.zero_le _, rfl, fun _ _ h => absurd h (by omega), Below.refl _ _⟩
        case round =>
          obtain ⟨m, hm, rfl, hall, hb⟩ := hrel
          have Hall := Lib.hid hall.out
          clear hall
          have Hb := Lib.hid hb
          replace g0 := cellAt g0 hb (by omega)
          replace g1 := cellAt g1 hb (by omega)
          replace HG := Lib.hid (HG.out.at hb)
          replace HQ := Lib.hid (HQ.out.at hb)
          replace n1 : w.heap.size < wr.heap.size := ltAt n1 hb
          replace HB := Lib.hid (lift HB.out hb)
          clear hb
          by_cases hlt : m < q.length
          · obtain ⟨b2, o2, hA, hB2, x0, x1, x2, x3⟩ := HQ.out.rq.job hlt
            have hxin : q[m] ∈ q := List.getElem_mem hlt
            generalize hx : q[m] = x at x0 x1 x2 x3 hxin
            obtain ⟨s, t, r, d⟩ := x
            have Hx := Lib.hid hx
            have Hxin := Lib.hid hxin
            clear hx hxin
            simp only at x0 x1 x2 x3
            have m1 : (0 : Int) ≤ (m : Int) := by omega
            have m2 : (m : Int) < (q.length : Int) := by omega
            subst hA
            obtain ⟨w9, rfl⟩ : ∃ wo : World, wo = wr := ⟨_, rfl⟩
            go_wp2_with fail
            first | (refine wp_named ?_; intro W2 hW) | (refine calls_named ?_; intro W2 hW)
            have B2 : Below w9.heap.size w9 W2 := by rw [hW]; exact (by repeat (first | exact Below.refl _ _ | assumption | refine Below.alloc ?_ (by first | omega | (simp <;> omega)) _ | refine Below.setCell ?_ (by first | omega | (simp <;> omega)) _ | refine Below.drew ?_))
            replace g0 := cellAt g0 B2 (by omega)
            replace g1 := cellAt g1 B2 (by omega)
            replace HG := Lib.hid (HG.out.at B2)
            replace HQ := Lib.hid (HQ.out.at B2)
            replace n1 : w.heap.size < W2.heap.size := ltAt n1 B2
            replace HB := Lib.hid (lift HB.out B2)
            replace Hb := Lib.hid (lift Hb.out B2)
            replace hB2 : b2 < W2.heap.size := ltAt hB2 B2
            have p1 : w9.heap.size < W2.heap.size := by rw [hW]; simp <;> omega
            have e0 : W2.cell? ⟨w9.heap.size, 0, none⟩ = some (sv s) := by rw [hW]; go_simp
            have e1 : W2.cell? ⟨w9.heap.size, 1, none⟩ = some (.int .i64 t) := by rw [hW]; go_simp
            have e2 : W2.cell? ⟨w9.heap.size, 2, none⟩ = some (.int .i64 r) := by rw [hW]; go_simp
            have e3 : W2.cell? ⟨w9.heap.size, 3, none⟩ = some (.int .i64 d) := by rw [hW]; go_simp
            clear hW
            clear B2
            have Hb9 := Hb
            go_loopw [30] (fun i wr => ∃ j : Nat, j ≤ q.length ∧ i = .int .i64 j ∧ Hid (∀ y ∈ q.take j, r = 2 → y.2.2.1 = 2 → Ah es s y.1 = false) ∧ Below W2.heap.size W2 wr) (fun i _ => q.length - (intOf i).toNat)
            case atStart => exact ⟨0, Nat.zero_le _, rfl, by simp [Hid], Below.refl _ _⟩
            case round =>
              obtain ⟨j, hj, rfl, hall2, hb⟩ := hrel
              have Hb7 := Lib.hid hb
              replace g0 := cellAt g0 hb (by omega)
              replace g1 := cellAt g1 hb (by omega)
              replace e0 := cellAt e0 hb (by omega)
              replace e1 := cellAt e1 hb (by omega)
              replace e2 := cellAt e2 hb (by omega)
              replace e3 := cellAt e3 hb (by omega)
              replace HG := Lib.hid (HG.out.at hb)
              replace HQ := Lib.hid (HQ.out.at hb)
              replace n1 : w.heap.size < wr.heap.size := ltAt n1 hb
              replace HB := Lib.hid (lift HB.out hb)
              replace hB2 : b2 < wr.heap.size := ltAt hB2 hb
              replace p1 : w9.heap.size < wr.heap.size := ltAt p1 hb
              clear hb
              by_cases hlt2 : j < q.length
              · obtain ⟨b3, o3, hA3, hB3, y0, y1, y2, y3⟩ := HQ.out.rq.job hlt2
                injection hA3 with hA3
                injection hA3 with hA4 hA5
                subst hA4 hA5
                have hyin : q[j] ∈ q := List.getElem_mem hlt2
                have htake : (r = 2 → q[j].2.2.1 = 2 → Ah es s q[j].1 = false) → ∀ y ∈ q.take (j + 1), r = 2 → y.2.2.1 = 2 → Ah es s y.1 = false := by
                  intro h1 y hy
                  rw [List.take_succ_eq_append_getElem hlt2, List.mem_append, List.mem_singleton] at hy
                  rcases hy with h | h
                  · exact hall2.out y h
                  · rw [h]; exact h1
                generalize q[j] = z at y0 y1 y2 y3 htake hyin
                obtain ⟨s', t', r', d'⟩ := z
                simp only at y0 y1 y2 y3
                have HT := Lib.hid htake
                have Hyin := Lib.hid hyin
                clear htake hyin
                have j1 : (0 : Int) ≤ (j : Int) := by omega
                have j2 : (j : Int) < (q.length : Int) := by omega
                by_cases r2 : r = 2
                · have rb : (r == 2) = true := by simpa using r2
                  by_cases r2' : r' = 2
                  · have rb' : (r' == 2) = true := by simpa using r2'
                    have R2 := Lib.hid r2
                    have R2' := Lib.hid r2'
                    clear r2 r2'
                    go_wp2_with fail
                    first | (refine wp_named ?_; intro W3 hW) | (refine calls_named ?_; intro W3 hW)
                    have B3 : Below wr.heap.size wr W3 := by rw [hW]; exact (by repeat (first | exact Below.refl _ _ | assumption | refine Below.alloc ?_ (by first | omega | (simp <;> omega)) _ | refine Below.setCell ?_ (by first | omega | (simp <;> omega)) _ | refine Below.drew ?_))
                    replace g0 := cellAt g0 B3 (by omega)
                    replace g1 := cellAt g1 B3 (by omega)
                    replace e0 := cellAt e0 B3 (by omega)
                    replace e1 := cellAt e1 B3 (by omega)
                    replace e2 := cellAt e2 B3 (by omega)
                    replace e3 := cellAt e3 B3 (by omega)
                    replace HG := Lib.hid (HG.out.at B3)
                    replace HQ := Lib.hid (HQ.out.at B3)
                    replace n1 : w.heap.size < W3.heap.size := ltAt n1 B3
                    replace HB := Lib.hid (lift HB.out B3)
                    replace hB2 : b2 < W3.heap.size := ltAt hB2 B3
                    replace p1 : w9.heap.size < W3.heap.size := ltAt p1 B3
                    replace Hb7 := Lib.hid (lift Hb7.out B3)
                    have p2 : wr.heap.size < W3.heap.size := by rw [hW]; simp <;> omega
                    have f0 : W3.cell? ⟨wr.heap.size, 0, none⟩ = some (sv s') := by rw [hW]; go_simp
                    have f1 : W3.cell? ⟨wr.heap.size, 1, none⟩ = some (.int .i64 t') := by rw [hW]; go_simp
                    have f2 : W3.cell? ⟨wr.heap.size, 2, none⟩ = some (.int .i64 r') := by rw [hW]; go_simp
                    have f3 : W3.cell? ⟨wr.heap.size, 3, none⟩ = some (.int .i64 d') := by rw [hW]; go_simp
                    clear hW
                    clear B3
                    refine (refAhead_any An Ae ns.length cn ce es s s' W3 HG.out.re (by omega)).mono ?_
                    rintro e v5 ⟨rfl, hb⟩
                    replace g0 := cellAt g0 hb (by omega)
                    replace g1 := cellAt g1 hb (by omega)
                    replace e0 := cellAt e0 hb (by omega)
                    replace e1 := cellAt e1 hb (by omega)
                    replace e2 := cellAt e2 hb (by omega)
                    replace e3 := cellAt e3 hb (by omega)
                    replace f0 := cellAt f0 hb (by omega)
                    replace f1 := cellAt f1 hb (by omega)
                    replace f2 := cellAt f2 hb (by omega)
                    replace f3 := cellAt f3 hb (by omega)
                    replace HG := Lib.hid (HG.out.at hb)
                    replace HQ := Lib.hid (HQ.out.at hb)
                    replace n1 : w.heap.size < v5.heap.size := ltAt n1 hb
                    replace HB := Lib.hid (lift HB.out hb)
                    replace hB2 : b2 < v5.heap.size := ltAt hB2 hb
                    replace p1 : w9.heap.size < v5.heap.size := ltAt p1 hb
                    replace Hb7 := Lib.hid (lift Hb7.out hb)
                    replace p2 : wr.heap.size < v5.heap.size := ltAt p2 hb
                    clear hb
                    cases hp1 : es.any (aheadB s s')
                    · have HT2 := Lib.hid (HT.out (fun _ _ => hp1))
                      go_wp2_with fail
                      go_roundw
                      case rel => exact ⟨j + 1, by omega, by go_num, HT2.out, Hb7.out⟩
                      case measure => simp [intOf]; omega
                    · have HN3 := Lib.hid (show noPair es q = false by
                        cases hn : noPair es q
                        · rfl
                        · have h5 := (noPair_run h2).1 hn _ Hxin.out _ Hyin.out R2.out R2'.out
                          have h6 : es.any (aheadB s s') = false := h5
                          rw [hp1] at h6; cases h6)
                      go_wp2_with fail
                      go_ret
                      exact ⟨ret_bool (by rw [HM.out]; simp [HN3.out]), HB.out⟩
                  · have rb' : (r' == 2) = false := by simpa using r2'
                    have R2' := Lib.hid r2'
                    clear r2'
                    have HT2 := Lib.hid (HT.out (fun _ h => absurd h R2'.out))
                    go_wp2_with fail
                    go_roundw
                    case rel => exact ⟨j + 1, by omega, by go_num, HT2.out, (Hb7.out.alloc Hb7.out.size _)⟩
                    case measure => simp [intOf]; omega
                · have rb : (r == 2) = false := by simpa using r2
                  have R2 := Lib.hid r2
                  clear r2
                  have HT2 := Lib.hid (HT.out (fun h _ => absurd h R2.out))
                  go_wp2_with fail
                  go_roundw
                  case rel => exact ⟨j + 1, by omega, by go_num, HT2.out, (Hb7.out.alloc Hb7.out.size _)⟩
                  case measure => simp [intOf]; omega
              · have hjM : j = q.length := by omega
                have hfin := hall2.out
                rw [hjM, List.take_length] at hfin
                have HF := Lib.hid hfin
                clear hfin
                go_wp2_with fail
                go_roundw
                case rel =>
                  refine ⟨m + 1, by omega, by go_num, fun k hk hkm => ?_, Hb9.out.trans (Hb7.out.mono Hb9.out.size)⟩
                  by_cases e : k = m
                  · subst e
                    rw [Hx.out]
                    intro y hy
                    exact HF.out y hy
                  · exact Hall.out k hk (by omega)
                case measure => simp [intOf]; omega
          · have HN := Lib.hid (show noPair es q = true from (noPair_run h2).2 fun x hx y hy => by
              obtain ⟨k, hk, rfl⟩ := List.mem_iff_getElem.1 hx
              exact Hall.out k hk (by omega) y hy)
            go_wp2_with fail
            go_ret
            exact ⟨ret_bool (by rw [HM.out]; simp [H1.out, H2.out, H3.out, HN.out]), HB.out⟩
end Od
end Go.Proofs.YtanfnejbnmenkaaGreat
end

section
/- The walks of matinsref20.with and matinsref20.clashes. (bel2) -/
namespace Go.Proofs.YtanfnejbnmenkaaGreat
open Go.RowKit Go.Sort
set_option linter.unusedSimpArgs false

theorem rd_news {w : World} {B k n : Nat} {xs : List Value} {ad : Addr} (hr : Rd w B k (some ad) n xs) : ∀ j u, xs[j]? = some u → w.cell? (ad.add j) = some u := by
  intro j u hu
  have hj : j < n * k := by
    have := (List.getElem?_eq_some_iff.1 hu).1
    rw [hr.1] at this
    exact this
  have hn0 : 0 < n := by
    rcases Nat.eq_zero_or_pos n with h | h
    · rw [h, Nat.zero_mul] at hj; omega
    · exact h
  obtain ⟨ad', he, _, hsp, hc⟩ := hr.2 hn0
  injection he with he
  subst he
  have hadd : ad.add j = ⟨ad.block, ad.off + j, none⟩ := by
    unfold Addr.add
    split
    · rename_i h0; subst h0; cases ad; simp_all
    · rfl
  rw [hadd]
  exact (hc j hj).trans hu
namespace Od
set_option maxRecDepth 100000 in
set_option maxHeartbeats 4000000 in
theorem with_any (A : Option Addr) (c : Nat) (q : List Jb) (k : Nat) (s : Str) (t r d : Int) (w : World) (hr : Rd w w.heap.size 4 A q.length (jbsC q)) (hk : k < q.length) (hl : q.length ≤ 1000000) :
    Calls Tryz.prog 56 #[.slice A q.length c, .int .i64 k, .agg #[sv s, .int .i64 t, .int .i64 r, .int .i64 d]] w (OwnJ (q.set k (s, t, r, d)) w) := by
  obtain ⟨i0, hi, hz0, hz1, hz2⟩ := info_parts infoJb
  obtain ⟨b, o, rfl, _⟩ := hr.open (by omega)
  have Hr := Lib.hid hr
  have h63 := Lib.hid (show 0 + q.length ≤ maxLen by unfold maxLen; omega)
  have hby := Lib.hid (show (0 + q.length) * 40 ≤ 140737488355328 by omega)
  clear hr
  go_enter Tryz.func56, Tryz.ntmps56
  go_wp2_with (first | (at_builtin; go_loud (refine wpList_append_rd (w.alloc (.cells #[sv s, .int .i64 t, .int .i64 r, .int .i64 d] 50)) (by rfl) (.const (.slice none 0 0)) (.tmp 8) 26 (by rfl) w.heap.size 50 i0 _ 4 40 Tryz.underlying26 hi hz0 hz1 hz2 rfl (by decide) (.slice none 0 0) 0 [] (by rfl) (World.ownsRow_nil _ _ _ _) _ (some ⟨b, o, none⟩) q.length c (jbsC q) (by rfl) (Hr.out.alloc (Nat.le_refl _) _) (one_jbsC q) h63.out hby.out (by simp) ?_; intro A5 c5 w4 hown4 hg4 hat4; have p0 : w.heap.size < (w.alloc (.cells #[sv s, .int .i64 t, .int .i64 r, .int .i64 d] 50)).heap.size := (by simp); have e0 := cell_kept (w := (w.alloc (.cells #[sv s, .int .i64 t, .int .i64 r, .int .i64 d] 50))) (b := w.heap.size) (o := 0) (v := sv s) (by go_simp) hg4 p0 (fun h => by cases h); have e1 := cell_kept (w := (w.alloc (.cells #[sv s, .int .i64 t, .int .i64 r, .int .i64 d] 50))) (b := w.heap.size) (o := 1) (v := .int .i64 t) (by go_simp) hg4 p0 (fun h => by cases h); have e2 := cell_kept (w := (w.alloc (.cells #[sv s, .int .i64 t, .int .i64 r, .int .i64 d] 50))) (b := w.heap.size) (o := 2) (v := .int .i64 r) (by go_simp) hg4 p0 (fun h => by cases h); have e3 := cell_kept (w := (w.alloc (.cells #[sv s, .int .i64 t, .int .i64 r, .int .i64 d] 50))) (b := w.heap.size) (o := 3) (v := .int .i64 d) (by go_simp) hg4 p0 (fun h => by cases h); have p1 : w.heap.size < w4.heap.size := Nat.lt_of_lt_of_le p0 hg4.size; have hb4 : Below w.heap.size w w4 := ((Below.refl w.heap.size w).alloc (Nat.le_refl _) (.cells #[sv s, .int .i64 t, .int .i64 r, .int .i64 d] 50)).grown hg4 (by simp) (fun k h => by cases h); clear p0; simp only [Nat.zero_add, List.nil_append] at hown4; obtain ⟨g, rfl, hgb, hgl, hcap⟩ := own_open hown4 (by omega); obtain ⟨y0, y1, y2, y3, yf⟩ := ownJ_cells hown4 hk; have HO := Lib.hid (ownJ_put hown4 hk s t r d); have HB := Lib.hid hb4; have k1 : (0 : Int) ≤ (k : Int) := (by omega); have k2 : (k : Int) < (q.length : Int) := (by omega); have yf0 := yf (k * 4); have yf1 := yf (k * 4 + 1); have yf2 := yf (k * 4 + 2); have yf3 := yf (k * 4 + 3); clear hb4 hown4 hg4 hat4 yf)) | fail)
  go_wp2_with fail
  go_ret
  exact ⟨some ⟨g, 0, none⟩, c5, by rw [List.length_set]; rfl, by rw [List.length_set]; exact HO.out, (((HB.out.setCell hgb _).setCell hgb _).setCell hgb _).setCell hgb _⟩
theorem meetQ2 (o j : Jb) : (meetQ o j).2 = (!(Pr.jn o.2.1 j.2.1 false).2 || (o.2.2.1 == 2 && (Pr.jn o.2.1 j.2.1 false).1 != o.2.1)) := by
  unfold meetQ
  generalize (!(Pr.jn o.2.1 j.2.1 false).2 || (o.2.2.1 == 2 && (Pr.jn o.2.1 j.2.1 false).1 != o.2.1)) = b
  cases b
  · rw [if_neg (by simp)]
    split <;> rfl
  · rfl
set_option maxRecDepth 100000 in
set_option maxHeartbeats 4000000 in
theorem clashes_any (s : Str) (t r d : Int) (s2 : Str) (t2 r2 d2 : Int) (w : World) :
    Calls Tryz.prog 60 #[.agg #[sv s, .int .i64 t, .int .i64 r, .int .i64 d], .agg #[sv s2, .int .i64 t2, .int .i64 r2, .int .i64 d2]] w fun e w' => e = .returned (.bool (meetQ (s, t, r, d) (s2, t2, r2, d2)).2) ∧ Below w.heap.size w w' := by
  have HM := Lib.hid (meetQ2 (s, t, r, d) (s2, t2, r2, d2))
  rcases hj : Pr.jn t t2 false with ⟨nt, fit⟩
  have HJ := Lib.hid hj
  clear hj
  go_enter Tryz.func60, Tryz.ntmps60
  go_wp2_with fail
  refine (Pr.refJoin_any t t2 false _).mono ?_
  rintro e v3 ⟨rfl, rfl⟩
  rw [HJ.out]
  simp only
  cases fit
  · go_wp2_with fail
    go_ret
    exact ⟨ret_bool (by rw [HM.out, HJ.out]; simp [*]), (by repeat (first | exact Below.refl _ _ | assumption | refine Below.alloc ?_ (by first | omega | (simp <;> omega)) _ | refine Below.setCell ?_ (by first | omega | (simp <;> omega)) _ | refine Below.drew ?_))⟩
  · by_cases h2 : r = 2
    · subst h2
      by_cases hn : nt = t
      · subst hn
        have hnb : (nt != nt) = false := by simp
        go_wp2_with fail
        go_ret
        exact ⟨ret_bool (by rw [HM.out, HJ.out]; simp [*]), (by repeat (first | exact Below.refl _ _ | assumption | refine Below.alloc ?_ (by first | omega | (simp <;> omega)) _ | refine Below.setCell ?_ (by first | omega | (simp <;> omega)) _ | refine Below.drew ?_))⟩
      · have hnb : (nt != t) = true := by simp [hn]
        go_wp2_with fail
        go_ret
        exact ⟨ret_bool (by rw [HM.out, HJ.out]; simp [*]), (by repeat (first | exact Below.refl _ _ | assumption | refine Below.alloc ?_ (by first | omega | (simp <;> omega)) _ | refine Below.setCell ?_ (by first | omega | (simp <;> omega)) _ | refine Below.drew ?_))⟩
    · have h2b : (r == 2) = false := by simpa using h2
      go_wp2_with fail
      go_ret
      exact ⟨ret_bool (by rw [HM.out, HJ.out]; simp [*]), (by repeat (first | exact Below.refl _ _ | assumption | refine Below.alloc ?_ (by first | omega | (simp <;> omega)) _ | refine Below.setCell ?_ (by first | omega | (simp <;> omega)) _ | refine Below.drew ?_))⟩
end Od
end Go.Proofs.YtanfnejbnmenkaaGreat
end

section
/- The walk of matinsref20.lost. (bel2) -/
namespace Go.Proofs.YtanfnejbnmenkaaGreat
open Go.RowKit Go.Sort
set_option linter.unusedSimpArgs false

namespace Od
theorem any_succ {α : Type} {p : α → Bool} {xs : List α} {k : Nat} (hk : k < xs.length) (h : (xs.take k).any p = false) : (xs.take (k + 1)).any p = p xs[k] := by
  rw [List.take_succ_eq_append_getElem hk, List.any_append, h]
  simp
theorem lostJ_mk (es : List Ed) (u s : Str) (t r d : Int) : lostJ es u (s, t, r, d) = ((hasE es u s 1 || hasE es u s 4) && (Ah es s u && ((r == 3) && ((t == 1 || t == 3) && (d != 1))))) := rfl
set_option maxRecDepth 100000 in
set_option maxHeartbeats 8000000 in
theorem lost_any (An Ae : Option Addr) (nn cn ce : Nat) (es : List Ed) (A : Option Addr) (c : Nat) (q : List Jb) (u : Str) (w : World) (hr : Rd w w.heap.size 3 Ae es.length (edsC es)) (hq : Rd w w.heap.size 4 A q.length (jbsC q)) (hl : es.length ≤ 100000) (hlq : q.length ≤ 1000000) :
    Calls Tryz.prog 55 #[gV An nn cn Ae es.length ce, .slice A q.length c, sv u] w fun e w' => e = .returned (.bool (q.any (lostJ es u))) ∧ Below w.heap.size w w' := by
  have Hr := Lib.hid hr
  have Hq := Lib.hid hq
  clear hr hq
  go_enter Tryz.func55, Tryz.ntmps55
  go_wp2_with fail
  first | (refine wp_named ?_; intro W1 hW) | (refine calls_named ?_; intro W1 hW)
  have B1 : Below w.heap.size w W1 := by rw [hW]; exact (by repeat (first | exact Below.refl _ _ | assumption | refine Below.alloc ?_ (by first | omega | (simp <;> omega)) _ | refine Below.setCell ?_ (by first | omega | (simp <;> omega)) _ | refine Below.drew ?_))
  replace Hr := Lib.hid (Hr.out.at B1)
  replace Hq := Lib.hid (Hq.out.at B1)
  have n1 : w.heap.size < W1.heap.size := by rw [hW]; simp <;> omega
  have g0 : W1.cell? ⟨w.heap.size, 0, none⟩ = some (.slice An nn cn) := by rw [hW]; go_simp
  have g1 : W1.cell? ⟨w.heap.size, 1, none⟩ = some (.slice Ae es.length ce) := by rw [hW]; go_simp
  clear hW
  have HB1 := Lib.hid B1
  clear B1
  go_wp2_with fail
  go_loopw [12] (fun i wr => ∃ m : Nat, m ≤ q.length ∧ i = .int .i64 m ∧ Hid ((q.take m).any (lostJ es u) = false) ∧ Below W1.heap.size W1 wr) (fun i _ => q.length - (intOf i).toNat)
  case atStart => exact ⟨0, Nat.zero_le _, rfl, rfl, Below.refl _ _⟩
  case round =>
    obtain ⟨m, hm, rfl, hall, hb⟩ := hrel
    have HB := Lib.hid (lift HB1.out hb)
    have HBl := Lib.hid hb
    by_cases hlt : m < q.length
    · have hs := any_succ hlt hall.out
      have ha : (q.take (m + 1)).any (lostJ es u) = true → q.any (lostJ es u) = true := fun h => by
        rw [List.any_eq_true] at h ⊢
        obtain ⟨x, hx, hx2⟩ := h
        exact ⟨x, List.mem_of_mem_take hx, hx2⟩
      have HA := Lib.hid ha
      replace g0 := cellAt g0 hb (by omega)
      replace g1 := cellAt g1 hb (by omega)
      replace Hr := Lib.hid (Hr.out.at hb)
      replace Hq := Lib.hid (Hq.out.at hb)
      replace n1 : w.heap.size < wr.heap.size := ltAt n1 hb
      clear hb ha
      obtain ⟨b2, o2, hA, hB2, x0, x1, x2, x3⟩ := Hq.out.job hlt
      subst hA
      generalize q[m] = x at x0 x1 x2 x3 hs
      obtain ⟨s, t, r, d⟩ := x
      simp only at x0 x1 x2 x3
      have HS := Lib.hid hs
      clear hs
      have m1 : (0 : Int) ≤ (m : Int) := by omega
      have m2 : (m : Int) < (q.length : Int) := by omega
      go_wp2_with fail
      first | (refine wp_named ?_; intro W2 hW) | (refine calls_named ?_; intro W2 hW)
      have B2 : Below wr.heap.size wr W2 := by rw [hW]; exact (by repeat (first | exact Below.refl _ _ | assumption | refine Below.alloc ?_ (by first | omega | (simp <;> omega)) _ | refine Below.setCell ?_ (by first | omega | (simp <;> omega)) _ | refine Below.drew ?_))
      replace g0 := cellAt g0 B2 (by omega)
      replace g1 := cellAt g1 B2 (by omega)
      replace Hr := Lib.hid (Hr.out.at B2)
      replace Hq := Lib.hid (Hq.out.at B2)
      replace n1 : w.heap.size < W2.heap.size := ltAt n1 B2
      replace HB := Lib.hid (lift HB.out B2)
      replace HBl := Lib.hid (lift HBl.out B2)
      have p1 : wr.heap.size < W2.heap.size := by rw [hW]; simp <;> omega
      have e0 : W2.cell? ⟨wr.heap.size, 0, none⟩ = some (sv s) := by rw [hW]; go_simp
      have e1 : W2.cell? ⟨wr.heap.size, 1, none⟩ = some (.int .i64 t) := by rw [hW]; go_simp
      have e2 : W2.cell? ⟨wr.heap.size, 2, none⟩ = some (.int .i64 r) := by rw [hW]; go_simp
      have e3 : W2.cell? ⟨wr.heap.size, 3, none⟩ = some (.int .i64 d) := by rw [hW]; go_simp
      clear hW
      clear B2 x0 x1 x2 x3
      refine (Has_any An Ae nn cn ce es u s 1 _ Hr.out (by omega)).mono ?_
      rintro e v3 ⟨rfl, hb⟩
      replace g0 := cellAt g0 hb (by omega)
      replace g1 := cellAt g1 hb (by omega)
      replace e0 := cellAt e0 hb (by omega)
      replace e1 := cellAt e1 hb (by omega)
      replace e2 := cellAt e2 hb (by omega)
      replace e3 := cellAt e3 hb (by omega)
      replace Hr := Lib.hid (Hr.out.at hb)
      replace Hq := Lib.hid (Hq.out.at hb)
      replace n1 : w.heap.size < v3.heap.size := ltAt n1 hb
      replace HB := Lib.hid (lift HB.out hb)
      replace HBl := Lib.hid (lift HBl.out hb)
      replace p1 : wr.heap.size < v3.heap.size := ltAt p1 hb
      clear hb
      cases h1 : es.any (· == (u, s, 1))
      · have h1' : hasE es u s 1 = false := h1
        go_wp2_with fail
        refine (Has_any An Ae nn cn ce es u s 4 _ Hr.out (by omega)).mono ?_
        rintro e v4 ⟨rfl, hb⟩
        replace g0 := cellAt g0 hb (by omega)
        replace g1 := cellAt g1 hb (by omega)
        replace e0 := cellAt e0 hb (by omega)
        replace e1 := cellAt e1 hb (by omega)
        replace e2 := cellAt e2 hb (by omega)
        replace e3 := cellAt e3 hb (by omega)
        replace Hr := Lib.hid (Hr.out.at hb)
        replace Hq := Lib.hid (Hq.out.at hb)
        replace n1 : w.heap.size < v4.heap.size := ltAt n1 hb
        replace HB := Lib.hid (lift HB.out hb)
        replace HBl := Lib.hid (lift HBl.out hb)
        replace p1 : wr.heap.size < v4.heap.size := ltAt p1 hb
        clear hb
        cases h4 : es.any (· == (u, s, 4))
        · have h4' : hasE es u s 4 = false := h4
          have HF := Lib.hid (show lostJ es u (s, t, r, d) = false by rw [lostJ_mk]; simp only [h1', h4', Bool.true_and, Bool.and_true, Bool.false_and, Bool.and_false, Bool.true_or, Bool.or_true, Bool.false_or, Bool.or_false, Bool.or_self, Bool.and_self])
          go_wp2_with fail
          go_roundw
          case rel => exact ⟨m + 1, by omega, by go_num, by show _ = _; rw [HS.out, HF.out], HBl.out⟩
          case measure => simp [intOf]; omega
        · have h4' : hasE es u s 4 = true := h4
          go_wp2_with fail
          refine (refAhead_any An Ae nn cn ce es s u _ Hr.out (by omega)).mono ?_
          rintro e v5 ⟨rfl, hb⟩
          replace g0 := cellAt g0 hb (by omega)
          replace g1 := cellAt g1 hb (by omega)
          replace e0 := cellAt e0 hb (by omega)
          replace e1 := cellAt e1 hb (by omega)
          replace e2 := cellAt e2 hb (by omega)
          replace e3 := cellAt e3 hb (by omega)
          replace Hr := Lib.hid (Hr.out.at hb)
          replace Hq := Lib.hid (Hq.out.at hb)
          replace n1 : w.heap.size < v5.heap.size := ltAt n1 hb
          replace HB := Lib.hid (lift HB.out hb)
          replace HBl := Lib.hid (lift HBl.out hb)
          replace p1 : wr.heap.size < v5.heap.size := ltAt p1 hb
          clear hb
          cases ha : es.any (aheadB s u)
          · have ha' : Ah es s u = false := ha
            have HF := Lib.hid (show lostJ es u (s, t, r, d) = false by rw [lostJ_mk]; simp only [ha', Bool.true_and, Bool.and_true, Bool.false_and, Bool.and_false, Bool.true_or, Bool.or_true, Bool.false_or, Bool.or_false, Bool.or_self, Bool.and_self])
            go_wp2_with fail
            go_roundw
            case rel => exact ⟨m + 1, by omega, by go_num, by show _ = _; rw [HS.out, HF.out], HBl.out⟩
            case measure => simp [intOf]; omega
          · have ha' : Ah es s u = true := ha
            cases rb : (r == 3)
            · have HF := Lib.hid (show lostJ es u (s, t, r, d) = false by rw [lostJ_mk]; simp only [rb, Bool.true_and, Bool.and_true, Bool.false_and, Bool.and_false, Bool.true_or, Bool.or_true, Bool.false_or, Bool.or_false, Bool.or_self, Bool.and_self])
              go_wp2_with fail
              go_roundw
              case rel => exact ⟨m + 1, by omega, by go_num, by show _ = _; rw [HS.out, HF.out], HBl.out⟩
              case measure => simp [intOf]; omega
            · cases tb : (t == 1)
              · cases tc : (t == 3)
                · have HF := Lib.hid (show lostJ es u (s, t, r, d) = false by rw [lostJ_mk]; simp only [tb, tc, Bool.true_and, Bool.and_true, Bool.false_and, Bool.and_false, Bool.true_or, Bool.or_true, Bool.false_or, Bool.or_false, Bool.or_self, Bool.and_self])
                  go_wp2_with fail
                  go_roundw
                  case rel => exact ⟨m + 1, by omega, by go_num, by show _ = _; rw [HS.out, HF.out], HBl.out⟩
                  case measure => simp [intOf]; omega
                · cases db : (d != 1)
                  · have HF := Lib.hid (show lostJ es u (s, t, r, d) = false by rw [lostJ_mk]; simp only [db, Bool.true_and, Bool.and_true, Bool.false_and, Bool.and_false, Bool.true_or, Bool.or_true, Bool.false_or, Bool.or_false, Bool.or_self, Bool.and_self])
                    go_wp2_with fail
                    go_roundw
                    case rel => exact ⟨m + 1, by omega, by go_num, by show _ = _; rw [HS.out, HF.out], HBl.out⟩
                    case measure => simp [intOf]; omega
                  · have HF := Lib.hid (show lostJ es u (s, t, r, d) = true by rw [lostJ_mk]; simp only [ha', h4', rb, tb, tc, db, Bool.true_and, Bool.and_true, Bool.false_and, Bool.and_false, Bool.true_or, Bool.or_true, Bool.false_or, Bool.or_false, Bool.or_self, Bool.and_self])
                    go_wp2_with fail
                    go_ret
                    exact ⟨ret_bool (by rw [HA.out (HS.out.trans HF.out)]), HB.out⟩
              · cases db : (d != 1)
                · have HF := Lib.hid (show lostJ es u (s, t, r, d) = false by rw [lostJ_mk]; simp only [db, Bool.true_and, Bool.and_true, Bool.false_and, Bool.and_false, Bool.true_or, Bool.or_true, Bool.false_or, Bool.or_false, Bool.or_self, Bool.and_self])
                  go_wp2_with fail
                  go_roundw
                  case rel => exact ⟨m + 1, by omega, by go_num, by show _ = _; rw [HS.out, HF.out], HBl.out⟩
                  case measure => simp [intOf]; omega
                · have HF := Lib.hid (show lostJ es u (s, t, r, d) = true by rw [lostJ_mk]; simp only [ha', h4', rb, tb, db, Bool.true_and, Bool.and_true, Bool.false_and, Bool.and_false, Bool.true_or, Bool.or_true, Bool.false_or, Bool.or_false, Bool.or_self, Bool.and_self])
                  go_wp2_with fail
                  go_ret
                  exact ⟨ret_bool (by rw [HA.out (HS.out.trans HF.out)]), HB.out⟩
      · have h1' : hasE es u s 1 = true := h1
        go_wp2_with fail
        refine (refAhead_any An Ae nn cn ce es s u _ Hr.out (by omega)).mono ?_
        rintro e v5 ⟨rfl, hb⟩
        replace g0 := cellAt g0 hb (by omega)
        replace g1 := cellAt g1 hb (by omega)
        replace e0 := cellAt e0 hb (by omega)
        replace e1 := cellAt e1 hb (by omega)
        replace e2 := cellAt e2 hb (by omega)
        replace e3 := cellAt e3 hb (by omega)
        replace Hr := Lib.hid (Hr.out.at hb)
        replace Hq := Lib.hid (Hq.out.at hb)
        replace n1 : w.heap.size < v5.heap.size := ltAt n1 hb
        replace HB := Lib.hid (lift HB.out hb)
        replace HBl := Lib.hid (lift HBl.out hb)
        replace p1 : wr.heap.size < v5.heap.size := ltAt p1 hb
        clear hb
        cases ha : es.any (aheadB s u)
        · have ha' : Ah es s u = false := ha
          have HF := Lib.hid (show lostJ es u (s, t, r, d) = false by rw [lostJ_mk]; simp only [ha', Bool.true_and, Bool.and_true, Bool.false_and, Bool.and_false, Bool.true_or, Bool.or_true, Bool.false_or, Bool.or_false, Bool.or_self, Bool.and_self])
          go_wp2_with fail
          go_roundw
          case rel => exact ⟨m + 1, by omega, by go_num, by show _ = _; rw [HS.out, HF.out], HBl.out⟩
          case measure => simp [intOf]; omega
        · have ha' : Ah es s u = true := ha
          cases rb : (r == 3)
          · have HF := Lib.hid (show lostJ es u (s, t, r, d) = false by rw [lostJ_mk]; simp only [rb, Bool.true_and, Bool.and_true, Bool.false_and, Bool.and_false, Bool.true_or, Bool.or_true, Bool.false_or, Bool.or_false, Bool.or_self, Bool.and_self])
            go_wp2_with fail
            go_roundw
            case rel => exact ⟨m + 1, by omega, by go_num, by show _ = _; rw [HS.out, HF.out], HBl.out⟩
            case measure => simp [intOf]; omega
          · cases tb : (t == 1)
            · cases tc : (t == 3)
              · have HF := Lib.hid (show lostJ es u (s, t, r, d) = false by rw [lostJ_mk]; simp only [tb, tc, Bool.true_and, Bool.and_true, Bool.false_and, Bool.and_false, Bool.true_or, Bool.or_true, Bool.false_or, Bool.or_false, Bool.or_self, Bool.and_self])
                go_wp2_with fail
                go_roundw
                case rel => exact ⟨m + 1, by omega, by go_num, by show _ = _; rw [HS.out, HF.out], HBl.out⟩
                case measure => simp [intOf]; omega
              · cases db : (d != 1)
                · have HF := Lib.hid (show lostJ es u (s, t, r, d) = false by rw [lostJ_mk]; simp only [db, Bool.true_and, Bool.and_true, Bool.false_and, Bool.and_false, Bool.true_or, Bool.or_true, Bool.false_or, Bool.or_false, Bool.or_self, Bool.and_self])
                  go_wp2_with fail
                  go_roundw
                  case rel => exact ⟨m + 1, by omega, by go_num, by show _ = _; rw [HS.out, HF.out], HBl.out⟩
                  case measure => simp [intOf]; omega
                · have HF := Lib.hid (show lostJ es u (s, t, r, d) = true by rw [lostJ_mk]; simp only [ha', h1', rb, tb, tc, db, Bool.true_and, Bool.and_true, Bool.false_and, Bool.and_false, Bool.true_or, Bool.or_true, Bool.false_or, Bool.or_false, Bool.or_self, Bool.and_self])
                  go_wp2_with fail
                  go_ret
                  exact ⟨ret_bool (by rw [HA.out (HS.out.trans HF.out)]), HB.out⟩
            · cases db : (d != 1)
              · have HF := Lib.hid (show lostJ es u (s, t, r, d) = false by rw [lostJ_mk]; simp only [db, Bool.true_and, Bool.and_true, Bool.false_and, Bool.and_false, Bool.true_or, Bool.or_true, Bool.false_or, Bool.or_false, Bool.or_self, Bool.and_self])
                go_wp2_with fail
                go_roundw
                case rel => exact ⟨m + 1, by omega, by go_num, by show _ = _; rw [HS.out, HF.out], HBl.out⟩
                case measure => simp [intOf]; omega
              · have HF := Lib.hid (show lostJ es u (s, t, r, d) = true by rw [lostJ_mk]; simp only [ha', h1', rb, tb, db, Bool.true_and, Bool.and_true, Bool.false_and, Bool.and_false, Bool.true_or, Bool.or_true, Bool.false_or, Bool.or_false, Bool.or_self, Bool.and_self])
                go_wp2_with fail
                go_ret
                exact ⟨ret_bool (by rw [HA.out (HS.out.trans HF.out)]), HB.out⟩
    · have hmq : m = q.length := by omega
      have h := hall.out
      rw [hmq, List.take_length] at h
      have HN := Lib.hid h
      clear h
      go_wp2_with fail
      go_ret
      exact ⟨ret_bool (by rw [HN.out]), HB.out⟩
end Od
end Go.Proofs.YtanfnejbnmenkaaGreat
end

section
/- The walk of matinsref20.rising: texts in order, each once. (bel2) -/
namespace Go.Proofs.YtanfnejbnmenkaaGreat
open Go.RowKit Go.Sort
set_option linter.unusedSimpArgs false

namespace Od
theorem canon_succ {us : List Str} {j : Nat} (hj : j < us.length) : canon ltS (us.take (j + 1)) = insL ltS us[j] (canon ltS (us.take j)) := by
  unfold canon; rw [List.take_succ_eq_append_getElem hj, List.foldl_append]; rfl
theorem canon_take_len (us : List Str) (j : Nat) : (canon ltS (us.take j)).length ≤ us.length := Nat.le_trans (canon_len _) (by simp; omega)
set_option maxRecDepth 100000 in
set_option maxHeartbeats 8000000 in
theorem rising_any (A : Option Addr) (c : Nat) (ss : List Str) (w : World) (hr : Rd w w.heap.size 1 A ss.length (svs ss)) (hl : ss.length ≤ 100000) :
    Calls Tryz.prog 51 #[.slice A ss.length c] w (RdIs 1 (canon ltS ss).length (svs (canon ltS ss)) w) := by
  obtain ⟨i0, hi, hz0, hz1, hz2⟩ := info_parts inS
  have Hr := Lib.hid hr
  clear hr
  go_enter Tryz.func51, Tryz.ntmps51
  go_wp2_with fail
  go_loopw [3, 9] (fun v i wr => ∃ (m : Nat) (B : Option Addr) (d : Nat) (L : List Str), m ≤ ss.length ∧ i = .int .i64 m ∧ v = .slice B L.length d ∧ L.length ≤ d ∧ Rd wr wr.heap.size 1 B L.length (svs L) ∧ L = canon ltS (ss.take m) ∧ Below w.heap.size w wr) (fun _ i _ => ss.length - (intOf i).toNat)
  case atStart => exact ⟨0, none, 0, [], Nat.zero_le _, rfl, rfl, Nat.le_refl _, Rd.none_, rfl, Below.refl _ _⟩
  case round =>
    obtain ⟨m, B, d, L, hm, rfl, rfl, hd, hrL, hC, hb⟩ := hrel
    have HBw := Lib.hid hb
    replace Hr := Lib.hid (Hr.out.at hb)
    clear hb
    have HL := Lib.hid hrL
    have hLl : L.length ≤ ss.length := by rw [hC]; exact canon_take_len ss m
    clear hrL
    by_cases hlt : m < ss.length
    · obtain ⟨b1, o1, rfl, hB1, x0⟩ := Hr.out.str hlt
      have hcs := canon_succ hlt
      rw [← hC] at hcs
      generalize ss[m] = s at x0 hcs
      have HC := Lib.hid hcs
      clear hcs hC
      have m1 : (0 : Int) ≤ (m : Int) := by omega
      have m2 : (m : Int) < (ss.length : Int) := by omega
      go_wp2_with fail
      go_loop [6] (fun i => ∃ k : Nat, k ≤ L.length ∧ i = .int .i64 k ∧ Hid (∀ y ∈ L.take k, ltS y s = true)) (fun i => L.length - (intOf i).toNat)
      case atStart => exact ⟨0, Nat.zero_le _, rfl, by simp [Hid]⟩
      case round =>
        obtain ⟨k, hk2, rfl, hall2⟩ := hrel
        have k1 : (0 : Int) ≤ (k : Int) := by omega
        by_cases hlt2 : k < L.length
        · have k2 : (k : Int) < (L.length : Int) := by omega
          have k3 : ((k : Int) == (L.length : Int)) = false := by rw [beq_eq_false_iff_ne]; omega
          obtain ⟨b, o, hA, hB, hc0⟩ := HL.out.str hlt2
          subst hA
          generalize hx : L[k] = x at hc0
          have Hx := Lib.hid hx
          clear hx
          cases hlx : Op.bytesLess x s
          · have hge : ∀ h : k < L.length, ltS L[k] s = false := fun _ => by rw [Hx.out]; exact hlx
            cases hxs : (x == s)
            · have hne : ¬ L[k]? = some s := by rw [List.getElem?_eq_getElem hlt2, Hx.out]; intro e; injection e with e; rw [e] at hxs; simp at hxs
              have hins : insL ltS s L = L.take k ++ s :: L.drop k := by rw [insL_cut L k hk2 hall2 hge, if_neg hne]
              have HI := Lib.hid hins
              have HR1 := Lib.hid (HL.out.takeA hk2)
              have HR2 := Lib.hid (HL.out.dropA hk2 hd)
              have hs1 := run_slice_full (P := Tryz.prog) Tryz.underlying37 hi (some ⟨b, o, none⟩) L.length d k (Nat.le_trans hk2 hd)
              have hs2 := run_slice_tail (P := Tryz.prog) Tryz.underlying37 hi (some ⟨b, o, none⟩) L.length d k hk2
              rw [hz1] at hs1 hs2
              clear hins hne hge
              have hlk : (L.drop k).length = L.length - k := List.length_drop
              have HLk := Lib.hid hlk
              clear hlk
              go_wp2_with fail
              try go_wp2_with fail
              refine wp_region_held_drew (S := fun w' => Below wr.heap.size wr w') (by kernel_rfl) (Below.drew (Below.refl _ _)) (fun hHeld => ?_)
              refine tY (i := 0) (v := ?_) rfl ?_ hHeld ?_; rotate_left 1; focus (intro w' hSw; clear hSw; go_simp; try with_reducible rfl)
              (try simp only [Act.put, zn1, zn2, zn3])
              refine tY (i := 1) (v := ?_) rfl ?_ hHeld ?_; rotate_left 1; focus (intro w' hSw; clear hSw; go_simp; try with_reducible rfl)
              (try simp only [Act.put, zn1, zn2, zn3])
              refine tY (i := 2) (v := ?_) rfl ?_ hHeld ?_; rotate_left 1; focus (intro w' hSw; clear hSw; go_simp; try with_reducible rfl)
              (try simp only [Act.put, zn1, zn2, zn3])
              refine tY (i := 3) (v := ?_) rfl ?_ hHeld ?_; rotate_left 1; focus (intro w' hSw; clear hSw; go_simp; try with_reducible rfl)
              (try simp only [Act.put, zn1, zn2, zn3])
              refine tY (i := 4) (v := ?_) rfl ?_ hHeld ?_; rotate_left 1; focus (intro w' hSw; clear hSw; go_simp; try with_reducible rfl)
              (try simp only [Act.put, zn1, zn2, zn3])
              refine tY (i := 6) (v := ?_) rfl ?_ hHeld ?_; rotate_left 1; focus (intro w' hSw; clear hSw; go_simp; try with_reducible rfl)
              (try simp only [Act.put, zn1, zn2, zn3])
              refine tY (i := 7) (v := ?_) rfl ?_ hHeld ?_; rotate_left 1; focus (intro w' hSw; clear hSw; go_simp; try with_reducible rfl)
              (try simp only [Act.put, zn1, zn2, zn3])
              refine tY (i := 8) (v := ?_) rfl ?_ hHeld ?_; rotate_left 1; focus (intro w' hSw; clear hSw; go_simp; try with_reducible rfl)
              (try simp only [Act.put, zn1, zn2, zn3])
              refine ready_one (i := 5) rfl (by kernel_rfl) (fun K hK => ?_)
              go_simp
              refine hK.out _ _ ?_ (fun hHeld2 => ?_)
              · (try dsimp only); first | exact hHeld | exact (by repeat (first | exact Below.refl _ _ | assumption | refine Below.alloc ?_ (by first | omega | (simp <;> omega)) _ | refine Below.setCell ?_ (by first | omega | (simp <;> omega)) _ | refine Below.drew ?_))
              clear hK K hHeld; have hHeld := hHeld2; clear hHeld2; (try simp only [Act.put, zn1, zn2, zn3])
              refine ready_one (i := 9) rfl (by kernel_rfl) (fun K hK => ?_)
              refine step_append_full (by rfl) (.tmp 44) (.tmp 47) 37 (by rfl) 9 i0 (.string ⟨#[]⟩) 1 16 Tryz.underlying37 hi hz0 hz1 hz2 rfl _ (some ⟨wr.heap.size, 0, none⟩) 1 [sv s] (by rfl) (Rd.lit wr.drew [sv s] 9 1 1 rfl) (Nat.le_refl _) _ _ (L.length - k) (d - k) _ (by rfl) (HR2.out.at' (Nat.le_refl _) hHeld) (one_drop (one_svs L) _) (by unfold maxLen; omega) (by omega) ?_
              intro A2 c2 v2 hc2 hr2 hb
              have HR3 := Lib.hid hr2
              clear hr2
              refine hK.out _ _ ?_ (fun hHeld2 => ?_)
              · (try dsimp only); first | exact Below.trans hHeld (Below.mono hb hHeld.size) | exact hHeld | exact Below.drew hHeld | exact (by repeat (first | exact Below.refl _ _ | assumption | refine Below.alloc ?_ (by first | omega | (simp <;> omega)) _ | refine Below.setCell ?_ (by first | omega | (simp <;> omega)) _ | refine Below.drew ?_))
              clear hK K hHeld; have hHeld := hHeld2; clear hHeld2; (try simp only [Act.put, zn1, zn2, zn3])
              refine ready_one (i := 10) rfl (by kernel_rfl) (fun K hK => ?_)
              refine step_append_full (by rfl) (.tmp 42) (.tmp 48) 37 (by rfl) 9 i0 (.string ⟨#[]⟩) 1 16 Tryz.underlying37 hi hz0 hz1 hz2 rfl _ _ k _ (by rfl) (HR1.out.at' (Nat.le_refl _) hHeld) (Nat.le_refl _) _ A2 (1 + (L.length - k)) c2 _ (by rfl) HR3.out (one_app (one_sv s) (one_drop (one_svs L) _)) (by unfold maxLen; omega) (by omega) ?_
              intro A3 c3 v3 hc3 hr3 hb
              have HR4 := Lib.hid hr3
              clear hr3
              refine hK.out _ _ ?_ (fun hHeld2 => ?_)
              · (try dsimp only); first | exact Below.trans hHeld (Below.mono hb hHeld.size) | exact hHeld | exact Below.drew hHeld | exact (by repeat (first | exact Below.refl _ _ | assumption | refine Below.alloc ?_ (by first | omega | (simp <;> omega)) _ | refine Below.setCell ?_ (by first | omega | (simp <;> omega)) _ | refine Below.drew ?_))
              clear hK K hHeld; have hHeld := hHeld2; clear hHeld2; (try simp only [Act.put, zn1, zn2, zn3])
              refine tY (i := 11) (v := ?_) rfl ?_ hHeld ?_; rotate_left 1; focus (intro w' hSw; clear hSw; go_simp; try with_reducible rfl)
              (try simp only [Act.put, zn1, zn2, zn3])
              refine wpAnyH_done (by kernel_rfl) ?_ _
              go_wp2_with fail
              go_roundw
              case rel =>
                have hl4 : k + (1 + (L.length - k)) = (insL ltS s L).length := by rw [HI.out, List.length_append, List.length_cons, List.length_take, HLk.out]; omega
                have hx4 : (svs L).take (k * 1) ++ ([sv s] ++ (svs L).drop (k * 1)) = svs (insL ltS s L) := by rw [HI.out]; simp [svs, List.map_take, List.map_drop]
                have hr4 := HR4.out
                rw [hx4] at hr4
                rw [hl4] at hr4 hc3 ⊢
                exact ⟨m + 1, A3, c3, insL ltS s L, by omega, by go_num, rfl, hc3, hr4, HC.out.symm, HBw.out.trans (hHeld.mono HBw.out.size)⟩
              case measure => simp [intOf]; omega
            · have hins : insL ltS s L = L := by rw [insL_cut L k hk2 hall2 hge, if_pos]; rw [List.getElem?_eq_getElem hlt2, Hx.out]; simpa using hxs
              have HI := Lib.hid (hins.symm.trans HC.out.symm)
              clear hge hins
              go_wp2_with fail
              go_roundw
              case rel => exact ⟨m + 1, _, d, L, by omega, by go_num, rfl, hd, HL.out, HI.out, HBw.out⟩
              case measure => simp [intOf]; omega
          · go_wp2_with fail
            go_round
            case rel =>
              refine ⟨k + 1, by omega, by go_num, fun y hy => ?_⟩
              rw [List.take_succ_eq_append_getElem hlt2, List.mem_append, List.mem_singleton] at hy
              rcases hy with h | h
              · exact hall2 y h
              · rw [h, Hx.out]; exact hlx
            case measure => simp [intOf]; omega
        · have hge : ∀ h : k < L.length, ltS L[k] s = false := fun h => absurd h hlt2
          have hne : ¬ L[k]? = some s := by rw [List.getElem?_eq_none (by omega)]; simp
          have k2 : ¬ (k : Int) < (L.length : Int) := by omega
          have k3 : ((k : Int) == (L.length : Int)) = true := by rw [beq_iff_eq]; omega
          have hins : insL ltS s L = L.take k ++ s :: L.drop k := by rw [insL_cut L k hk2 hall2 hge, if_neg hne]
          have HI := Lib.hid hins
          have HR1 := Lib.hid (HL.out.takeA hk2)
          have HR2 := Lib.hid (HL.out.dropA hk2 hd)
          have hs1 := run_slice_full (P := Tryz.prog) Tryz.underlying37 hi B L.length d k (Nat.le_trans hk2 hd)
          have hs2 := run_slice_tail (P := Tryz.prog) Tryz.underlying37 hi B L.length d k hk2
          rw [hz1] at hs1 hs2
          clear hins hne hge
          have hlk : (L.drop k).length = L.length - k := List.length_drop
          have HLk := Lib.hid hlk
          clear hlk
          go_wp2_with fail
          try go_wp2_with fail
          refine wp_region_held_drew (S := fun w' => Below wr.heap.size wr w') (by kernel_rfl) (Below.drew (Below.refl _ _)) (fun hHeld => ?_)
          refine tY (i := 0) (v := ?_) rfl ?_ hHeld ?_; rotate_left 1; focus (intro w' hSw; clear hSw; go_simp; try with_reducible rfl)
          (try simp only [Act.put, zn1, zn2, zn3])
          refine tY (i := 1) (v := ?_) rfl ?_ hHeld ?_; rotate_left 1; focus (intro w' hSw; clear hSw; go_simp; try with_reducible rfl)
          (try simp only [Act.put, zn1, zn2, zn3])
          refine tY (i := 2) (v := ?_) rfl ?_ hHeld ?_; rotate_left 1; focus (intro w' hSw; clear hSw; go_simp; try with_reducible rfl)
          (try simp only [Act.put, zn1, zn2, zn3])
          refine tY (i := 3) (v := ?_) rfl ?_ hHeld ?_; rotate_left 1; focus (intro w' hSw; clear hSw; go_simp; try with_reducible rfl)
          (try simp only [Act.put, zn1, zn2, zn3])
          refine tY (i := 4) (v := ?_) rfl ?_ hHeld ?_; rotate_left 1; focus (intro w' hSw; clear hSw; go_simp; try with_reducible rfl)
          (try simp only [Act.put, zn1, zn2, zn3])
          refine tY (i := 6) (v := ?_) rfl ?_ hHeld ?_; rotate_left 1; focus (intro w' hSw; clear hSw; go_simp; try with_reducible rfl)
          (try simp only [Act.put, zn1, zn2, zn3])
          refine tY (i := 7) (v := ?_) rfl ?_ hHeld ?_; rotate_left 1; focus (intro w' hSw; clear hSw; go_simp; try with_reducible rfl)
          (try simp only [Act.put, zn1, zn2, zn3])
          refine tY (i := 8) (v := ?_) rfl ?_ hHeld ?_; rotate_left 1; focus (intro w' hSw; clear hSw; go_simp; try with_reducible rfl)
          (try simp only [Act.put, zn1, zn2, zn3])
          refine ready_one (i := 5) rfl (by kernel_rfl) (fun K hK => ?_)
          go_simp
          refine hK.out _ _ ?_ (fun hHeld2 => ?_)
          · (try dsimp only); first | exact hHeld | exact (by repeat (first | exact Below.refl _ _ | assumption | refine Below.alloc ?_ (by first | omega | (simp <;> omega)) _ | refine Below.setCell ?_ (by first | omega | (simp <;> omega)) _ | refine Below.drew ?_))
          clear hK K hHeld; have hHeld := hHeld2; clear hHeld2; (try simp only [Act.put, zn1, zn2, zn3])
          refine ready_one (i := 9) rfl (by kernel_rfl) (fun K hK => ?_)
          refine step_append_full (by rfl) (.tmp 44) (.tmp 47) 37 (by rfl) 9 i0 (.string ⟨#[]⟩) 1 16 Tryz.underlying37 hi hz0 hz1 hz2 rfl _ (some ⟨wr.heap.size, 0, none⟩) 1 [sv s] (by rfl) (Rd.lit wr.drew [sv s] 9 1 1 rfl) (Nat.le_refl _) _ _ (L.length - k) (d - k) _ (by rfl) (HR2.out.at' (Nat.le_refl _) hHeld) (one_drop (one_svs L) _) (by unfold maxLen; omega) (by omega) ?_
          intro A2 c2 v2 hc2 hr2 hb
          have HR3 := Lib.hid hr2
          clear hr2
          refine hK.out _ _ ?_ (fun hHeld2 => ?_)
          · (try dsimp only); first | exact Below.trans hHeld (Below.mono hb hHeld.size) | exact hHeld | exact Below.drew hHeld | exact (by repeat (first | exact Below.refl _ _ | assumption | refine Below.alloc ?_ (by first | omega | (simp <;> omega)) _ | refine Below.setCell ?_ (by first | omega | (simp <;> omega)) _ | refine Below.drew ?_))
          clear hK K hHeld; have hHeld := hHeld2; clear hHeld2; (try simp only [Act.put, zn1, zn2, zn3])
          refine ready_one (i := 10) rfl (by kernel_rfl) (fun K hK => ?_)
          refine step_append_full (by rfl) (.tmp 42) (.tmp 48) 37 (by rfl) 9 i0 (.string ⟨#[]⟩) 1 16 Tryz.underlying37 hi hz0 hz1 hz2 rfl _ _ k _ (by rfl) (HR1.out.at' (Nat.le_refl _) hHeld) (Nat.le_refl _) _ A2 (1 + (L.length - k)) c2 _ (by rfl) HR3.out (one_app (one_sv s) (one_drop (one_svs L) _)) (by unfold maxLen; omega) (by omega) ?_
          intro A3 c3 v3 hc3 hr3 hb
          have HR4 := Lib.hid hr3
          clear hr3
          refine hK.out _ _ ?_ (fun hHeld2 => ?_)
          · (try dsimp only); first | exact Below.trans hHeld (Below.mono hb hHeld.size) | exact hHeld | exact Below.drew hHeld | exact (by repeat (first | exact Below.refl _ _ | assumption | refine Below.alloc ?_ (by first | omega | (simp <;> omega)) _ | refine Below.setCell ?_ (by first | omega | (simp <;> omega)) _ | refine Below.drew ?_))
          clear hK K hHeld; have hHeld := hHeld2; clear hHeld2; (try simp only [Act.put, zn1, zn2, zn3])
          refine tY (i := 11) (v := ?_) rfl ?_ hHeld ?_; rotate_left 1; focus (intro w' hSw; clear hSw; go_simp; try with_reducible rfl)
          (try simp only [Act.put, zn1, zn2, zn3])
          refine wpAnyH_done (by kernel_rfl) ?_ _
          go_wp2_with fail
          go_roundw
          case rel =>
            have hl4 : k + (1 + (L.length - k)) = (insL ltS s L).length := by rw [HI.out, List.length_append, List.length_cons, List.length_take, HLk.out]; omega
            have hx4 : (svs L).take (k * 1) ++ ([sv s] ++ (svs L).drop (k * 1)) = svs (insL ltS s L) := by rw [HI.out]; simp [svs, List.map_take, List.map_drop]
            have hr4 := HR4.out
            rw [hx4] at hr4
            rw [hl4] at hr4 hc3 ⊢
            exact ⟨m + 1, A3, c3, insL ltS s L, by omega, by go_num, rfl, hc3, hr4, HC.out.symm, HBw.out.trans (hHeld.mono HBw.out.size)⟩
          case measure => simp [intOf]; omega
    · have hmn : m = ss.length := by omega
      rw [hmn, List.take_length] at hC
      have HC := Lib.hid hC
      clear hC
      go_wp2_with fail
      go_ret
      rw [← HC.out]
      exact ⟨B, d, rfl, hd, HL.out, HBw.out⟩
end Od
end Go.Proofs.YtanfnejbnmenkaaGreat
end

section
/- The walks of matinsref20.Waits and matinsref20.Ready. (bel2) -/
namespace Go.Proofs.YtanfnejbnmenkaaGreat
open Go.RowKit Go.Sort
set_option linter.unusedSimpArgs false

namespace Od
theorem canon_self {l : List Str} (h : SS ltS l) : canon ltS l = l := (SS.eq_canon toS h fun _ => Iff.rfl).symm
theorem waitsJ_canon {es : List Ed} {q : List Jb} {j : Jb} (h : upQ q) : canon ltS (waitsJ es q j) = waitsJ es q j := by
  refine canon_self ?_
  have : upQ (q.filter (fun x => aheadJ es x j)) := List.Pairwise.sublist List.filter_sublist h
  exact upQ_map.1 this
theorem readyQ_canon (es : List Ed) (q : List Jb) : canon ltS (readyQ es q) = readyQ es q := canon_self readyQ_up
theorem RdNil {w w' : World} (hb : Below w.heap.size w w') : RdIs 1 ([] : List Str).length (svs []) w (.returned (.slice none 0 0)) w' := ⟨none, 0, rfl, Nat.le_refl _, Rd.none_, hb⟩
set_option maxRecDepth 100000 in
set_option maxHeartbeats 16000000 in
theorem Waits20_any (An Ae : Option Addr) (nn cn ce : Nat) (es : List Ed) (A : Option Addr) (c : Nat) (q : List Jb) (u : Str) (w : World) (hr : Rd w w.heap.size 3 Ae es.length (edsC es)) (hq : Rd w w.heap.size 4 A q.length (jbsC q)) (hl : es.length ≤ 1000000) (hlq : q.length ≤ 100000) (hok : OkJs q) :
    Calls Tryz.prog 25 #[gV An nn cn Ae es.length ce, .slice A q.length c, sv u] w (RdIs 1 (waitsQ es q u).length (svs (waitsQ es q u)) w) := by
  obtain ⟨i0, hi, hz0, hz1, hz2⟩ := info_parts infoS
  have Hr := Lib.hid hr
  have HQ := Lib.hid hq
  have HOk := Lib.hid hok
  clear hr hq hok
  go_enter Tryz.func25, Tryz.ntmps25
  go_wp2_with fail
  first | (refine wp_named ?_; intro W1 hW) | (refine calls_named ?_; intro W1 hW)
  have B1 : Below w.heap.size w W1 := by rw [hW]; exact (by repeat (first | exact Below.refl _ _ | assumption | refine Below.alloc ?_ (by first | omega | (simp <;> omega)) _ | refine Below.setCell ?_ (by first | omega | (simp <;> omega)) _ | refine Below.drew ?_))
  replace Hr := Lib.hid (Hr.out.at B1)
  replace HQ := Lib.hid (HQ.out.at B1)
  have n1 : w.heap.size < W1.heap.size := by rw [hW]; simp <;> omega
  have g0 : W1.cell? ⟨w.heap.size, 0, none⟩ = some (.slice An nn cn) := by rw [hW]; go_simp
  have g1 : W1.cell? ⟨w.heap.size, 1, none⟩ = some (.slice Ae es.length ce) := by rw [hW]; go_simp
  clear hW
  have HB := Lib.hid B1
  clear B1
  refine (at_any A c q u W1 HQ.out (by omega)).mono ?_
  rintro e w2 ⟨r, rfl, hcase, hb⟩
  have HC := Lib.hid hcase
  replace g0 := cellAt g0 hb (by omega)
  replace g1 := cellAt g1 hb (by omega)
  replace Hr := Lib.hid (Hr.out.at hb)
  replace HQ := Lib.hid (HQ.out.at hb)
  replace n1 : w.heap.size < w2.heap.size := ltAt n1 hb
  replace HB := Lib.hid (lift HB.out hb)
  clear hb hcase
  rcases HC.out with ⟨rfl, hnone⟩ | ⟨k, hk, rfl, hfind, _, _⟩
  · have HW := Lib.hid (waitsQ_none (es := es) hnone)
    clear hnone
    go_wp2_with fail
    go_ret
    rw [HW.out]
    exact RdNil HB.out
  · have hneg : decide ((k : Int) < 0) = false := by simp
    have hj : jobOf q u = some q[k] := hfind
    obtain ⟨b, o, hA, hB, y0, y1, y2, y3⟩ := HQ.out.job hk
    subst hA
    generalize q[k] = x at y0 y1 y2 y3 hj
    clear hfind
    obtain ⟨s', t', r', d'⟩ := x
    simp only at y0 y1 y2 y3
    have k1 : (0 : Int) ≤ (k : Int) := by omega
    have k2 : (k : Int) < (q.length : Int) := by omega
    clear HC
    by_cases r1 : r' = 1
    · subst r1
      have HJ := Lib.hid hj
      clear hj
      go_wp2_with fail
      refine (May20_any _ c q w2 HQ.out HOk.out).mono ?_
      rintro e w3 ⟨rfl, hb⟩
      replace g0 := cellAt g0 hb (by omega)
      replace g1 := cellAt g1 hb (by omega)
      replace y0 := cellAt y0 hb (by omega)
      replace y1 := cellAt y1 hb (by omega)
      replace y2 := cellAt y2 hb (by omega)
      replace y3 := cellAt y3 hb (by omega)
      replace Hr := Lib.hid (Hr.out.at hb)
      replace HQ := Lib.hid (HQ.out.at hb)
      replace n1 : w.heap.size < w3.heap.size := ltAt n1 hb
      replace HB := Lib.hid (lift HB.out hb)
      replace hB : b < w3.heap.size := ltAt hB hb
      clear hb
      cases hm : mayQ q
      · have HW := Lib.hid (waitsQ_notmay (es := es) (u := u) hm)
        go_wp2_with fail
        go_ret
        rw [HW.out]
        exact RdNil HB.out
      · have HW := Lib.hid (waitsQ_at (es := es) HJ.out hm rfl)
        have HUp := Lib.hid (mayQ_iff.1 hm).2.2
        clear hm
        have hzw : w.heap.size ≤ w3.heap.size := HB.out.size
        go_wp2_with fail
        go_loopw [8, 31] (fun v i wr => ∃ m : Nat, m ≤ q.length ∧ i = .int .i64 m ∧ wr.ownsRow w3.heap.size 9 1 v (waitsJ es (q.take m) (s', t', 1, d')).length (svs (waitsJ es (q.take m) (s', t', 1, d'))) ∧ Below w3.heap.size w3 wr) (fun _ i _ => q.length - (intOf i).toNat)
        case atStart => exact ⟨0, Nat.zero_le _, rfl, World.ownsRow_nil _ _ _ _, Below.refl _ _⟩
        case round =>
          obtain ⟨m, hm, rfl, hown, hb⟩ := hrel
          have HOut := Lib.hid hown
          have Hb := Lib.hid hb
          clear hown
          replace g0 := cellAt g0 hb (by omega)
          replace g1 := cellAt g1 hb (by omega)
          replace y0 := cellAt y0 hb (by omega)
          replace y1 := cellAt y1 hb (by omega)
          replace y2 := cellAt y2 hb (by omega)
          replace y3 := cellAt y3 hb (by omega)
          replace Hr := Lib.hid (Hr.out.at hb)
          replace HQ := Lib.hid (HQ.out.at hb)
          replace n1 : w.heap.size < wr.heap.size := ltAt n1 hb
          replace HB := Lib.hid (lift HB.out hb)
          replace hB : b < wr.heap.size := ltAt hB hb
          clear hb
          by_cases hlt : m < q.length
          · obtain ⟨b2, o2, hA, hB2, x0, x1, x2, x3⟩ := HQ.out.job hlt
            injection hA with hA
            injection hA with hA1 hA2
            subst hA1 hA2
            have hsucc := waitsJ_succ (es := es) (j := (s', t', 1, d')) hlt
            have hln := waitsJ_len es q (s', t', 1, d') m
            generalize q[m] = x at x0 x1 x2 x3 hsucc
            obtain ⟨s, t, r, d⟩ := x
            simp only at x0 x1 x2 x3 hsucc
            have HS := Lib.hid hsucc
            clear hsucc
            have m1 : (0 : Int) ≤ (m : Int) := by omega
            have m2 : (m : Int) < (q.length : Int) := by omega
            go_wp2_with fail
            first | (refine wp_named ?_; intro W2 hW) | (refine calls_named ?_; intro W2 hW)
            have B2 : Below wr.heap.size wr W2 := by rw [hW]; exact (by repeat (first | exact Below.refl _ _ | assumption | refine Below.alloc ?_ (by first | omega | (simp <;> omega)) _ | refine Below.setCell ?_ (by first | omega | (simp <;> omega)) _ | refine Below.drew ?_))
            replace g0 := cellAt g0 B2 (by omega)
            replace g1 := cellAt g1 B2 (by omega)
            replace y0 := cellAt y0 B2 (by omega)
            replace y1 := cellAt y1 B2 (by omega)
            replace y2 := cellAt y2 B2 (by omega)
            replace y3 := cellAt y3 B2 (by omega)
            replace Hr := Lib.hid (Hr.out.at B2)
            replace HQ := Lib.hid (HQ.out.at B2)
            replace n1 : w.heap.size < W2.heap.size := ltAt n1 B2
            replace HB := Lib.hid (lift HB.out B2)
            replace hB : b < W2.heap.size := ltAt hB B2
            replace HOut := Lib.hid (own_on HOut.out B2)
            replace Hb := Lib.hid (lift Hb.out B2)
            have p1 : wr.heap.size < W2.heap.size := by rw [hW]; simp <;> omega
            have e0 : W2.cell? ⟨wr.heap.size, 0, none⟩ = some (sv s) := by rw [hW]; go_simp
            have e1 : W2.cell? ⟨wr.heap.size, 1, none⟩ = some (.int .i64 t) := by rw [hW]; go_simp
            have e2 : W2.cell? ⟨wr.heap.size, 2, none⟩ = some (.int .i64 r) := by rw [hW]; go_simp
            have e3 : W2.cell? ⟨wr.heap.size, 3, none⟩ = some (.int .i64 d) := by rw [hW]; go_simp
            clear hW
            clear B2
            try go_wp2_with fail
            refine wp_region_held_drew (S := fun w' => Below W2.heap.size W2 w') (by kernel_rfl) (Below.drew (Below.refl _ _)) (fun hHeld => ?_)
            refine tY (i := 0) (v := ?_) rfl ?_ hHeld ?_; rotate_left 1; focus (intro w' hSw; have hCell := fun (b o : Nat) (h : b < W2.heap.size) => hSw.cell (p := ⟨b, o, none⟩) h; clear hSw; go_simp; try with_reducible rfl)
            (try simp only [Act.put, zn1, zn2, zn3])
            refine tY (i := 1) (v := ?_) rfl ?_ hHeld ?_; rotate_left 1; focus (intro w' hSw; have hCell := fun (b o : Nat) (h : b < W2.heap.size) => hSw.cell (p := ⟨b, o, none⟩) h; clear hSw; go_simp; try with_reducible rfl)
            (try simp only [Act.put, zn1, zn2, zn3])
            refine tY (i := 2) (v := ?_) rfl ?_ hHeld ?_; rotate_left 1; focus (intro w' hSw; clear hSw; go_simp; try with_reducible rfl)
            (try simp only [Act.put, zn1, zn2, zn3])
            refine tY (i := 3) (v := ?_) rfl ?_ hHeld ?_; rotate_left 1; focus (intro w' hSw; clear hSw; go_simp; try with_reducible rfl)
            (try simp only [Act.put, zn1, zn2, zn3])
            refine tY (i := 4) (v := ?_) rfl ?_ hHeld ?_; rotate_left 1; focus (intro w' hSw; clear hSw; go_simp; try with_reducible rfl)
            (try simp only [Act.put, zn1, zn2, zn3])
            refine tY (i := 5) (v := ?_) rfl ?_ hHeld ?_; rotate_left 1; focus (intro w' hSw; have hCell := fun (b o : Nat) (h : b < W2.heap.size) => hSw.cell (p := ⟨b, o, none⟩) h; clear hSw; go_simp; try with_reducible rfl)
            (try simp only [Act.put, zn1, zn2, zn3])
            refine ready_one (i := 6) rfl (by kernel_rfl) (fun K hK => ?_)
            go_simp
            refine (ahead20_any An Ae nn cn ce es s s' t r d t' 1 d' _ (Hr.out.at hHeld) hl rfl).mono ?_
            rintro e v3 ⟨rfl, hb⟩
            refine hK.out _ _ ?_ (fun hHeld2 => ?_)
            · (try dsimp only); first | exact Below.trans hHeld (Below.mono hb hHeld.size) | exact hHeld | exact Below.drew hHeld | exact (by repeat (first | exact Below.refl _ _ | assumption | refine Below.alloc ?_ (by first | omega | (simp <;> omega)) _ | refine Below.setCell ?_ (by first | omega | (simp <;> omega)) _ | refine Below.drew ?_))
            clear hK K hHeld; have hHeld := hHeld2; clear hHeld2; (try simp only [Act.put, zn1, zn2, zn3])
            refine wpAnyH_done (by kernel_rfl) ?_ _
            replace g0 := cellAt g0 hHeld (by omega)
            replace g1 := cellAt g1 hHeld (by omega)
            replace y0 := cellAt y0 hHeld (by omega)
            replace y1 := cellAt y1 hHeld (by omega)
            replace y2 := cellAt y2 hHeld (by omega)
            replace y3 := cellAt y3 hHeld (by omega)
            replace e0 := cellAt e0 hHeld (by omega)
            replace e1 := cellAt e1 hHeld (by omega)
            replace e2 := cellAt e2 hHeld (by omega)
            replace e3 := cellAt e3 hHeld (by omega)
            replace Hr := Lib.hid (Hr.out.at hHeld)
            replace HQ := Lib.hid (HQ.out.at hHeld)
            replace n1 : w.heap.size < v3.heap.size := ltAt n1 hHeld
            replace HB := Lib.hid (lift HB.out hHeld)
            replace hB : b < v3.heap.size := ltAt hB hHeld
            replace HOut := Lib.hid (own_on HOut.out hHeld)
            replace Hb := Lib.hid (lift Hb.out hHeld)
            replace p1 : wr.heap.size < v3.heap.size := ltAt p1 hHeld
            clear hHeld
            have hzb : w3.heap.size ≤ v3.heap.size := Hb.out.size
            cases hah : aheadJ es (s, t, r, d) (s', t', 1, d')
            · have HS2 := Lib.hid (show waitsJ es (q.take (m + 1)) (s', t', 1, d') = waitsJ es (q.take m) (s', t', 1, d') by rw [HS.out, hah]; simp)
              go_wp2_with fail
              go_roundw
              case rel => exact ⟨m + 1, by omega, by go_num, by rw [HS2.out]; exact HOut.out, Hb.out⟩
              case measure => simp [intOf]; omega
            · have HS2 := Lib.hid (show waitsJ es (q.take (m + 1)) (s', t', 1, d') = waitsJ es (q.take m) (s', t', 1, d') ++ [s] by rw [HS.out, hah]; simp)
              have h63 : (waitsJ es (q.take m) (s', t', 1, d')).length + 1 ≤ maxLen := by unfold maxLen; omega
              have hby : ((waitsJ es (q.take m) (s', t', 1, d')).length + 1) * 16 ≤ 140737488355328 := by omega
              go_wp2_with (first | (at_builtin; refine wpList_pushm w3 v3 (by rfl) (.tmp 42) (.tmp 45) 37 (by rfl) w3.heap.size 9 i0 _ 1 16 Tryz.underlying37 hi hz0 hz1 hz2 rfl (by decide) _ _ _ (by rfl) HOut.out [sv s] v3.heap.size rfl (by rfl) rfl (one_sv s) h63 hby hzb Hb.out ?_; intro A8 c8 w4 hown4 hbel4 hg4 hat4) | fail)
              go_roundw
              case rel => exact ⟨m + 1, by omega, by go_num, by rw [HS2.out]; simpa [svs] using hown4, hbel4⟩
              case measure => simp [intOf]; omega
          · have hmq : m = q.length := by omega
            have ho := HOut.out
            rw [hmq, List.take_length] at ho
            obtain ⟨A9, c9, rfl, _⟩ := own_rd ho
            have HO2 := Lib.hid (own_rd' (show wr.ownsRow w3.heap.size 9 1 (.slice A9 (waitsJ es q (s', t', 1, d')).length c9) _ _ from ho))
            have hcan := waitsJ_canon HUp.out (es := es) (j := (s', t', 1, d'))
            have hln := waitsJ_len' es q (s', t', 1, d')
            have HCn := Lib.hid hcan
            clear ho hcan
            go_wp2_with fail
            refine (rising_any A9 c9 (waitsJ es q (s', t', 1, d')) wr HO2.out (by omega)).mono ?_
            rw [HCn.out]
            rintro e v9 ⟨A7, c7, rfl, hc7, hr7, hb⟩
            have HR7 := Lib.hid hr7
            replace g0 := cellAt g0 hb (by omega)
            replace g1 := cellAt g1 hb (by omega)
            replace y0 := cellAt y0 hb (by omega)
            replace y1 := cellAt y1 hb (by omega)
            replace y2 := cellAt y2 hb (by omega)
            replace y3 := cellAt y3 hb (by omega)
            replace Hr := Lib.hid (Hr.out.at hb)
            replace HQ := Lib.hid (HQ.out.at hb)
            replace n1 : w.heap.size < v9.heap.size := ltAt n1 hb
            replace HB := Lib.hid (lift HB.out hb)
            replace hB : b < v9.heap.size := ltAt hB hb
            replace HOut := Lib.hid (own_on HOut.out hb)
            replace Hb := Lib.hid (lift Hb.out hb)
            clear hb
            go_wp2_with fail
            go_ret
            rw [HW.out]
            exact ⟨A7, c7, rfl, hc7, HR7.out, HB.out⟩
    · have HW := Lib.hid (waitsQ_other (es := es) hj r1)
      have rb : (r' == 1) = false := by simpa using r1
      clear hj
      go_wp2_with fail
      go_ret
      rw [HW.out]
      exact RdNil HB.out
set_option maxRecDepth 100000 in
set_option maxHeartbeats 16000000 in
theorem Ready20_any (An Ae : Option Addr) (nn cn ce : Nat) (es : List Ed) (A : Option Addr) (c : Nat) (q : List Jb) (w : World) (hr : Rd w w.heap.size 3 Ae es.length (edsC es)) (hq : Rd w w.heap.size 4 A q.length (jbsC q)) (hl : es.length ≤ 1000000) (hlq : q.length ≤ 100000) (hok : OkJs q) :
    Calls Tryz.prog 27 #[gV An nn cn Ae es.length ce, .slice A q.length c] w (RdIs 1 (readyQ es q).length (svs (readyQ es q)) w) := by
  obtain ⟨i0, hi, hz0, hz1, hz2⟩ := info_parts infoS
  have Hr := Lib.hid hr
  have HQ := Lib.hid hq
  have HOk := Lib.hid hok
  clear hr hq hok
  go_enter Tryz.func27, Tryz.ntmps27
  go_wp2_with fail
  first | (refine wp_named ?_; intro W1 hW) | (refine calls_named ?_; intro W1 hW)
  have B1 : Below w.heap.size w W1 := by rw [hW]; exact (by repeat (first | exact Below.refl _ _ | assumption | refine Below.alloc ?_ (by first | omega | (simp <;> omega)) _ | refine Below.setCell ?_ (by first | omega | (simp <;> omega)) _ | refine Below.drew ?_))
  replace Hr := Lib.hid (Hr.out.at B1)
  replace HQ := Lib.hid (HQ.out.at B1)
  have n1 : w.heap.size < W1.heap.size := by rw [hW]; simp <;> omega
  have g0 : W1.cell? ⟨w.heap.size, 0, none⟩ = some (.slice An nn cn) := by rw [hW]; go_simp
  have g1 : W1.cell? ⟨w.heap.size, 1, none⟩ = some (.slice Ae es.length ce) := by rw [hW]; go_simp
  clear hW
  have HB := Lib.hid B1
  clear B1
  refine (May20_any A c q W1 HQ.out HOk.out).mono ?_
  rintro e w3 ⟨rfl, hb⟩
  replace g0 := cellAt g0 hb (by omega)
  replace g1 := cellAt g1 hb (by omega)
  replace Hr := Lib.hid (Hr.out.at hb)
  replace HQ := Lib.hid (HQ.out.at hb)
  replace n1 : w.heap.size < w3.heap.size := ltAt n1 hb
  replace HB := Lib.hid (lift HB.out hb)
  clear hb
  cases hm : mayQ q
  · have HW := Lib.hid (show readyQ es q = [] by unfold readyQ; rw [hm]; simp)
    go_wp2_with fail
    go_ret
    rw [HW.out]
    exact RdNil HB.out
  · have HM := Lib.hid hm
    clear hm
    have hzw : w.heap.size ≤ w3.heap.size := HB.out.size
    go_wp2_with fail
    go_loopw [5, 13] (fun v i wr => ∃ m : Nat, m ≤ q.length ∧ i = .int .i64 m ∧ wr.ownsRow w3.heap.size 9 1 v (readyL es q m).length (svs (readyL es q m)) ∧ Below w3.heap.size w3 wr) (fun _ i _ => q.length - (intOf i).toNat)
    case atStart => exact ⟨0, Nat.zero_le _, rfl, World.ownsRow_nil _ _ _ _, Below.refl _ _⟩
    case round =>
      obtain ⟨m, hm, rfl, hown, hb⟩ := hrel
      have HOut := Lib.hid hown
      have Hb := Lib.hid hb
      clear hown
      replace g0 := cellAt g0 hb (by omega)
      replace g1 := cellAt g1 hb (by omega)
      replace Hr := Lib.hid (Hr.out.at hb)
      replace HQ := Lib.hid (HQ.out.at hb)
      replace n1 : w.heap.size < wr.heap.size := ltAt n1 hb
      replace HB := Lib.hid (lift HB.out hb)
      clear hb
      by_cases hlt : m < q.length
      · obtain ⟨b2, o2, hA, hB2, x0, x1, x2, x3⟩ := HQ.out.job hlt
        subst hA
        have hsucc := readyL_succ (es := es) hlt
        have hln := readyL_len es q m
        generalize q[m] = x at x0 x1 x2 x3 hsucc
        obtain ⟨s, t, r, d⟩ := x
        simp only at x0 x1 x2 x3 hsucc
        have hrb : readyB es q (s, t, r, d) = (r == 1 && (waitsQ es q s).isEmpty) := rfl
        rw [hrb] at hsucc
        have m1 : (0 : Int) ≤ (m : Int) := by omega
        have m2 : (m : Int) < (q.length : Int) := by omega
        by_cases r1 : r = 1
        · subst r1
          have HS := Lib.hid hsucc
          clear hsucc hrb
          go_wp2_with fail
          first | (refine wp_named ?_; intro W2 hW) | (refine calls_named ?_; intro W2 hW)
          have B2 : Below wr.heap.size wr W2 := by rw [hW]; exact (by repeat (first | exact Below.refl _ _ | assumption | refine Below.alloc ?_ (by first | omega | (simp <;> omega)) _ | refine Below.setCell ?_ (by first | omega | (simp <;> omega)) _ | refine Below.drew ?_))
          replace g0 := cellAt g0 B2 (by omega)
          replace g1 := cellAt g1 B2 (by omega)
          replace Hr := Lib.hid (Hr.out.at B2)
          replace HQ := Lib.hid (HQ.out.at B2)
          replace n1 : w.heap.size < W2.heap.size := ltAt n1 B2
          replace HB := Lib.hid (lift HB.out B2)
          replace HOut := Lib.hid (own_on HOut.out B2)
          replace Hb := Lib.hid (lift Hb.out B2)
          have p1 : wr.heap.size < W2.heap.size := by rw [hW]; simp <;> omega
          have e0 : W2.cell? ⟨wr.heap.size, 0, none⟩ = some (sv s) := by rw [hW]; go_simp
          have e1 : W2.cell? ⟨wr.heap.size, 1, none⟩ = some (.int .i64 t) := by rw [hW]; go_simp
          have e2 : W2.cell? ⟨wr.heap.size, 2, none⟩ = some (.int .i64 1) := by rw [hW]; go_simp
          have e3 : W2.cell? ⟨wr.heap.size, 3, none⟩ = some (.int .i64 d) := by rw [hW]; go_simp
          clear hW
          clear B2
          go_wp2_with fail
          refine (Waits20_any An Ae nn cn ce es _ c q s W2 Hr.out HQ.out hl hlq HOk.out).mono ?_
          rintro e v3 ⟨A5, c5, rfl, _, _, hb⟩
          replace g0 := cellAt g0 hb (by omega)
          replace g1 := cellAt g1 hb (by omega)
          replace e0 := cellAt e0 hb (by omega)
          replace e1 := cellAt e1 hb (by omega)
          replace e2 := cellAt e2 hb (by omega)
          replace e3 := cellAt e3 hb (by omega)
          replace Hr := Lib.hid (Hr.out.at hb)
          replace HQ := Lib.hid (HQ.out.at hb)
          replace n1 : w.heap.size < v3.heap.size := ltAt n1 hb
          replace HB := Lib.hid (lift HB.out hb)
          replace HOut := Lib.hid (own_on HOut.out hb)
          replace Hb := Lib.hid (lift Hb.out hb)
          replace p1 : wr.heap.size < v3.heap.size := ltAt p1 hb
          clear hb
          have hzb : w3.heap.size ≤ v3.heap.size := Hb.out.size
          cases hW : waitsQ es q s with
          | nil =>
            have HS2 := Lib.hid (show readyL es q (m + 1) = readyL es q m ++ [s] by rw [HS.out, hW]; simp)
            have h63 : (readyL es q m).length + 1 ≤ maxLen := by unfold maxLen; omega
            have hby : ((readyL es q m).length + 1) * 16 ≤ 140737488355328 := by omega
            go_wp2_with (first | (at_builtin; refine wpList_pushm w3 v3 (by rfl) (.tmp 29) (.tmp 32) 37 (by rfl) w3.heap.size 9 i0 _ 1 16 Tryz.underlying37 hi hz0 hz1 hz2 rfl (by decide) _ _ _ (by rfl) HOut.out [sv s] v3.heap.size rfl (by rfl) rfl (one_sv s) h63 hby hzb Hb.out ?_; intro A8 c8 w4 hown4 hbel4 hg4 hat4) | fail)
            go_roundw
            case rel => exact ⟨m + 1, by omega, by go_num, by rw [HS2.out]; simpa [svs] using hown4, hbel4⟩
            case measure => simp [intOf]; omega
          | cons z zs =>
            have HS2 := Lib.hid (show readyL es q (m + 1) = readyL es q m by rw [HS.out, hW]; simp)
            have hne : ((((z :: zs).length : Nat) : Int) == 0) = false := by simp; omega
            go_wp2_with fail
            go_roundw
            case rel => exact ⟨m + 1, by omega, by go_num, by rw [HS2.out]; exact HOut.out, Hb.out⟩
            case measure => simp [intOf]; omega
        · have rb : (r == 1) = false := by simpa using r1
          rw [rb] at hsucc
          have HS2 := Lib.hid (show readyL es q (m + 1) = readyL es q m by rw [hsucc]; simp)
          clear hsucc hrb r1
          go_wp2_with fail
          go_roundw
          case rel => exact ⟨m + 1, by omega, by go_num, by rw [HS2.out]; exact HOut.out.alloc _, Hb.out.alloc Hb.out.size _⟩
          case measure => simp [intOf]; omega
      · have hmq : m = q.length := by omega
        have ho := HOut.out
        rw [hmq, readyL_all HM.out] at ho
        obtain ⟨A9, c9, rfl, _⟩ := own_rd ho
        have HO2 := Lib.hid (own_rd' ho)
        have HCn := Lib.hid (readyQ_canon es q)
        have hln := readyQ_len es q
        clear ho
        go_wp2_with fail
        refine (rising_any A9 c9 (readyQ es q) wr HO2.out (by omega)).mono ?_
        rw [HCn.out]
        rintro e v9 ⟨A7, c7, rfl, hc7, hr7, hb⟩
        have HR7 := Lib.hid hr7
        replace g0 := cellAt g0 hb (by omega)
        replace g1 := cellAt g1 hb (by omega)
        replace Hr := Lib.hid (Hr.out.at hb)
        replace HQ := Lib.hid (HQ.out.at hb)
        replace n1 : w.heap.size < v9.heap.size := ltAt n1 hb
        replace HB := Lib.hid (lift HB.out hb)
        replace HOut := Lib.hid (own_on HOut.out hb)
        replace Hb := Lib.hid (lift Hb.out hb)
        clear hb
        go_wp2_with fail
        go_ret
        exact ⟨A7, c7, rfl, hc7, HR7.out, HB.out⟩
end Od
end Go.Proofs.YtanfnejbnmenkaaGreat
end
