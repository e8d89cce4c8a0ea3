/- My texts, joined for the claim: RPairs. -/
import Derived.Test.YtclaoffnfopekaaGreatZB7
import Derived.Test.YtclaoffnfopekaaGreatZB2

section
/- The walk of matinsref15.pairs: all pairs that edges say, rising, each once. -/
namespace Go.Proofs.YtclaoffnfopekaaGreat
open Go.RowKit Go.Sort

namespace Od
/-- The pairs of the first j edges. -/
def accP (es : List Ed) (j : Nat) : List Pr := canon ltP ((es.take j).filterMap pairE)
theorem accP_zero (es : List Ed) : accP es 0 = [] := by simp [accP, canon]
theorem accP_all (es : List Ed) : accP es es.length = prsL es := by simp [accP, prsL]
theorem accP_none {es : List Ed} {j : Nat} (hj : j < es.length) (h : pairE es[j] = none) : accP es (j + 1) = accP es j := by
  unfold accP; rw [List.take_succ_eq_append_getElem hj, List.filterMap_append]; simp only [List.filterMap_cons, List.filterMap_nil, h, List.append_nil]
theorem accP_some {es : List Ed} {j : Nat} (hj : j < es.length) {p : Pr} (h : pairE es[j] = some p) : accP es (j + 1) = insL ltP p (accP es j) := by
  unfold accP; rw [List.take_succ_eq_append_getElem hj, List.filterMap_append]; simp only [List.filterMap_cons, List.filterMap_nil, h, canon, List.foldl_append, List.foldl_cons, List.foldl_nil]
theorem accP_len (es : List Ed) (j : Nat) : (accP es j).length ≤ es.length := by
  have h1 := canon_len (lt := ltP) ((es.take j).filterMap pairE)
  have h2 := List.length_filterMap_le pairE (es.take j)
  have h3 := List.length_take_le j es
  have h4 : (es.take j).length ≤ es.length := by rw [List.length_take]; omega
  unfold accP; omega
theorem prsC_take (l : List Pr) (k : Nat) : (prsC l).take (k * 2) = prsC (l.take k) := by
  induction l generalizing k with
  | nil => simp [prsC]
  | cons p l ih =>
    cases k with
    | zero => simp [prsC]
    | succ k => simp only [prsC, List.flatMap_cons, List.take_succ_cons, Nat.succ_mul]; rw [List.take_append, List.take_of_length_le (by rw [prC_len]; omega), prC_len, show k * 2 + 2 - 2 = k * 2 by omega]; have := ih k; simp only [prsC] at this; rw [this]
theorem prsC_drop (l : List Pr) (k : Nat) : (prsC l).drop (k * 2) = prsC (l.drop k) := by
  induction l generalizing k with
  | nil => simp [prsC]
  | cons p l ih =>
    cases k with
    | zero => simp [prsC]
    | succ k => simp only [prsC, List.flatMap_cons, List.drop_succ_cons, Nat.succ_mul]; rw [List.drop_append, List.drop_of_length_le (by rw [prC_len]; omega), prC_len, show k * 2 + 2 - 2 = k * 2 by omega]; have := ih k; simp only [prsC] at this; rw [this]; rfl
theorem one_prsC (l : List Pr) : ∀ u ∈ prsC l, u.oneCell' = true := fun u hu => by
  obtain ⟨p, _, h⟩ := List.mem_flatMap.1 hu
  simp [prC] at h; rcases h with rfl | rfl <;> rfl
theorem one_prC (p : Pr) : ∀ u ∈ prC p, u.oneCell' = true := fun u h => by
  simp [prC] at h; rcases h with rfl | rfl <;> rfl
theorem ltP_mk (a b x y : Str) : ltP (a, b) (x, y) = (Op.bytesLess a x || (a == x && Op.bytesLess b y)) := rfl

set_option maxRecDepth 100000 in
set_option maxHeartbeats 8000000 in
theorem pairs15_any (An Ae : Option Addr) (nn cn ce : Nat) (es : List Ed) (w : World) (hr : Rd w w.heap.size 3 Ae es.length (edsC es)) (hl : es.length ≤ 100000) :
    Calls Tryz.prog 36 #[gV An nn cn Ae es.length ce] w (RdNew 2 (prsL es).length (prsC (prsL es)) w) := by
  obtain ⟨i0, hi, hz0, hz1, hz2⟩ := info_parts inP2
  have Hr := Lib.hid hr
  have heq := p2_eq
  clear hr
  go_enter Tryz.func36, Tryz.ntmps36
  go_wp2_with fail
  first | (refine wp_named ?_; intro W1 hW) | (refine calls_named ?_; intro W1 hW)
  have B1 : Below w.heap.size w W1 := by rw [hW]; exact (by repeat (first | exact Below.refl _ _ | assumption | refine Below.alloc ?_ (by simp <;> omega) _ | refine Below.setCell ?_ (by simp <;> omega) _ | refine Below.drew ?_))
  replace Hr := Lib.hid (Hr.out.at B1)
  clear hW
  have HB1 := Lib.hid B1
  clear B1
  go_loopw [3, 11] (fun v i wr => ∃ (j : Nat) (A : Option Addr) (c : Nat), j ≤ es.length ∧ i = .int .i64 j ∧ v = .slice A (accP es j).length c ∧ (accP es j).length ≤ c ∧ Rd wr wr.heap.size 2 A (accP es j).length (prsC (accP es j)) ∧ FreshA w.heap.size A (accP es j).length ∧ Below W1.heap.size W1 wr) (fun _ i _ => es.length - (intOf i).toNat)
  case atStart => exact ⟨0, none, 0, Nat.zero_le _, rfl, by simp [accP_zero], by simp [accP_zero], by rw [accP_zero]; exact Rd.none_, fun h => absurd h (by simp [accP_zero]), Below.refl _ _⟩
  case round =>
    obtain ⟨j, A, c, hj, rfl, rfl, hc, hra, hfr, hb⟩ := hrel
    have HFr := Lib.hid hfr
    clear hfr
    obtain ⟨wo, rfl⟩ : ∃ wo : World, wo = wr := ⟨_, rfl⟩
    by_cases hlt : j < es.length
    · obtain ⟨b, o, rfl, hB, hc0, hc1, hc2⟩ := (Hr.out.at hb).edge hlt
      have HRa := Lib.hid hra
      have HB := Lib.hid hb
      have hal := accP_len es j
      generalize hx : es[j] = e at hc0 hc1 hc2
      obtain ⟨s, d, r⟩ := e
      have Hx := Lib.hid hx
      clear hx hra hb
      simp only at hc0 hc1 hc2
      by_cases h8 : r = 8
      · subst h8
        have hp : pairE es[j] = some (d, s) := by rw [Hx.out]; simp [pairE]
        have HN := Lib.hid (accP_some hlt hp)
        clear hp
        go_wp2_with fail
        first | (refine wp_named ?_; intro W2 hW) | (refine calls_named ?_; intro W2 hW)
        have B2 : Below wo.heap.size wo W2 := by rw [hW]; exact (by repeat (first | exact Below.refl _ _ | assumption | refine Below.alloc ?_ (by simp <;> omega) _ | refine Below.setCell ?_ (by simp <;> omega) _ | refine Below.drew ?_))
        replace HRa := Lib.hid (HRa.out.at B2)
        replace HB := Lib.hid (HB.out.trans (B2.mono HB.out.size))
        have n2 : (wo.heap.size + 1) < W2.heap.size := by rw [hW]; simp <;> omega
        have cp0 : W2.cell? ⟨wo.heap.size + 1, 0, none⟩ = some (sv d) := by rw [hW]; go_simp
        have cp1 : W2.cell? ⟨wo.heap.size + 1, 1, none⟩ = some (sv s) := by rw [hW]; go_simp
        clear hW
        clear B2
        generalize hacc : accP es j = acc at *
        have HAcc := Lib.hid hacc
        clear hacc
        have HSs := Lib.hid (show SS ltP acc by rw [← HAcc.out]; exact canon_ss toP _)
        go_loopw [7] (fun i wr => ∃ k : Nat, k ≤ acc.length ∧ i = .int .i64 k ∧ Hid (∀ q ∈ acc.take k, ltP q (d, s) = true) ∧ Below W2.heap.size W2 wr) (fun i _ => acc.length - (intOf i).toNat)
        case atStart => exact ⟨0, Nat.zero_le _, rfl, by simp [Hid], Below.refl _ _⟩
        case round =>
          obtain ⟨k, hk, rfl, hall, hbq⟩ := hrel
          replace cp0 : wr.cell? ⟨wo.heap.size + 1, 0, none⟩ = some (sv d) := cellAt cp0 hbq (by omega)
          replace cp1 : wr.cell? ⟨wo.heap.size + 1, 1, none⟩ = some (sv s) := cellAt cp1 hbq (by omega)
          replace HRa := Lib.hid (HRa.out.at hbq)
          replace HB := Lib.hid (HB.out.trans (hbq.mono HB.out.size))
          replace n2 : (wo.heap.size + 1) < wr.heap.size := ltAt n2 hbq
          by_cases hlt2 : k < acc.length
          · obtain ⟨b2, o2, hA, hB2, hq0, hq1⟩ := HRa.out.pair hlt2
            subst hA
            generalize hq : acc[k] = q at hq0 hq1
            obtain ⟨a1, a2⟩ := q
            have Hq := Lib.hid hq
            clear hq
            simp only at hq0 hq1
            cases l1 : Op.bytesLess a1 d
            · cases l2 : (a1 == d)
              · have hge : ∀ h : k < acc.length, ltP acc[k] (d, s) = false := fun _ => by rw [Hq.out, ltP_mk]; simp [l1, l2]
                have hne : ¬ acc[k]? = some (d, s) := by rw [List.getElem?_eq_getElem hlt2, Hq.out]; intro e; injection e with e; injection e with e1 e2; rw [e1] at l2; simp at l2
                have Hge := Lib.hid (And.intro hge hne)
                clear hge hne
                try go_wp2_with fail
                refine wp_region_held_drew (S := fun w' => Below wr.heap.size wr w') (by kernel_rfl) (Below.drew (Below.refl _ _)) (fun hHeld => ?_)
                refine take_yield (i := 0) (v := ?_) rfl (by kernel_rfl) (by kernel_rfl) (by kernel_rfl) (fun _ _ _ h => h) (by rfl) ?_ hHeld ?_
                rotate_left 1
                · (intro w' hSw; clear hSw; go_simp; try with_reducible rfl)
                (try simp only [Act.put, List.setIfInBounds_toArray, List.set_cons_zero, List.set_cons_succ])
                refine take_yield (i := 1) (v := ?_) rfl (by kernel_rfl) (by kernel_rfl) (by kernel_rfl) (fun _ _ _ h => h) (by rfl) ?_ hHeld ?_
                rotate_left 1
                · (intro w' hSw; clear hSw; go_simp; try with_reducible rfl)
                (try simp only [Act.put, List.setIfInBounds_toArray, List.set_cons_zero, List.set_cons_succ])
                refine take_yield (i := 2) (v := ?_) rfl (by kernel_rfl) (by kernel_rfl) (by kernel_rfl) (fun _ _ _ h => h) (by rfl) ?_ hHeld ?_
                rotate_left 1
                · (intro w' hSw; clear hSw; go_simp; try with_reducible rfl)
                (try simp only [Act.put, List.setIfInBounds_toArray, List.set_cons_zero, List.set_cons_succ])
                refine take_yield (i := 3) (v := ?_) rfl (by kernel_rfl) (by kernel_rfl) (by kernel_rfl) (fun _ _ _ h => h) (by rfl) ?_ hHeld ?_
                rotate_left 1
                · (intro w' hSw; clear hSw; go_simp; try with_reducible rfl)
                (try simp only [Act.put, List.setIfInBounds_toArray, List.set_cons_zero, List.set_cons_succ])
                refine take_yield (i := 4) (v := ?_) rfl (by kernel_rfl) (by kernel_rfl) (by kernel_rfl) (fun _ _ _ h => h) (by rfl) ?_ hHeld ?_
                rotate_left 1
                · (intro w' hSw; clear hSw; go_simp; try with_reducible rfl)
                (try simp only [Act.put, List.setIfInBounds_toArray, List.set_cons_zero, List.set_cons_succ])
                refine take_yield (i := 5) (v := ?_) rfl (by kernel_rfl) (by kernel_rfl) (by kernel_rfl) (fun _ _ _ h => h) (by rfl) ?_ hHeld ?_
                rotate_left 1
                · (intro w' hSw; clear hSw; go_simp; try with_reducible rfl)
                (try simp only [Act.put, List.setIfInBounds_toArray, List.set_cons_zero, List.set_cons_succ])
                refine take_yield (i := 6) (v := ?_) rfl (by kernel_rfl) (by kernel_rfl) (by kernel_rfl) (fun _ _ _ h => h) (by rfl) ?_ hHeld ?_
                rotate_left 1
                · (intro w' hSw; clear hSw; go_simp; try with_reducible rfl)
                (try simp only [Act.put, List.setIfInBounds_toArray, List.set_cons_zero, List.set_cons_succ])
                refine take_yield (i := 7) (v := ?_) rfl (by kernel_rfl) (by kernel_rfl) (by kernel_rfl) (fun _ _ _ h => h) (by rfl) ?_ hHeld ?_
                rotate_left 1
                · (intro w' hSw; clear hSw; go_simp; try with_reducible rfl)
                (try simp only [Act.put, List.setIfInBounds_toArray, List.set_cons_zero, List.set_cons_succ])
                refine take_yield (i := 8) (v := ?_) rfl (by kernel_rfl) (by kernel_rfl) (by kernel_rfl) (fun _ _ _ h => h) (by rfl) ?_ hHeld ?_
                rotate_left 1
                · (intro w' hSw; clear hSw; go_simp; try with_reducible rfl)
                (try simp only [Act.put, List.setIfInBounds_toArray, List.set_cons_zero, List.set_cons_succ])
                refine take_yield (i := 9) (v := ?_) rfl (by kernel_rfl) (by kernel_rfl) (by kernel_rfl) (fun _ _ _ h => h) (by rfl) ?_ hHeld ?_
                rotate_left 1
                · (intro w' hSw; have hCell := fun (b o : Nat) (h : b < wr.heap.size) => hSw.cell (p := ⟨b, o, none⟩) h; clear hSw; go_simp; try with_reducible rfl)
                (try simp only [Act.put, List.setIfInBounds_toArray, List.set_cons_zero, List.set_cons_succ])
                refine take_yield (i := 10) (v := ?_) rfl (by kernel_rfl) (by kernel_rfl) (by kernel_rfl) (fun _ _ _ h => h) (by rfl) ?_ hHeld ?_
                rotate_left 1
                · (intro w' hSw; clear hSw; go_simp; try with_reducible rfl)
                (try simp only [Act.put, List.setIfInBounds_toArray, List.set_cons_zero, List.set_cons_succ])
                refine take_yield (i := 11) (v := ?_) rfl (by kernel_rfl) (by kernel_rfl) (by kernel_rfl) (fun _ _ _ h => h) (by rfl) ?_ hHeld ?_
                rotate_left 1
                · (intro w' hSw; have hCell := fun (b o : Nat) (h : b < wr.heap.size) => hSw.cell (p := ⟨b, o, none⟩) h; clear hSw; go_simp; try with_reducible rfl)
                (try simp only [Act.put, List.setIfInBounds_toArray, List.set_cons_zero, List.set_cons_succ])
                refine take_yield (i := 12) (v := ?_) rfl (by kernel_rfl) (by kernel_rfl) (by kernel_rfl) (fun _ _ _ h => h) (by rfl) ?_ hHeld ?_
                rotate_left 1
                · (intro w' hSw; clear hSw; go_simp; try with_reducible rfl)
                (try simp only [Act.put, List.setIfInBounds_toArray, List.set_cons_zero, List.set_cons_succ])
                refine take_yield (i := 13) (v := ?_) rfl (by kernel_rfl) (by kernel_rfl) (by kernel_rfl) (fun _ _ _ h => h) (by rfl) ?_ hHeld ?_
                rotate_left 1
                · (intro w' hSw; clear hSw; go_simp; try with_reducible rfl)
                (try simp only [Act.put, List.setIfInBounds_toArray, List.set_cons_zero, List.set_cons_succ])
                refine take_yield (i := 14) (v := ?_) rfl (by kernel_rfl) (by kernel_rfl) (by kernel_rfl) (fun _ _ _ h => h) (by rfl) ?_ hHeld ?_
                rotate_left 1
                · (intro w' hSw; clear hSw; go_simp; try with_reducible rfl)
                (try simp only [Act.put, List.setIfInBounds_toArray, List.set_cons_zero, List.set_cons_succ])
                refine take_yield (i := 15) (v := ?_) rfl (by kernel_rfl) (by kernel_rfl) (by kernel_rfl) (fun _ _ _ h => h) (by rfl) ?_ hHeld ?_
                rotate_left 1
                · (intro w' hSw; clear hSw; go_simp; try with_reducible rfl)
                (try simp only [Act.put, List.setIfInBounds_toArray, List.set_cons_zero, List.set_cons_succ])
                refine take_yield (i := 16) (v := ?_) rfl (by kernel_rfl) (by kernel_rfl) (by kernel_rfl) (fun _ _ _ h => h) (by rfl) ?_ hHeld ?_
                rotate_left 1
                · (intro w' hSw; clear hSw; go_simp; try with_reducible rfl)
                (try simp only [Act.put, List.setIfInBounds_toArray, List.set_cons_zero, List.set_cons_succ])
                refine take_yield (i := 17) (v := ?_) rfl (by kernel_rfl) (by kernel_rfl) (by kernel_rfl) (fun _ _ _ h => h) (by rfl) ?_ hHeld ?_
                rotate_left 1
                · (intro w' hSw; clear hSw; go_simp; try with_reducible rfl)
                (try simp only [Act.put, List.setIfInBounds_toArray, List.set_cons_zero, List.set_cons_succ])
                refine take_yield (i := 18) (v := ?_) rfl (by kernel_rfl) (by kernel_rfl) (by kernel_rfl) (fun _ _ _ h => h) (by rfl) ?_ hHeld ?_
                rotate_left 1
                · (intro w' hSw; have hCell := fun (b o : Nat) (h : b < wr.heap.size) => hSw.cell (p := ⟨b, o, none⟩) h; clear hSw; go_simp; try with_reducible rfl)
                (try simp only [Act.put, List.setIfInBounds_toArray, List.set_cons_zero, List.set_cons_succ])
                refine take_yield (i := 19) (v := ?_) rfl (by kernel_rfl) (by kernel_rfl) (by kernel_rfl) (fun _ _ _ h => h) (by rfl) ?_ hHeld ?_
                rotate_left 1
                · (intro w' hSw; clear hSw; go_simp; try with_reducible rfl)
                (try simp only [Act.put, List.setIfInBounds_toArray, List.set_cons_zero, List.set_cons_succ])
                refine take_yield (i := 20) (v := ?_) rfl (by kernel_rfl) (by kernel_rfl) (by kernel_rfl) (fun _ _ _ h => h) (by rfl) ?_ hHeld ?_
                rotate_left 1
                · (intro w' hSw; have hCell := fun (b o : Nat) (h : b < wr.heap.size) => hSw.cell (p := ⟨b, o, none⟩) h; clear hSw; go_simp; try with_reducible rfl)
                (try simp only [Act.put, List.setIfInBounds_toArray, List.set_cons_zero, List.set_cons_succ])
                refine take_yield (i := 21) (v := ?_) rfl (by kernel_rfl) (by kernel_rfl) (by kernel_rfl) (fun _ _ _ h => h) (by rfl) ?_ hHeld ?_
                rotate_left 1
                · (intro w' hSw; clear hSw; go_simp; try with_reducible rfl)
                (try simp only [Act.put, List.setIfInBounds_toArray, List.set_cons_zero, List.set_cons_succ])
                refine take_yield (i := 22) (v := ?_) rfl (by kernel_rfl) (by kernel_rfl) (by kernel_rfl) (fun _ _ _ h => h) (by rfl) ?_ hHeld ?_
                rotate_left 1
                · (intro w' hSw; clear hSw; go_simp; try with_reducible rfl)
                (try simp only [Act.put, List.setIfInBounds_toArray, List.set_cons_zero, List.set_cons_succ])
                refine take_skip (i := 23) rfl (by kernel_rfl) (by kernel_rfl) (by kernel_rfl) (fun _ _ _ h => h) (by rfl) hHeld ?_
                (try simp only [Act.put, List.setIfInBounds_toArray, List.set_cons_zero, List.set_cons_succ])
                refine take_skip (i := 24) rfl (by kernel_rfl) (by kernel_rfl) (by kernel_rfl) (fun _ _ _ h => h) (by rfl) hHeld ?_
                (try simp only [Act.put, List.setIfInBounds_toArray, List.set_cons_zero, List.set_cons_succ])
                refine take_skip (i := 25) rfl (by kernel_rfl) (by kernel_rfl) (by kernel_rfl) (fun _ _ _ h => h) (by rfl) hHeld ?_
                (try simp only [Act.put, List.setIfInBounds_toArray, List.set_cons_zero, List.set_cons_succ])
                refine take_skip (i := 26) rfl (by kernel_rfl) (by kernel_rfl) (by kernel_rfl) (fun _ _ _ h => h) (by rfl) hHeld ?_
                (try simp only [Act.put, List.setIfInBounds_toArray, List.set_cons_zero, List.set_cons_succ])
                refine take_skip (i := 27) rfl (by kernel_rfl) (by kernel_rfl) (by kernel_rfl) (fun _ _ _ h => h) (by rfl) hHeld ?_
                (try simp only [Act.put, List.setIfInBounds_toArray, List.set_cons_zero, List.set_cons_succ])
                refine take_skip (i := 28) rfl (by kernel_rfl) (by kernel_rfl) (by kernel_rfl) (fun _ _ _ h => h) (by rfl) hHeld ?_
                (try simp only [Act.put, List.setIfInBounds_toArray, List.set_cons_zero, List.set_cons_succ])
                refine take_skip (i := 29) rfl (by kernel_rfl) (by kernel_rfl) (by kernel_rfl) (fun _ _ _ h => h) (by rfl) hHeld ?_
                (try simp only [Act.put, List.setIfInBounds_toArray, List.set_cons_zero, List.set_cons_succ])
                refine take_skip (i := 30) rfl (by kernel_rfl) (by kernel_rfl) (by kernel_rfl) (fun _ _ _ h => h) (by rfl) hHeld ?_
                (try simp only [Act.put, List.setIfInBounds_toArray, List.set_cons_zero, List.set_cons_succ])
                refine take_yield (i := 31) (v := ?_) rfl (by kernel_rfl) (by kernel_rfl) (by kernel_rfl) (fun _ _ _ h => h) (by rfl) ?_ hHeld ?_
                rotate_left 1
                · (intro w' hSw; clear hSw; go_simp; try with_reducible rfl)
                (try simp only [Act.put, List.setIfInBounds_toArray, List.set_cons_zero, List.set_cons_succ])
                refine take_yield (i := 32) (v := ?_) rfl (by kernel_rfl) (by kernel_rfl) (by kernel_rfl) (fun _ _ _ h => h) (by rfl) ?_ hHeld ?_
                rotate_left 1
                · (intro w' hSw; clear hSw; go_simp; try with_reducible rfl)
                (try simp only [Act.put, List.setIfInBounds_toArray, List.set_cons_zero, List.set_cons_succ])
                refine take_yield (i := 33) (v := ?_) rfl (by kernel_rfl) (by kernel_rfl) (by kernel_rfl) (fun _ _ _ h => h) (by rfl) ?_ hHeld ?_
                rotate_left 1
                · (intro w' hSw; clear hSw; go_simp; try with_reducible rfl)
                (try simp only [Act.put, List.setIfInBounds_toArray, List.set_cons_zero, List.set_cons_succ])
                refine wpAnyH_done (by kernel_rfl) ?_ _
                replace cp0 : wr.drew.cell? ⟨wo.heap.size + 1, 0, none⟩ = some (sv d) := cellAt cp0 hHeld (by omega)
                replace cp1 : wr.drew.cell? ⟨wo.heap.size + 1, 1, none⟩ = some (sv s) := cellAt cp1 hHeld (by omega)
                replace hq0 : wr.drew.cell? ⟨b2, o2 + k * 2, none⟩ = some (sv a1) := cellAt hq0 hHeld (by omega)
                replace hq1 : wr.drew.cell? ⟨b2, o2 + k * 2 + 1, none⟩ = some (sv a2) := cellAt hq1 hHeld (by omega)
                replace HRa := Lib.hid (HRa.out.at hHeld)
                replace HB := Lib.hid (HB.out.trans (hHeld.mono HB.out.size))
                replace n2 : (wo.heap.size + 1) < wr.drew.heap.size := ltAt n2 hHeld
                replace hB2 : b2 < wr.drew.heap.size := ltAt hB2 hHeld
                go_wp2_with fail
                first | (refine wp_named ?_; intro W3 hW) | (refine calls_named ?_; intro W3 hW)
                have B3 : Below wr.drew.heap.size wr.drew W3 := by rw [hW]; exact (by repeat (first | exact Below.refl _ _ | assumption | refine Below.alloc ?_ (by simp <;> omega) _ | refine Below.setCell ?_ (by simp <;> omega) _ | refine Below.drew ?_))
                replace cp0 : W3.cell? ⟨wo.heap.size + 1, 0, none⟩ = some (sv d) := cellAt cp0 B3 (by omega)
                replace cp1 : W3.cell? ⟨wo.heap.size + 1, 1, none⟩ = some (sv s) := cellAt cp1 B3 (by omega)
                replace hq0 : W3.cell? ⟨b2, o2 + k * 2, none⟩ = some (sv a1) := cellAt hq0 B3 (by omega)
                replace hq1 : W3.cell? ⟨b2, o2 + k * 2 + 1, none⟩ = some (sv a2) := cellAt hq1 B3 (by omega)
                replace HRa := Lib.hid (HRa.out.at B3)
                replace HB := Lib.hid (HB.out.trans (B3.mono HB.out.size))
                replace n2 : (wo.heap.size + 1) < W3.heap.size := ltAt n2 B3
                replace hB2 : b2 < W3.heap.size := ltAt hB2 B3
                clear hW
                clear B3
                try go_wp2_with fail
                refine wp_region_held_drew (S := fun w' => Below W3.heap.size W3 w') (by kernel_rfl) (Below.drew (Below.refl _ _)) (fun hHeld => ?_)
                refine take_yield (i := 0) (v := ?_) rfl (by kernel_rfl) (by kernel_rfl) (by kernel_rfl) (fun _ _ _ h => h) (by rfl) ?_ hHeld ?_
                rotate_left 1
                · (intro w' hSw; clear hSw; go_simp; try with_reducible rfl)
                (try simp only [Act.put, List.setIfInBounds_toArray, List.set_cons_zero, List.set_cons_succ])
                refine take_yield (i := 1) (v := ?_) rfl (by kernel_rfl) (by kernel_rfl) (by kernel_rfl) (fun _ _ _ h => h) (by rfl) ?_ hHeld ?_
                rotate_left 1
                · (intro w' hSw; clear hSw; go_simp; try with_reducible rfl)
                (try simp only [Act.put, List.setIfInBounds_toArray, List.set_cons_zero, List.set_cons_succ])
                refine take_yield (i := 2) (v := ?_) rfl (by kernel_rfl) (by kernel_rfl) (by kernel_rfl) (fun _ _ _ h => h) (by rfl) ?_ hHeld ?_
                rotate_left 1
                · (intro w' hSw; clear hSw; go_simp; try with_reducible rfl)
                (try simp only [Act.put, List.setIfInBounds_toArray, List.set_cons_zero, List.set_cons_succ])
                refine take_yield (i := 3) (v := ?_) rfl (by kernel_rfl) (by kernel_rfl) (by kernel_rfl) (fun _ _ _ h => h) (by rfl) ?_ hHeld ?_
                rotate_left 1
                · (intro w' hSw; clear hSw; go_simp; try with_reducible rfl)
                (try simp only [Act.put, List.setIfInBounds_toArray, List.set_cons_zero, List.set_cons_succ])
                refine take_yield (i := 4) (v := ?_) rfl (by kernel_rfl) (by kernel_rfl) (by kernel_rfl) (fun _ _ _ h => h) (by rfl) ?_ hHeld ?_
                rotate_left 1
                · (intro w' hSw; clear hSw; go_simp; try with_reducible rfl)
                (try simp only [Act.put, List.setIfInBounds_toArray, List.set_cons_zero, List.set_cons_succ])
                refine take_yield (i := 5) (v := ?_) rfl (by kernel_rfl) (by kernel_rfl) (by kernel_rfl) (fun _ _ _ h => h) (by rfl) ?_ hHeld ?_
                rotate_left 1
                · (intro w' hSw; clear hSw; go_simp; try with_reducible rfl)
                (try simp only [Act.put, List.setIfInBounds_toArray, List.set_cons_zero, List.set_cons_succ])
                refine take_yield (i := 6) (v := ?_) rfl (by kernel_rfl) (by kernel_rfl) (by kernel_rfl) (fun _ _ _ h => h) (by rfl) ?_ hHeld ?_
                rotate_left 1
                · (intro w' hSw; clear hSw; go_simp; try with_reducible rfl)
                (try simp only [Act.put, List.setIfInBounds_toArray, List.set_cons_zero, List.set_cons_succ])
                refine take_yield (i := 7) (v := ?_) rfl (by kernel_rfl) (by kernel_rfl) (by kernel_rfl) (fun _ _ _ h => h) (by rfl) ?_ hHeld ?_
                rotate_left 1
                · (intro w' hSw; clear hSw; go_simp; try with_reducible rfl)
                (try simp only [Act.put, List.setIfInBounds_toArray, List.set_cons_zero, List.set_cons_succ])
                refine take_yield (i := 8) (v := ?_) rfl (by kernel_rfl) (by kernel_rfl) (by kernel_rfl) (fun _ _ _ h => h) (by rfl) ?_ hHeld ?_
                rotate_left 1
                · (intro w' hSw; have hCell := fun (b o : Nat) (h : b < W3.heap.size) => hSw.cell (p := ⟨b, o, none⟩) h; clear hSw; go_simp; try with_reducible rfl)
                (try simp only [Act.put, List.setIfInBounds_toArray, List.set_cons_zero, List.set_cons_succ])
                refine take_yield (i := 9) (v := ?_) rfl (by kernel_rfl) (by kernel_rfl) (by kernel_rfl) (fun _ _ _ h => h) (by rfl) ?_ hHeld ?_
                rotate_left 1
                · (intro w' hSw; have hCell := fun (b o : Nat) (h : b < W3.heap.size) => hSw.cell (p := ⟨b, o, none⟩) h; clear hSw; go_simp; try with_reducible rfl)
                (try simp only [Act.put, List.setIfInBounds_toArray, List.set_cons_zero, List.set_cons_succ])
                refine take_yield (i := 10) (v := ?_) rfl (by kernel_rfl) (by kernel_rfl) (by kernel_rfl) (fun _ _ _ h => h) (by rfl) ?_ hHeld ?_
                rotate_left 1
                · (intro w' hSw; clear hSw; go_simp; try with_reducible rfl)
                (try simp only [Act.put, List.setIfInBounds_toArray, List.set_cons_zero, List.set_cons_succ])
                refine take_yield (i := 11) (v := ?_) rfl (by kernel_rfl) (by kernel_rfl) (by kernel_rfl) (fun _ _ _ h => h) (by rfl) ?_ hHeld ?_
                rotate_left 1
                · (intro w' hSw; clear hSw; go_simp; try with_reducible rfl)
                (try simp only [Act.put, List.setIfInBounds_toArray, List.set_cons_zero, List.set_cons_succ])
                refine wpAnyH_done (by kernel_rfl) ?_ _
                replace cp0 : W3.drew.cell? ⟨wo.heap.size + 1, 0, none⟩ = some (sv d) := cellAt cp0 hHeld (by omega)
                replace cp1 : W3.drew.cell? ⟨wo.heap.size + 1, 1, none⟩ = some (sv s) := cellAt cp1 hHeld (by omega)
                replace hq0 : W3.drew.cell? ⟨b2, o2 + k * 2, none⟩ = some (sv a1) := cellAt hq0 hHeld (by omega)
                replace hq1 : W3.drew.cell? ⟨b2, o2 + k * 2 + 1, none⟩ = some (sv a2) := cellAt hq1 hHeld (by omega)
                replace HRa := Lib.hid (HRa.out.at hHeld)
                replace HB := Lib.hid (HB.out.trans (hHeld.mono HB.out.size))
                replace n2 : (wo.heap.size + 1) < W3.drew.heap.size := ltAt n2 hHeld
                replace hB2 : b2 < W3.drew.heap.size := ltAt hB2 hHeld
                go_wp2_with fail
                obtain ⟨hge, hne⟩ := Hge.out
                have hins : insL ltP (d, s) acc = acc.take k ++ (d, s) :: acc.drop k := by rw [insL_cut acc k hk hall hge, if_neg hne]
                have HI := Lib.hid hins
                first | (refine wp_named ?_; intro W4 hW) | (refine calls_named ?_; intro W4 hW)
                have B4 : Below W3.drew.heap.size W3.drew W4 := by rw [hW]; exact (by repeat (first | exact Below.refl _ _ | assumption | refine Below.alloc ?_ (by simp <;> omega) _ | refine Below.setCell ?_ (by simp <;> omega) _ | refine Below.drew ?_))
                replace cp0 : W4.cell? ⟨wo.heap.size + 1, 0, none⟩ = some (sv d) := cellAt cp0 B4 (by omega)
                replace cp1 : W4.cell? ⟨wo.heap.size + 1, 1, none⟩ = some (sv s) := cellAt cp1 B4 (by omega)
                replace hq0 : W4.cell? ⟨b2, o2 + k * 2, none⟩ = some (sv a1) := cellAt hq0 B4 (by omega)
                replace hq1 : W4.cell? ⟨b2, o2 + k * 2 + 1, none⟩ = some (sv a2) := cellAt hq1 B4 (by omega)
                replace HRa := Lib.hid (HRa.out.at B4)
                replace HB := Lib.hid (HB.out.trans (B4.mono HB.out.size))
                replace n2 : (wo.heap.size + 1) < W4.heap.size := ltAt n2 B4
                replace hB2 : b2 < W4.heap.size := ltAt hB2 B4
                clear hW
                clear B4 hins hge hne
                have hz4 := Nat.le_trans HB1.out.size HB.out.size
                have HR1 := Lib.hid (HRa.out.takeA hk)
                have HR2 := Lib.hid (HRa.out.dropA hk hc)
                have hs1 := run_slice_full (P := Tryz.prog) Tryz.underlying59 hi (some ⟨b2, o2, none⟩) acc.length c k (Nat.le_trans hk hc)
                have hs2 := run_slice_tail (P := Tryz.prog) Tryz.underlying59 hi (some ⟨b2, o2, none⟩) acc.length c k hk
                rw [hz1] at hs1 hs2
                have HLk := Lib.hid (show (acc.drop k).length = acc.length - k from List.length_drop)
                try go_wp2_with fail
                refine wp_region_held_drew (S := fun w' => Below W4.heap.size W4 w') (by kernel_rfl) (Below.drew (Below.refl _ _)) (fun hHeld => ?_)
                refine take_yield (i := 0) (v := ?_) rfl (by kernel_rfl) (by kernel_rfl) (by kernel_rfl) (fun _ _ _ h => h) (by rfl) ?_ hHeld ?_
                rotate_left 1
                · (intro w' hSw; clear hSw; go_simp; try with_reducible rfl)
                (try simp only [Act.put, List.setIfInBounds_toArray, List.set_cons_zero, List.set_cons_succ])
                refine take_yield (i := 1) (v := ?_) rfl (by kernel_rfl) (by kernel_rfl) (by kernel_rfl) (fun _ _ _ h => h) (by rfl) ?_ hHeld ?_
                rotate_left 1
                · (intro w' hSw; clear hSw; go_simp; try with_reducible rfl)
                (try simp only [Act.put, List.setIfInBounds_toArray, List.set_cons_zero, List.set_cons_succ])
                refine take_yield (i := 2) (v := ?_) rfl (by kernel_rfl) (by kernel_rfl) (by kernel_rfl) (fun _ _ _ h => h) (by rfl) ?_ hHeld ?_
                rotate_left 1
                · (intro w' hSw; clear hSw; go_simp; try with_reducible rfl)
                (try simp only [Act.put, List.setIfInBounds_toArray, List.set_cons_zero, List.set_cons_succ])
                refine take_yield (i := 3) (v := ?_) rfl (by kernel_rfl) (by kernel_rfl) (by kernel_rfl) (fun _ _ _ h => h) (by rfl) ?_ hHeld ?_
                rotate_left 1
                · (intro w' hSw; clear hSw; go_simp; try with_reducible rfl)
                (try simp only [Act.put, List.setIfInBounds_toArray, List.set_cons_zero, List.set_cons_succ])
                refine take_yield (i := 4) (v := ?_) rfl (by kernel_rfl) (by kernel_rfl) (by kernel_rfl) (fun _ _ _ h => h) (by rfl) ?_ hHeld ?_
                rotate_left 1
                · (intro w' hSw; have hCell := fun (b o : Nat) (h : b < W4.heap.size) => hSw.cell (p := ⟨b, o, none⟩) h; clear hSw; go_simp; try with_reducible rfl)
                (try simp only [Act.put, List.setIfInBounds_toArray, List.set_cons_zero, List.set_cons_succ])
                refine take_yield (i := 6) (v := ?_) rfl (by kernel_rfl) (by kernel_rfl) (by kernel_rfl) (fun _ _ _ h => h) (by rfl) ?_ hHeld ?_
                rotate_left 1
                · (intro w' hSw; clear hSw; go_simp; try with_reducible rfl)
                (try simp only [Act.put, List.setIfInBounds_toArray, List.set_cons_zero, List.set_cons_succ])
                refine take_yield (i := 7) (v := ?_) rfl (by kernel_rfl) (by kernel_rfl) (by kernel_rfl) (fun _ _ _ h => h) (by rfl) ?_ hHeld ?_
                rotate_left 1
                · (intro w' hSw; clear hSw; go_simp; try with_reducible rfl)
                (try simp only [Act.put, List.setIfInBounds_toArray, List.set_cons_zero, List.set_cons_succ])
                refine take_yield (i := 8) (v := ?_) rfl (by kernel_rfl) (by kernel_rfl) (by kernel_rfl) (fun _ _ _ h => h) (by rfl) ?_ hHeld ?_
                rotate_left 1
                · (intro w' hSw; clear hSw; go_simp; try with_reducible rfl)
                (try simp only [Act.put, List.setIfInBounds_toArray, List.set_cons_zero, List.set_cons_succ])
                refine ready_one (i := 5) rfl (by kernel_rfl) (fun K hK => ?_)
                go_simp
                refine hK.out _ _ ?_ (fun hHeld2 => ?_)
                · (try dsimp only); first | exact hHeld | exact (by repeat (first | exact Below.refl _ _ | assumption | refine Below.alloc ?_ (by simp <;> omega) _ | refine Below.setCell ?_ (by simp <;> omega) _ | refine Below.drew ?_))
                clear hK K hHeld
                have hHeld := hHeld2
                clear hHeld2
                (try simp only [Act.put, List.setIfInBounds_toArray, List.set_cons_zero, List.set_cons_succ])
                refine ready_one (i := 9) rfl (by kernel_rfl) (fun K hK => ?_)
                refine step_append_full (by rfl) (.tmp 89) (.tmp 92) 59 (by rfl) 61 i0 _ 2 32 Tryz.underlying59 hi hz0 hz1 hz2 rfl _ (some ⟨W4.heap.size, 0, none⟩) 1 (prC (d, s)) (by rfl) (Rd.lit W4.drew (prC (d, s)) 61 2 1 rfl) (Nat.le_refl _) _ _ (acc.length - k) (c - k) _ (by rfl) (HR2.out.at' (Nat.le_refl _) hHeld) (one_drop (one_prsC acc) _) (by unfold maxLen; omega) (by omega) ?_
                intro A2 c2 v2 hc2 hr2 hb
                have HR3 := Lib.hid hr2
                clear hr2
                refine hK.out _ _ ?_ (fun hHeld2 => ?_)
                · (try dsimp only); first | exact Below.trans hHeld (Below.mono hb hHeld.size) | exact hHeld | exact Below.drew hHeld | exact (by repeat (first | exact Below.refl _ _ | assumption | refine Below.alloc ?_ (by simp <;> omega) _ | refine Below.setCell ?_ (by simp <;> omega) _ | refine Below.drew ?_))
                clear hK K hHeld
                have hHeld := hHeld2
                clear hHeld2
                (try simp only [Act.put, List.setIfInBounds_toArray, List.set_cons_zero, List.set_cons_succ])
                refine ready_one (i := 10) rfl (by kernel_rfl) (fun K hK => ?_)
                refine step_append_fresh (by rfl) (.tmp 87) (.tmp 93) 59 (by rfl) 61 i0 _ 2 32 Tryz.underlying59 hi hz0 hz1 hz2 rfl _ _ k _ (by rfl) (HR1.out.at' (Nat.le_refl _) hHeld) (Nat.le_refl _) _ A2 (1 + (acc.length - k)) c2 _ (by rfl) HR3.out (one_app (one_prC _) (one_drop (one_prsC acc) _)) (by unfold maxLen; omega) (by omega) ?_
                intro A3 c3 v3 hc3 hr3 hb hf3
                have hz5 := Nat.le_trans hz4 hHeld.size
                have HR4 := Lib.hid hr3
                clear hr3
                refine hK.out _ _ ?_ (fun hHeld2 => ?_)
                · (try dsimp only); first | exact Below.trans hHeld (Below.mono hb hHeld.size) | exact hHeld | exact Below.drew hHeld | exact (by repeat (first | exact Below.refl _ _ | assumption | refine Below.alloc ?_ (by simp <;> omega) _ | refine Below.setCell ?_ (by simp <;> omega) _ | refine Below.drew ?_))
                clear hK K hHeld
                have hHeld := hHeld2
                clear hHeld2
                (try simp only [Act.put, List.setIfInBounds_toArray, List.set_cons_zero, List.set_cons_succ])
                refine take_yield (i := 11) (v := ?_) rfl (by kernel_rfl) (by kernel_rfl) (by kernel_rfl) (fun _ _ _ h => h) (by rfl) ?_ hHeld ?_
                rotate_left 1
                · (intro w' hSw; clear hSw; go_simp; try with_reducible rfl)
                (try simp only [Act.put, List.setIfInBounds_toArray, List.set_cons_zero, List.set_cons_succ])
                refine wpAnyH_done (by kernel_rfl) ?_ _
                replace cp0 : v3.cell? ⟨wo.heap.size + 1, 0, none⟩ = some (sv d) := cellAt cp0 hHeld (by omega)
                replace cp1 : v3.cell? ⟨wo.heap.size + 1, 1, none⟩ = some (sv s) := cellAt cp1 hHeld (by omega)
                replace hq0 : v3.cell? ⟨b2, o2 + k * 2, none⟩ = some (sv a1) := cellAt hq0 hHeld (by omega)
                replace hq1 : v3.cell? ⟨b2, o2 + k * 2 + 1, none⟩ = some (sv a2) := cellAt hq1 hHeld (by omega)
                replace HRa := Lib.hid (HRa.out.at hHeld)
                replace HB := Lib.hid (HB.out.trans (hHeld.mono HB.out.size))
                replace n2 : (wo.heap.size + 1) < v3.heap.size := ltAt n2 hHeld
                replace hB2 : b2 < v3.heap.size := ltAt hB2 hHeld
                clear hs1 hs2
                go_wp2_with fail
                go_roundw
                case rel =>
                  have hlen : k + (1 + (acc.length - k)) = (accP es (j + 1)).length := by rw [HN.out, HI.out, List.length_append, List.length_cons, List.length_take, HLk.out]; omega
                  refine ⟨j + 1, A3, c3, by omega, by go_num, by rw [hlen], by rw [← hlen]; exact hc3, ?_, fun _ ad e => Nat.le_trans hz5 (hf3 (by omega) ad e), HB.out⟩
                  have h4 := HR4.out
                  rw [hlen] at h4
                  have hx : (prsC acc).take (k * 2) ++ (prC (d, s) ++ (prsC acc).drop (k * 2)) = prsC (accP es (j + 1)) := by rw [HN.out, HI.out, prsC_take, prsC_drop]; simp [prsC]
                  rw [hx] at h4
                  exact h4
                case measure => simp [intOf]; omega
              · cases l3 : Op.bytesLess a2 s
                · have hge : ∀ h : k < acc.length, ltP acc[k] (d, s) = false := fun _ => by rw [Hq.out, ltP_mk]; simp [l1, l3]
                  have Hge := Lib.hid hge
                  clear hge
                  cases l4 : (a2 == s)
                  · have hne : ¬ acc[k]? = some (d, s) := by rw [List.getElem?_eq_getElem hlt2, Hq.out]; intro e; injection e with e; injection e with e1 e2; rw [e2] at l4; simp at l4
                    have Hne := Lib.hid hne
                    clear hne
                    try go_wp2_with fail
                    refine wp_region_held_drew (S := fun w' => Below wr.heap.size wr w') (by kernel_rfl) (Below.drew (Below.refl _ _)) (fun hHeld => ?_)
                    refine take_yield (i := 0) (v := ?_) rfl (by kernel_rfl) (by kernel_rfl) (by kernel_rfl) (fun _ _ _ h => h) (by rfl) ?_ hHeld ?_
                    rotate_left 1
                    · (intro w' hSw; clear hSw; go_simp; try with_reducible rfl)
                    (try simp only [Act.put, List.setIfInBounds_toArray, List.set_cons_zero, List.set_cons_succ])
                    refine take_yield (i := 1) (v := ?_) rfl (by kernel_rfl) (by kernel_rfl) (by kernel_rfl) (fun _ _ _ h => h) (by rfl) ?_ hHeld ?_
                    rotate_left 1
                    · (intro w' hSw; clear hSw; go_simp; try with_reducible rfl)
                    (try simp only [Act.put, List.setIfInBounds_toArray, List.set_cons_zero, List.set_cons_succ])
                    refine take_yield (i := 2) (v := ?_) rfl (by kernel_rfl) (by kernel_rfl) (by kernel_rfl) (fun _ _ _ h => h) (by rfl) ?_ hHeld ?_
                    rotate_left 1
                    · (intro w' hSw; clear hSw; go_simp; try with_reducible rfl)
                    (try simp only [Act.put, List.setIfInBounds_toArray, List.set_cons_zero, List.set_cons_succ])
                    refine take_yield (i := 3) (v := ?_) rfl (by kernel_rfl) (by kernel_rfl) (by kernel_rfl) (fun _ _ _ h => h) (by rfl) ?_ hHeld ?_
                    rotate_left 1
                    · (intro w' hSw; clear hSw; go_simp; try with_reducible rfl)
                    (try simp only [Act.put, List.setIfInBounds_toArray, List.set_cons_zero, List.set_cons_succ])
                    refine take_yield (i := 4) (v := ?_) rfl (by kernel_rfl) (by kernel_rfl) (by kernel_rfl) (fun _ _ _ h => h) (by rfl) ?_ hHeld ?_
                    rotate_left 1
                    · (intro w' hSw; clear hSw; go_simp; try with_reducible rfl)
                    (try simp only [Act.put, List.setIfInBounds_toArray, List.set_cons_zero, List.set_cons_succ])
                    refine take_yield (i := 5) (v := ?_) rfl (by kernel_rfl) (by kernel_rfl) (by kernel_rfl) (fun _ _ _ h => h) (by rfl) ?_ hHeld ?_
                    rotate_left 1
                    · (intro w' hSw; clear hSw; go_simp; try with_reducible rfl)
                    (try simp only [Act.put, List.setIfInBounds_toArray, List.set_cons_zero, List.set_cons_succ])
                    refine take_yield (i := 6) (v := ?_) rfl (by kernel_rfl) (by kernel_rfl) (by kernel_rfl) (fun _ _ _ h => h) (by rfl) ?_ hHeld ?_
                    rotate_left 1
                    · (intro w' hSw; clear hSw; go_simp; try with_reducible rfl)
                    (try simp only [Act.put, List.setIfInBounds_toArray, List.set_cons_zero, List.set_cons_succ])
                    refine take_yield (i := 7) (v := ?_) rfl (by kernel_rfl) (by kernel_rfl) (by kernel_rfl) (fun _ _ _ h => h) (by rfl) ?_ hHeld ?_
                    rotate_left 1
                    · (intro w' hSw; clear hSw; go_simp; try with_reducible rfl)
                    (try simp only [Act.put, List.setIfInBounds_toArray, List.set_cons_zero, List.set_cons_succ])
                    refine take_yield (i := 8) (v := ?_) rfl (by kernel_rfl) (by kernel_rfl) (by kernel_rfl) (fun _ _ _ h => h) (by rfl) ?_ hHeld ?_
                    rotate_left 1
                    · (intro w' hSw; clear hSw; go_simp; try with_reducible rfl)
                    (try simp only [Act.put, List.setIfInBounds_toArray, List.set_cons_zero, List.set_cons_succ])
                    refine take_yield (i := 9) (v := ?_) rfl (by kernel_rfl) (by kernel_rfl) (by kernel_rfl) (fun _ _ _ h => h) (by rfl) ?_ hHeld ?_
                    rotate_left 1
                    · (intro w' hSw; have hCell := fun (b o : Nat) (h : b < wr.heap.size) => hSw.cell (p := ⟨b, o, none⟩) h; clear hSw; go_simp; try with_reducible rfl)
                    (try simp only [Act.put, List.setIfInBounds_toArray, List.set_cons_zero, List.set_cons_succ])
                    refine take_yield (i := 10) (v := ?_) rfl (by kernel_rfl) (by kernel_rfl) (by kernel_rfl) (fun _ _ _ h => h) (by rfl) ?_ hHeld ?_
                    rotate_left 1
                    · (intro w' hSw; clear hSw; go_simp; try with_reducible rfl)
                    (try simp only [Act.put, List.setIfInBounds_toArray, List.set_cons_zero, List.set_cons_succ])
                    refine take_yield (i := 11) (v := ?_) rfl (by kernel_rfl) (by kernel_rfl) (by kernel_rfl) (fun _ _ _ h => h) (by rfl) ?_ hHeld ?_
                    rotate_left 1
                    · (intro w' hSw; have hCell := fun (b o : Nat) (h : b < wr.heap.size) => hSw.cell (p := ⟨b, o, none⟩) h; clear hSw; go_simp; try with_reducible rfl)
                    (try simp only [Act.put, List.setIfInBounds_toArray, List.set_cons_zero, List.set_cons_succ])
                    refine take_yield (i := 12) (v := ?_) rfl (by kernel_rfl) (by kernel_rfl) (by kernel_rfl) (fun _ _ _ h => h) (by rfl) ?_ hHeld ?_
                    rotate_left 1
                    · (intro w' hSw; clear hSw; go_simp; try with_reducible rfl)
                    (try simp only [Act.put, List.setIfInBounds_toArray, List.set_cons_zero, List.set_cons_succ])
                    refine take_yield (i := 13) (v := ?_) rfl (by kernel_rfl) (by kernel_rfl) (by kernel_rfl) (fun _ _ _ h => h) (by rfl) ?_ hHeld ?_
                    rotate_left 1
                    · (intro w' hSw; clear hSw; go_simp; try with_reducible rfl)
                    (try simp only [Act.put, List.setIfInBounds_toArray, List.set_cons_zero, List.set_cons_succ])
                    refine take_yield (i := 14) (v := ?_) rfl (by kernel_rfl) (by kernel_rfl) (by kernel_rfl) (fun _ _ _ h => h) (by rfl) ?_ hHeld ?_
                    rotate_left 1
                    · (intro w' hSw; clear hSw; go_simp; try with_reducible rfl)
                    (try simp only [Act.put, List.setIfInBounds_toArray, List.set_cons_zero, List.set_cons_succ])
                    refine take_yield (i := 15) (v := ?_) rfl (by kernel_rfl) (by kernel_rfl) (by kernel_rfl) (fun _ _ _ h => h) (by rfl) ?_ hHeld ?_
                    rotate_left 1
                    · (intro w' hSw; clear hSw; go_simp; try with_reducible rfl)
                    (try simp only [Act.put, List.setIfInBounds_toArray, List.set_cons_zero, List.set_cons_succ])
                    refine take_yield (i := 16) (v := ?_) rfl (by kernel_rfl) (by kernel_rfl) (by kernel_rfl) (fun _ _ _ h => h) (by rfl) ?_ hHeld ?_
                    rotate_left 1
                    · (intro w' hSw; clear hSw; go_simp; try with_reducible rfl)
                    (try simp only [Act.put, List.setIfInBounds_toArray, List.set_cons_zero, List.set_cons_succ])
                    refine take_yield (i := 17) (v := ?_) rfl (by kernel_rfl) (by kernel_rfl) (by kernel_rfl) (fun _ _ _ h => h) (by rfl) ?_ hHeld ?_
                    rotate_left 1
                    · (intro w' hSw; clear hSw; go_simp; try with_reducible rfl)
                    (try simp only [Act.put, List.setIfInBounds_toArray, List.set_cons_zero, List.set_cons_succ])
                    refine take_yield (i := 18) (v := ?_) rfl (by kernel_rfl) (by kernel_rfl) (by kernel_rfl) (fun _ _ _ h => h) (by rfl) ?_ hHeld ?_
                    rotate_left 1
                    · (intro w' hSw; have hCell := fun (b o : Nat) (h : b < wr.heap.size) => hSw.cell (p := ⟨b, o, none⟩) h; clear hSw; go_simp; try with_reducible rfl)
                    (try simp only [Act.put, List.setIfInBounds_toArray, List.set_cons_zero, List.set_cons_succ])
                    refine take_yield (i := 19) (v := ?_) rfl (by kernel_rfl) (by kernel_rfl) (by kernel_rfl) (fun _ _ _ h => h) (by rfl) ?_ hHeld ?_
                    rotate_left 1
                    · (intro w' hSw; clear hSw; go_simp; try with_reducible rfl)
                    (try simp only [Act.put, List.setIfInBounds_toArray, List.set_cons_zero, List.set_cons_succ])
                    refine take_yield (i := 20) (v := ?_) rfl (by kernel_rfl) (by kernel_rfl) (by kernel_rfl) (fun _ _ _ h => h) (by rfl) ?_ hHeld ?_
                    rotate_left 1
                    · (intro w' hSw; have hCell := fun (b o : Nat) (h : b < wr.heap.size) => hSw.cell (p := ⟨b, o, none⟩) h; clear hSw; go_simp; try with_reducible rfl)
                    (try simp only [Act.put, List.setIfInBounds_toArray, List.set_cons_zero, List.set_cons_succ])
                    refine take_yield (i := 21) (v := ?_) rfl (by kernel_rfl) (by kernel_rfl) (by kernel_rfl) (fun _ _ _ h => h) (by rfl) ?_ hHeld ?_
                    rotate_left 1
                    · (intro w' hSw; clear hSw; go_simp; try with_reducible rfl)
                    (try simp only [Act.put, List.setIfInBounds_toArray, List.set_cons_zero, List.set_cons_succ])
                    refine take_yield (i := 22) (v := ?_) rfl (by kernel_rfl) (by kernel_rfl) (by kernel_rfl) (fun _ _ _ h => h) (by rfl) ?_ hHeld ?_
                    rotate_left 1
                    · (intro w' hSw; clear hSw; go_simp; try with_reducible rfl)
                    (try simp only [Act.put, List.setIfInBounds_toArray, List.set_cons_zero, List.set_cons_succ])
                    refine take_yield (i := 23) (v := ?_) rfl (by kernel_rfl) (by kernel_rfl) (by kernel_rfl) (fun _ _ _ h => h) (by rfl) ?_ hHeld ?_
                    rotate_left 1
                    · (intro w' hSw; clear hSw; go_simp; try with_reducible rfl)
                    (try simp only [Act.put, List.setIfInBounds_toArray, List.set_cons_zero, List.set_cons_succ])
                    refine take_yield (i := 24) (v := ?_) rfl (by kernel_rfl) (by kernel_rfl) (by kernel_rfl) (fun _ _ _ h => h) (by rfl) ?_ hHeld ?_
                    rotate_left 1
                    · (intro w' hSw; clear hSw; go_simp; try with_reducible rfl)
                    (try simp only [Act.put, List.setIfInBounds_toArray, List.set_cons_zero, List.set_cons_succ])
                    refine take_yield (i := 25) (v := ?_) rfl (by kernel_rfl) (by kernel_rfl) (by kernel_rfl) (fun _ _ _ h => h) (by rfl) ?_ hHeld ?_
                    rotate_left 1
                    · (intro w' hSw; clear hSw; go_simp; try with_reducible rfl)
                    (try simp only [Act.put, List.setIfInBounds_toArray, List.set_cons_zero, List.set_cons_succ])
                    refine take_yield (i := 26) (v := ?_) rfl (by kernel_rfl) (by kernel_rfl) (by kernel_rfl) (fun _ _ _ h => h) (by rfl) ?_ hHeld ?_
                    rotate_left 1
                    · (intro w' hSw; clear hSw; go_simp; try with_reducible rfl)
                    (try simp only [Act.put, List.setIfInBounds_toArray, List.set_cons_zero, List.set_cons_succ])
                    refine take_yield (i := 27) (v := ?_) rfl (by kernel_rfl) (by kernel_rfl) (by kernel_rfl) (fun _ _ _ h => h) (by rfl) ?_ hHeld ?_
                    rotate_left 1
                    · (intro w' hSw; have hCell := fun (b o : Nat) (h : b < wr.heap.size) => hSw.cell (p := ⟨b, o, none⟩) h; clear hSw; go_simp; try with_reducible rfl)
                    (try simp only [Act.put, List.setIfInBounds_toArray, List.set_cons_zero, List.set_cons_succ])
                    refine take_yield (i := 28) (v := ?_) rfl (by kernel_rfl) (by kernel_rfl) (by kernel_rfl) (fun _ _ _ h => h) (by rfl) ?_ hHeld ?_
                    rotate_left 1
                    · (intro w' hSw; clear hSw; go_simp; try with_reducible rfl)
                    (try simp only [Act.put, List.setIfInBounds_toArray, List.set_cons_zero, List.set_cons_succ])
                    refine take_yield (i := 29) (v := ?_) rfl (by kernel_rfl) (by kernel_rfl) (by kernel_rfl) (fun _ _ _ h => h) (by rfl) ?_ hHeld ?_
                    rotate_left 1
                    · (intro w' hSw; have hCell := fun (b o : Nat) (h : b < wr.heap.size) => hSw.cell (p := ⟨b, o, none⟩) h; clear hSw; go_simp; try with_reducible rfl)
                    (try simp only [Act.put, List.setIfInBounds_toArray, List.set_cons_zero, List.set_cons_succ])
                    refine take_yield (i := 30) (v := ?_) rfl (by kernel_rfl) (by kernel_rfl) (by kernel_rfl) (fun _ _ _ h => h) (by rfl) ?_ hHeld ?_
                    rotate_left 1
                    · (intro w' hSw; clear hSw; go_simp; try with_reducible rfl)
                    (try simp only [Act.put, List.setIfInBounds_toArray, List.set_cons_zero, List.set_cons_succ])
                    refine take_yield (i := 31) (v := ?_) rfl (by kernel_rfl) (by kernel_rfl) (by kernel_rfl) (fun _ _ _ h => h) (by rfl) ?_ hHeld ?_
                    rotate_left 1
                    · (intro w' hSw; clear hSw; go_simp; try with_reducible rfl)
                    (try simp only [Act.put, List.setIfInBounds_toArray, List.set_cons_zero, List.set_cons_succ])
                    refine take_yield (i := 32) (v := ?_) rfl (by kernel_rfl) (by kernel_rfl) (by kernel_rfl) (fun _ _ _ h => h) (by rfl) ?_ hHeld ?_
                    rotate_left 1
                    · (intro w' hSw; clear hSw; go_simp; try with_reducible rfl)
                    (try simp only [Act.put, List.setIfInBounds_toArray, List.set_cons_zero, List.set_cons_succ])
                    refine take_yield (i := 33) (v := ?_) rfl (by kernel_rfl) (by kernel_rfl) (by kernel_rfl) (fun _ _ _ h => h) (by rfl) ?_ hHeld ?_
                    rotate_left 1
                    · (intro w' hSw; clear hSw; go_simp; try with_reducible rfl)
                    (try simp only [Act.put, List.setIfInBounds_toArray, List.set_cons_zero, List.set_cons_succ])
                    refine wpAnyH_done (by kernel_rfl) ?_ _
                    replace cp0 : wr.drew.cell? ⟨wo.heap.size + 1, 0, none⟩ = some (sv d) := cellAt cp0 hHeld (by omega)
                    replace cp1 : wr.drew.cell? ⟨wo.heap.size + 1, 1, none⟩ = some (sv s) := cellAt cp1 hHeld (by omega)
                    replace hq0 : wr.drew.cell? ⟨b2, o2 + k * 2, none⟩ = some (sv a1) := cellAt hq0 hHeld (by omega)
                    replace hq1 : wr.drew.cell? ⟨b2, o2 + k * 2 + 1, none⟩ = some (sv a2) := cellAt hq1 hHeld (by omega)
                    replace HRa := Lib.hid (HRa.out.at hHeld)
                    replace HB := Lib.hid (HB.out.trans (hHeld.mono HB.out.size))
                    replace n2 : (wo.heap.size + 1) < wr.drew.heap.size := ltAt n2 hHeld
                    replace hB2 : b2 < wr.drew.heap.size := ltAt hB2 hHeld
                    go_wp2_with fail
                    first | (refine wp_named ?_; intro W3 hW) | (refine calls_named ?_; intro W3 hW)
                    have B3 : Below wr.drew.heap.size wr.drew W3 := by rw [hW]; exact (by repeat (first | exact Below.refl _ _ | assumption | refine Below.alloc ?_ (by simp <;> omega) _ | refine Below.setCell ?_ (by simp <;> omega) _ | refine Below.drew ?_))
                    replace cp0 : W3.cell? ⟨wo.heap.size + 1, 0, none⟩ = some (sv d) := cellAt cp0 B3 (by omega)
                    replace cp1 : W3.cell? ⟨wo.heap.size + 1, 1, none⟩ = some (sv s) := cellAt cp1 B3 (by omega)
                    replace hq0 : W3.cell? ⟨b2, o2 + k * 2, none⟩ = some (sv a1) := cellAt hq0 B3 (by omega)
                    replace hq1 : W3.cell? ⟨b2, o2 + k * 2 + 1, none⟩ = some (sv a2) := cellAt hq1 B3 (by omega)
                    replace HRa := Lib.hid (HRa.out.at B3)
                    replace HB := Lib.hid (HB.out.trans (B3.mono HB.out.size))
                    replace n2 : (wo.heap.size + 1) < W3.heap.size := ltAt n2 B3
                    replace hB2 : b2 < W3.heap.size := ltAt hB2 B3
                    clear hW
                    clear B3
                    try go_wp2_with fail
                    refine wp_region_held_drew (S := fun w' => Below W3.heap.size W3 w') (by kernel_rfl) (Below.drew (Below.refl _ _)) (fun hHeld => ?_)
                    refine take_yield (i := 0) (v := ?_) rfl (by kernel_rfl) (by kernel_rfl) (by kernel_rfl) (fun _ _ _ h => h) (by rfl) ?_ hHeld ?_
                    rotate_left 1
                    · (intro w' hSw; clear hSw; go_simp; try with_reducible rfl)
                    (try simp only [Act.put, List.setIfInBounds_toArray, List.set_cons_zero, List.set_cons_succ])
                    refine take_yield (i := 1) (v := ?_) rfl (by kernel_rfl) (by kernel_rfl) (by kernel_rfl) (fun _ _ _ h => h) (by rfl) ?_ hHeld ?_
                    rotate_left 1
                    · (intro w' hSw; clear hSw; go_simp; try with_reducible rfl)
                    (try simp only [Act.put, List.setIfInBounds_toArray, List.set_cons_zero, List.set_cons_succ])
                    refine take_yield (i := 2) (v := ?_) rfl (by kernel_rfl) (by kernel_rfl) (by kernel_rfl) (fun _ _ _ h => h) (by rfl) ?_ hHeld ?_
                    rotate_left 1
                    · (intro w' hSw; clear hSw; go_simp; try with_reducible rfl)
                    (try simp only [Act.put, List.setIfInBounds_toArray, List.set_cons_zero, List.set_cons_succ])
                    refine take_yield (i := 3) (v := ?_) rfl (by kernel_rfl) (by kernel_rfl) (by kernel_rfl) (fun _ _ _ h => h) (by rfl) ?_ hHeld ?_
                    rotate_left 1
                    · (intro w' hSw; clear hSw; go_simp; try with_reducible rfl)
                    (try simp only [Act.put, List.setIfInBounds_toArray, List.set_cons_zero, List.set_cons_succ])
                    refine take_yield (i := 4) (v := ?_) rfl (by kernel_rfl) (by kernel_rfl) (by kernel_rfl) (fun _ _ _ h => h) (by rfl) ?_ hHeld ?_
                    rotate_left 1
                    · (intro w' hSw; clear hSw; go_simp; try with_reducible rfl)
                    (try simp only [Act.put, List.setIfInBounds_toArray, List.set_cons_zero, List.set_cons_succ])
                    refine take_yield (i := 5) (v := ?_) rfl (by kernel_rfl) (by kernel_rfl) (by kernel_rfl) (fun _ _ _ h => h) (by rfl) ?_ hHeld ?_
                    rotate_left 1
                    · (intro w' hSw; clear hSw; go_simp; try with_reducible rfl)
                    (try simp only [Act.put, List.setIfInBounds_toArray, List.set_cons_zero, List.set_cons_succ])
                    refine take_yield (i := 6) (v := ?_) rfl (by kernel_rfl) (by kernel_rfl) (by kernel_rfl) (fun _ _ _ h => h) (by rfl) ?_ hHeld ?_
                    rotate_left 1
                    · (intro w' hSw; clear hSw; go_simp; try with_reducible rfl)
                    (try simp only [Act.put, List.setIfInBounds_toArray, List.set_cons_zero, List.set_cons_succ])
                    refine take_yield (i := 7) (v := ?_) rfl (by kernel_rfl) (by kernel_rfl) (by kernel_rfl) (fun _ _ _ h => h) (by rfl) ?_ hHeld ?_
                    rotate_left 1
                    · (intro w' hSw; clear hSw; go_simp; try with_reducible rfl)
                    (try simp only [Act.put, List.setIfInBounds_toArray, List.set_cons_zero, List.set_cons_succ])
                    refine take_yield (i := 8) (v := ?_) rfl (by kernel_rfl) (by kernel_rfl) (by kernel_rfl) (fun _ _ _ h => h) (by rfl) ?_ hHeld ?_
                    rotate_left 1
                    · (intro w' hSw; have hCell := fun (b o : Nat) (h : b < W3.heap.size) => hSw.cell (p := ⟨b, o, none⟩) h; clear hSw; go_simp; try with_reducible rfl)
                    (try simp only [Act.put, List.setIfInBounds_toArray, List.set_cons_zero, List.set_cons_succ])
                    refine take_yield (i := 9) (v := ?_) rfl (by kernel_rfl) (by kernel_rfl) (by kernel_rfl) (fun _ _ _ h => h) (by rfl) ?_ hHeld ?_
                    rotate_left 1
                    · (intro w' hSw; have hCell := fun (b o : Nat) (h : b < W3.heap.size) => hSw.cell (p := ⟨b, o, none⟩) h; clear hSw; go_simp; try with_reducible rfl)
                    (try simp only [Act.put, List.setIfInBounds_toArray, List.set_cons_zero, List.set_cons_succ])
                    refine take_yield (i := 10) (v := ?_) rfl (by kernel_rfl) (by kernel_rfl) (by kernel_rfl) (fun _ _ _ h => h) (by rfl) ?_ hHeld ?_
                    rotate_left 1
                    · (intro w' hSw; clear hSw; go_simp; try with_reducible rfl)
                    (try simp only [Act.put, List.setIfInBounds_toArray, List.set_cons_zero, List.set_cons_succ])
                    refine take_yield (i := 11) (v := ?_) rfl (by kernel_rfl) (by kernel_rfl) (by kernel_rfl) (fun _ _ _ h => h) (by rfl) ?_ hHeld ?_
                    rotate_left 1
                    · (intro w' hSw; clear hSw; go_simp; try with_reducible rfl)
                    (try simp only [Act.put, List.setIfInBounds_toArray, List.set_cons_zero, List.set_cons_succ])
                    refine wpAnyH_done (by kernel_rfl) ?_ _
                    replace cp0 : W3.drew.cell? ⟨wo.heap.size + 1, 0, none⟩ = some (sv d) := cellAt cp0 hHeld (by omega)
                    replace cp1 : W3.drew.cell? ⟨wo.heap.size + 1, 1, none⟩ = some (sv s) := cellAt cp1 hHeld (by omega)
                    replace hq0 : W3.drew.cell? ⟨b2, o2 + k * 2, none⟩ = some (sv a1) := cellAt hq0 hHeld (by omega)
                    replace hq1 : W3.drew.cell? ⟨b2, o2 + k * 2 + 1, none⟩ = some (sv a2) := cellAt hq1 hHeld (by omega)
                    replace HRa := Lib.hid (HRa.out.at hHeld)
                    replace HB := Lib.hid (HB.out.trans (hHeld.mono HB.out.size))
                    replace n2 : (wo.heap.size + 1) < W3.drew.heap.size := ltAt n2 hHeld
                    replace hB2 : b2 < W3.drew.heap.size := ltAt hB2 hHeld
                    go_wp2_with fail
                    have hge := Hge.out
                    have hne := Hne.out
                    have hins : insL ltP (d, s) acc = acc.take k ++ (d, s) :: acc.drop k := by rw [insL_cut acc k hk hall hge, if_neg hne]
                    have HI := Lib.hid hins
                    first | (refine wp_named ?_; intro W4 hW) | (refine calls_named ?_; intro W4 hW)
                    have B4 : Below W3.drew.heap.size W3.drew W4 := by rw [hW]; exact (by repeat (first | exact Below.refl _ _ | assumption | refine Below.alloc ?_ (by simp <;> omega) _ | refine Below.setCell ?_ (by simp <;> omega) _ | refine Below.drew ?_))
                    replace cp0 : W4.cell? ⟨wo.heap.size + 1, 0, none⟩ = some (sv d) := cellAt cp0 B4 (by omega)
                    replace cp1 : W4.cell? ⟨wo.heap.size + 1, 1, none⟩ = some (sv s) := cellAt cp1 B4 (by omega)
                    replace hq0 : W4.cell? ⟨b2, o2 + k * 2, none⟩ = some (sv a1) := cellAt hq0 B4 (by omega)
                    replace hq1 : W4.cell? ⟨b2, o2 + k * 2 + 1, none⟩ = some (sv a2) := cellAt hq1 B4 (by omega)
                    replace HRa := Lib.hid (HRa.out.at B4)
                    replace HB := Lib.hid (HB.out.trans (B4.mono HB.out.size))
                    replace n2 : (wo.heap.size + 1) < W4.heap.size := ltAt n2 B4
                    replace hB2 : b2 < W4.heap.size := ltAt hB2 B4
                    clear hW
                    clear B4 hins hge hne
                    have hz4 := Nat.le_trans HB1.out.size HB.out.size
                    have HR1 := Lib.hid (HRa.out.takeA hk)
                    have HR2 := Lib.hid (HRa.out.dropA hk hc)
                    have hs1 := run_slice_full (P := Tryz.prog) Tryz.underlying59 hi (some ⟨b2, o2, none⟩) acc.length c k (Nat.le_trans hk hc)
                    have hs2 := run_slice_tail (P := Tryz.prog) Tryz.underlying59 hi (some ⟨b2, o2, none⟩) acc.length c k hk
                    rw [hz1] at hs1 hs2
                    have HLk := Lib.hid (show (acc.drop k).length = acc.length - k from List.length_drop)
                    try go_wp2_with fail
                    refine wp_region_held_drew (S := fun w' => Below W4.heap.size W4 w') (by kernel_rfl) (Below.drew (Below.refl _ _)) (fun hHeld => ?_)
                    refine take_yield (i := 0) (v := ?_) rfl (by kernel_rfl) (by kernel_rfl) (by kernel_rfl) (fun _ _ _ h => h) (by rfl) ?_ hHeld ?_
                    rotate_left 1
                    · (intro w' hSw; clear hSw; go_simp; try with_reducible rfl)
                    (try simp only [Act.put, List.setIfInBounds_toArray, List.set_cons_zero, List.set_cons_succ])
                    refine take_yield (i := 1) (v := ?_) rfl (by kernel_rfl) (by kernel_rfl) (by kernel_rfl) (fun _ _ _ h => h) (by rfl) ?_ hHeld ?_
                    rotate_left 1
                    · (intro w' hSw; clear hSw; go_simp; try with_reducible rfl)
                    (try simp only [Act.put, List.setIfInBounds_toArray, List.set_cons_zero, List.set_cons_succ])
                    refine take_yield (i := 2) (v := ?_) rfl (by kernel_rfl) (by kernel_rfl) (by kernel_rfl) (fun _ _ _ h => h) (by rfl) ?_ hHeld ?_
                    rotate_left 1
                    · (intro w' hSw; clear hSw; go_simp; try with_reducible rfl)
                    (try simp only [Act.put, List.setIfInBounds_toArray, List.set_cons_zero, List.set_cons_succ])
                    refine take_yield (i := 3) (v := ?_) rfl (by kernel_rfl) (by kernel_rfl) (by kernel_rfl) (fun _ _ _ h => h) (by rfl) ?_ hHeld ?_
                    rotate_left 1
                    · (intro w' hSw; clear hSw; go_simp; try with_reducible rfl)
                    (try simp only [Act.put, List.setIfInBounds_toArray, List.set_cons_zero, List.set_cons_succ])
                    refine take_yield (i := 4) (v := ?_) rfl (by kernel_rfl) (by kernel_rfl) (by kernel_rfl) (fun _ _ _ h => h) (by rfl) ?_ hHeld ?_
                    rotate_left 1
                    · (intro w' hSw; have hCell := fun (b o : Nat) (h : b < W4.heap.size) => hSw.cell (p := ⟨b, o, none⟩) h; clear hSw; go_simp; try with_reducible rfl)
                    (try simp only [Act.put, List.setIfInBounds_toArray, List.set_cons_zero, List.set_cons_succ])
                    refine take_yield (i := 6) (v := ?_) rfl (by kernel_rfl) (by kernel_rfl) (by kernel_rfl) (fun _ _ _ h => h) (by rfl) ?_ hHeld ?_
                    rotate_left 1
                    · (intro w' hSw; clear hSw; go_simp; try with_reducible rfl)
                    (try simp only [Act.put, List.setIfInBounds_toArray, List.set_cons_zero, List.set_cons_succ])
                    refine take_yield (i := 7) (v := ?_) rfl (by kernel_rfl) (by kernel_rfl) (by kernel_rfl) (fun _ _ _ h => h) (by rfl) ?_ hHeld ?_
                    rotate_left 1
                    · (intro w' hSw; clear hSw; go_simp; try with_reducible rfl)
                    (try simp only [Act.put, List.setIfInBounds_toArray, List.set_cons_zero, List.set_cons_succ])
                    refine take_yield (i := 8) (v := ?_) rfl (by kernel_rfl) (by kernel_rfl) (by kernel_rfl) (fun _ _ _ h => h) (by rfl) ?_ hHeld ?_
                    rotate_left 1
                    · (intro w' hSw; clear hSw; go_simp; try with_reducible rfl)
                    (try simp only [Act.put, List.setIfInBounds_toArray, List.set_cons_zero, List.set_cons_succ])
                    refine ready_one (i := 5) rfl (by kernel_rfl) (fun K hK => ?_)
                    go_simp
                    refine hK.out _ _ ?_ (fun hHeld2 => ?_)
                    · (try dsimp only); first | exact hHeld | exact (by repeat (first | exact Below.refl _ _ | assumption | refine Below.alloc ?_ (by simp <;> omega) _ | refine Below.setCell ?_ (by simp <;> omega) _ | refine Below.drew ?_))
                    clear hK K hHeld
                    have hHeld := hHeld2
                    clear hHeld2
                    (try simp only [Act.put, List.setIfInBounds_toArray, List.set_cons_zero, List.set_cons_succ])
                    refine ready_one (i := 9) rfl (by kernel_rfl) (fun K hK => ?_)
                    refine step_append_full (by rfl) (.tmp 89) (.tmp 92) 59 (by rfl) 61 i0 _ 2 32 Tryz.underlying59 hi hz0 hz1 hz2 rfl _ (some ⟨W4.heap.size, 0, none⟩) 1 (prC (d, s)) (by rfl) (Rd.lit W4.drew (prC (d, s)) 61 2 1 rfl) (Nat.le_refl _) _ _ (acc.length - k) (c - k) _ (by rfl) (HR2.out.at' (Nat.le_refl _) hHeld) (one_drop (one_prsC acc) _) (by unfold maxLen; omega) (by omega) ?_
                    intro A2 c2 v2 hc2 hr2 hb
                    have HR3 := Lib.hid hr2
                    clear hr2
                    refine hK.out _ _ ?_ (fun hHeld2 => ?_)
                    · (try dsimp only); first | exact Below.trans hHeld (Below.mono hb hHeld.size) | exact hHeld | exact Below.drew hHeld | exact (by repeat (first | exact Below.refl _ _ | assumption | refine Below.alloc ?_ (by simp <;> omega) _ | refine Below.setCell ?_ (by simp <;> omega) _ | refine Below.drew ?_))
                    clear hK K hHeld
                    have hHeld := hHeld2
                    clear hHeld2
                    (try simp only [Act.put, List.setIfInBounds_toArray, List.set_cons_zero, List.set_cons_succ])
                    refine ready_one (i := 10) rfl (by kernel_rfl) (fun K hK => ?_)
                    refine step_append_fresh (by rfl) (.tmp 87) (.tmp 93) 59 (by rfl) 61 i0 _ 2 32 Tryz.underlying59 hi hz0 hz1 hz2 rfl _ _ k _ (by rfl) (HR1.out.at' (Nat.le_refl _) hHeld) (Nat.le_refl _) _ A2 (1 + (acc.length - k)) c2 _ (by rfl) HR3.out (one_app (one_prC _) (one_drop (one_prsC acc) _)) (by unfold maxLen; omega) (by omega) ?_
                    intro A3 c3 v3 hc3 hr3 hb hf3
                    have hz5 := Nat.le_trans hz4 hHeld.size
                    have HR4 := Lib.hid hr3
                    clear hr3
                    refine hK.out _ _ ?_ (fun hHeld2 => ?_)
                    · (try dsimp only); first | exact Below.trans hHeld (Below.mono hb hHeld.size) | exact hHeld | exact Below.drew hHeld | exact (by repeat (first | exact Below.refl _ _ | assumption | refine Below.alloc ?_ (by simp <;> omega) _ | refine Below.setCell ?_ (by simp <;> omega) _ | refine Below.drew ?_))
                    clear hK K hHeld
                    have hHeld := hHeld2
                    clear hHeld2
                    (try simp only [Act.put, List.setIfInBounds_toArray, List.set_cons_zero, List.set_cons_succ])
                    refine take_yield (i := 11) (v := ?_) rfl (by kernel_rfl) (by kernel_rfl) (by kernel_rfl) (fun _ _ _ h => h) (by rfl) ?_ hHeld ?_
                    rotate_left 1
                    · (intro w' hSw; clear hSw; go_simp; try with_reducible rfl)
                    (try simp only [Act.put, List.setIfInBounds_toArray, List.set_cons_zero, List.set_cons_succ])
                    refine wpAnyH_done (by kernel_rfl) ?_ _
                    replace cp0 : v3.cell? ⟨wo.heap.size + 1, 0, none⟩ = some (sv d) := cellAt cp0 hHeld (by omega)
                    replace cp1 : v3.cell? ⟨wo.heap.size + 1, 1, none⟩ = some (sv s) := cellAt cp1 hHeld (by omega)
                    replace hq0 : v3.cell? ⟨b2, o2 + k * 2, none⟩ = some (sv a1) := cellAt hq0 hHeld (by omega)
                    replace hq1 : v3.cell? ⟨b2, o2 + k * 2 + 1, none⟩ = some (sv a2) := cellAt hq1 hHeld (by omega)
                    replace HRa := Lib.hid (HRa.out.at hHeld)
                    replace HB := Lib.hid (HB.out.trans (hHeld.mono HB.out.size))
                    replace n2 : (wo.heap.size + 1) < v3.heap.size := ltAt n2 hHeld
                    replace hB2 : b2 < v3.heap.size := ltAt hB2 hHeld
                    clear hs1 hs2
                    go_wp2_with fail
                    go_roundw
                    case rel =>
                      have hlen : k + (1 + (acc.length - k)) = (accP es (j + 1)).length := by rw [HN.out, HI.out, List.length_append, List.length_cons, List.length_take, HLk.out]; omega
                      refine ⟨j + 1, A3, c3, by omega, by go_num, by rw [hlen], by rw [← hlen]; exact hc3, ?_, fun _ ad e => Nat.le_trans hz5 (hf3 (by omega) ad e), HB.out⟩
                      have h4 := HR4.out
                      rw [hlen] at h4
                      have hx : (prsC acc).take (k * 2) ++ (prC (d, s) ++ (prsC acc).drop (k * 2)) = prsC (accP es (j + 1)) := by rw [HN.out, HI.out, prsC_take, prsC_drop]; simp [prsC]
                      rw [hx] at h4
                      exact h4
                    case measure => simp [intOf]; omega
                  · skip
                    try go_wp2_with fail
                    refine wp_region_held_drew (S := fun w' => Below wr.heap.size wr w') (by kernel_rfl) (Below.drew (Below.refl _ _)) (fun hHeld => ?_)
                    refine take_yield (i := 0) (v := ?_) rfl (by kernel_rfl) (by kernel_rfl) (by kernel_rfl) (fun _ _ _ h => h) (by rfl) ?_ hHeld ?_
                    rotate_left 1
                    · (intro w' hSw; clear hSw; go_simp; try with_reducible rfl)
                    (try simp only [Act.put, List.setIfInBounds_toArray, List.set_cons_zero, List.set_cons_succ])
                    refine take_yield (i := 1) (v := ?_) rfl (by kernel_rfl) (by kernel_rfl) (by kernel_rfl) (fun _ _ _ h => h) (by rfl) ?_ hHeld ?_
                    rotate_left 1
                    · (intro w' hSw; clear hSw; go_simp; try with_reducible rfl)
                    (try simp only [Act.put, List.setIfInBounds_toArray, List.set_cons_zero, List.set_cons_succ])
                    refine take_yield (i := 2) (v := ?_) rfl (by kernel_rfl) (by kernel_rfl) (by kernel_rfl) (fun _ _ _ h => h) (by rfl) ?_ hHeld ?_
                    rotate_left 1
                    · (intro w' hSw; clear hSw; go_simp; try with_reducible rfl)
                    (try simp only [Act.put, List.setIfInBounds_toArray, List.set_cons_zero, List.set_cons_succ])
                    refine take_yield (i := 3) (v := ?_) rfl (by kernel_rfl) (by kernel_rfl) (by kernel_rfl) (fun _ _ _ h => h) (by rfl) ?_ hHeld ?_
                    rotate_left 1
                    · (intro w' hSw; clear hSw; go_simp; try with_reducible rfl)
                    (try simp only [Act.put, List.setIfInBounds_toArray, List.set_cons_zero, List.set_cons_succ])
                    refine take_yield (i := 4) (v := ?_) rfl (by kernel_rfl) (by kernel_rfl) (by kernel_rfl) (fun _ _ _ h => h) (by rfl) ?_ hHeld ?_
                    rotate_left 1
                    · (intro w' hSw; clear hSw; go_simp; try with_reducible rfl)
                    (try simp only [Act.put, List.setIfInBounds_toArray, List.set_cons_zero, List.set_cons_succ])
                    refine take_yield (i := 5) (v := ?_) rfl (by kernel_rfl) (by kernel_rfl) (by kernel_rfl) (fun _ _ _ h => h) (by rfl) ?_ hHeld ?_
                    rotate_left 1
                    · (intro w' hSw; clear hSw; go_simp; try with_reducible rfl)
                    (try simp only [Act.put, List.setIfInBounds_toArray, List.set_cons_zero, List.set_cons_succ])
                    refine take_yield (i := 6) (v := ?_) rfl (by kernel_rfl) (by kernel_rfl) (by kernel_rfl) (fun _ _ _ h => h) (by rfl) ?_ hHeld ?_
                    rotate_left 1
                    · (intro w' hSw; clear hSw; go_simp; try with_reducible rfl)
                    (try simp only [Act.put, List.setIfInBounds_toArray, List.set_cons_zero, List.set_cons_succ])
                    refine take_yield (i := 7) (v := ?_) rfl (by kernel_rfl) (by kernel_rfl) (by kernel_rfl) (fun _ _ _ h => h) (by rfl) ?_ hHeld ?_
                    rotate_left 1
                    · (intro w' hSw; clear hSw; go_simp; try with_reducible rfl)
                    (try simp only [Act.put, List.setIfInBounds_toArray, List.set_cons_zero, List.set_cons_succ])
                    refine take_yield (i := 8) (v := ?_) rfl (by kernel_rfl) (by kernel_rfl) (by kernel_rfl) (fun _ _ _ h => h) (by rfl) ?_ hHeld ?_
                    rotate_left 1
                    · (intro w' hSw; clear hSw; go_simp; try with_reducible rfl)
                    (try simp only [Act.put, List.setIfInBounds_toArray, List.set_cons_zero, List.set_cons_succ])
                    refine take_yield (i := 9) (v := ?_) rfl (by kernel_rfl) (by kernel_rfl) (by kernel_rfl) (fun _ _ _ h => h) (by rfl) ?_ hHeld ?_
                    rotate_left 1
                    · (intro w' hSw; have hCell := fun (b o : Nat) (h : b < wr.heap.size) => hSw.cell (p := ⟨b, o, none⟩) h; clear hSw; go_simp; try with_reducible rfl)
                    (try simp only [Act.put, List.setIfInBounds_toArray, List.set_cons_zero, List.set_cons_succ])
                    refine take_yield (i := 10) (v := ?_) rfl (by kernel_rfl) (by kernel_rfl) (by kernel_rfl) (fun _ _ _ h => h) (by rfl) ?_ hHeld ?_
                    rotate_left 1
                    · (intro w' hSw; clear hSw; go_simp; try with_reducible rfl)
                    (try simp only [Act.put, List.setIfInBounds_toArray, List.set_cons_zero, List.set_cons_succ])
                    refine take_yield (i := 11) (v := ?_) rfl (by kernel_rfl) (by kernel_rfl) (by kernel_rfl) (fun _ _ _ h => h) (by rfl) ?_ hHeld ?_
                    rotate_left 1
                    · (intro w' hSw; have hCell := fun (b o : Nat) (h : b < wr.heap.size) => hSw.cell (p := ⟨b, o, none⟩) h; clear hSw; go_simp; try with_reducible rfl)
                    (try simp only [Act.put, List.setIfInBounds_toArray, List.set_cons_zero, List.set_cons_succ])
                    refine take_yield (i := 12) (v := ?_) rfl (by kernel_rfl) (by kernel_rfl) (by kernel_rfl) (fun _ _ _ h => h) (by rfl) ?_ hHeld ?_
                    rotate_left 1
                    · (intro w' hSw; clear hSw; go_simp; try with_reducible rfl)
                    (try simp only [Act.put, List.setIfInBounds_toArray, List.set_cons_zero, List.set_cons_succ])
                    refine take_yield (i := 13) (v := ?_) rfl (by kernel_rfl) (by kernel_rfl) (by kernel_rfl) (fun _ _ _ h => h) (by rfl) ?_ hHeld ?_
                    rotate_left 1
                    · (intro w' hSw; clear hSw; go_simp; try with_reducible rfl)
                    (try simp only [Act.put, List.setIfInBounds_toArray, List.set_cons_zero, List.set_cons_succ])
                    refine take_yield (i := 14) (v := ?_) rfl (by kernel_rfl) (by kernel_rfl) (by kernel_rfl) (fun _ _ _ h => h) (by rfl) ?_ hHeld ?_
                    rotate_left 1
                    · (intro w' hSw; clear hSw; go_simp; try with_reducible rfl)
                    (try simp only [Act.put, List.setIfInBounds_toArray, List.set_cons_zero, List.set_cons_succ])
                    refine take_yield (i := 15) (v := ?_) rfl (by kernel_rfl) (by kernel_rfl) (by kernel_rfl) (fun _ _ _ h => h) (by rfl) ?_ hHeld ?_
                    rotate_left 1
                    · (intro w' hSw; clear hSw; go_simp; try with_reducible rfl)
                    (try simp only [Act.put, List.setIfInBounds_toArray, List.set_cons_zero, List.set_cons_succ])
                    refine take_yield (i := 16) (v := ?_) rfl (by kernel_rfl) (by kernel_rfl) (by kernel_rfl) (fun _ _ _ h => h) (by rfl) ?_ hHeld ?_
                    rotate_left 1
                    · (intro w' hSw; clear hSw; go_simp; try with_reducible rfl)
                    (try simp only [Act.put, List.setIfInBounds_toArray, List.set_cons_zero, List.set_cons_succ])
                    refine take_yield (i := 17) (v := ?_) rfl (by kernel_rfl) (by kernel_rfl) (by kernel_rfl) (fun _ _ _ h => h) (by rfl) ?_ hHeld ?_
                    rotate_left 1
                    · (intro w' hSw; clear hSw; go_simp; try with_reducible rfl)
                    (try simp only [Act.put, List.setIfInBounds_toArray, List.set_cons_zero, List.set_cons_succ])
                    refine take_yield (i := 18) (v := ?_) rfl (by kernel_rfl) (by kernel_rfl) (by kernel_rfl) (fun _ _ _ h => h) (by rfl) ?_ hHeld ?_
                    rotate_left 1
                    · (intro w' hSw; have hCell := fun (b o : Nat) (h : b < wr.heap.size) => hSw.cell (p := ⟨b, o, none⟩) h; clear hSw; go_simp; try with_reducible rfl)
                    (try simp only [Act.put, List.setIfInBounds_toArray, List.set_cons_zero, List.set_cons_succ])
                    refine take_yield (i := 19) (v := ?_) rfl (by kernel_rfl) (by kernel_rfl) (by kernel_rfl) (fun _ _ _ h => h) (by rfl) ?_ hHeld ?_
                    rotate_left 1
                    · (intro w' hSw; clear hSw; go_simp; try with_reducible rfl)
                    (try simp only [Act.put, List.setIfInBounds_toArray, List.set_cons_zero, List.set_cons_succ])
                    refine take_yield (i := 20) (v := ?_) rfl (by kernel_rfl) (by kernel_rfl) (by kernel_rfl) (fun _ _ _ h => h) (by rfl) ?_ hHeld ?_
                    rotate_left 1
                    · (intro w' hSw; have hCell := fun (b o : Nat) (h : b < wr.heap.size) => hSw.cell (p := ⟨b, o, none⟩) h; clear hSw; go_simp; try with_reducible rfl)
                    (try simp only [Act.put, List.setIfInBounds_toArray, List.set_cons_zero, List.set_cons_succ])
                    refine take_yield (i := 21) (v := ?_) rfl (by kernel_rfl) (by kernel_rfl) (by kernel_rfl) (fun _ _ _ h => h) (by rfl) ?_ hHeld ?_
                    rotate_left 1
                    · (intro w' hSw; clear hSw; go_simp; try with_reducible rfl)
                    (try simp only [Act.put, List.setIfInBounds_toArray, List.set_cons_zero, List.set_cons_succ])
                    refine take_yield (i := 22) (v := ?_) rfl (by kernel_rfl) (by kernel_rfl) (by kernel_rfl) (fun _ _ _ h => h) (by rfl) ?_ hHeld ?_
                    rotate_left 1
                    · (intro w' hSw; clear hSw; go_simp; try with_reducible rfl)
                    (try simp only [Act.put, List.setIfInBounds_toArray, List.set_cons_zero, List.set_cons_succ])
                    refine take_yield (i := 23) (v := ?_) rfl (by kernel_rfl) (by kernel_rfl) (by kernel_rfl) (fun _ _ _ h => h) (by rfl) ?_ hHeld ?_
                    rotate_left 1
                    · (intro w' hSw; clear hSw; go_simp; try with_reducible rfl)
                    (try simp only [Act.put, List.setIfInBounds_toArray, List.set_cons_zero, List.set_cons_succ])
                    refine take_yield (i := 24) (v := ?_) rfl (by kernel_rfl) (by kernel_rfl) (by kernel_rfl) (fun _ _ _ h => h) (by rfl) ?_ hHeld ?_
                    rotate_left 1
                    · (intro w' hSw; clear hSw; go_simp; try with_reducible rfl)
                    (try simp only [Act.put, List.setIfInBounds_toArray, List.set_cons_zero, List.set_cons_succ])
                    refine take_yield (i := 25) (v := ?_) rfl (by kernel_rfl) (by kernel_rfl) (by kernel_rfl) (fun _ _ _ h => h) (by rfl) ?_ hHeld ?_
                    rotate_left 1
                    · (intro w' hSw; clear hSw; go_simp; try with_reducible rfl)
                    (try simp only [Act.put, List.setIfInBounds_toArray, List.set_cons_zero, List.set_cons_succ])
                    refine take_yield (i := 26) (v := ?_) rfl (by kernel_rfl) (by kernel_rfl) (by kernel_rfl) (fun _ _ _ h => h) (by rfl) ?_ hHeld ?_
                    rotate_left 1
                    · (intro w' hSw; clear hSw; go_simp; try with_reducible rfl)
                    (try simp only [Act.put, List.setIfInBounds_toArray, List.set_cons_zero, List.set_cons_succ])
                    refine take_yield (i := 27) (v := ?_) rfl (by kernel_rfl) (by kernel_rfl) (by kernel_rfl) (fun _ _ _ h => h) (by rfl) ?_ hHeld ?_
                    rotate_left 1
                    · (intro w' hSw; have hCell := fun (b o : Nat) (h : b < wr.heap.size) => hSw.cell (p := ⟨b, o, none⟩) h; clear hSw; go_simp; try with_reducible rfl)
                    (try simp only [Act.put, List.setIfInBounds_toArray, List.set_cons_zero, List.set_cons_succ])
                    refine take_yield (i := 28) (v := ?_) rfl (by kernel_rfl) (by kernel_rfl) (by kernel_rfl) (fun _ _ _ h => h) (by rfl) ?_ hHeld ?_
                    rotate_left 1
                    · (intro w' hSw; clear hSw; go_simp; try with_reducible rfl)
                    (try simp only [Act.put, List.setIfInBounds_toArray, List.set_cons_zero, List.set_cons_succ])
                    refine take_yield (i := 29) (v := ?_) rfl (by kernel_rfl) (by kernel_rfl) (by kernel_rfl) (fun _ _ _ h => h) (by rfl) ?_ hHeld ?_
                    rotate_left 1
                    · (intro w' hSw; have hCell := fun (b o : Nat) (h : b < wr.heap.size) => hSw.cell (p := ⟨b, o, none⟩) h; clear hSw; go_simp; try with_reducible rfl)
                    (try simp only [Act.put, List.setIfInBounds_toArray, List.set_cons_zero, List.set_cons_succ])
                    refine take_yield (i := 30) (v := ?_) rfl (by kernel_rfl) (by kernel_rfl) (by kernel_rfl) (fun _ _ _ h => h) (by rfl) ?_ hHeld ?_
                    rotate_left 1
                    · (intro w' hSw; clear hSw; go_simp; try with_reducible rfl)
                    (try simp only [Act.put, List.setIfInBounds_toArray, List.set_cons_zero, List.set_cons_succ])
                    refine take_yield (i := 31) (v := ?_) rfl (by kernel_rfl) (by kernel_rfl) (by kernel_rfl) (fun _ _ _ h => h) (by rfl) ?_ hHeld ?_
                    rotate_left 1
                    · (intro w' hSw; clear hSw; go_simp; try with_reducible rfl)
                    (try simp only [Act.put, List.setIfInBounds_toArray, List.set_cons_zero, List.set_cons_succ])
                    refine take_yield (i := 32) (v := ?_) rfl (by kernel_rfl) (by kernel_rfl) (by kernel_rfl) (fun _ _ _ h => h) (by rfl) ?_ hHeld ?_
                    rotate_left 1
                    · (intro w' hSw; clear hSw; go_simp; try with_reducible rfl)
                    (try simp only [Act.put, List.setIfInBounds_toArray, List.set_cons_zero, List.set_cons_succ])
                    refine take_yield (i := 33) (v := ?_) rfl (by kernel_rfl) (by kernel_rfl) (by kernel_rfl) (fun _ _ _ h => h) (by rfl) ?_ hHeld ?_
                    rotate_left 1
                    · (intro w' hSw; clear hSw; go_simp; try with_reducible rfl)
                    (try simp only [Act.put, List.setIfInBounds_toArray, List.set_cons_zero, List.set_cons_succ])
                    refine wpAnyH_done (by kernel_rfl) ?_ _
                    replace cp0 : wr.drew.cell? ⟨wo.heap.size + 1, 0, none⟩ = some (sv d) := cellAt cp0 hHeld (by omega)
                    replace cp1 : wr.drew.cell? ⟨wo.heap.size + 1, 1, none⟩ = some (sv s) := cellAt cp1 hHeld (by omega)
                    replace hq0 : wr.drew.cell? ⟨b2, o2 + k * 2, none⟩ = some (sv a1) := cellAt hq0 hHeld (by omega)
                    replace hq1 : wr.drew.cell? ⟨b2, o2 + k * 2 + 1, none⟩ = some (sv a2) := cellAt hq1 hHeld (by omega)
                    replace HRa := Lib.hid (HRa.out.at hHeld)
                    replace HB := Lib.hid (HB.out.trans (hHeld.mono HB.out.size))
                    replace n2 : (wo.heap.size + 1) < wr.drew.heap.size := ltAt n2 hHeld
                    replace hB2 : b2 < wr.drew.heap.size := ltAt hB2 hHeld
                    go_wp2_with fail
                    first | (refine wp_named ?_; intro W3 hW) | (refine calls_named ?_; intro W3 hW)
                    have B3 : Below wr.drew.heap.size wr.drew W3 := by rw [hW]; exact (by repeat (first | exact Below.refl _ _ | assumption | refine Below.alloc ?_ (by simp <;> omega) _ | refine Below.setCell ?_ (by simp <;> omega) _ | refine Below.drew ?_))
                    replace cp0 : W3.cell? ⟨wo.heap.size + 1, 0, none⟩ = some (sv d) := cellAt cp0 B3 (by omega)
                    replace cp1 : W3.cell? ⟨wo.heap.size + 1, 1, none⟩ = some (sv s) := cellAt cp1 B3 (by omega)
                    replace hq0 : W3.cell? ⟨b2, o2 + k * 2, none⟩ = some (sv a1) := cellAt hq0 B3 (by omega)
                    replace hq1 : W3.cell? ⟨b2, o2 + k * 2 + 1, none⟩ = some (sv a2) := cellAt hq1 B3 (by omega)
                    replace HRa := Lib.hid (HRa.out.at B3)
                    replace HB := Lib.hid (HB.out.trans (B3.mono HB.out.size))
                    replace n2 : (wo.heap.size + 1) < W3.heap.size := ltAt n2 B3
                    replace hB2 : b2 < W3.heap.size := ltAt hB2 B3
                    clear hW
                    clear B3
                    try go_wp2_with fail
                    refine wp_region_held_drew (S := fun w' => Below W3.heap.size W3 w') (by kernel_rfl) (Below.drew (Below.refl _ _)) (fun hHeld => ?_)
                    refine take_yield (i := 0) (v := ?_) rfl (by kernel_rfl) (by kernel_rfl) (by kernel_rfl) (fun _ _ _ h => h) (by rfl) ?_ hHeld ?_
                    rotate_left 1
                    · (intro w' hSw; clear hSw; go_simp; try with_reducible rfl)
                    (try simp only [Act.put, List.setIfInBounds_toArray, List.set_cons_zero, List.set_cons_succ])
                    refine take_yield (i := 1) (v := ?_) rfl (by kernel_rfl) (by kernel_rfl) (by kernel_rfl) (fun _ _ _ h => h) (by rfl) ?_ hHeld ?_
                    rotate_left 1
                    · (intro w' hSw; clear hSw; go_simp; try with_reducible rfl)
                    (try simp only [Act.put, List.setIfInBounds_toArray, List.set_cons_zero, List.set_cons_succ])
                    refine take_yield (i := 2) (v := ?_) rfl (by kernel_rfl) (by kernel_rfl) (by kernel_rfl) (fun _ _ _ h => h) (by rfl) ?_ hHeld ?_
                    rotate_left 1
                    · (intro w' hSw; clear hSw; go_simp; try with_reducible rfl)
                    (try simp only [Act.put, List.setIfInBounds_toArray, List.set_cons_zero, List.set_cons_succ])
                    refine take_yield (i := 3) (v := ?_) rfl (by kernel_rfl) (by kernel_rfl) (by kernel_rfl) (fun _ _ _ h => h) (by rfl) ?_ hHeld ?_
                    rotate_left 1
                    · (intro w' hSw; clear hSw; go_simp; try with_reducible rfl)
                    (try simp only [Act.put, List.setIfInBounds_toArray, List.set_cons_zero, List.set_cons_succ])
                    refine take_yield (i := 4) (v := ?_) rfl (by kernel_rfl) (by kernel_rfl) (by kernel_rfl) (fun _ _ _ h => h) (by rfl) ?_ hHeld ?_
                    rotate_left 1
                    · (intro w' hSw; clear hSw; go_simp; try with_reducible rfl)
                    (try simp only [Act.put, List.setIfInBounds_toArray, List.set_cons_zero, List.set_cons_succ])
                    refine take_yield (i := 5) (v := ?_) rfl (by kernel_rfl) (by kernel_rfl) (by kernel_rfl) (fun _ _ _ h => h) (by rfl) ?_ hHeld ?_
                    rotate_left 1
                    · (intro w' hSw; clear hSw; go_simp; try with_reducible rfl)
                    (try simp only [Act.put, List.setIfInBounds_toArray, List.set_cons_zero, List.set_cons_succ])
                    refine take_yield (i := 6) (v := ?_) rfl (by kernel_rfl) (by kernel_rfl) (by kernel_rfl) (fun _ _ _ h => h) (by rfl) ?_ hHeld ?_
                    rotate_left 1
                    · (intro w' hSw; clear hSw; go_simp; try with_reducible rfl)
                    (try simp only [Act.put, List.setIfInBounds_toArray, List.set_cons_zero, List.set_cons_succ])
                    refine take_yield (i := 7) (v := ?_) rfl (by kernel_rfl) (by kernel_rfl) (by kernel_rfl) (fun _ _ _ h => h) (by rfl) ?_ hHeld ?_
                    rotate_left 1
                    · (intro w' hSw; clear hSw; go_simp; try with_reducible rfl)
                    (try simp only [Act.put, List.setIfInBounds_toArray, List.set_cons_zero, List.set_cons_succ])
                    refine take_yield (i := 8) (v := ?_) rfl (by kernel_rfl) (by kernel_rfl) (by kernel_rfl) (fun _ _ _ h => h) (by rfl) ?_ hHeld ?_
                    rotate_left 1
                    · (intro w' hSw; have hCell := fun (b o : Nat) (h : b < W3.heap.size) => hSw.cell (p := ⟨b, o, none⟩) h; clear hSw; go_simp; try with_reducible rfl)
                    (try simp only [Act.put, List.setIfInBounds_toArray, List.set_cons_zero, List.set_cons_succ])
                    refine take_yield (i := 9) (v := ?_) rfl (by kernel_rfl) (by kernel_rfl) (by kernel_rfl) (fun _ _ _ h => h) (by rfl) ?_ hHeld ?_
                    rotate_left 1
                    · (intro w' hSw; have hCell := fun (b o : Nat) (h : b < W3.heap.size) => hSw.cell (p := ⟨b, o, none⟩) h; clear hSw; go_simp; try with_reducible rfl)
                    (try simp only [Act.put, List.setIfInBounds_toArray, List.set_cons_zero, List.set_cons_succ])
                    refine take_yield (i := 10) (v := ?_) rfl (by kernel_rfl) (by kernel_rfl) (by kernel_rfl) (fun _ _ _ h => h) (by rfl) ?_ hHeld ?_
                    rotate_left 1
                    · (intro w' hSw; clear hSw; go_simp; try with_reducible rfl)
                    (try simp only [Act.put, List.setIfInBounds_toArray, List.set_cons_zero, List.set_cons_succ])
                    refine take_yield (i := 11) (v := ?_) rfl (by kernel_rfl) (by kernel_rfl) (by kernel_rfl) (fun _ _ _ h => h) (by rfl) ?_ hHeld ?_
                    rotate_left 1
                    · (intro w' hSw; clear hSw; go_simp; try with_reducible rfl)
                    (try simp only [Act.put, List.setIfInBounds_toArray, List.set_cons_zero, List.set_cons_succ])
                    refine wpAnyH_done (by kernel_rfl) ?_ _
                    replace cp0 : W3.drew.cell? ⟨wo.heap.size + 1, 0, none⟩ = some (sv d) := cellAt cp0 hHeld (by omega)
                    replace cp1 : W3.drew.cell? ⟨wo.heap.size + 1, 1, none⟩ = some (sv s) := cellAt cp1 hHeld (by omega)
                    replace hq0 : W3.drew.cell? ⟨b2, o2 + k * 2, none⟩ = some (sv a1) := cellAt hq0 hHeld (by omega)
                    replace hq1 : W3.drew.cell? ⟨b2, o2 + k * 2 + 1, none⟩ = some (sv a2) := cellAt hq1 hHeld (by omega)
                    replace HRa := Lib.hid (HRa.out.at hHeld)
                    replace HB := Lib.hid (HB.out.trans (hHeld.mono HB.out.size))
                    replace n2 : (wo.heap.size + 1) < W3.drew.heap.size := ltAt n2 hHeld
                    replace hB2 : b2 < W3.drew.heap.size := ltAt hB2 hHeld
                    go_wp2_with fail
                    have hge := Hge.out
                    go_roundw
                    case rel =>
                      have hins : accP es (j + 1) = acc := by rw [HN.out, insL_cut acc k hk hall hge, if_pos]; rw [List.getElem?_eq_getElem hlt2, Hq.out]; simp_all
                      exact ⟨j + 1, _, c, by omega, by go_num, by rw [hins], by rw [hins]; exact hc, by rw [hins]; exact HRa.out.at (by repeat (first | exact Below.refl _ _ | assumption | refine Below.alloc ?_ (by simp <;> omega) _ | refine Below.setCell ?_ (by simp <;> omega) _ | refine Below.drew ?_)), by rw [hins]; exact HFr.out, HB.out.trans (Below.mono (by repeat (first | exact Below.refl _ _ | assumption | refine Below.alloc ?_ (by simp <;> omega) _ | refine Below.setCell ?_ (by simp <;> omega) _ | refine Below.drew ?_)) HB.out.size)⟩
                    case measure => simp [intOf]; omega
                · skip
                  try go_wp2_with fail
                  refine wp_region_held_drew (S := fun w' => Below wr.heap.size wr w') (by kernel_rfl) (Below.drew (Below.refl _ _)) (fun hHeld => ?_)
                  refine take_yield (i := 0) (v := ?_) rfl (by kernel_rfl) (by kernel_rfl) (by kernel_rfl) (fun _ _ _ h => h) (by rfl) ?_ hHeld ?_
                  rotate_left 1
                  · (intro w' hSw; clear hSw; go_simp; try with_reducible rfl)
                  (try simp only [Act.put, List.setIfInBounds_toArray, List.set_cons_zero, List.set_cons_succ])
                  refine take_yield (i := 1) (v := ?_) rfl (by kernel_rfl) (by kernel_rfl) (by kernel_rfl) (fun _ _ _ h => h) (by rfl) ?_ hHeld ?_
                  rotate_left 1
                  · (intro w' hSw; clear hSw; go_simp; try with_reducible rfl)
                  (try simp only [Act.put, List.setIfInBounds_toArray, List.set_cons_zero, List.set_cons_succ])
                  refine take_yield (i := 2) (v := ?_) rfl (by kernel_rfl) (by kernel_rfl) (by kernel_rfl) (fun _ _ _ h => h) (by rfl) ?_ hHeld ?_
                  rotate_left 1
                  · (intro w' hSw; clear hSw; go_simp; try with_reducible rfl)
                  (try simp only [Act.put, List.setIfInBounds_toArray, List.set_cons_zero, List.set_cons_succ])
                  refine take_yield (i := 3) (v := ?_) rfl (by kernel_rfl) (by kernel_rfl) (by kernel_rfl) (fun _ _ _ h => h) (by rfl) ?_ hHeld ?_
                  rotate_left 1
                  · (intro w' hSw; clear hSw; go_simp; try with_reducible rfl)
                  (try simp only [Act.put, List.setIfInBounds_toArray, List.set_cons_zero, List.set_cons_succ])
                  refine take_yield (i := 4) (v := ?_) rfl (by kernel_rfl) (by kernel_rfl) (by kernel_rfl) (fun _ _ _ h => h) (by rfl) ?_ hHeld ?_
                  rotate_left 1
                  · (intro w' hSw; clear hSw; go_simp; try with_reducible rfl)
                  (try simp only [Act.put, List.setIfInBounds_toArray, List.set_cons_zero, List.set_cons_succ])
                  refine take_yield (i := 5) (v := ?_) rfl (by kernel_rfl) (by kernel_rfl) (by kernel_rfl) (fun _ _ _ h => h) (by rfl) ?_ hHeld ?_
                  rotate_left 1
                  · (intro w' hSw; clear hSw; go_simp; try with_reducible rfl)
                  (try simp only [Act.put, List.setIfInBounds_toArray, List.set_cons_zero, List.set_cons_succ])
                  refine take_yield (i := 6) (v := ?_) rfl (by kernel_rfl) (by kernel_rfl) (by kernel_rfl) (fun _ _ _ h => h) (by rfl) ?_ hHeld ?_
                  rotate_left 1
                  · (intro w' hSw; clear hSw; go_simp; try with_reducible rfl)
                  (try simp only [Act.put, List.setIfInBounds_toArray, List.set_cons_zero, List.set_cons_succ])
                  refine take_yield (i := 7) (v := ?_) rfl (by kernel_rfl) (by kernel_rfl) (by kernel_rfl) (fun _ _ _ h => h) (by rfl) ?_ hHeld ?_
                  rotate_left 1
                  · (intro w' hSw; clear hSw; go_simp; try with_reducible rfl)
                  (try simp only [Act.put, List.setIfInBounds_toArray, List.set_cons_zero, List.set_cons_succ])
                  refine take_yield (i := 8) (v := ?_) rfl (by kernel_rfl) (by kernel_rfl) (by kernel_rfl) (fun _ _ _ h => h) (by rfl) ?_ hHeld ?_
                  rotate_left 1
                  · (intro w' hSw; clear hSw; go_simp; try with_reducible rfl)
                  (try simp only [Act.put, List.setIfInBounds_toArray, List.set_cons_zero, List.set_cons_succ])
                  refine take_yield (i := 9) (v := ?_) rfl (by kernel_rfl) (by kernel_rfl) (by kernel_rfl) (fun _ _ _ h => h) (by rfl) ?_ hHeld ?_
                  rotate_left 1
                  · (intro w' hSw; have hCell := fun (b o : Nat) (h : b < wr.heap.size) => hSw.cell (p := ⟨b, o, none⟩) h; clear hSw; go_simp; try with_reducible rfl)
                  (try simp only [Act.put, List.setIfInBounds_toArray, List.set_cons_zero, List.set_cons_succ])
                  refine take_yield (i := 10) (v := ?_) rfl (by kernel_rfl) (by kernel_rfl) (by kernel_rfl) (fun _ _ _ h => h) (by rfl) ?_ hHeld ?_
                  rotate_left 1
                  · (intro w' hSw; clear hSw; go_simp; try with_reducible rfl)
                  (try simp only [Act.put, List.setIfInBounds_toArray, List.set_cons_zero, List.set_cons_succ])
                  refine take_yield (i := 11) (v := ?_) rfl (by kernel_rfl) (by kernel_rfl) (by kernel_rfl) (fun _ _ _ h => h) (by rfl) ?_ hHeld ?_
                  rotate_left 1
                  · (intro w' hSw; have hCell := fun (b o : Nat) (h : b < wr.heap.size) => hSw.cell (p := ⟨b, o, none⟩) h; clear hSw; go_simp; try with_reducible rfl)
                  (try simp only [Act.put, List.setIfInBounds_toArray, List.set_cons_zero, List.set_cons_succ])
                  refine take_yield (i := 12) (v := ?_) rfl (by kernel_rfl) (by kernel_rfl) (by kernel_rfl) (fun _ _ _ h => h) (by rfl) ?_ hHeld ?_
                  rotate_left 1
                  · (intro w' hSw; clear hSw; go_simp; try with_reducible rfl)
                  (try simp only [Act.put, List.setIfInBounds_toArray, List.set_cons_zero, List.set_cons_succ])
                  refine take_yield (i := 13) (v := ?_) rfl (by kernel_rfl) (by kernel_rfl) (by kernel_rfl) (fun _ _ _ h => h) (by rfl) ?_ hHeld ?_
                  rotate_left 1
                  · (intro w' hSw; clear hSw; go_simp; try with_reducible rfl)
                  (try simp only [Act.put, List.setIfInBounds_toArray, List.set_cons_zero, List.set_cons_succ])
                  refine take_yield (i := 14) (v := ?_) rfl (by kernel_rfl) (by kernel_rfl) (by kernel_rfl) (fun _ _ _ h => h) (by rfl) ?_ hHeld ?_
                  rotate_left 1
                  · (intro w' hSw; clear hSw; go_simp; try with_reducible rfl)
                  (try simp only [Act.put, List.setIfInBounds_toArray, List.set_cons_zero, List.set_cons_succ])
                  refine take_yield (i := 15) (v := ?_) rfl (by kernel_rfl) (by kernel_rfl) (by kernel_rfl) (fun _ _ _ h => h) (by rfl) ?_ hHeld ?_
                  rotate_left 1
                  · (intro w' hSw; clear hSw; go_simp; try with_reducible rfl)
                  (try simp only [Act.put, List.setIfInBounds_toArray, List.set_cons_zero, List.set_cons_succ])
                  refine take_yield (i := 16) (v := ?_) rfl (by kernel_rfl) (by kernel_rfl) (by kernel_rfl) (fun _ _ _ h => h) (by rfl) ?_ hHeld ?_
                  rotate_left 1
                  · (intro w' hSw; clear hSw; go_simp; try with_reducible rfl)
                  (try simp only [Act.put, List.setIfInBounds_toArray, List.set_cons_zero, List.set_cons_succ])
                  refine take_yield (i := 17) (v := ?_) rfl (by kernel_rfl) (by kernel_rfl) (by kernel_rfl) (fun _ _ _ h => h) (by rfl) ?_ hHeld ?_
                  rotate_left 1
                  · (intro w' hSw; clear hSw; go_simp; try with_reducible rfl)
                  (try simp only [Act.put, List.setIfInBounds_toArray, List.set_cons_zero, List.set_cons_succ])
                  refine take_yield (i := 18) (v := ?_) rfl (by kernel_rfl) (by kernel_rfl) (by kernel_rfl) (fun _ _ _ h => h) (by rfl) ?_ hHeld ?_
                  rotate_left 1
                  · (intro w' hSw; have hCell := fun (b o : Nat) (h : b < wr.heap.size) => hSw.cell (p := ⟨b, o, none⟩) h; clear hSw; go_simp; try with_reducible rfl)
                  (try simp only [Act.put, List.setIfInBounds_toArray, List.set_cons_zero, List.set_cons_succ])
                  refine take_yield (i := 19) (v := ?_) rfl (by kernel_rfl) (by kernel_rfl) (by kernel_rfl) (fun _ _ _ h => h) (by rfl) ?_ hHeld ?_
                  rotate_left 1
                  · (intro w' hSw; clear hSw; go_simp; try with_reducible rfl)
                  (try simp only [Act.put, List.setIfInBounds_toArray, List.set_cons_zero, List.set_cons_succ])
                  refine take_yield (i := 20) (v := ?_) rfl (by kernel_rfl) (by kernel_rfl) (by kernel_rfl) (fun _ _ _ h => h) (by rfl) ?_ hHeld ?_
                  rotate_left 1
                  · (intro w' hSw; have hCell := fun (b o : Nat) (h : b < wr.heap.size) => hSw.cell (p := ⟨b, o, none⟩) h; clear hSw; go_simp; try with_reducible rfl)
                  (try simp only [Act.put, List.setIfInBounds_toArray, List.set_cons_zero, List.set_cons_succ])
                  refine take_yield (i := 21) (v := ?_) rfl (by kernel_rfl) (by kernel_rfl) (by kernel_rfl) (fun _ _ _ h => h) (by rfl) ?_ hHeld ?_
                  rotate_left 1
                  · (intro w' hSw; clear hSw; go_simp; try with_reducible rfl)
                  (try simp only [Act.put, List.setIfInBounds_toArray, List.set_cons_zero, List.set_cons_succ])
                  refine take_yield (i := 22) (v := ?_) rfl (by kernel_rfl) (by kernel_rfl) (by kernel_rfl) (fun _ _ _ h => h) (by rfl) ?_ hHeld ?_
                  rotate_left 1
                  · (intro w' hSw; clear hSw; go_simp; try with_reducible rfl)
                  (try simp only [Act.put, List.setIfInBounds_toArray, List.set_cons_zero, List.set_cons_succ])
                  refine take_yield (i := 23) (v := ?_) rfl (by kernel_rfl) (by kernel_rfl) (by kernel_rfl) (fun _ _ _ h => h) (by rfl) ?_ hHeld ?_
                  rotate_left 1
                  · (intro w' hSw; clear hSw; go_simp; try with_reducible rfl)
                  (try simp only [Act.put, List.setIfInBounds_toArray, List.set_cons_zero, List.set_cons_succ])
                  refine take_yield (i := 24) (v := ?_) rfl (by kernel_rfl) (by kernel_rfl) (by kernel_rfl) (fun _ _ _ h => h) (by rfl) ?_ hHeld ?_
                  rotate_left 1
                  · (intro w' hSw; clear hSw; go_simp; try with_reducible rfl)
                  (try simp only [Act.put, List.setIfInBounds_toArray, List.set_cons_zero, List.set_cons_succ])
                  refine take_yield (i := 25) (v := ?_) rfl (by kernel_rfl) (by kernel_rfl) (by kernel_rfl) (fun _ _ _ h => h) (by rfl) ?_ hHeld ?_
                  rotate_left 1
                  · (intro w' hSw; clear hSw; go_simp; try with_reducible rfl)
                  (try simp only [Act.put, List.setIfInBounds_toArray, List.set_cons_zero, List.set_cons_succ])
                  refine take_yield (i := 26) (v := ?_) rfl (by kernel_rfl) (by kernel_rfl) (by kernel_rfl) (fun _ _ _ h => h) (by rfl) ?_ hHeld ?_
                  rotate_left 1
                  · (intro w' hSw; clear hSw; go_simp; try with_reducible rfl)
                  (try simp only [Act.put, List.setIfInBounds_toArray, List.set_cons_zero, List.set_cons_succ])
                  refine take_yield (i := 27) (v := ?_) rfl (by kernel_rfl) (by kernel_rfl) (by kernel_rfl) (fun _ _ _ h => h) (by rfl) ?_ hHeld ?_
                  rotate_left 1
                  · (intro w' hSw; have hCell := fun (b o : Nat) (h : b < wr.heap.size) => hSw.cell (p := ⟨b, o, none⟩) h; clear hSw; go_simp; try with_reducible rfl)
                  (try simp only [Act.put, List.setIfInBounds_toArray, List.set_cons_zero, List.set_cons_succ])
                  refine take_yield (i := 28) (v := ?_) rfl (by kernel_rfl) (by kernel_rfl) (by kernel_rfl) (fun _ _ _ h => h) (by rfl) ?_ hHeld ?_
                  rotate_left 1
                  · (intro w' hSw; clear hSw; go_simp; try with_reducible rfl)
                  (try simp only [Act.put, List.setIfInBounds_toArray, List.set_cons_zero, List.set_cons_succ])
                  refine take_yield (i := 29) (v := ?_) rfl (by kernel_rfl) (by kernel_rfl) (by kernel_rfl) (fun _ _ _ h => h) (by rfl) ?_ hHeld ?_
                  rotate_left 1
                  · (intro w' hSw; have hCell := fun (b o : Nat) (h : b < wr.heap.size) => hSw.cell (p := ⟨b, o, none⟩) h; clear hSw; go_simp; try with_reducible rfl)
                  (try simp only [Act.put, List.setIfInBounds_toArray, List.set_cons_zero, List.set_cons_succ])
                  refine take_yield (i := 30) (v := ?_) rfl (by kernel_rfl) (by kernel_rfl) (by kernel_rfl) (fun _ _ _ h => h) (by rfl) ?_ hHeld ?_
                  rotate_left 1
                  · (intro w' hSw; clear hSw; go_simp; try with_reducible rfl)
                  (try simp only [Act.put, List.setIfInBounds_toArray, List.set_cons_zero, List.set_cons_succ])
                  refine take_yield (i := 31) (v := ?_) rfl (by kernel_rfl) (by kernel_rfl) (by kernel_rfl) (fun _ _ _ h => h) (by rfl) ?_ hHeld ?_
                  rotate_left 1
                  · (intro w' hSw; clear hSw; go_simp; try with_reducible rfl)
                  (try simp only [Act.put, List.setIfInBounds_toArray, List.set_cons_zero, List.set_cons_succ])
                  refine take_yield (i := 32) (v := ?_) rfl (by kernel_rfl) (by kernel_rfl) (by kernel_rfl) (fun _ _ _ h => h) (by rfl) ?_ hHeld ?_
                  rotate_left 1
                  · (intro w' hSw; clear hSw; go_simp; try with_reducible rfl)
                  (try simp only [Act.put, List.setIfInBounds_toArray, List.set_cons_zero, List.set_cons_succ])
                  refine take_yield (i := 33) (v := ?_) rfl (by kernel_rfl) (by kernel_rfl) (by kernel_rfl) (fun _ _ _ h => h) (by rfl) ?_ hHeld ?_
                  rotate_left 1
                  · (intro w' hSw; clear hSw; go_simp; try with_reducible rfl)
                  (try simp only [Act.put, List.setIfInBounds_toArray, List.set_cons_zero, List.set_cons_succ])
                  refine wpAnyH_done (by kernel_rfl) ?_ _
                  replace cp0 : wr.drew.cell? ⟨wo.heap.size + 1, 0, none⟩ = some (sv d) := cellAt cp0 hHeld (by omega)
                  replace cp1 : wr.drew.cell? ⟨wo.heap.size + 1, 1, none⟩ = some (sv s) := cellAt cp1 hHeld (by omega)
                  replace hq0 : wr.drew.cell? ⟨b2, o2 + k * 2, none⟩ = some (sv a1) := cellAt hq0 hHeld (by omega)
                  replace hq1 : wr.drew.cell? ⟨b2, o2 + k * 2 + 1, none⟩ = some (sv a2) := cellAt hq1 hHeld (by omega)
                  replace HRa := Lib.hid (HRa.out.at hHeld)
                  replace HB := Lib.hid (HB.out.trans (hHeld.mono HB.out.size))
                  replace n2 : (wo.heap.size + 1) < wr.drew.heap.size := ltAt n2 hHeld
                  replace hB2 : b2 < wr.drew.heap.size := ltAt hB2 hHeld
                  go_wp2_with fail
                  go_roundw
                  case rel =>
                    refine ⟨k + 1, by omega, by go_num, fun q hq => ?_, lift hbq hHeld⟩
                    rw [List.take_succ_eq_append_getElem hlt2, List.mem_append, List.mem_singleton] at hq
                    rcases hq with h | h
                    · exact hall q h
                    · rw [h, Hq.out, ltP_mk]; simp [l1, l2, l3]
                  case measure => simp [intOf]; omega
            · skip
              try go_wp2_with fail
              refine wp_region_held_drew (S := fun w' => Below wr.heap.size wr w') (by kernel_rfl) (Below.drew (Below.refl _ _)) (fun hHeld => ?_)
              refine take_yield (i := 0) (v := ?_) rfl (by kernel_rfl) (by kernel_rfl) (by kernel_rfl) (fun _ _ _ h => h) (by rfl) ?_ hHeld ?_
              rotate_left 1
              · (intro w' hSw; clear hSw; go_simp; try with_reducible rfl)
              (try simp only [Act.put, List.setIfInBounds_toArray, List.set_cons_zero, List.set_cons_succ])
              refine take_yield (i := 1) (v := ?_) rfl (by kernel_rfl) (by kernel_rfl) (by kernel_rfl) (fun _ _ _ h => h) (by rfl) ?_ hHeld ?_
              rotate_left 1
              · (intro w' hSw; clear hSw; go_simp; try with_reducible rfl)
              (try simp only [Act.put, List.setIfInBounds_toArray, List.set_cons_zero, List.set_cons_succ])
              refine take_yield (i := 2) (v := ?_) rfl (by kernel_rfl) (by kernel_rfl) (by kernel_rfl) (fun _ _ _ h => h) (by rfl) ?_ hHeld ?_
              rotate_left 1
              · (intro w' hSw; clear hSw; go_simp; try with_reducible rfl)
              (try simp only [Act.put, List.setIfInBounds_toArray, List.set_cons_zero, List.set_cons_succ])
              refine take_yield (i := 3) (v := ?_) rfl (by kernel_rfl) (by kernel_rfl) (by kernel_rfl) (fun _ _ _ h => h) (by rfl) ?_ hHeld ?_
              rotate_left 1
              · (intro w' hSw; clear hSw; go_simp; try with_reducible rfl)
              (try simp only [Act.put, List.setIfInBounds_toArray, List.set_cons_zero, List.set_cons_succ])
              refine take_yield (i := 4) (v := ?_) rfl (by kernel_rfl) (by kernel_rfl) (by kernel_rfl) (fun _ _ _ h => h) (by rfl) ?_ hHeld ?_
              rotate_left 1
              · (intro w' hSw; clear hSw; go_simp; try with_reducible rfl)
              (try simp only [Act.put, List.setIfInBounds_toArray, List.set_cons_zero, List.set_cons_succ])
              refine take_yield (i := 5) (v := ?_) rfl (by kernel_rfl) (by kernel_rfl) (by kernel_rfl) (fun _ _ _ h => h) (by rfl) ?_ hHeld ?_
              rotate_left 1
              · (intro w' hSw; clear hSw; go_simp; try with_reducible rfl)
              (try simp only [Act.put, List.setIfInBounds_toArray, List.set_cons_zero, List.set_cons_succ])
              refine take_yield (i := 6) (v := ?_) rfl (by kernel_rfl) (by kernel_rfl) (by kernel_rfl) (fun _ _ _ h => h) (by rfl) ?_ hHeld ?_
              rotate_left 1
              · (intro w' hSw; clear hSw; go_simp; try with_reducible rfl)
              (try simp only [Act.put, List.setIfInBounds_toArray, List.set_cons_zero, List.set_cons_succ])
              refine take_yield (i := 7) (v := ?_) rfl (by kernel_rfl) (by kernel_rfl) (by kernel_rfl) (fun _ _ _ h => h) (by rfl) ?_ hHeld ?_
              rotate_left 1
              · (intro w' hSw; clear hSw; go_simp; try with_reducible rfl)
              (try simp only [Act.put, List.setIfInBounds_toArray, List.set_cons_zero, List.set_cons_succ])
              refine take_yield (i := 8) (v := ?_) rfl (by kernel_rfl) (by kernel_rfl) (by kernel_rfl) (fun _ _ _ h => h) (by rfl) ?_ hHeld ?_
              rotate_left 1
              · (intro w' hSw; clear hSw; go_simp; try with_reducible rfl)
              (try simp only [Act.put, List.setIfInBounds_toArray, List.set_cons_zero, List.set_cons_succ])
              refine take_yield (i := 9) (v := ?_) rfl (by kernel_rfl) (by kernel_rfl) (by kernel_rfl) (fun _ _ _ h => h) (by rfl) ?_ hHeld ?_
              rotate_left 1
              · (intro w' hSw; have hCell := fun (b o : Nat) (h : b < wr.heap.size) => hSw.cell (p := ⟨b, o, none⟩) h; clear hSw; go_simp; try with_reducible rfl)
              (try simp only [Act.put, List.setIfInBounds_toArray, List.set_cons_zero, List.set_cons_succ])
              refine take_yield (i := 10) (v := ?_) rfl (by kernel_rfl) (by kernel_rfl) (by kernel_rfl) (fun _ _ _ h => h) (by rfl) ?_ hHeld ?_
              rotate_left 1
              · (intro w' hSw; clear hSw; go_simp; try with_reducible rfl)
              (try simp only [Act.put, List.setIfInBounds_toArray, List.set_cons_zero, List.set_cons_succ])
              refine take_yield (i := 11) (v := ?_) rfl (by kernel_rfl) (by kernel_rfl) (by kernel_rfl) (fun _ _ _ h => h) (by rfl) ?_ hHeld ?_
              rotate_left 1
              · (intro w' hSw; have hCell := fun (b o : Nat) (h : b < wr.heap.size) => hSw.cell (p := ⟨b, o, none⟩) h; clear hSw; go_simp; try with_reducible rfl)
              (try simp only [Act.put, List.setIfInBounds_toArray, List.set_cons_zero, List.set_cons_succ])
              refine take_yield (i := 12) (v := ?_) rfl (by kernel_rfl) (by kernel_rfl) (by kernel_rfl) (fun _ _ _ h => h) (by rfl) ?_ hHeld ?_
              rotate_left 1
              · (intro w' hSw; clear hSw; go_simp; try with_reducible rfl)
              (try simp only [Act.put, List.setIfInBounds_toArray, List.set_cons_zero, List.set_cons_succ])
              refine take_yield (i := 13) (v := ?_) rfl (by kernel_rfl) (by kernel_rfl) (by kernel_rfl) (fun _ _ _ h => h) (by rfl) ?_ hHeld ?_
              rotate_left 1
              · (intro w' hSw; clear hSw; go_simp; try with_reducible rfl)
              (try simp only [Act.put, List.setIfInBounds_toArray, List.set_cons_zero, List.set_cons_succ])
              refine take_skip (i := 14) rfl (by kernel_rfl) (by kernel_rfl) (by kernel_rfl) (fun _ _ _ h => h) (by rfl) hHeld ?_
              (try simp only [Act.put, List.setIfInBounds_toArray, List.set_cons_zero, List.set_cons_succ])
              refine take_skip (i := 15) rfl (by kernel_rfl) (by kernel_rfl) (by kernel_rfl) (fun _ _ _ h => h) (by rfl) hHeld ?_
              (try simp only [Act.put, List.setIfInBounds_toArray, List.set_cons_zero, List.set_cons_succ])
              refine take_skip (i := 16) rfl (by kernel_rfl) (by kernel_rfl) (by kernel_rfl) (fun _ _ _ h => h) (by rfl) hHeld ?_
              (try simp only [Act.put, List.setIfInBounds_toArray, List.set_cons_zero, List.set_cons_succ])
              refine take_skip (i := 17) rfl (by kernel_rfl) (by kernel_rfl) (by kernel_rfl) (fun _ _ _ h => h) (by rfl) hHeld ?_
              (try simp only [Act.put, List.setIfInBounds_toArray, List.set_cons_zero, List.set_cons_succ])
              refine take_skip (i := 18) rfl (by kernel_rfl) (by kernel_rfl) (by kernel_rfl) (fun _ _ _ h => h) (by rfl) hHeld ?_
              (try simp only [Act.put, List.setIfInBounds_toArray, List.set_cons_zero, List.set_cons_succ])
              refine take_skip (i := 19) rfl (by kernel_rfl) (by kernel_rfl) (by kernel_rfl) (fun _ _ _ h => h) (by rfl) hHeld ?_
              (try simp only [Act.put, List.setIfInBounds_toArray, List.set_cons_zero, List.set_cons_succ])
              refine take_skip (i := 20) rfl (by kernel_rfl) (by kernel_rfl) (by kernel_rfl) (fun _ _ _ h => h) (by rfl) hHeld ?_
              (try simp only [Act.put, List.setIfInBounds_toArray, List.set_cons_zero, List.set_cons_succ])
              refine take_skip (i := 21) rfl (by kernel_rfl) (by kernel_rfl) (by kernel_rfl) (fun _ _ _ h => h) (by rfl) hHeld ?_
              (try simp only [Act.put, List.setIfInBounds_toArray, List.set_cons_zero, List.set_cons_succ])
              refine take_skip (i := 22) rfl (by kernel_rfl) (by kernel_rfl) (by kernel_rfl) (fun _ _ _ h => h) (by rfl) hHeld ?_
              (try simp only [Act.put, List.setIfInBounds_toArray, List.set_cons_zero, List.set_cons_succ])
              refine take_skip (i := 23) rfl (by kernel_rfl) (by kernel_rfl) (by kernel_rfl) (fun _ _ _ h => h) (by rfl) hHeld ?_
              (try simp only [Act.put, List.setIfInBounds_toArray, List.set_cons_zero, List.set_cons_succ])
              refine take_skip (i := 24) rfl (by kernel_rfl) (by kernel_rfl) (by kernel_rfl) (fun _ _ _ h => h) (by rfl) hHeld ?_
              (try simp only [Act.put, List.setIfInBounds_toArray, List.set_cons_zero, List.set_cons_succ])
              refine take_skip (i := 25) rfl (by kernel_rfl) (by kernel_rfl) (by kernel_rfl) (fun _ _ _ h => h) (by rfl) hHeld ?_
              (try simp only [Act.put, List.setIfInBounds_toArray, List.set_cons_zero, List.set_cons_succ])
              refine take_skip (i := 26) rfl (by kernel_rfl) (by kernel_rfl) (by kernel_rfl) (fun _ _ _ h => h) (by rfl) hHeld ?_
              (try simp only [Act.put, List.setIfInBounds_toArray, List.set_cons_zero, List.set_cons_succ])
              refine take_skip (i := 27) rfl (by kernel_rfl) (by kernel_rfl) (by kernel_rfl) (fun _ _ _ h => h) (by rfl) hHeld ?_
              (try simp only [Act.put, List.setIfInBounds_toArray, List.set_cons_zero, List.set_cons_succ])
              refine take_skip (i := 28) rfl (by kernel_rfl) (by kernel_rfl) (by kernel_rfl) (fun _ _ _ h => h) (by rfl) hHeld ?_
              (try simp only [Act.put, List.setIfInBounds_toArray, List.set_cons_zero, List.set_cons_succ])
              refine take_skip (i := 29) rfl (by kernel_rfl) (by kernel_rfl) (by kernel_rfl) (fun _ _ _ h => h) (by rfl) hHeld ?_
              (try simp only [Act.put, List.setIfInBounds_toArray, List.set_cons_zero, List.set_cons_succ])
              refine take_skip (i := 30) rfl (by kernel_rfl) (by kernel_rfl) (by kernel_rfl) (fun _ _ _ h => h) (by rfl) hHeld ?_
              (try simp only [Act.put, List.setIfInBounds_toArray, List.set_cons_zero, List.set_cons_succ])
              refine take_skip (i := 31) rfl (by kernel_rfl) (by kernel_rfl) (by kernel_rfl) (fun _ _ _ h => h) (by rfl) hHeld ?_
              (try simp only [Act.put, List.setIfInBounds_toArray, List.set_cons_zero, List.set_cons_succ])
              refine take_yield (i := 32) (v := ?_) rfl (by kernel_rfl) (by kernel_rfl) (by kernel_rfl) (fun _ _ _ h => h) (by rfl) ?_ hHeld ?_
              rotate_left 1
              · (intro w' hSw; clear hSw; go_simp; try with_reducible rfl)
              (try simp only [Act.put, List.setIfInBounds_toArray, List.set_cons_zero, List.set_cons_succ])
              refine take_yield (i := 33) (v := ?_) rfl (by kernel_rfl) (by kernel_rfl) (by kernel_rfl) (fun _ _ _ h => h) (by rfl) ?_ hHeld ?_
              rotate_left 1
              · (intro w' hSw; clear hSw; go_simp; try with_reducible rfl)
              (try simp only [Act.put, List.setIfInBounds_toArray, List.set_cons_zero, List.set_cons_succ])
              refine wpAnyH_done (by kernel_rfl) ?_ _
              replace cp0 : wr.drew.cell? ⟨wo.heap.size + 1, 0, none⟩ = some (sv d) := cellAt cp0 hHeld (by omega)
              replace cp1 : wr.drew.cell? ⟨wo.heap.size + 1, 1, none⟩ = some (sv s) := cellAt cp1 hHeld (by omega)
              replace hq0 : wr.drew.cell? ⟨b2, o2 + k * 2, none⟩ = some (sv a1) := cellAt hq0 hHeld (by omega)
              replace hq1 : wr.drew.cell? ⟨b2, o2 + k * 2 + 1, none⟩ = some (sv a2) := cellAt hq1 hHeld (by omega)
              replace HRa := Lib.hid (HRa.out.at hHeld)
              replace HB := Lib.hid (HB.out.trans (hHeld.mono HB.out.size))
              replace n2 : (wo.heap.size + 1) < wr.drew.heap.size := ltAt n2 hHeld
              replace hB2 : b2 < wr.drew.heap.size := ltAt hB2 hHeld
              go_wp2_with fail
              go_roundw
              case rel =>
                refine ⟨k + 1, by omega, by go_num, fun q hq => ?_, lift hbq hHeld⟩
                rw [List.take_succ_eq_append_getElem hlt2, List.mem_append, List.mem_singleton] at hq
                rcases hq with h | h
                · exact hall q h
                · rw [h, Hq.out, ltP_mk]; simp [l1]
              case measure => simp [intOf]; omega
          · have hge : ∀ h : k < acc.length, ltP acc[k] (d, s) = false := fun h => absurd h hlt2
            have hne : ¬ acc[k]? = some (d, s) := by rw [List.getElem?_eq_none (by omega)]; simp
            have Hge := Lib.hid (And.intro hge hne)
            clear hge hne
            try go_wp2_with fail
            refine wp_region_held_drew (S := fun w' => Below wr.heap.size wr w') (by kernel_rfl) (Below.drew (Below.refl _ _)) (fun hHeld => ?_)
            refine take_yield (i := 0) (v := ?_) rfl (by kernel_rfl) (by kernel_rfl) (by kernel_rfl) (fun _ _ _ h => h) (by rfl) ?_ hHeld ?_
            rotate_left 1
            · (intro w' hSw; clear hSw; go_simp; try with_reducible rfl)
            (try simp only [Act.put, List.setIfInBounds_toArray, List.set_cons_zero, List.set_cons_succ])
            refine take_yield (i := 1) (v := ?_) rfl (by kernel_rfl) (by kernel_rfl) (by kernel_rfl) (fun _ _ _ h => h) (by rfl) ?_ hHeld ?_
            rotate_left 1
            · (intro w' hSw; clear hSw; go_simp; try with_reducible rfl)
            (try simp only [Act.put, List.setIfInBounds_toArray, List.set_cons_zero, List.set_cons_succ])
            refine take_yield (i := 2) (v := ?_) rfl (by kernel_rfl) (by kernel_rfl) (by kernel_rfl) (fun _ _ _ h => h) (by rfl) ?_ hHeld ?_
            rotate_left 1
            · (intro w' hSw; clear hSw; go_simp; try with_reducible rfl)
            (try simp only [Act.put, List.setIfInBounds_toArray, List.set_cons_zero, List.set_cons_succ])
            refine take_yield (i := 3) (v := ?_) rfl (by kernel_rfl) (by kernel_rfl) (by kernel_rfl) (fun _ _ _ h => h) (by rfl) ?_ hHeld ?_
            rotate_left 1
            · (intro w' hSw; clear hSw; go_simp; try with_reducible rfl)
            (try simp only [Act.put, List.setIfInBounds_toArray, List.set_cons_zero, List.set_cons_succ])
            refine take_yield (i := 4) (v := ?_) rfl (by kernel_rfl) (by kernel_rfl) (by kernel_rfl) (fun _ _ _ h => h) (by rfl) ?_ hHeld ?_
            rotate_left 1
            · (intro w' hSw; clear hSw; go_simp; try with_reducible rfl)
            (try simp only [Act.put, List.setIfInBounds_toArray, List.set_cons_zero, List.set_cons_succ])
            refine take_skip (i := 5) rfl (by kernel_rfl) (by kernel_rfl) (by kernel_rfl) (fun _ _ _ h => h) (by rfl) hHeld ?_
            (try simp only [Act.put, List.setIfInBounds_toArray, List.set_cons_zero, List.set_cons_succ])
            refine take_skip (i := 6) rfl (by kernel_rfl) (by kernel_rfl) (by kernel_rfl) (fun _ _ _ h => h) (by rfl) hHeld ?_
            (try simp only [Act.put, List.setIfInBounds_toArray, List.set_cons_zero, List.set_cons_succ])
            refine take_skip (i := 7) rfl (by kernel_rfl) (by kernel_rfl) (by kernel_rfl) (fun _ _ _ h => h) (by rfl) hHeld ?_
            (try simp only [Act.put, List.setIfInBounds_toArray, List.set_cons_zero, List.set_cons_succ])
            refine take_skip (i := 8) rfl (by kernel_rfl) (by kernel_rfl) (by kernel_rfl) (fun _ _ _ h => h) (by rfl) hHeld ?_
            (try simp only [Act.put, List.setIfInBounds_toArray, List.set_cons_zero, List.set_cons_succ])
            refine take_skip (i := 9) rfl (by kernel_rfl) (by kernel_rfl) (by kernel_rfl) (fun _ _ _ h => h) (by rfl) hHeld ?_
            (try simp only [Act.put, List.setIfInBounds_toArray, List.set_cons_zero, List.set_cons_succ])
            refine take_skip (i := 10) rfl (by kernel_rfl) (by kernel_rfl) (by kernel_rfl) (fun _ _ _ h => h) (by rfl) hHeld ?_
            (try simp only [Act.put, List.setIfInBounds_toArray, List.set_cons_zero, List.set_cons_succ])
            refine take_skip (i := 11) rfl (by kernel_rfl) (by kernel_rfl) (by kernel_rfl) (fun _ _ _ h => h) (by rfl) hHeld ?_
            (try simp only [Act.put, List.setIfInBounds_toArray, List.set_cons_zero, List.set_cons_succ])
            refine take_skip (i := 12) rfl (by kernel_rfl) (by kernel_rfl) (by kernel_rfl) (fun _ _ _ h => h) (by rfl) hHeld ?_
            (try simp only [Act.put, List.setIfInBounds_toArray, List.set_cons_zero, List.set_cons_succ])
            refine take_skip (i := 13) rfl (by kernel_rfl) (by kernel_rfl) (by kernel_rfl) (fun _ _ _ h => h) (by rfl) hHeld ?_
            (try simp only [Act.put, List.setIfInBounds_toArray, List.set_cons_zero, List.set_cons_succ])
            refine take_skip (i := 14) rfl (by kernel_rfl) (by kernel_rfl) (by kernel_rfl) (fun _ _ _ h => h) (by rfl) hHeld ?_
            (try simp only [Act.put, List.setIfInBounds_toArray, List.set_cons_zero, List.set_cons_succ])
            refine take_skip (i := 15) rfl (by kernel_rfl) (by kernel_rfl) (by kernel_rfl) (fun _ _ _ h => h) (by rfl) hHeld ?_
            (try simp only [Act.put, List.setIfInBounds_toArray, List.set_cons_zero, List.set_cons_succ])
            refine take_skip (i := 16) rfl (by kernel_rfl) (by kernel_rfl) (by kernel_rfl) (fun _ _ _ h => h) (by rfl) hHeld ?_
            (try simp only [Act.put, List.setIfInBounds_toArray, List.set_cons_zero, List.set_cons_succ])
            refine take_skip (i := 17) rfl (by kernel_rfl) (by kernel_rfl) (by kernel_rfl) (fun _ _ _ h => h) (by rfl) hHeld ?_
            (try simp only [Act.put, List.setIfInBounds_toArray, List.set_cons_zero, List.set_cons_succ])
            refine take_skip (i := 18) rfl (by kernel_rfl) (by kernel_rfl) (by kernel_rfl) (fun _ _ _ h => h) (by rfl) hHeld ?_
            (try simp only [Act.put, List.setIfInBounds_toArray, List.set_cons_zero, List.set_cons_succ])
            refine take_skip (i := 19) rfl (by kernel_rfl) (by kernel_rfl) (by kernel_rfl) (fun _ _ _ h => h) (by rfl) hHeld ?_
            (try simp only [Act.put, List.setIfInBounds_toArray, List.set_cons_zero, List.set_cons_succ])
            refine take_skip (i := 20) rfl (by kernel_rfl) (by kernel_rfl) (by kernel_rfl) (fun _ _ _ h => h) (by rfl) hHeld ?_
            (try simp only [Act.put, List.setIfInBounds_toArray, List.set_cons_zero, List.set_cons_succ])
            refine take_skip (i := 21) rfl (by kernel_rfl) (by kernel_rfl) (by kernel_rfl) (fun _ _ _ h => h) (by rfl) hHeld ?_
            (try simp only [Act.put, List.setIfInBounds_toArray, List.set_cons_zero, List.set_cons_succ])
            refine take_skip (i := 22) rfl (by kernel_rfl) (by kernel_rfl) (by kernel_rfl) (fun _ _ _ h => h) (by rfl) hHeld ?_
            (try simp only [Act.put, List.setIfInBounds_toArray, List.set_cons_zero, List.set_cons_succ])
            refine take_skip (i := 23) rfl (by kernel_rfl) (by kernel_rfl) (by kernel_rfl) (fun _ _ _ h => h) (by rfl) hHeld ?_
            (try simp only [Act.put, List.setIfInBounds_toArray, List.set_cons_zero, List.set_cons_succ])
            refine take_skip (i := 24) rfl (by kernel_rfl) (by kernel_rfl) (by kernel_rfl) (fun _ _ _ h => h) (by rfl) hHeld ?_
            (try simp only [Act.put, List.setIfInBounds_toArray, List.set_cons_zero, List.set_cons_succ])
            refine take_skip (i := 25) rfl (by kernel_rfl) (by kernel_rfl) (by kernel_rfl) (fun _ _ _ h => h) (by rfl) hHeld ?_
            (try simp only [Act.put, List.setIfInBounds_toArray, List.set_cons_zero, List.set_cons_succ])
            refine take_skip (i := 26) rfl (by kernel_rfl) (by kernel_rfl) (by kernel_rfl) (fun _ _ _ h => h) (by rfl) hHeld ?_
            (try simp only [Act.put, List.setIfInBounds_toArray, List.set_cons_zero, List.set_cons_succ])
            refine take_skip (i := 27) rfl (by kernel_rfl) (by kernel_rfl) (by kernel_rfl) (fun _ _ _ h => h) (by rfl) hHeld ?_
            (try simp only [Act.put, List.setIfInBounds_toArray, List.set_cons_zero, List.set_cons_succ])
            refine take_skip (i := 28) rfl (by kernel_rfl) (by kernel_rfl) (by kernel_rfl) (fun _ _ _ h => h) (by rfl) hHeld ?_
            (try simp only [Act.put, List.setIfInBounds_toArray, List.set_cons_zero, List.set_cons_succ])
            refine take_skip (i := 29) rfl (by kernel_rfl) (by kernel_rfl) (by kernel_rfl) (fun _ _ _ h => h) (by rfl) hHeld ?_
            (try simp only [Act.put, List.setIfInBounds_toArray, List.set_cons_zero, List.set_cons_succ])
            refine take_skip (i := 30) rfl (by kernel_rfl) (by kernel_rfl) (by kernel_rfl) (fun _ _ _ h => h) (by rfl) hHeld ?_
            (try simp only [Act.put, List.setIfInBounds_toArray, List.set_cons_zero, List.set_cons_succ])
            refine take_skip (i := 31) rfl (by kernel_rfl) (by kernel_rfl) (by kernel_rfl) (fun _ _ _ h => h) (by rfl) hHeld ?_
            (try simp only [Act.put, List.setIfInBounds_toArray, List.set_cons_zero, List.set_cons_succ])
            refine take_skip (i := 32) rfl (by kernel_rfl) (by kernel_rfl) (by kernel_rfl) (fun _ _ _ h => h) (by rfl) hHeld ?_
            (try simp only [Act.put, List.setIfInBounds_toArray, List.set_cons_zero, List.set_cons_succ])
            refine take_yield (i := 33) (v := ?_) rfl (by kernel_rfl) (by kernel_rfl) (by kernel_rfl) (fun _ _ _ h => h) (by rfl) ?_ hHeld ?_
            rotate_left 1
            · (intro w' hSw; clear hSw; go_simp; try with_reducible rfl)
            (try simp only [Act.put, List.setIfInBounds_toArray, List.set_cons_zero, List.set_cons_succ])
            refine wpAnyH_done (by kernel_rfl) ?_ _
            replace cp0 : wr.drew.cell? ⟨wo.heap.size + 1, 0, none⟩ = some (sv d) := cellAt cp0 hHeld (by omega)
            replace cp1 : wr.drew.cell? ⟨wo.heap.size + 1, 1, none⟩ = some (sv s) := cellAt cp1 hHeld (by omega)
            replace HRa := Lib.hid (HRa.out.at hHeld)
            replace HB := Lib.hid (HB.out.trans (hHeld.mono HB.out.size))
            replace n2 : (wo.heap.size + 1) < wr.drew.heap.size := ltAt n2 hHeld
            go_wp2_with fail
            first | (refine wp_named ?_; intro W3 hW) | (refine calls_named ?_; intro W3 hW)
            have B3 : Below wr.drew.heap.size wr.drew W3 := by rw [hW]; exact (by repeat (first | exact Below.refl _ _ | assumption | refine Below.alloc ?_ (by simp <;> omega) _ | refine Below.setCell ?_ (by simp <;> omega) _ | refine Below.drew ?_))
            replace cp0 : W3.cell? ⟨wo.heap.size + 1, 0, none⟩ = some (sv d) := cellAt cp0 B3 (by omega)
            replace cp1 : W3.cell? ⟨wo.heap.size + 1, 1, none⟩ = some (sv s) := cellAt cp1 B3 (by omega)
            replace HRa := Lib.hid (HRa.out.at B3)
            replace HB := Lib.hid (HB.out.trans (B3.mono HB.out.size))
            replace n2 : (wo.heap.size + 1) < W3.heap.size := ltAt n2 B3
            clear hW
            clear B3
            try go_wp2_with fail
            refine wp_region_held_drew (S := fun w' => Below W3.heap.size W3 w') (by kernel_rfl) (Below.drew (Below.refl _ _)) (fun hHeld => ?_)
            refine take_yield (i := 0) (v := ?_) rfl (by kernel_rfl) (by kernel_rfl) (by kernel_rfl) (fun _ _ _ h => h) (by rfl) ?_ hHeld ?_
            rotate_left 1
            · (intro w' hSw; clear hSw; go_simp; try with_reducible rfl)
            (try simp only [Act.put, List.setIfInBounds_toArray, List.set_cons_zero, List.set_cons_succ])
            refine take_yield (i := 1) (v := ?_) rfl (by kernel_rfl) (by kernel_rfl) (by kernel_rfl) (fun _ _ _ h => h) (by rfl) ?_ hHeld ?_
            rotate_left 1
            · (intro w' hSw; clear hSw; go_simp; try with_reducible rfl)
            (try simp only [Act.put, List.setIfInBounds_toArray, List.set_cons_zero, List.set_cons_succ])
            refine take_yield (i := 2) (v := ?_) rfl (by kernel_rfl) (by kernel_rfl) (by kernel_rfl) (fun _ _ _ h => h) (by rfl) ?_ hHeld ?_
            rotate_left 1
            · (intro w' hSw; clear hSw; go_simp; try with_reducible rfl)
            (try simp only [Act.put, List.setIfInBounds_toArray, List.set_cons_zero, List.set_cons_succ])
            refine take_yield (i := 3) (v := ?_) rfl (by kernel_rfl) (by kernel_rfl) (by kernel_rfl) (fun _ _ _ h => h) (by rfl) ?_ hHeld ?_
            rotate_left 1
            · (intro w' hSw; clear hSw; go_simp; try with_reducible rfl)
            (try simp only [Act.put, List.setIfInBounds_toArray, List.set_cons_zero, List.set_cons_succ])
            refine take_yield (i := 4) (v := ?_) rfl (by kernel_rfl) (by kernel_rfl) (by kernel_rfl) (fun _ _ _ h => h) (by rfl) ?_ hHeld ?_
            rotate_left 1
            · (intro w' hSw; clear hSw; go_simp; try with_reducible rfl)
            (try simp only [Act.put, List.setIfInBounds_toArray, List.set_cons_zero, List.set_cons_succ])
            refine take_skip (i := 5) rfl (by kernel_rfl) (by kernel_rfl) (by kernel_rfl) (fun _ _ _ h => h) (by rfl) hHeld ?_
            (try simp only [Act.put, List.setIfInBounds_toArray, List.set_cons_zero, List.set_cons_succ])
            refine take_skip (i := 6) rfl (by kernel_rfl) (by kernel_rfl) (by kernel_rfl) (fun _ _ _ h => h) (by rfl) hHeld ?_
            (try simp only [Act.put, List.setIfInBounds_toArray, List.set_cons_zero, List.set_cons_succ])
            refine take_skip (i := 7) rfl (by kernel_rfl) (by kernel_rfl) (by kernel_rfl) (fun _ _ _ h => h) (by rfl) hHeld ?_
            (try simp only [Act.put, List.setIfInBounds_toArray, List.set_cons_zero, List.set_cons_succ])
            refine take_skip (i := 8) rfl (by kernel_rfl) (by kernel_rfl) (by kernel_rfl) (fun _ _ _ h => h) (by rfl) hHeld ?_
            (try simp only [Act.put, List.setIfInBounds_toArray, List.set_cons_zero, List.set_cons_succ])
            refine take_skip (i := 9) rfl (by kernel_rfl) (by kernel_rfl) (by kernel_rfl) (fun _ _ _ h => h) (by rfl) hHeld ?_
            (try simp only [Act.put, List.setIfInBounds_toArray, List.set_cons_zero, List.set_cons_succ])
            refine take_skip (i := 10) rfl (by kernel_rfl) (by kernel_rfl) (by kernel_rfl) (fun _ _ _ h => h) (by rfl) hHeld ?_
            (try simp only [Act.put, List.setIfInBounds_toArray, List.set_cons_zero, List.set_cons_succ])
            refine take_yield (i := 11) (v := ?_) rfl (by kernel_rfl) (by kernel_rfl) (by kernel_rfl) (fun _ _ _ h => h) (by rfl) ?_ hHeld ?_
            rotate_left 1
            · (intro w' hSw; clear hSw; go_simp; try with_reducible rfl)
            (try simp only [Act.put, List.setIfInBounds_toArray, List.set_cons_zero, List.set_cons_succ])
            refine wpAnyH_done (by kernel_rfl) ?_ _
            replace cp0 : W3.drew.cell? ⟨wo.heap.size + 1, 0, none⟩ = some (sv d) := cellAt cp0 hHeld (by omega)
            replace cp1 : W3.drew.cell? ⟨wo.heap.size + 1, 1, none⟩ = some (sv s) := cellAt cp1 hHeld (by omega)
            replace HRa := Lib.hid (HRa.out.at hHeld)
            replace HB := Lib.hid (HB.out.trans (hHeld.mono HB.out.size))
            replace n2 : (wo.heap.size + 1) < W3.drew.heap.size := ltAt n2 hHeld
            go_wp2_with fail
            obtain ⟨hge, hne⟩ := Hge.out
            have hins : insL ltP (d, s) acc = acc.take k ++ (d, s) :: acc.drop k := by rw [insL_cut acc k hk hall hge, if_neg hne]
            have HI := Lib.hid hins
            first | (refine wp_named ?_; intro W4 hW) | (refine calls_named ?_; intro W4 hW)
            have B4 : Below W3.drew.heap.size W3.drew W4 := by rw [hW]; exact (by repeat (first | exact Below.refl _ _ | assumption | refine Below.alloc ?_ (by simp <;> omega) _ | refine Below.setCell ?_ (by simp <;> omega) _ | refine Below.drew ?_))
            replace cp0 : W4.cell? ⟨wo.heap.size + 1, 0, none⟩ = some (sv d) := cellAt cp0 B4 (by omega)
            replace cp1 : W4.cell? ⟨wo.heap.size + 1, 1, none⟩ = some (sv s) := cellAt cp1 B4 (by omega)
            replace HRa := Lib.hid (HRa.out.at B4)
            replace HB := Lib.hid (HB.out.trans (B4.mono HB.out.size))
            replace n2 : (wo.heap.size + 1) < W4.heap.size := ltAt n2 B4
            clear hW
            clear B4 hins hge hne
            have hz4 := Nat.le_trans HB1.out.size HB.out.size
            have HR1 := Lib.hid (HRa.out.takeA hk)
            have HR2 := Lib.hid (HRa.out.dropA hk hc)
            have hs1 := run_slice_full (P := Tryz.prog) Tryz.underlying59 hi A acc.length c k (Nat.le_trans hk hc)
            have hs2 := run_slice_tail (P := Tryz.prog) Tryz.underlying59 hi A acc.length c k hk
            rw [hz1] at hs1 hs2
            have HLk := Lib.hid (show (acc.drop k).length = acc.length - k from List.length_drop)
            try go_wp2_with fail
            refine wp_region_held_drew (S := fun w' => Below W4.heap.size W4 w') (by kernel_rfl) (Below.drew (Below.refl _ _)) (fun hHeld => ?_)
            refine take_yield (i := 0) (v := ?_) rfl (by kernel_rfl) (by kernel_rfl) (by kernel_rfl) (fun _ _ _ h => h) (by rfl) ?_ hHeld ?_
            rotate_left 1
            · (intro w' hSw; clear hSw; go_simp; try with_reducible rfl)
            (try simp only [Act.put, List.setIfInBounds_toArray, List.set_cons_zero, List.set_cons_succ])
            refine take_yield (i := 1) (v := ?_) rfl (by kernel_rfl) (by kernel_rfl) (by kernel_rfl) (fun _ _ _ h => h) (by rfl) ?_ hHeld ?_
            rotate_left 1
            · (intro w' hSw; clear hSw; go_simp; try with_reducible rfl)
            (try simp only [Act.put, List.setIfInBounds_toArray, List.set_cons_zero, List.set_cons_succ])
            refine take_yield (i := 2) (v := ?_) rfl (by kernel_rfl) (by kernel_rfl) (by kernel_rfl) (fun _ _ _ h => h) (by rfl) ?_ hHeld ?_
            rotate_left 1
            · (intro w' hSw; clear hSw; go_simp; try with_reducible rfl)
            (try simp only [Act.put, List.setIfInBounds_toArray, List.set_cons_zero, List.set_cons_succ])
            refine take_yield (i := 3) (v := ?_) rfl (by kernel_rfl) (by kernel_rfl) (by kernel_rfl) (fun _ _ _ h => h) (by rfl) ?_ hHeld ?_
            rotate_left 1
            · (intro w' hSw; clear hSw; go_simp; try with_reducible rfl)
            (try simp only [Act.put, List.setIfInBounds_toArray, List.set_cons_zero, List.set_cons_succ])
            refine take_yield (i := 4) (v := ?_) rfl (by kernel_rfl) (by kernel_rfl) (by kernel_rfl) (fun _ _ _ h => h) (by rfl) ?_ hHeld ?_
            rotate_left 1
            · (intro w' hSw; have hCell := fun (b o : Nat) (h : b < W4.heap.size) => hSw.cell (p := ⟨b, o, none⟩) h; clear hSw; go_simp; try with_reducible rfl)
            (try simp only [Act.put, List.setIfInBounds_toArray, List.set_cons_zero, List.set_cons_succ])
            refine take_yield (i := 6) (v := ?_) rfl (by kernel_rfl) (by kernel_rfl) (by kernel_rfl) (fun _ _ _ h => h) (by rfl) ?_ hHeld ?_
            rotate_left 1
            · (intro w' hSw; clear hSw; go_simp; try with_reducible rfl)
            (try simp only [Act.put, List.setIfInBounds_toArray, List.set_cons_zero, List.set_cons_succ])
            refine take_yield (i := 7) (v := ?_) rfl (by kernel_rfl) (by kernel_rfl) (by kernel_rfl) (fun _ _ _ h => h) (by rfl) ?_ hHeld ?_
            rotate_left 1
            · (intro w' hSw; clear hSw; go_simp; try with_reducible rfl)
            (try simp only [Act.put, List.setIfInBounds_toArray, List.set_cons_zero, List.set_cons_succ])
            refine take_yield (i := 8) (v := ?_) rfl (by kernel_rfl) (by kernel_rfl) (by kernel_rfl) (fun _ _ _ h => h) (by rfl) ?_ hHeld ?_
            rotate_left 1
            · (intro w' hSw; clear hSw; go_simp; try with_reducible rfl)
            (try simp only [Act.put, List.setIfInBounds_toArray, List.set_cons_zero, List.set_cons_succ])
            refine ready_one (i := 5) rfl (by kernel_rfl) (fun K hK => ?_)
            go_simp
            refine hK.out _ _ ?_ (fun hHeld2 => ?_)
            · (try dsimp only); first | exact hHeld | exact (by repeat (first | exact Below.refl _ _ | assumption | refine Below.alloc ?_ (by simp <;> omega) _ | refine Below.setCell ?_ (by simp <;> omega) _ | refine Below.drew ?_))
            clear hK K hHeld
            have hHeld := hHeld2
            clear hHeld2
            (try simp only [Act.put, List.setIfInBounds_toArray, List.set_cons_zero, List.set_cons_succ])
            refine ready_one (i := 9) rfl (by kernel_rfl) (fun K hK => ?_)
            refine step_append_full (by rfl) (.tmp 89) (.tmp 92) 59 (by rfl) 61 i0 _ 2 32 Tryz.underlying59 hi hz0 hz1 hz2 rfl _ (some ⟨W4.heap.size, 0, none⟩) 1 (prC (d, s)) (by rfl) (Rd.lit W4.drew (prC (d, s)) 61 2 1 rfl) (Nat.le_refl _) _ _ (acc.length - k) (c - k) _ (by rfl) (HR2.out.at' (Nat.le_refl _) hHeld) (one_drop (one_prsC acc) _) (by unfold maxLen; omega) (by omega) ?_
            intro A2 c2 v2 hc2 hr2 hb
            have HR3 := Lib.hid hr2
            clear hr2
            refine hK.out _ _ ?_ (fun hHeld2 => ?_)
            · (try dsimp only); first | exact Below.trans hHeld (Below.mono hb hHeld.size) | exact hHeld | exact Below.drew hHeld | exact (by repeat (first | exact Below.refl _ _ | assumption | refine Below.alloc ?_ (by simp <;> omega) _ | refine Below.setCell ?_ (by simp <;> omega) _ | refine Below.drew ?_))
            clear hK K hHeld
            have hHeld := hHeld2
            clear hHeld2
            (try simp only [Act.put, List.setIfInBounds_toArray, List.set_cons_zero, List.set_cons_succ])
            refine ready_one (i := 10) rfl (by kernel_rfl) (fun K hK => ?_)
            refine step_append_fresh (by rfl) (.tmp 87) (.tmp 93) 59 (by rfl) 61 i0 _ 2 32 Tryz.underlying59 hi hz0 hz1 hz2 rfl _ _ k _ (by rfl) (HR1.out.at' (Nat.le_refl _) hHeld) (Nat.le_refl _) _ A2 (1 + (acc.length - k)) c2 _ (by rfl) HR3.out (one_app (one_prC _) (one_drop (one_prsC acc) _)) (by unfold maxLen; omega) (by omega) ?_
            intro A3 c3 v3 hc3 hr3 hb hf3
            have hz5 := Nat.le_trans hz4 hHeld.size
            have HR4 := Lib.hid hr3
            clear hr3
            refine hK.out _ _ ?_ (fun hHeld2 => ?_)
            · (try dsimp only); first | exact Below.trans hHeld (Below.mono hb hHeld.size) | exact hHeld | exact Below.drew hHeld | exact (by repeat (first | exact Below.refl _ _ | assumption | refine Below.alloc ?_ (by simp <;> omega) _ | refine Below.setCell ?_ (by simp <;> omega) _ | refine Below.drew ?_))
            clear hK K hHeld
            have hHeld := hHeld2
            clear hHeld2
            (try simp only [Act.put, List.setIfInBounds_toArray, List.set_cons_zero, List.set_cons_succ])
            refine take_yield (i := 11) (v := ?_) rfl (by kernel_rfl) (by kernel_rfl) (by kernel_rfl) (fun _ _ _ h => h) (by rfl) ?_ hHeld ?_
            rotate_left 1
            · (intro w' hSw; clear hSw; go_simp; try with_reducible rfl)
            (try simp only [Act.put, List.setIfInBounds_toArray, List.set_cons_zero, List.set_cons_succ])
            refine wpAnyH_done (by kernel_rfl) ?_ _
            replace cp0 : v3.cell? ⟨wo.heap.size + 1, 0, none⟩ = some (sv d) := cellAt cp0 hHeld (by omega)
            replace cp1 : v3.cell? ⟨wo.heap.size + 1, 1, none⟩ = some (sv s) := cellAt cp1 hHeld (by omega)
            replace HRa := Lib.hid (HRa.out.at hHeld)
            replace HB := Lib.hid (HB.out.trans (hHeld.mono HB.out.size))
            replace n2 : (wo.heap.size + 1) < v3.heap.size := ltAt n2 hHeld
            clear hs1 hs2
            go_wp2_with fail
            go_roundw
            case rel =>
              have hlen : k + (1 + (acc.length - k)) = (accP es (j + 1)).length := by rw [HN.out, HI.out, List.length_append, List.length_cons, List.length_take, HLk.out]; omega
              refine ⟨j + 1, A3, c3, by omega, by go_num, by rw [hlen], by rw [← hlen]; exact hc3, ?_, fun _ ad e => Nat.le_trans hz5 (hf3 (by omega) ad e), HB.out⟩
              have h4 := HR4.out
              rw [hlen] at h4
              have hx : (prsC acc).take (k * 2) ++ (prC (d, s) ++ (prsC acc).drop (k * 2)) = prsC (accP es (j + 1)) := by rw [HN.out, HI.out, prsC_take, prsC_drop]; simp [prsC]
              rw [hx] at h4
              exact h4
            case measure => simp [intOf]; omega
      · by_cases h7 : r = 7
        · subst h7
          have hp : pairE es[j] = some (s, d) := by rw [Hx.out]; simp [pairE]
          have HN := Lib.hid (accP_some hlt hp)
          clear hp
          go_wp2_with fail
          first | (refine wp_named ?_; intro W2 hW) | (refine calls_named ?_; intro W2 hW)
          have B2 : Below wo.heap.size wo W2 := by rw [hW]; exact (by repeat (first | exact Below.refl _ _ | assumption | refine Below.alloc ?_ (by simp <;> omega) _ | refine Below.setCell ?_ (by simp <;> omega) _ | refine Below.drew ?_))
          replace HRa := Lib.hid (HRa.out.at B2)
          replace HB := Lib.hid (HB.out.trans (B2.mono HB.out.size))
          have n2 : (wo.heap.size + 1) < W2.heap.size := by rw [hW]; simp <;> omega
          have cp0 : W2.cell? ⟨wo.heap.size + 1, 0, none⟩ = some (sv s) := by rw [hW]; go_simp
          have cp1 : W2.cell? ⟨wo.heap.size + 1, 1, none⟩ = some (sv d) := by rw [hW]; go_simp
          clear hW
          clear B2
          generalize hacc : accP es j = acc at *
          have HAcc := Lib.hid hacc
          clear hacc
          have HSs := Lib.hid (show SS ltP acc by rw [← HAcc.out]; exact canon_ss toP _)
          go_loopw [7] (fun i wr => ∃ k : Nat, k ≤ acc.length ∧ i = .int .i64 k ∧ Hid (∀ q ∈ acc.take k, ltP q (s, d) = true) ∧ Below W2.heap.size W2 wr) (fun i _ => acc.length - (intOf i).toNat)
          case atStart => exact ⟨0, Nat.zero_le _, rfl, by simp [Hid], Below.refl _ _⟩
          case round =>
            obtain ⟨k, hk, rfl, hall, hbq⟩ := hrel
            replace cp0 : wr.cell? ⟨wo.heap.size + 1, 0, none⟩ = some (sv s) := cellAt cp0 hbq (by omega)
            replace cp1 : wr.cell? ⟨wo.heap.size + 1, 1, none⟩ = some (sv d) := cellAt cp1 hbq (by omega)
            replace HRa := Lib.hid (HRa.out.at hbq)
            replace HB := Lib.hid (HB.out.trans (hbq.mono HB.out.size))
            replace n2 : (wo.heap.size + 1) < wr.heap.size := ltAt n2 hbq
            by_cases hlt2 : k < acc.length
            · obtain ⟨b2, o2, hA, hB2, hq0, hq1⟩ := HRa.out.pair hlt2
              subst hA
              generalize hq : acc[k] = q at hq0 hq1
              obtain ⟨a1, a2⟩ := q
              have Hq := Lib.hid hq
              clear hq
              simp only at hq0 hq1
              cases l1 : Op.bytesLess a1 s
              · cases l2 : (a1 == s)
                · have hge : ∀ h : k < acc.length, ltP acc[k] (s, d) = false := fun _ => by rw [Hq.out, ltP_mk]; simp [l1, l2]
                  have hne : ¬ acc[k]? = some (s, d) := by rw [List.getElem?_eq_getElem hlt2, Hq.out]; intro e; injection e with e; injection e with e1 e2; rw [e1] at l2; simp at l2
                  have Hge := Lib.hid (And.intro hge hne)
                  clear hge hne
                  try go_wp2_with fail
                  refine wp_region_held_drew (S := fun w' => Below wr.heap.size wr w') (by kernel_rfl) (Below.drew (Below.refl _ _)) (fun hHeld => ?_)
                  refine take_yield (i := 0) (v := ?_) rfl (by kernel_rfl) (by kernel_rfl) (by kernel_rfl) (fun _ _ _ h => h) (by rfl) ?_ hHeld ?_
                  rotate_left 1
                  · (intro w' hSw; clear hSw; go_simp; try with_reducible rfl)
                  (try simp only [Act.put, List.setIfInBounds_toArray, List.set_cons_zero, List.set_cons_succ])
                  refine take_yield (i := 1) (v := ?_) rfl (by kernel_rfl) (by kernel_rfl) (by kernel_rfl) (fun _ _ _ h => h) (by rfl) ?_ hHeld ?_
                  rotate_left 1
                  · (intro w' hSw; clear hSw; go_simp; try with_reducible rfl)
                  (try simp only [Act.put, List.setIfInBounds_toArray, List.set_cons_zero, List.set_cons_succ])
                  refine take_yield (i := 2) (v := ?_) rfl (by kernel_rfl) (by kernel_rfl) (by kernel_rfl) (fun _ _ _ h => h) (by rfl) ?_ hHeld ?_
                  rotate_left 1
                  · (intro w' hSw; clear hSw; go_simp; try with_reducible rfl)
                  (try simp only [Act.put, List.setIfInBounds_toArray, List.set_cons_zero, List.set_cons_succ])
                  refine take_yield (i := 3) (v := ?_) rfl (by kernel_rfl) (by kernel_rfl) (by kernel_rfl) (fun _ _ _ h => h) (by rfl) ?_ hHeld ?_
                  rotate_left 1
                  · (intro w' hSw; clear hSw; go_simp; try with_reducible rfl)
                  (try simp only [Act.put, List.setIfInBounds_toArray, List.set_cons_zero, List.set_cons_succ])
                  refine take_yield (i := 4) (v := ?_) rfl (by kernel_rfl) (by kernel_rfl) (by kernel_rfl) (fun _ _ _ h => h) (by rfl) ?_ hHeld ?_
                  rotate_left 1
                  · (intro w' hSw; clear hSw; go_simp; try with_reducible rfl)
                  (try simp only [Act.put, List.setIfInBounds_toArray, List.set_cons_zero, List.set_cons_succ])
                  refine take_yield (i := 5) (v := ?_) rfl (by kernel_rfl) (by kernel_rfl) (by kernel_rfl) (fun _ _ _ h => h) (by rfl) ?_ hHeld ?_
                  rotate_left 1
                  · (intro w' hSw; clear hSw; go_simp; try with_reducible rfl)
                  (try simp only [Act.put, List.setIfInBounds_toArray, List.set_cons_zero, List.set_cons_succ])
                  refine take_yield (i := 6) (v := ?_) rfl (by kernel_rfl) (by kernel_rfl) (by kernel_rfl) (fun _ _ _ h => h) (by rfl) ?_ hHeld ?_
                  rotate_left 1
                  · (intro w' hSw; clear hSw; go_simp; try with_reducible rfl)
                  (try simp only [Act.put, List.setIfInBounds_toArray, List.set_cons_zero, List.set_cons_succ])
                  refine take_yield (i := 7) (v := ?_) rfl (by kernel_rfl) (by kernel_rfl) (by kernel_rfl) (fun _ _ _ h => h) (by rfl) ?_ hHeld ?_
                  rotate_left 1
                  · (intro w' hSw; clear hSw; go_simp; try with_reducible rfl)
                  (try simp only [Act.put, List.setIfInBounds_toArray, List.set_cons_zero, List.set_cons_succ])
                  refine take_yield (i := 8) (v := ?_) rfl (by kernel_rfl) (by kernel_rfl) (by kernel_rfl) (fun _ _ _ h => h) (by rfl) ?_ hHeld ?_
                  rotate_left 1
                  · (intro w' hSw; clear hSw; go_simp; try with_reducible rfl)
                  (try simp only [Act.put, List.setIfInBounds_toArray, List.set_cons_zero, List.set_cons_succ])
                  refine take_yield (i := 9) (v := ?_) rfl (by kernel_rfl) (by kernel_rfl) (by kernel_rfl) (fun _ _ _ h => h) (by rfl) ?_ hHeld ?_
                  rotate_left 1
                  · (intro w' hSw; have hCell := fun (b o : Nat) (h : b < wr.heap.size) => hSw.cell (p := ⟨b, o, none⟩) h; clear hSw; go_simp; try with_reducible rfl)
                  (try simp only [Act.put, List.setIfInBounds_toArray, List.set_cons_zero, List.set_cons_succ])
                  refine take_yield (i := 10) (v := ?_) rfl (by kernel_rfl) (by kernel_rfl) (by kernel_rfl) (fun _ _ _ h => h) (by rfl) ?_ hHeld ?_
                  rotate_left 1
                  · (intro w' hSw; clear hSw; go_simp; try with_reducible rfl)
                  (try simp only [Act.put, List.setIfInBounds_toArray, List.set_cons_zero, List.set_cons_succ])
                  refine take_yield (i := 11) (v := ?_) rfl (by kernel_rfl) (by kernel_rfl) (by kernel_rfl) (fun _ _ _ h => h) (by rfl) ?_ hHeld ?_
                  rotate_left 1
                  · (intro w' hSw; have hCell := fun (b o : Nat) (h : b < wr.heap.size) => hSw.cell (p := ⟨b, o, none⟩) h; clear hSw; go_simp; try with_reducible rfl)
                  (try simp only [Act.put, List.setIfInBounds_toArray, List.set_cons_zero, List.set_cons_succ])
                  refine take_yield (i := 12) (v := ?_) rfl (by kernel_rfl) (by kernel_rfl) (by kernel_rfl) (fun _ _ _ h => h) (by rfl) ?_ hHeld ?_
                  rotate_left 1
                  · (intro w' hSw; clear hSw; go_simp; try with_reducible rfl)
                  (try simp only [Act.put, List.setIfInBounds_toArray, List.set_cons_zero, List.set_cons_succ])
                  refine take_yield (i := 13) (v := ?_) rfl (by kernel_rfl) (by kernel_rfl) (by kernel_rfl) (fun _ _ _ h => h) (by rfl) ?_ hHeld ?_
                  rotate_left 1
                  · (intro w' hSw; clear hSw; go_simp; try with_reducible rfl)
                  (try simp only [Act.put, List.setIfInBounds_toArray, List.set_cons_zero, List.set_cons_succ])
                  refine take_yield (i := 14) (v := ?_) rfl (by kernel_rfl) (by kernel_rfl) (by kernel_rfl) (fun _ _ _ h => h) (by rfl) ?_ hHeld ?_
                  rotate_left 1
                  · (intro w' hSw; clear hSw; go_simp; try with_reducible rfl)
                  (try simp only [Act.put, List.setIfInBounds_toArray, List.set_cons_zero, List.set_cons_succ])
                  refine take_yield (i := 15) (v := ?_) rfl (by kernel_rfl) (by kernel_rfl) (by kernel_rfl) (fun _ _ _ h => h) (by rfl) ?_ hHeld ?_
                  rotate_left 1
                  · (intro w' hSw; clear hSw; go_simp; try with_reducible rfl)
                  (try simp only [Act.put, List.setIfInBounds_toArray, List.set_cons_zero, List.set_cons_succ])
                  refine take_yield (i := 16) (v := ?_) rfl (by kernel_rfl) (by kernel_rfl) (by kernel_rfl) (fun _ _ _ h => h) (by rfl) ?_ hHeld ?_
                  rotate_left 1
                  · (intro w' hSw; clear hSw; go_simp; try with_reducible rfl)
                  (try simp only [Act.put, List.setIfInBounds_toArray, List.set_cons_zero, List.set_cons_succ])
                  refine take_yield (i := 17) (v := ?_) rfl (by kernel_rfl) (by kernel_rfl) (by kernel_rfl) (fun _ _ _ h => h) (by rfl) ?_ hHeld ?_
                  rotate_left 1
                  · (intro w' hSw; clear hSw; go_simp; try with_reducible rfl)
                  (try simp only [Act.put, List.setIfInBounds_toArray, List.set_cons_zero, List.set_cons_succ])
                  refine take_yield (i := 18) (v := ?_) rfl (by kernel_rfl) (by kernel_rfl) (by kernel_rfl) (fun _ _ _ h => h) (by rfl) ?_ hHeld ?_
                  rotate_left 1
                  · (intro w' hSw; have hCell := fun (b o : Nat) (h : b < wr.heap.size) => hSw.cell (p := ⟨b, o, none⟩) h; clear hSw; go_simp; try with_reducible rfl)
                  (try simp only [Act.put, List.setIfInBounds_toArray, List.set_cons_zero, List.set_cons_succ])
                  refine take_yield (i := 19) (v := ?_) rfl (by kernel_rfl) (by kernel_rfl) (by kernel_rfl) (fun _ _ _ h => h) (by rfl) ?_ hHeld ?_
                  rotate_left 1
                  · (intro w' hSw; clear hSw; go_simp; try with_reducible rfl)
                  (try simp only [Act.put, List.setIfInBounds_toArray, List.set_cons_zero, List.set_cons_succ])
                  refine take_yield (i := 20) (v := ?_) rfl (by kernel_rfl) (by kernel_rfl) (by kernel_rfl) (fun _ _ _ h => h) (by rfl) ?_ hHeld ?_
                  rotate_left 1
                  · (intro w' hSw; have hCell := fun (b o : Nat) (h : b < wr.heap.size) => hSw.cell (p := ⟨b, o, none⟩) h; clear hSw; go_simp; try with_reducible rfl)
                  (try simp only [Act.put, List.setIfInBounds_toArray, List.set_cons_zero, List.set_cons_succ])
                  refine take_yield (i := 21) (v := ?_) rfl (by kernel_rfl) (by kernel_rfl) (by kernel_rfl) (fun _ _ _ h => h) (by rfl) ?_ hHeld ?_
                  rotate_left 1
                  · (intro w' hSw; clear hSw; go_simp; try with_reducible rfl)
                  (try simp only [Act.put, List.setIfInBounds_toArray, List.set_cons_zero, List.set_cons_succ])
                  refine take_yield (i := 22) (v := ?_) rfl (by kernel_rfl) (by kernel_rfl) (by kernel_rfl) (fun _ _ _ h => h) (by rfl) ?_ hHeld ?_
                  rotate_left 1
                  · (intro w' hSw; clear hSw; go_simp; try with_reducible rfl)
                  (try simp only [Act.put, List.setIfInBounds_toArray, List.set_cons_zero, List.set_cons_succ])
                  refine take_skip (i := 23) rfl (by kernel_rfl) (by kernel_rfl) (by kernel_rfl) (fun _ _ _ h => h) (by rfl) hHeld ?_
                  (try simp only [Act.put, List.setIfInBounds_toArray, List.set_cons_zero, List.set_cons_succ])
                  refine take_skip (i := 24) rfl (by kernel_rfl) (by kernel_rfl) (by kernel_rfl) (fun _ _ _ h => h) (by rfl) hHeld ?_
                  (try simp only [Act.put, List.setIfInBounds_toArray, List.set_cons_zero, List.set_cons_succ])
                  refine take_skip (i := 25) rfl (by kernel_rfl) (by kernel_rfl) (by kernel_rfl) (fun _ _ _ h => h) (by rfl) hHeld ?_
                  (try simp only [Act.put, List.setIfInBounds_toArray, List.set_cons_zero, List.set_cons_succ])
                  refine take_skip (i := 26) rfl (by kernel_rfl) (by kernel_rfl) (by kernel_rfl) (fun _ _ _ h => h) (by rfl) hHeld ?_
                  (try simp only [Act.put, List.setIfInBounds_toArray, List.set_cons_zero, List.set_cons_succ])
                  refine take_skip (i := 27) rfl (by kernel_rfl) (by kernel_rfl) (by kernel_rfl) (fun _ _ _ h => h) (by rfl) hHeld ?_
                  (try simp only [Act.put, List.setIfInBounds_toArray, List.set_cons_zero, List.set_cons_succ])
                  refine take_skip (i := 28) rfl (by kernel_rfl) (by kernel_rfl) (by kernel_rfl) (fun _ _ _ h => h) (by rfl) hHeld ?_
                  (try simp only [Act.put, List.setIfInBounds_toArray, List.set_cons_zero, List.set_cons_succ])
                  refine take_skip (i := 29) rfl (by kernel_rfl) (by kernel_rfl) (by kernel_rfl) (fun _ _ _ h => h) (by rfl) hHeld ?_
                  (try simp only [Act.put, List.setIfInBounds_toArray, List.set_cons_zero, List.set_cons_succ])
                  refine take_skip (i := 30) rfl (by kernel_rfl) (by kernel_rfl) (by kernel_rfl) (fun _ _ _ h => h) (by rfl) hHeld ?_
                  (try simp only [Act.put, List.setIfInBounds_toArray, List.set_cons_zero, List.set_cons_succ])
                  refine take_yield (i := 31) (v := ?_) rfl (by kernel_rfl) (by kernel_rfl) (by kernel_rfl) (fun _ _ _ h => h) (by rfl) ?_ hHeld ?_
                  rotate_left 1
                  · (intro w' hSw; clear hSw; go_simp; try with_reducible rfl)
                  (try simp only [Act.put, List.setIfInBounds_toArray, List.set_cons_zero, List.set_cons_succ])
                  refine take_yield (i := 32) (v := ?_) rfl (by kernel_rfl) (by kernel_rfl) (by kernel_rfl) (fun _ _ _ h => h) (by rfl) ?_ hHeld ?_
                  rotate_left 1
                  · (intro w' hSw; clear hSw; go_simp; try with_reducible rfl)
                  (try simp only [Act.put, List.setIfInBounds_toArray, List.set_cons_zero, List.set_cons_succ])
                  refine take_yield (i := 33) (v := ?_) rfl (by kernel_rfl) (by kernel_rfl) (by kernel_rfl) (fun _ _ _ h => h) (by rfl) ?_ hHeld ?_
                  rotate_left 1
                  · (intro w' hSw; clear hSw; go_simp; try with_reducible rfl)
                  (try simp only [Act.put, List.setIfInBounds_toArray, List.set_cons_zero, List.set_cons_succ])
                  refine wpAnyH_done (by kernel_rfl) ?_ _
                  replace cp0 : wr.drew.cell? ⟨wo.heap.size + 1, 0, none⟩ = some (sv s) := cellAt cp0 hHeld (by omega)
                  replace cp1 : wr.drew.cell? ⟨wo.heap.size + 1, 1, none⟩ = some (sv d) := cellAt cp1 hHeld (by omega)
                  replace hq0 : wr.drew.cell? ⟨b2, o2 + k * 2, none⟩ = some (sv a1) := cellAt hq0 hHeld (by omega)
                  replace hq1 : wr.drew.cell? ⟨b2, o2 + k * 2 + 1, none⟩ = some (sv a2) := cellAt hq1 hHeld (by omega)
                  replace HRa := Lib.hid (HRa.out.at hHeld)
                  replace HB := Lib.hid (HB.out.trans (hHeld.mono HB.out.size))
                  replace n2 : (wo.heap.size + 1) < wr.drew.heap.size := ltAt n2 hHeld
                  replace hB2 : b2 < wr.drew.heap.size := ltAt hB2 hHeld
                  go_wp2_with fail
                  first | (refine wp_named ?_; intro W3 hW) | (refine calls_named ?_; intro W3 hW)
                  have B3 : Below wr.drew.heap.size wr.drew W3 := by rw [hW]; exact (by repeat (first | exact Below.refl _ _ | assumption | refine Below.alloc ?_ (by simp <;> omega) _ | refine Below.setCell ?_ (by simp <;> omega) _ | refine Below.drew ?_))
                  replace cp0 : W3.cell? ⟨wo.heap.size + 1, 0, none⟩ = some (sv s) := cellAt cp0 B3 (by omega)
                  replace cp1 : W3.cell? ⟨wo.heap.size + 1, 1, none⟩ = some (sv d) := cellAt cp1 B3 (by omega)
                  replace hq0 : W3.cell? ⟨b2, o2 + k * 2, none⟩ = some (sv a1) := cellAt hq0 B3 (by omega)
                  replace hq1 : W3.cell? ⟨b2, o2 + k * 2 + 1, none⟩ = some (sv a2) := cellAt hq1 B3 (by omega)
                  replace HRa := Lib.hid (HRa.out.at B3)
                  replace HB := Lib.hid (HB.out.trans (B3.mono HB.out.size))
                  replace n2 : (wo.heap.size + 1) < W3.heap.size := ltAt n2 B3
                  replace hB2 : b2 < W3.heap.size := ltAt hB2 B3
                  clear hW
                  clear B3
                  try go_wp2_with fail
                  refine wp_region_held_drew (S := fun w' => Below W3.heap.size W3 w') (by kernel_rfl) (Below.drew (Below.refl _ _)) (fun hHeld => ?_)
                  refine take_yield (i := 0) (v := ?_) rfl (by kernel_rfl) (by kernel_rfl) (by kernel_rfl) (fun _ _ _ h => h) (by rfl) ?_ hHeld ?_
                  rotate_left 1
                  · (intro w' hSw; clear hSw; go_simp; try with_reducible rfl)
                  (try simp only [Act.put, List.setIfInBounds_toArray, List.set_cons_zero, List.set_cons_succ])
                  refine take_yield (i := 1) (v := ?_) rfl (by kernel_rfl) (by kernel_rfl) (by kernel_rfl) (fun _ _ _ h => h) (by rfl) ?_ hHeld ?_
                  rotate_left 1
                  · (intro w' hSw; clear hSw; go_simp; try with_reducible rfl)
                  (try simp only [Act.put, List.setIfInBounds_toArray, List.set_cons_zero, List.set_cons_succ])
                  refine take_yield (i := 2) (v := ?_) rfl (by kernel_rfl) (by kernel_rfl) (by kernel_rfl) (fun _ _ _ h => h) (by rfl) ?_ hHeld ?_
                  rotate_left 1
                  · (intro w' hSw; clear hSw; go_simp; try with_reducible rfl)
                  (try simp only [Act.put, List.setIfInBounds_toArray, List.set_cons_zero, List.set_cons_succ])
                  refine take_yield (i := 3) (v := ?_) rfl (by kernel_rfl) (by kernel_rfl) (by kernel_rfl) (fun _ _ _ h => h) (by rfl) ?_ hHeld ?_
                  rotate_left 1
                  · (intro w' hSw; clear hSw; go_simp; try with_reducible rfl)
                  (try simp only [Act.put, List.setIfInBounds_toArray, List.set_cons_zero, List.set_cons_succ])
                  refine take_yield (i := 4) (v := ?_) rfl (by kernel_rfl) (by kernel_rfl) (by kernel_rfl) (fun _ _ _ h => h) (by rfl) ?_ hHeld ?_
                  rotate_left 1
                  · (intro w' hSw; clear hSw; go_simp; try with_reducible rfl)
                  (try simp only [Act.put, List.setIfInBounds_toArray, List.set_cons_zero, List.set_cons_succ])
                  refine take_yield (i := 5) (v := ?_) rfl (by kernel_rfl) (by kernel_rfl) (by kernel_rfl) (fun _ _ _ h => h) (by rfl) ?_ hHeld ?_
                  rotate_left 1
                  · (intro w' hSw; clear hSw; go_simp; try with_reducible rfl)
                  (try simp only [Act.put, List.setIfInBounds_toArray, List.set_cons_zero, List.set_cons_succ])
                  refine take_yield (i := 6) (v := ?_) rfl (by kernel_rfl) (by kernel_rfl) (by kernel_rfl) (fun _ _ _ h => h) (by rfl) ?_ hHeld ?_
                  rotate_left 1
                  · (intro w' hSw; clear hSw; go_simp; try with_reducible rfl)
                  (try simp only [Act.put, List.setIfInBounds_toArray, List.set_cons_zero, List.set_cons_succ])
                  refine take_yield (i := 7) (v := ?_) rfl (by kernel_rfl) (by kernel_rfl) (by kernel_rfl) (fun _ _ _ h => h) (by rfl) ?_ hHeld ?_
                  rotate_left 1
                  · (intro w' hSw; clear hSw; go_simp; try with_reducible rfl)
                  (try simp only [Act.put, List.setIfInBounds_toArray, List.set_cons_zero, List.set_cons_succ])
                  refine take_yield (i := 8) (v := ?_) rfl (by kernel_rfl) (by kernel_rfl) (by kernel_rfl) (fun _ _ _ h => h) (by rfl) ?_ hHeld ?_
                  rotate_left 1
                  · (intro w' hSw; have hCell := fun (b o : Nat) (h : b < W3.heap.size) => hSw.cell (p := ⟨b, o, none⟩) h; clear hSw; go_simp; try with_reducible rfl)
                  (try simp only [Act.put, List.setIfInBounds_toArray, List.set_cons_zero, List.set_cons_succ])
                  refine take_yield (i := 9) (v := ?_) rfl (by kernel_rfl) (by kernel_rfl) (by kernel_rfl) (fun _ _ _ h => h) (by rfl) ?_ hHeld ?_
                  rotate_left 1
                  · (intro w' hSw; have hCell := fun (b o : Nat) (h : b < W3.heap.size) => hSw.cell (p := ⟨b, o, none⟩) h; clear hSw; go_simp; try with_reducible rfl)
                  (try simp only [Act.put, List.setIfInBounds_toArray, List.set_cons_zero, List.set_cons_succ])
                  refine take_yield (i := 10) (v := ?_) rfl (by kernel_rfl) (by kernel_rfl) (by kernel_rfl) (fun _ _ _ h => h) (by rfl) ?_ hHeld ?_
                  rotate_left 1
                  · (intro w' hSw; clear hSw; go_simp; try with_reducible rfl)
                  (try simp only [Act.put, List.setIfInBounds_toArray, List.set_cons_zero, List.set_cons_succ])
                  refine take_yield (i := 11) (v := ?_) rfl (by kernel_rfl) (by kernel_rfl) (by kernel_rfl) (fun _ _ _ h => h) (by rfl) ?_ hHeld ?_
                  rotate_left 1
                  · (intro w' hSw; clear hSw; go_simp; try with_reducible rfl)
                  (try simp only [Act.put, List.setIfInBounds_toArray, List.set_cons_zero, List.set_cons_succ])
                  refine wpAnyH_done (by kernel_rfl) ?_ _
                  replace cp0 : W3.drew.cell? ⟨wo.heap.size + 1, 0, none⟩ = some (sv s) := cellAt cp0 hHeld (by omega)
                  replace cp1 : W3.drew.cell? ⟨wo.heap.size + 1, 1, none⟩ = some (sv d) := cellAt cp1 hHeld (by omega)
                  replace hq0 : W3.drew.cell? ⟨b2, o2 + k * 2, none⟩ = some (sv a1) := cellAt hq0 hHeld (by omega)
                  replace hq1 : W3.drew.cell? ⟨b2, o2 + k * 2 + 1, none⟩ = some (sv a2) := cellAt hq1 hHeld (by omega)
                  replace HRa := Lib.hid (HRa.out.at hHeld)
                  replace HB := Lib.hid (HB.out.trans (hHeld.mono HB.out.size))
                  replace n2 : (wo.heap.size + 1) < W3.drew.heap.size := ltAt n2 hHeld
                  replace hB2 : b2 < W3.drew.heap.size := ltAt hB2 hHeld
                  go_wp2_with fail
                  obtain ⟨hge, hne⟩ := Hge.out
                  have hins : insL ltP (s, d) acc = acc.take k ++ (s, d) :: acc.drop k := by rw [insL_cut acc k hk hall hge, if_neg hne]
                  have HI := Lib.hid hins
                  first | (refine wp_named ?_; intro W4 hW) | (refine calls_named ?_; intro W4 hW)
                  have B4 : Below W3.drew.heap.size W3.drew W4 := by rw [hW]; exact (by repeat (first | exact Below.refl _ _ | assumption | refine Below.alloc ?_ (by simp <;> omega) _ | refine Below.setCell ?_ (by simp <;> omega) _ | refine Below.drew ?_))
                  replace cp0 : W4.cell? ⟨wo.heap.size + 1, 0, none⟩ = some (sv s) := cellAt cp0 B4 (by omega)
                  replace cp1 : W4.cell? ⟨wo.heap.size + 1, 1, none⟩ = some (sv d) := cellAt cp1 B4 (by omega)
                  replace hq0 : W4.cell? ⟨b2, o2 + k * 2, none⟩ = some (sv a1) := cellAt hq0 B4 (by omega)
                  replace hq1 : W4.cell? ⟨b2, o2 + k * 2 + 1, none⟩ = some (sv a2) := cellAt hq1 B4 (by omega)
                  replace HRa := Lib.hid (HRa.out.at B4)
                  replace HB := Lib.hid (HB.out.trans (B4.mono HB.out.size))
                  replace n2 : (wo.heap.size + 1) < W4.heap.size := ltAt n2 B4
                  replace hB2 : b2 < W4.heap.size := ltAt hB2 B4
                  clear hW
                  clear B4 hins hge hne
                  have hz4 := Nat.le_trans HB1.out.size HB.out.size
                  have HR1 := Lib.hid (HRa.out.takeA hk)
                  have HR2 := Lib.hid (HRa.out.dropA hk hc)
                  have hs1 := run_slice_full (P := Tryz.prog) Tryz.underlying59 hi (some ⟨b2, o2, none⟩) acc.length c k (Nat.le_trans hk hc)
                  have hs2 := run_slice_tail (P := Tryz.prog) Tryz.underlying59 hi (some ⟨b2, o2, none⟩) acc.length c k hk
                  rw [hz1] at hs1 hs2
                  have HLk := Lib.hid (show (acc.drop k).length = acc.length - k from List.length_drop)
                  try go_wp2_with fail
                  refine wp_region_held_drew (S := fun w' => Below W4.heap.size W4 w') (by kernel_rfl) (Below.drew (Below.refl _ _)) (fun hHeld => ?_)
                  refine take_yield (i := 0) (v := ?_) rfl (by kernel_rfl) (by kernel_rfl) (by kernel_rfl) (fun _ _ _ h => h) (by rfl) ?_ hHeld ?_
                  rotate_left 1
                  · (intro w' hSw; clear hSw; go_simp; try with_reducible rfl)
                  (try simp only [Act.put, List.setIfInBounds_toArray, List.set_cons_zero, List.set_cons_succ])
                  refine take_yield (i := 1) (v := ?_) rfl (by kernel_rfl) (by kernel_rfl) (by kernel_rfl) (fun _ _ _ h => h) (by rfl) ?_ hHeld ?_
                  rotate_left 1
                  · (intro w' hSw; clear hSw; go_simp; try with_reducible rfl)
                  (try simp only [Act.put, List.setIfInBounds_toArray, List.set_cons_zero, List.set_cons_succ])
                  refine take_yield (i := 2) (v := ?_) rfl (by kernel_rfl) (by kernel_rfl) (by kernel_rfl) (fun _ _ _ h => h) (by rfl) ?_ hHeld ?_
                  rotate_left 1
                  · (intro w' hSw; clear hSw; go_simp; try with_reducible rfl)
                  (try simp only [Act.put, List.setIfInBounds_toArray, List.set_cons_zero, List.set_cons_succ])
                  refine take_yield (i := 3) (v := ?_) rfl (by kernel_rfl) (by kernel_rfl) (by kernel_rfl) (fun _ _ _ h => h) (by rfl) ?_ hHeld ?_
                  rotate_left 1
                  · (intro w' hSw; clear hSw; go_simp; try with_reducible rfl)
                  (try simp only [Act.put, List.setIfInBounds_toArray, List.set_cons_zero, List.set_cons_succ])
                  refine take_yield (i := 4) (v := ?_) rfl (by kernel_rfl) (by kernel_rfl) (by kernel_rfl) (fun _ _ _ h => h) (by rfl) ?_ hHeld ?_
                  rotate_left 1
                  · (intro w' hSw; have hCell := fun (b o : Nat) (h : b < W4.heap.size) => hSw.cell (p := ⟨b, o, none⟩) h; clear hSw; go_simp; try with_reducible rfl)
                  (try simp only [Act.put, List.setIfInBounds_toArray, List.set_cons_zero, List.set_cons_succ])
                  refine take_yield (i := 6) (v := ?_) rfl (by kernel_rfl) (by kernel_rfl) (by kernel_rfl) (fun _ _ _ h => h) (by rfl) ?_ hHeld ?_
                  rotate_left 1
                  · (intro w' hSw; clear hSw; go_simp; try with_reducible rfl)
                  (try simp only [Act.put, List.setIfInBounds_toArray, List.set_cons_zero, List.set_cons_succ])
                  refine take_yield (i := 7) (v := ?_) rfl (by kernel_rfl) (by kernel_rfl) (by kernel_rfl) (fun _ _ _ h => h) (by rfl) ?_ hHeld ?_
                  rotate_left 1
                  · (intro w' hSw; clear hSw; go_simp; try with_reducible rfl)
                  (try simp only [Act.put, List.setIfInBounds_toArray, List.set_cons_zero, List.set_cons_succ])
                  refine take_yield (i := 8) (v := ?_) rfl (by kernel_rfl) (by kernel_rfl) (by kernel_rfl) (fun _ _ _ h => h) (by rfl) ?_ hHeld ?_
                  rotate_left 1
                  · (intro w' hSw; clear hSw; go_simp; try with_reducible rfl)
                  (try simp only [Act.put, List.setIfInBounds_toArray, List.set_cons_zero, List.set_cons_succ])
                  refine ready_one (i := 5) rfl (by kernel_rfl) (fun K hK => ?_)
                  go_simp
                  refine hK.out _ _ ?_ (fun hHeld2 => ?_)
                  · (try dsimp only); first | exact hHeld | exact (by repeat (first | exact Below.refl _ _ | assumption | refine Below.alloc ?_ (by simp <;> omega) _ | refine Below.setCell ?_ (by simp <;> omega) _ | refine Below.drew ?_))
                  clear hK K hHeld
                  have hHeld := hHeld2
                  clear hHeld2
                  (try simp only [Act.put, List.setIfInBounds_toArray, List.set_cons_zero, List.set_cons_succ])
                  refine ready_one (i := 9) rfl (by kernel_rfl) (fun K hK => ?_)
                  refine step_append_full (by rfl) (.tmp 89) (.tmp 92) 59 (by rfl) 61 i0 _ 2 32 Tryz.underlying59 hi hz0 hz1 hz2 rfl _ (some ⟨W4.heap.size, 0, none⟩) 1 (prC (s, d)) (by rfl) (Rd.lit W4.drew (prC (s, d)) 61 2 1 rfl) (Nat.le_refl _) _ _ (acc.length - k) (c - k) _ (by rfl) (HR2.out.at' (Nat.le_refl _) hHeld) (one_drop (one_prsC acc) _) (by unfold maxLen; omega) (by omega) ?_
                  intro A2 c2 v2 hc2 hr2 hb
                  have HR3 := Lib.hid hr2
                  clear hr2
                  refine hK.out _ _ ?_ (fun hHeld2 => ?_)
                  · (try dsimp only); first | exact Below.trans hHeld (Below.mono hb hHeld.size) | exact hHeld | exact Below.drew hHeld | exact (by repeat (first | exact Below.refl _ _ | assumption | refine Below.alloc ?_ (by simp <;> omega) _ | refine Below.setCell ?_ (by simp <;> omega) _ | refine Below.drew ?_))
                  clear hK K hHeld
                  have hHeld := hHeld2
                  clear hHeld2
                  (try simp only [Act.put, List.setIfInBounds_toArray, List.set_cons_zero, List.set_cons_succ])
                  refine ready_one (i := 10) rfl (by kernel_rfl) (fun K hK => ?_)
                  refine step_append_fresh (by rfl) (.tmp 87) (.tmp 93) 59 (by rfl) 61 i0 _ 2 32 Tryz.underlying59 hi hz0 hz1 hz2 rfl _ _ k _ (by rfl) (HR1.out.at' (Nat.le_refl _) hHeld) (Nat.le_refl _) _ A2 (1 + (acc.length - k)) c2 _ (by rfl) HR3.out (one_app (one_prC _) (one_drop (one_prsC acc) _)) (by unfold maxLen; omega) (by omega) ?_
                  intro A3 c3 v3 hc3 hr3 hb hf3
                  have hz5 := Nat.le_trans hz4 hHeld.size
                  have HR4 := Lib.hid hr3
                  clear hr3
                  refine hK.out _ _ ?_ (fun hHeld2 => ?_)
                  · (try dsimp only); first | exact Below.trans hHeld (Below.mono hb hHeld.size) | exact hHeld | exact Below.drew hHeld | exact (by repeat (first | exact Below.refl _ _ | assumption | refine Below.alloc ?_ (by simp <;> omega) _ | refine Below.setCell ?_ (by simp <;> omega) _ | refine Below.drew ?_))
                  clear hK K hHeld
                  have hHeld := hHeld2
                  clear hHeld2
                  (try simp only [Act.put, List.setIfInBounds_toArray, List.set_cons_zero, List.set_cons_succ])
                  refine take_yield (i := 11) (v := ?_) rfl (by kernel_rfl) (by kernel_rfl) (by kernel_rfl) (fun _ _ _ h => h) (by rfl) ?_ hHeld ?_
                  rotate_left 1
                  · (intro w' hSw; clear hSw; go_simp; try with_reducible rfl)
                  (try simp only [Act.put, List.setIfInBounds_toArray, List.set_cons_zero, List.set_cons_succ])
                  refine wpAnyH_done (by kernel_rfl) ?_ _
                  replace cp0 : v3.cell? ⟨wo.heap.size + 1, 0, none⟩ = some (sv s) := cellAt cp0 hHeld (by omega)
                  replace cp1 : v3.cell? ⟨wo.heap.size + 1, 1, none⟩ = some (sv d) := cellAt cp1 hHeld (by omega)
                  replace hq0 : v3.cell? ⟨b2, o2 + k * 2, none⟩ = some (sv a1) := cellAt hq0 hHeld (by omega)
                  replace hq1 : v3.cell? ⟨b2, o2 + k * 2 + 1, none⟩ = some (sv a2) := cellAt hq1 hHeld (by omega)
                  replace HRa := Lib.hid (HRa.out.at hHeld)
                  replace HB := Lib.hid (HB.out.trans (hHeld.mono HB.out.size))
                  replace n2 : (wo.heap.size + 1) < v3.heap.size := ltAt n2 hHeld
                  replace hB2 : b2 < v3.heap.size := ltAt hB2 hHeld
                  clear hs1 hs2
                  go_wp2_with fail
                  go_roundw
                  case rel =>
                    have hlen : k + (1 + (acc.length - k)) = (accP es (j + 1)).length := by rw [HN.out, HI.out, List.length_append, List.length_cons, List.length_take, HLk.out]; omega
                    refine ⟨j + 1, A3, c3, by omega, by go_num, by rw [hlen], by rw [← hlen]; exact hc3, ?_, fun _ ad e => Nat.le_trans hz5 (hf3 (by omega) ad e), HB.out⟩
                    have h4 := HR4.out
                    rw [hlen] at h4
                    have hx : (prsC acc).take (k * 2) ++ (prC (s, d) ++ (prsC acc).drop (k * 2)) = prsC (accP es (j + 1)) := by rw [HN.out, HI.out, prsC_take, prsC_drop]; simp [prsC]
                    rw [hx] at h4
                    exact h4
                  case measure => simp [intOf]; omega
                · cases l3 : Op.bytesLess a2 d
                  · have hge : ∀ h : k < acc.length, ltP acc[k] (s, d) = false := fun _ => by rw [Hq.out, ltP_mk]; simp [l1, l3]
                    have Hge := Lib.hid hge
                    clear hge
                    cases l4 : (a2 == d)
                    · have hne : ¬ acc[k]? = some (s, d) := by rw [List.getElem?_eq_getElem hlt2, Hq.out]; intro e; injection e with e; injection e with e1 e2; rw [e2] at l4; simp at l4
                      have Hne := Lib.hid hne
                      clear hne
                      try go_wp2_with fail
                      refine wp_region_held_drew (S := fun w' => Below wr.heap.size wr w') (by kernel_rfl) (Below.drew (Below.refl _ _)) (fun hHeld => ?_)
                      refine take_yield (i := 0) (v := ?_) rfl (by kernel_rfl) (by kernel_rfl) (by kernel_rfl) (fun _ _ _ h => h) (by rfl) ?_ hHeld ?_
                      rotate_left 1
                      · (intro w' hSw; clear hSw; go_simp; try with_reducible rfl)
                      (try simp only [Act.put, List.setIfInBounds_toArray, List.set_cons_zero, List.set_cons_succ])
                      refine take_yield (i := 1) (v := ?_) rfl (by kernel_rfl) (by kernel_rfl) (by kernel_rfl) (fun _ _ _ h => h) (by rfl) ?_ hHeld ?_
                      rotate_left 1
                      · (intro w' hSw; clear hSw; go_simp; try with_reducible rfl)
                      (try simp only [Act.put, List.setIfInBounds_toArray, List.set_cons_zero, List.set_cons_succ])
                      refine take_yield (i := 2) (v := ?_) rfl (by kernel_rfl) (by kernel_rfl) (by kernel_rfl) (fun _ _ _ h => h) (by rfl) ?_ hHeld ?_
                      rotate_left 1
                      · (intro w' hSw; clear hSw; go_simp; try with_reducible rfl)
                      (try simp only [Act.put, List.setIfInBounds_toArray, List.set_cons_zero, List.set_cons_succ])
                      refine take_yield (i := 3) (v := ?_) rfl (by kernel_rfl) (by kernel_rfl) (by kernel_rfl) (fun _ _ _ h => h) (by rfl) ?_ hHeld ?_
                      rotate_left 1
                      · (intro w' hSw; clear hSw; go_simp; try with_reducible rfl)
                      (try simp only [Act.put, List.setIfInBounds_toArray, List.set_cons_zero, List.set_cons_succ])
                      refine take_yield (i := 4) (v := ?_) rfl (by kernel_rfl) (by kernel_rfl) (by kernel_rfl) (fun _ _ _ h => h) (by rfl) ?_ hHeld ?_
                      rotate_left 1
                      · (intro w' hSw; clear hSw; go_simp; try with_reducible rfl)
                      (try simp only [Act.put, List.setIfInBounds_toArray, List.set_cons_zero, List.set_cons_succ])
                      refine take_yield (i := 5) (v := ?_) rfl (by kernel_rfl) (by kernel_rfl) (by kernel_rfl) (fun _ _ _ h => h) (by rfl) ?_ hHeld ?_
                      rotate_left 1
                      · (intro w' hSw; clear hSw; go_simp; try with_reducible rfl)
                      (try simp only [Act.put, List.setIfInBounds_toArray, List.set_cons_zero, List.set_cons_succ])
                      refine take_yield (i := 6) (v := ?_) rfl (by kernel_rfl) (by kernel_rfl) (by kernel_rfl) (fun _ _ _ h => h) (by rfl) ?_ hHeld ?_
                      rotate_left 1
                      · (intro w' hSw; clear hSw; go_simp; try with_reducible rfl)
                      (try simp only [Act.put, List.setIfInBounds_toArray, List.set_cons_zero, List.set_cons_succ])
                      refine take_yield (i := 7) (v := ?_) rfl (by kernel_rfl) (by kernel_rfl) (by kernel_rfl) (fun _ _ _ h => h) (by rfl) ?_ hHeld ?_
                      rotate_left 1
                      · (intro w' hSw; clear hSw; go_simp; try with_reducible rfl)
                      (try simp only [Act.put, List.setIfInBounds_toArray, List.set_cons_zero, List.set_cons_succ])
                      refine take_yield (i := 8) (v := ?_) rfl (by kernel_rfl) (by kernel_rfl) (by kernel_rfl) (fun _ _ _ h => h) (by rfl) ?_ hHeld ?_
                      rotate_left 1
                      · (intro w' hSw; clear hSw; go_simp; try with_reducible rfl)
                      (try simp only [Act.put, List.setIfInBounds_toArray, List.set_cons_zero, List.set_cons_succ])
                      refine take_yield (i := 9) (v := ?_) rfl (by kernel_rfl) (by kernel_rfl) (by kernel_rfl) (fun _ _ _ h => h) (by rfl) ?_ hHeld ?_
                      rotate_left 1
                      · (intro w' hSw; have hCell := fun (b o : Nat) (h : b < wr.heap.size) => hSw.cell (p := ⟨b, o, none⟩) h; clear hSw; go_simp; try with_reducible rfl)
                      (try simp only [Act.put, List.setIfInBounds_toArray, List.set_cons_zero, List.set_cons_succ])
                      refine take_yield (i := 10) (v := ?_) rfl (by kernel_rfl) (by kernel_rfl) (by kernel_rfl) (fun _ _ _ h => h) (by rfl) ?_ hHeld ?_
                      rotate_left 1
                      · (intro w' hSw; clear hSw; go_simp; try with_reducible rfl)
                      (try simp only [Act.put, List.setIfInBounds_toArray, List.set_cons_zero, List.set_cons_succ])
                      refine take_yield (i := 11) (v := ?_) rfl (by kernel_rfl) (by kernel_rfl) (by kernel_rfl) (fun _ _ _ h => h) (by rfl) ?_ hHeld ?_
                      rotate_left 1
                      · (intro w' hSw; have hCell := fun (b o : Nat) (h : b < wr.heap.size) => hSw.cell (p := ⟨b, o, none⟩) h; clear hSw; go_simp; try with_reducible rfl)
                      (try simp only [Act.put, List.setIfInBounds_toArray, List.set_cons_zero, List.set_cons_succ])
                      refine take_yield (i := 12) (v := ?_) rfl (by kernel_rfl) (by kernel_rfl) (by kernel_rfl) (fun _ _ _ h => h) (by rfl) ?_ hHeld ?_
                      rotate_left 1
                      · (intro w' hSw; clear hSw; go_simp; try with_reducible rfl)
                      (try simp only [Act.put, List.setIfInBounds_toArray, List.set_cons_zero, List.set_cons_succ])
                      refine take_yield (i := 13) (v := ?_) rfl (by kernel_rfl) (by kernel_rfl) (by kernel_rfl) (fun _ _ _ h => h) (by rfl) ?_ hHeld ?_
                      rotate_left 1
                      · (intro w' hSw; clear hSw; go_simp; try with_reducible rfl)
                      (try simp only [Act.put, List.setIfInBounds_toArray, List.set_cons_zero, List.set_cons_succ])
                      refine take_yield (i := 14) (v := ?_) rfl (by kernel_rfl) (by kernel_rfl) (by kernel_rfl) (fun _ _ _ h => h) (by rfl) ?_ hHeld ?_
                      rotate_left 1
                      · (intro w' hSw; clear hSw; go_simp; try with_reducible rfl)
                      (try simp only [Act.put, List.setIfInBounds_toArray, List.set_cons_zero, List.set_cons_succ])
                      refine take_yield (i := 15) (v := ?_) rfl (by kernel_rfl) (by kernel_rfl) (by kernel_rfl) (fun _ _ _ h => h) (by rfl) ?_ hHeld ?_
                      rotate_left 1
                      · (intro w' hSw; clear hSw; go_simp; try with_reducible rfl)
                      (try simp only [Act.put, List.setIfInBounds_toArray, List.set_cons_zero, List.set_cons_succ])
                      refine take_yield (i := 16) (v := ?_) rfl (by kernel_rfl) (by kernel_rfl) (by kernel_rfl) (fun _ _ _ h => h) (by rfl) ?_ hHeld ?_
                      rotate_left 1
                      · (intro w' hSw; clear hSw; go_simp; try with_reducible rfl)
                      (try simp only [Act.put, List.setIfInBounds_toArray, List.set_cons_zero, List.set_cons_succ])
                      refine take_yield (i := 17) (v := ?_) rfl (by kernel_rfl) (by kernel_rfl) (by kernel_rfl) (fun _ _ _ h => h) (by rfl) ?_ hHeld ?_
                      rotate_left 1
                      · (intro w' hSw; clear hSw; go_simp; try with_reducible rfl)
                      (try simp only [Act.put, List.setIfInBounds_toArray, List.set_cons_zero, List.set_cons_succ])
                      refine take_yield (i := 18) (v := ?_) rfl (by kernel_rfl) (by kernel_rfl) (by kernel_rfl) (fun _ _ _ h => h) (by rfl) ?_ hHeld ?_
                      rotate_left 1
                      · (intro w' hSw; have hCell := fun (b o : Nat) (h : b < wr.heap.size) => hSw.cell (p := ⟨b, o, none⟩) h; clear hSw; go_simp; try with_reducible rfl)
                      (try simp only [Act.put, List.setIfInBounds_toArray, List.set_cons_zero, List.set_cons_succ])
                      refine take_yield (i := 19) (v := ?_) rfl (by kernel_rfl) (by kernel_rfl) (by kernel_rfl) (fun _ _ _ h => h) (by rfl) ?_ hHeld ?_
                      rotate_left 1
                      · (intro w' hSw; clear hSw; go_simp; try with_reducible rfl)
                      (try simp only [Act.put, List.setIfInBounds_toArray, List.set_cons_zero, List.set_cons_succ])
                      refine take_yield (i := 20) (v := ?_) rfl (by kernel_rfl) (by kernel_rfl) (by kernel_rfl) (fun _ _ _ h => h) (by rfl) ?_ hHeld ?_
                      rotate_left 1
                      · (intro w' hSw; have hCell := fun (b o : Nat) (h : b < wr.heap.size) => hSw.cell (p := ⟨b, o, none⟩) h; clear hSw; go_simp; try with_reducible rfl)
                      (try simp only [Act.put, List.setIfInBounds_toArray, List.set_cons_zero, List.set_cons_succ])
                      refine take_yield (i := 21) (v := ?_) rfl (by kernel_rfl) (by kernel_rfl) (by kernel_rfl) (fun _ _ _ h => h) (by rfl) ?_ hHeld ?_
                      rotate_left 1
                      · (intro w' hSw; clear hSw; go_simp; try with_reducible rfl)
                      (try simp only [Act.put, List.setIfInBounds_toArray, List.set_cons_zero, List.set_cons_succ])
                      refine take_yield (i := 22) (v := ?_) rfl (by kernel_rfl) (by kernel_rfl) (by kernel_rfl) (fun _ _ _ h => h) (by rfl) ?_ hHeld ?_
                      rotate_left 1
                      · (intro w' hSw; clear hSw; go_simp; try with_reducible rfl)
                      (try simp only [Act.put, List.setIfInBounds_toArray, List.set_cons_zero, List.set_cons_succ])
                      refine take_yield (i := 23) (v := ?_) rfl (by kernel_rfl) (by kernel_rfl) (by kernel_rfl) (fun _ _ _ h => h) (by rfl) ?_ hHeld ?_
                      rotate_left 1
                      · (intro w' hSw; clear hSw; go_simp; try with_reducible rfl)
                      (try simp only [Act.put, List.setIfInBounds_toArray, List.set_cons_zero, List.set_cons_succ])
                      refine take_yield (i := 24) (v := ?_) rfl (by kernel_rfl) (by kernel_rfl) (by kernel_rfl) (fun _ _ _ h => h) (by rfl) ?_ hHeld ?_
                      rotate_left 1
                      · (intro w' hSw; clear hSw; go_simp; try with_reducible rfl)
                      (try simp only [Act.put, List.setIfInBounds_toArray, List.set_cons_zero, List.set_cons_succ])
                      refine take_yield (i := 25) (v := ?_) rfl (by kernel_rfl) (by kernel_rfl) (by kernel_rfl) (fun _ _ _ h => h) (by rfl) ?_ hHeld ?_
                      rotate_left 1
                      · (intro w' hSw; clear hSw; go_simp; try with_reducible rfl)
                      (try simp only [Act.put, List.setIfInBounds_toArray, List.set_cons_zero, List.set_cons_succ])
                      refine take_yield (i := 26) (v := ?_) rfl (by kernel_rfl) (by kernel_rfl) (by kernel_rfl) (fun _ _ _ h => h) (by rfl) ?_ hHeld ?_
                      rotate_left 1
                      · (intro w' hSw; clear hSw; go_simp; try with_reducible rfl)
                      (try simp only [Act.put, List.setIfInBounds_toArray, List.set_cons_zero, List.set_cons_succ])
                      refine take_yield (i := 27) (v := ?_) rfl (by kernel_rfl) (by kernel_rfl) (by kernel_rfl) (fun _ _ _ h => h) (by rfl) ?_ hHeld ?_
                      rotate_left 1
                      · (intro w' hSw; have hCell := fun (b o : Nat) (h : b < wr.heap.size) => hSw.cell (p := ⟨b, o, none⟩) h; clear hSw; go_simp; try with_reducible rfl)
                      (try simp only [Act.put, List.setIfInBounds_toArray, List.set_cons_zero, List.set_cons_succ])
                      refine take_yield (i := 28) (v := ?_) rfl (by kernel_rfl) (by kernel_rfl) (by kernel_rfl) (fun _ _ _ h => h) (by rfl) ?_ hHeld ?_
                      rotate_left 1
                      · (intro w' hSw; clear hSw; go_simp; try with_reducible rfl)
                      (try simp only [Act.put, List.setIfInBounds_toArray, List.set_cons_zero, List.set_cons_succ])
                      refine take_yield (i := 29) (v := ?_) rfl (by kernel_rfl) (by kernel_rfl) (by kernel_rfl) (fun _ _ _ h => h) (by rfl) ?_ hHeld ?_
                      rotate_left 1
                      · (intro w' hSw; have hCell := fun (b o : Nat) (h : b < wr.heap.size) => hSw.cell (p := ⟨b, o, none⟩) h; clear hSw; go_simp; try with_reducible rfl)
                      (try simp only [Act.put, List.setIfInBounds_toArray, List.set_cons_zero, List.set_cons_succ])
                      refine take_yield (i := 30) (v := ?_) rfl (by kernel_rfl) (by kernel_rfl) (by kernel_rfl) (fun _ _ _ h => h) (by rfl) ?_ hHeld ?_
                      rotate_left 1
                      · (intro w' hSw; clear hSw; go_simp; try with_reducible rfl)
                      (try simp only [Act.put, List.setIfInBounds_toArray, List.set_cons_zero, List.set_cons_succ])
                      refine take_yield (i := 31) (v := ?_) rfl (by kernel_rfl) (by kernel_rfl) (by kernel_rfl) (fun _ _ _ h => h) (by rfl) ?_ hHeld ?_
                      rotate_left 1
                      · (intro w' hSw; clear hSw; go_simp; try with_reducible rfl)
                      (try simp only [Act.put, List.setIfInBounds_toArray, List.set_cons_zero, List.set_cons_succ])
                      refine take_yield (i := 32) (v := ?_) rfl (by kernel_rfl) (by kernel_rfl) (by kernel_rfl) (fun _ _ _ h => h) (by rfl) ?_ hHeld ?_
                      rotate_left 1
                      · (intro w' hSw; clear hSw; go_simp; try with_reducible rfl)
                      (try simp only [Act.put, List.setIfInBounds_toArray, List.set_cons_zero, List.set_cons_succ])
                      refine take_yield (i := 33) (v := ?_) rfl (by kernel_rfl) (by kernel_rfl) (by kernel_rfl) (fun _ _ _ h => h) (by rfl) ?_ hHeld ?_
                      rotate_left 1
                      · (intro w' hSw; clear hSw; go_simp; try with_reducible rfl)
                      (try simp only [Act.put, List.setIfInBounds_toArray, List.set_cons_zero, List.set_cons_succ])
                      refine wpAnyH_done (by kernel_rfl) ?_ _
                      replace cp0 : wr.drew.cell? ⟨wo.heap.size + 1, 0, none⟩ = some (sv s) := cellAt cp0 hHeld (by omega)
                      replace cp1 : wr.drew.cell? ⟨wo.heap.size + 1, 1, none⟩ = some (sv d) := cellAt cp1 hHeld (by omega)
                      replace hq0 : wr.drew.cell? ⟨b2, o2 + k * 2, none⟩ = some (sv a1) := cellAt hq0 hHeld (by omega)
                      replace hq1 : wr.drew.cell? ⟨b2, o2 + k * 2 + 1, none⟩ = some (sv a2) := cellAt hq1 hHeld (by omega)
                      replace HRa := Lib.hid (HRa.out.at hHeld)
                      replace HB := Lib.hid (HB.out.trans (hHeld.mono HB.out.size))
                      replace n2 : (wo.heap.size + 1) < wr.drew.heap.size := ltAt n2 hHeld
                      replace hB2 : b2 < wr.drew.heap.size := ltAt hB2 hHeld
                      go_wp2_with fail
                      first | (refine wp_named ?_; intro W3 hW) | (refine calls_named ?_; intro W3 hW)
                      have B3 : Below wr.drew.heap.size wr.drew W3 := by rw [hW]; exact (by repeat (first | exact Below.refl _ _ | assumption | refine Below.alloc ?_ (by simp <;> omega) _ | refine Below.setCell ?_ (by simp <;> omega) _ | refine Below.drew ?_))
                      replace cp0 : W3.cell? ⟨wo.heap.size + 1, 0, none⟩ = some (sv s) := cellAt cp0 B3 (by omega)
                      replace cp1 : W3.cell? ⟨wo.heap.size + 1, 1, none⟩ = some (sv d) := cellAt cp1 B3 (by omega)
                      replace hq0 : W3.cell? ⟨b2, o2 + k * 2, none⟩ = some (sv a1) := cellAt hq0 B3 (by omega)
                      replace hq1 : W3.cell? ⟨b2, o2 + k * 2 + 1, none⟩ = some (sv a2) := cellAt hq1 B3 (by omega)
                      replace HRa := Lib.hid (HRa.out.at B3)
                      replace HB := Lib.hid (HB.out.trans (B3.mono HB.out.size))
                      replace n2 : (wo.heap.size + 1) < W3.heap.size := ltAt n2 B3
                      replace hB2 : b2 < W3.heap.size := ltAt hB2 B3
                      clear hW
                      clear B3
                      try go_wp2_with fail
                      refine wp_region_held_drew (S := fun w' => Below W3.heap.size W3 w') (by kernel_rfl) (Below.drew (Below.refl _ _)) (fun hHeld => ?_)
                      refine take_yield (i := 0) (v := ?_) rfl (by kernel_rfl) (by kernel_rfl) (by kernel_rfl) (fun _ _ _ h => h) (by rfl) ?_ hHeld ?_
                      rotate_left 1
                      · (intro w' hSw; clear hSw; go_simp; try with_reducible rfl)
                      (try simp only [Act.put, List.setIfInBounds_toArray, List.set_cons_zero, List.set_cons_succ])
                      refine take_yield (i := 1) (v := ?_) rfl (by kernel_rfl) (by kernel_rfl) (by kernel_rfl) (fun _ _ _ h => h) (by rfl) ?_ hHeld ?_
                      rotate_left 1
                      · (intro w' hSw; clear hSw; go_simp; try with_reducible rfl)
                      (try simp only [Act.put, List.setIfInBounds_toArray, List.set_cons_zero, List.set_cons_succ])
                      refine take_yield (i := 2) (v := ?_) rfl (by kernel_rfl) (by kernel_rfl) (by kernel_rfl) (fun _ _ _ h => h) (by rfl) ?_ hHeld ?_
                      rotate_left 1
                      · (intro w' hSw; clear hSw; go_simp; try with_reducible rfl)
                      (try simp only [Act.put, List.setIfInBounds_toArray, List.set_cons_zero, List.set_cons_succ])
                      refine take_yield (i := 3) (v := ?_) rfl (by kernel_rfl) (by kernel_rfl) (by kernel_rfl) (fun _ _ _ h => h) (by rfl) ?_ hHeld ?_
                      rotate_left 1
                      · (intro w' hSw; clear hSw; go_simp; try with_reducible rfl)
                      (try simp only [Act.put, List.setIfInBounds_toArray, List.set_cons_zero, List.set_cons_succ])
                      refine take_yield (i := 4) (v := ?_) rfl (by kernel_rfl) (by kernel_rfl) (by kernel_rfl) (fun _ _ _ h => h) (by rfl) ?_ hHeld ?_
                      rotate_left 1
                      · (intro w' hSw; clear hSw; go_simp; try with_reducible rfl)
                      (try simp only [Act.put, List.setIfInBounds_toArray, List.set_cons_zero, List.set_cons_succ])
                      refine take_yield (i := 5) (v := ?_) rfl (by kernel_rfl) (by kernel_rfl) (by kernel_rfl) (fun _ _ _ h => h) (by rfl) ?_ hHeld ?_
                      rotate_left 1
                      · (intro w' hSw; clear hSw; go_simp; try with_reducible rfl)
                      (try simp only [Act.put, List.setIfInBounds_toArray, List.set_cons_zero, List.set_cons_succ])
                      refine take_yield (i := 6) (v := ?_) rfl (by kernel_rfl) (by kernel_rfl) (by kernel_rfl) (fun _ _ _ h => h) (by rfl) ?_ hHeld ?_
                      rotate_left 1
                      · (intro w' hSw; clear hSw; go_simp; try with_reducible rfl)
                      (try simp only [Act.put, List.setIfInBounds_toArray, List.set_cons_zero, List.set_cons_succ])
                      refine take_yield (i := 7) (v := ?_) rfl (by kernel_rfl) (by kernel_rfl) (by kernel_rfl) (fun _ _ _ h => h) (by rfl) ?_ hHeld ?_
                      rotate_left 1
                      · (intro w' hSw; clear hSw; go_simp; try with_reducible rfl)
                      (try simp only [Act.put, List.setIfInBounds_toArray, List.set_cons_zero, List.set_cons_succ])
                      refine take_yield (i := 8) (v := ?_) rfl (by kernel_rfl) (by kernel_rfl) (by kernel_rfl) (fun _ _ _ h => h) (by rfl) ?_ hHeld ?_
                      rotate_left 1
                      · (intro w' hSw; have hCell := fun (b o : Nat) (h : b < W3.heap.size) => hSw.cell (p := ⟨b, o, none⟩) h; clear hSw; go_simp; try with_reducible rfl)
                      (try simp only [Act.put, List.setIfInBounds_toArray, List.set_cons_zero, List.set_cons_succ])
                      refine take_yield (i := 9) (v := ?_) rfl (by kernel_rfl) (by kernel_rfl) (by kernel_rfl) (fun _ _ _ h => h) (by rfl) ?_ hHeld ?_
                      rotate_left 1
                      · (intro w' hSw; have hCell := fun (b o : Nat) (h : b < W3.heap.size) => hSw.cell (p := ⟨b, o, none⟩) h; clear hSw; go_simp; try with_reducible rfl)
                      (try simp only [Act.put, List.setIfInBounds_toArray, List.set_cons_zero, List.set_cons_succ])
                      refine take_yield (i := 10) (v := ?_) rfl (by kernel_rfl) (by kernel_rfl) (by kernel_rfl) (fun _ _ _ h => h) (by rfl) ?_ hHeld ?_
                      rotate_left 1
                      · (intro w' hSw; clear hSw; go_simp; try with_reducible rfl)
                      (try simp only [Act.put, List.setIfInBounds_toArray, List.set_cons_zero, List.set_cons_succ])
                      refine take_yield (i := 11) (v := ?_) rfl (by kernel_rfl) (by kernel_rfl) (by kernel_rfl) (fun _ _ _ h => h) (by rfl) ?_ hHeld ?_
                      rotate_left 1
                      · (intro w' hSw; clear hSw; go_simp; try with_reducible rfl)
                      (try simp only [Act.put, List.setIfInBounds_toArray, List.set_cons_zero, List.set_cons_succ])
                      refine wpAnyH_done (by kernel_rfl) ?_ _
                      replace cp0 : W3.drew.cell? ⟨wo.heap.size + 1, 0, none⟩ = some (sv s) := cellAt cp0 hHeld (by omega)
                      replace cp1 : W3.drew.cell? ⟨wo.heap.size + 1, 1, none⟩ = some (sv d) := cellAt cp1 hHeld (by omega)
                      replace hq0 : W3.drew.cell? ⟨b2, o2 + k * 2, none⟩ = some (sv a1) := cellAt hq0 hHeld (by omega)
                      replace hq1 : W3.drew.cell? ⟨b2, o2 + k * 2 + 1, none⟩ = some (sv a2) := cellAt hq1 hHeld (by omega)
                      replace HRa := Lib.hid (HRa.out.at hHeld)
                      replace HB := Lib.hid (HB.out.trans (hHeld.mono HB.out.size))
                      replace n2 : (wo.heap.size + 1) < W3.drew.heap.size := ltAt n2 hHeld
                      replace hB2 : b2 < W3.drew.heap.size := ltAt hB2 hHeld
                      go_wp2_with fail
                      have hge := Hge.out
                      have hne := Hne.out
                      have hins : insL ltP (s, d) acc = acc.take k ++ (s, d) :: acc.drop k := by rw [insL_cut acc k hk hall hge, if_neg hne]
                      have HI := Lib.hid hins
                      first | (refine wp_named ?_; intro W4 hW) | (refine calls_named ?_; intro W4 hW)
                      have B4 : Below W3.drew.heap.size W3.drew W4 := by rw [hW]; exact (by repeat (first | exact Below.refl _ _ | assumption | refine Below.alloc ?_ (by simp <;> omega) _ | refine Below.setCell ?_ (by simp <;> omega) _ | refine Below.drew ?_))
                      replace cp0 : W4.cell? ⟨wo.heap.size + 1, 0, none⟩ = some (sv s) := cellAt cp0 B4 (by omega)
                      replace cp1 : W4.cell? ⟨wo.heap.size + 1, 1, none⟩ = some (sv d) := cellAt cp1 B4 (by omega)
                      replace hq0 : W4.cell? ⟨b2, o2 + k * 2, none⟩ = some (sv a1) := cellAt hq0 B4 (by omega)
                      replace hq1 : W4.cell? ⟨b2, o2 + k * 2 + 1, none⟩ = some (sv a2) := cellAt hq1 B4 (by omega)
                      replace HRa := Lib.hid (HRa.out.at B4)
                      replace HB := Lib.hid (HB.out.trans (B4.mono HB.out.size))
                      replace n2 : (wo.heap.size + 1) < W4.heap.size := ltAt n2 B4
                      replace hB2 : b2 < W4.heap.size := ltAt hB2 B4
                      clear hW
                      clear B4 hins hge hne
                      have hz4 := Nat.le_trans HB1.out.size HB.out.size
                      have HR1 := Lib.hid (HRa.out.takeA hk)
                      have HR2 := Lib.hid (HRa.out.dropA hk hc)
                      have hs1 := run_slice_full (P := Tryz.prog) Tryz.underlying59 hi (some ⟨b2, o2, none⟩) acc.length c k (Nat.le_trans hk hc)
                      have hs2 := run_slice_tail (P := Tryz.prog) Tryz.underlying59 hi (some ⟨b2, o2, none⟩) acc.length c k hk
                      rw [hz1] at hs1 hs2
                      have HLk := Lib.hid (show (acc.drop k).length = acc.length - k from List.length_drop)
                      try go_wp2_with fail
                      refine wp_region_held_drew (S := fun w' => Below W4.heap.size W4 w') (by kernel_rfl) (Below.drew (Below.refl _ _)) (fun hHeld => ?_)
                      refine take_yield (i := 0) (v := ?_) rfl (by kernel_rfl) (by kernel_rfl) (by kernel_rfl) (fun _ _ _ h => h) (by rfl) ?_ hHeld ?_
                      rotate_left 1
                      · (intro w' hSw; clear hSw; go_simp; try with_reducible rfl)
                      (try simp only [Act.put, List.setIfInBounds_toArray, List.set_cons_zero, List.set_cons_succ])
                      refine take_yield (i := 1) (v := ?_) rfl (by kernel_rfl) (by kernel_rfl) (by kernel_rfl) (fun _ _ _ h => h) (by rfl) ?_ hHeld ?_
                      rotate_left 1
                      · (intro w' hSw; clear hSw; go_simp; try with_reducible rfl)
                      (try simp only [Act.put, List.setIfInBounds_toArray, List.set_cons_zero, List.set_cons_succ])
                      refine take_yield (i := 2) (v := ?_) rfl (by kernel_rfl) (by kernel_rfl) (by kernel_rfl) (fun _ _ _ h => h) (by rfl) ?_ hHeld ?_
                      rotate_left 1
                      · (intro w' hSw; clear hSw; go_simp; try with_reducible rfl)
                      (try simp only [Act.put, List.setIfInBounds_toArray, List.set_cons_zero, List.set_cons_succ])
                      refine take_yield (i := 3) (v := ?_) rfl (by kernel_rfl) (by kernel_rfl) (by kernel_rfl) (fun _ _ _ h => h) (by rfl) ?_ hHeld ?_
                      rotate_left 1
                      · (intro w' hSw; clear hSw; go_simp; try with_reducible rfl)
                      (try simp only [Act.put, List.setIfInBounds_toArray, List.set_cons_zero, List.set_cons_succ])
                      refine take_yield (i := 4) (v := ?_) rfl (by kernel_rfl) (by kernel_rfl) (by kernel_rfl) (fun _ _ _ h => h) (by rfl) ?_ hHeld ?_
                      rotate_left 1
                      · (intro w' hSw; have hCell := fun (b o : Nat) (h : b < W4.heap.size) => hSw.cell (p := ⟨b, o, none⟩) h; clear hSw; go_simp; try with_reducible rfl)
                      (try simp only [Act.put, List.setIfInBounds_toArray, List.set_cons_zero, List.set_cons_succ])
                      refine take_yield (i := 6) (v := ?_) rfl (by kernel_rfl) (by kernel_rfl) (by kernel_rfl) (fun _ _ _ h => h) (by rfl) ?_ hHeld ?_
                      rotate_left 1
                      · (intro w' hSw; clear hSw; go_simp; try with_reducible rfl)
                      (try simp only [Act.put, List.setIfInBounds_toArray, List.set_cons_zero, List.set_cons_succ])
                      refine take_yield (i := 7) (v := ?_) rfl (by kernel_rfl) (by kernel_rfl) (by kernel_rfl) (fun _ _ _ h => h) (by rfl) ?_ hHeld ?_
                      rotate_left 1
                      · (intro w' hSw; clear hSw; go_simp; try with_reducible rfl)
                      (try simp only [Act.put, List.setIfInBounds_toArray, List.set_cons_zero, List.set_cons_succ])
                      refine take_yield (i := 8) (v := ?_) rfl (by kernel_rfl) (by kernel_rfl) (by kernel_rfl) (fun _ _ _ h => h) (by rfl) ?_ hHeld ?_
                      rotate_left 1
                      · (intro w' hSw; clear hSw; go_simp; try with_reducible rfl)
                      (try simp only [Act.put, List.setIfInBounds_toArray, List.set_cons_zero, List.set_cons_succ])
                      refine ready_one (i := 5) rfl (by kernel_rfl) (fun K hK => ?_)
                      go_simp
                      refine hK.out _ _ ?_ (fun hHeld2 => ?_)
                      · (try dsimp only); first | exact hHeld | exact (by repeat (first | exact Below.refl _ _ | assumption | refine Below.alloc ?_ (by simp <;> omega) _ | refine Below.setCell ?_ (by simp <;> omega) _ | refine Below.drew ?_))
                      clear hK K hHeld
                      have hHeld := hHeld2
                      clear hHeld2
                      (try simp only [Act.put, List.setIfInBounds_toArray, List.set_cons_zero, List.set_cons_succ])
                      refine ready_one (i := 9) rfl (by kernel_rfl) (fun K hK => ?_)
                      refine step_append_full (by rfl) (.tmp 89) (.tmp 92) 59 (by rfl) 61 i0 _ 2 32 Tryz.underlying59 hi hz0 hz1 hz2 rfl _ (some ⟨W4.heap.size, 0, none⟩) 1 (prC (s, d)) (by rfl) (Rd.lit W4.drew (prC (s, d)) 61 2 1 rfl) (Nat.le_refl _) _ _ (acc.length - k) (c - k) _ (by rfl) (HR2.out.at' (Nat.le_refl _) hHeld) (one_drop (one_prsC acc) _) (by unfold maxLen; omega) (by omega) ?_
                      intro A2 c2 v2 hc2 hr2 hb
                      have HR3 := Lib.hid hr2
                      clear hr2
                      refine hK.out _ _ ?_ (fun hHeld2 => ?_)
                      · (try dsimp only); first | exact Below.trans hHeld (Below.mono hb hHeld.size) | exact hHeld | exact Below.drew hHeld | exact (by repeat (first | exact Below.refl _ _ | assumption | refine Below.alloc ?_ (by simp <;> omega) _ | refine Below.setCell ?_ (by simp <;> omega) _ | refine Below.drew ?_))
                      clear hK K hHeld
                      have hHeld := hHeld2
                      clear hHeld2
                      (try simp only [Act.put, List.setIfInBounds_toArray, List.set_cons_zero, List.set_cons_succ])
                      refine ready_one (i := 10) rfl (by kernel_rfl) (fun K hK => ?_)
                      refine step_append_fresh (by rfl) (.tmp 87) (.tmp 93) 59 (by rfl) 61 i0 _ 2 32 Tryz.underlying59 hi hz0 hz1 hz2 rfl _ _ k _ (by rfl) (HR1.out.at' (Nat.le_refl _) hHeld) (Nat.le_refl _) _ A2 (1 + (acc.length - k)) c2 _ (by rfl) HR3.out (one_app (one_prC _) (one_drop (one_prsC acc) _)) (by unfold maxLen; omega) (by omega) ?_
                      intro A3 c3 v3 hc3 hr3 hb hf3
                      have hz5 := Nat.le_trans hz4 hHeld.size
                      have HR4 := Lib.hid hr3
                      clear hr3
                      refine hK.out _ _ ?_ (fun hHeld2 => ?_)
                      · (try dsimp only); first | exact Below.trans hHeld (Below.mono hb hHeld.size) | exact hHeld | exact Below.drew hHeld | exact (by repeat (first | exact Below.refl _ _ | assumption | refine Below.alloc ?_ (by simp <;> omega) _ | refine Below.setCell ?_ (by simp <;> omega) _ | refine Below.drew ?_))
                      clear hK K hHeld
                      have hHeld := hHeld2
                      clear hHeld2
                      (try simp only [Act.put, List.setIfInBounds_toArray, List.set_cons_zero, List.set_cons_succ])
                      refine take_yield (i := 11) (v := ?_) rfl (by kernel_rfl) (by kernel_rfl) (by kernel_rfl) (fun _ _ _ h => h) (by rfl) ?_ hHeld ?_
                      rotate_left 1
                      · (intro w' hSw; clear hSw; go_simp; try with_reducible rfl)
                      (try simp only [Act.put, List.setIfInBounds_toArray, List.set_cons_zero, List.set_cons_succ])
                      refine wpAnyH_done (by kernel_rfl) ?_ _
                      replace cp0 : v3.cell? ⟨wo.heap.size + 1, 0, none⟩ = some (sv s) := cellAt cp0 hHeld (by omega)
                      replace cp1 : v3.cell? ⟨wo.heap.size + 1, 1, none⟩ = some (sv d) := cellAt cp1 hHeld (by omega)
                      replace hq0 : v3.cell? ⟨b2, o2 + k * 2, none⟩ = some (sv a1) := cellAt hq0 hHeld (by omega)
                      replace hq1 : v3.cell? ⟨b2, o2 + k * 2 + 1, none⟩ = some (sv a2) := cellAt hq1 hHeld (by omega)
                      replace HRa := Lib.hid (HRa.out.at hHeld)
                      replace HB := Lib.hid (HB.out.trans (hHeld.mono HB.out.size))
                      replace n2 : (wo.heap.size + 1) < v3.heap.size := ltAt n2 hHeld
                      replace hB2 : b2 < v3.heap.size := ltAt hB2 hHeld
                      clear hs1 hs2
                      go_wp2_with fail
                      go_roundw
                      case rel =>
                        have hlen : k + (1 + (acc.length - k)) = (accP es (j + 1)).length := by rw [HN.out, HI.out, List.length_append, List.length_cons, List.length_take, HLk.out]; omega
                        refine ⟨j + 1, A3, c3, by omega, by go_num, by rw [hlen], by rw [← hlen]; exact hc3, ?_, fun _ ad e => Nat.le_trans hz5 (hf3 (by omega) ad e), HB.out⟩
                        have h4 := HR4.out
                        rw [hlen] at h4
                        have hx : (prsC acc).take (k * 2) ++ (prC (s, d) ++ (prsC acc).drop (k * 2)) = prsC (accP es (j + 1)) := by rw [HN.out, HI.out, prsC_take, prsC_drop]; simp [prsC]
                        rw [hx] at h4
                        exact h4
                      case measure => simp [intOf]; omega
                    · skip
                      try go_wp2_with fail
                      refine wp_region_held_drew (S := fun w' => Below wr.heap.size wr w') (by kernel_rfl) (Below.drew (Below.refl _ _)) (fun hHeld => ?_)
                      refine take_yield (i := 0) (v := ?_) rfl (by kernel_rfl) (by kernel_rfl) (by kernel_rfl) (fun _ _ _ h => h) (by rfl) ?_ hHeld ?_
                      rotate_left 1
                      · (intro w' hSw; clear hSw; go_simp; try with_reducible rfl)
                      (try simp only [Act.put, List.setIfInBounds_toArray, List.set_cons_zero, List.set_cons_succ])
                      refine take_yield (i := 1) (v := ?_) rfl (by kernel_rfl) (by kernel_rfl) (by kernel_rfl) (fun _ _ _ h => h) (by rfl) ?_ hHeld ?_
                      rotate_left 1
                      · (intro w' hSw; clear hSw; go_simp; try with_reducible rfl)
                      (try simp only [Act.put, List.setIfInBounds_toArray, List.set_cons_zero, List.set_cons_succ])
                      refine take_yield (i := 2) (v := ?_) rfl (by kernel_rfl) (by kernel_rfl) (by kernel_rfl) (fun _ _ _ h => h) (by rfl) ?_ hHeld ?_
                      rotate_left 1
                      · (intro w' hSw; clear hSw; go_simp; try with_reducible rfl)
                      (try simp only [Act.put, List.setIfInBounds_toArray, List.set_cons_zero, List.set_cons_succ])
                      refine take_yield (i := 3) (v := ?_) rfl (by kernel_rfl) (by kernel_rfl) (by kernel_rfl) (fun _ _ _ h => h) (by rfl) ?_ hHeld ?_
                      rotate_left 1
                      · (intro w' hSw; clear hSw; go_simp; try with_reducible rfl)
                      (try simp only [Act.put, List.setIfInBounds_toArray, List.set_cons_zero, List.set_cons_succ])
                      refine take_yield (i := 4) (v := ?_) rfl (by kernel_rfl) (by kernel_rfl) (by kernel_rfl) (fun _ _ _ h => h) (by rfl) ?_ hHeld ?_
                      rotate_left 1
                      · (intro w' hSw; clear hSw; go_simp; try with_reducible rfl)
                      (try simp only [Act.put, List.setIfInBounds_toArray, List.set_cons_zero, List.set_cons_succ])
                      refine take_yield (i := 5) (v := ?_) rfl (by kernel_rfl) (by kernel_rfl) (by kernel_rfl) (fun _ _ _ h => h) (by rfl) ?_ hHeld ?_
                      rotate_left 1
                      · (intro w' hSw; clear hSw; go_simp; try with_reducible rfl)
                      (try simp only [Act.put, List.setIfInBounds_toArray, List.set_cons_zero, List.set_cons_succ])
                      refine take_yield (i := 6) (v := ?_) rfl (by kernel_rfl) (by kernel_rfl) (by kernel_rfl) (fun _ _ _ h => h) (by rfl) ?_ hHeld ?_
                      rotate_left 1
                      · (intro w' hSw; clear hSw; go_simp; try with_reducible rfl)
                      (try simp only [Act.put, List.setIfInBounds_toArray, List.set_cons_zero, List.set_cons_succ])
                      refine take_yield (i := 7) (v := ?_) rfl (by kernel_rfl) (by kernel_rfl) (by kernel_rfl) (fun _ _ _ h => h) (by rfl) ?_ hHeld ?_
                      rotate_left 1
                      · (intro w' hSw; clear hSw; go_simp; try with_reducible rfl)
                      (try simp only [Act.put, List.setIfInBounds_toArray, List.set_cons_zero, List.set_cons_succ])
                      refine take_yield (i := 8) (v := ?_) rfl (by kernel_rfl) (by kernel_rfl) (by kernel_rfl) (fun _ _ _ h => h) (by rfl) ?_ hHeld ?_
                      rotate_left 1
                      · (intro w' hSw; clear hSw; go_simp; try with_reducible rfl)
                      (try simp only [Act.put, List.setIfInBounds_toArray, List.set_cons_zero, List.set_cons_succ])
                      refine take_yield (i := 9) (v := ?_) rfl (by kernel_rfl) (by kernel_rfl) (by kernel_rfl) (fun _ _ _ h => h) (by rfl) ?_ hHeld ?_
                      rotate_left 1
                      · (intro w' hSw; have hCell := fun (b o : Nat) (h : b < wr.heap.size) => hSw.cell (p := ⟨b, o, none⟩) h; clear hSw; go_simp; try with_reducible rfl)
                      (try simp only [Act.put, List.setIfInBounds_toArray, List.set_cons_zero, List.set_cons_succ])
                      refine take_yield (i := 10) (v := ?_) rfl (by kernel_rfl) (by kernel_rfl) (by kernel_rfl) (fun _ _ _ h => h) (by rfl) ?_ hHeld ?_
                      rotate_left 1
                      · (intro w' hSw; clear hSw; go_simp; try with_reducible rfl)
                      (try simp only [Act.put, List.setIfInBounds_toArray, List.set_cons_zero, List.set_cons_succ])
                      refine take_yield (i := 11) (v := ?_) rfl (by kernel_rfl) (by kernel_rfl) (by kernel_rfl) (fun _ _ _ h => h) (by rfl) ?_ hHeld ?_
                      rotate_left 1
                      · (intro w' hSw; have hCell := fun (b o : Nat) (h : b < wr.heap.size) => hSw.cell (p := ⟨b, o, none⟩) h; clear hSw; go_simp; try with_reducible rfl)
                      (try simp only [Act.put, List.setIfInBounds_toArray, List.set_cons_zero, List.set_cons_succ])
                      refine take_yield (i := 12) (v := ?_) rfl (by kernel_rfl) (by kernel_rfl) (by kernel_rfl) (fun _ _ _ h => h) (by rfl) ?_ hHeld ?_
                      rotate_left 1
                      · (intro w' hSw; clear hSw; go_simp; try with_reducible rfl)
                      (try simp only [Act.put, List.setIfInBounds_toArray, List.set_cons_zero, List.set_cons_succ])
                      refine take_yield (i := 13) (v := ?_) rfl (by kernel_rfl) (by kernel_rfl) (by kernel_rfl) (fun _ _ _ h => h) (by rfl) ?_ hHeld ?_
                      rotate_left 1
                      · (intro w' hSw; clear hSw; go_simp; try with_reducible rfl)
                      (try simp only [Act.put, List.setIfInBounds_toArray, List.set_cons_zero, List.set_cons_succ])
                      refine take_yield (i := 14) (v := ?_) rfl (by kernel_rfl) (by kernel_rfl) (by kernel_rfl) (fun _ _ _ h => h) (by rfl) ?_ hHeld ?_
                      rotate_left 1
                      · (intro w' hSw; clear hSw; go_simp; try with_reducible rfl)
                      (try simp only [Act.put, List.setIfInBounds_toArray, List.set_cons_zero, List.set_cons_succ])
                      refine take_yield (i := 15) (v := ?_) rfl (by kernel_rfl) (by kernel_rfl) (by kernel_rfl) (fun _ _ _ h => h) (by rfl) ?_ hHeld ?_
                      rotate_left 1
                      · (intro w' hSw; clear hSw; go_simp; try with_reducible rfl)
                      (try simp only [Act.put, List.setIfInBounds_toArray, List.set_cons_zero, List.set_cons_succ])
                      refine take_yield (i := 16) (v := ?_) rfl (by kernel_rfl) (by kernel_rfl) (by kernel_rfl) (fun _ _ _ h => h) (by rfl) ?_ hHeld ?_
                      rotate_left 1
                      · (intro w' hSw; clear hSw; go_simp; try with_reducible rfl)
                      (try simp only [Act.put, List.setIfInBounds_toArray, List.set_cons_zero, List.set_cons_succ])
                      refine take_yield (i := 17) (v := ?_) rfl (by kernel_rfl) (by kernel_rfl) (by kernel_rfl) (fun _ _ _ h => h) (by rfl) ?_ hHeld ?_
                      rotate_left 1
                      · (intro w' hSw; clear hSw; go_simp; try with_reducible rfl)
                      (try simp only [Act.put, List.setIfInBounds_toArray, List.set_cons_zero, List.set_cons_succ])
                      refine take_yield (i := 18) (v := ?_) rfl (by kernel_rfl) (by kernel_rfl) (by kernel_rfl) (fun _ _ _ h => h) (by rfl) ?_ hHeld ?_
                      rotate_left 1
                      · (intro w' hSw; have hCell := fun (b o : Nat) (h : b < wr.heap.size) => hSw.cell (p := ⟨b, o, none⟩) h; clear hSw; go_simp; try with_reducible rfl)
                      (try simp only [Act.put, List.setIfInBounds_toArray, List.set_cons_zero, List.set_cons_succ])
                      refine take_yield (i := 19) (v := ?_) rfl (by kernel_rfl) (by kernel_rfl) (by kernel_rfl) (fun _ _ _ h => h) (by rfl) ?_ hHeld ?_
                      rotate_left 1
                      · (intro w' hSw; clear hSw; go_simp; try with_reducible rfl)
                      (try simp only [Act.put, List.setIfInBounds_toArray, List.set_cons_zero, List.set_cons_succ])
                      refine take_yield (i := 20) (v := ?_) rfl (by kernel_rfl) (by kernel_rfl) (by kernel_rfl) (fun _ _ _ h => h) (by rfl) ?_ hHeld ?_
                      rotate_left 1
                      · (intro w' hSw; have hCell := fun (b o : Nat) (h : b < wr.heap.size) => hSw.cell (p := ⟨b, o, none⟩) h; clear hSw; go_simp; try with_reducible rfl)
                      (try simp only [Act.put, List.setIfInBounds_toArray, List.set_cons_zero, List.set_cons_succ])
                      refine take_yield (i := 21) (v := ?_) rfl (by kernel_rfl) (by kernel_rfl) (by kernel_rfl) (fun _ _ _ h => h) (by rfl) ?_ hHeld ?_
                      rotate_left 1
                      · (intro w' hSw; clear hSw; go_simp; try with_reducible rfl)
                      (try simp only [Act.put, List.setIfInBounds_toArray, List.set_cons_zero, List.set_cons_succ])
                      refine take_yield (i := 22) (v := ?_) rfl (by kernel_rfl) (by kernel_rfl) (by kernel_rfl) (fun _ _ _ h => h) (by rfl) ?_ hHeld ?_
                      rotate_left 1
                      · (intro w' hSw; clear hSw; go_simp; try with_reducible rfl)
                      (try simp only [Act.put, List.setIfInBounds_toArray, List.set_cons_zero, List.set_cons_succ])
                      refine take_yield (i := 23) (v := ?_) rfl (by kernel_rfl) (by kernel_rfl) (by kernel_rfl) (fun _ _ _ h => h) (by rfl) ?_ hHeld ?_
                      rotate_left 1
                      · (intro w' hSw; clear hSw; go_simp; try with_reducible rfl)
                      (try simp only [Act.put, List.setIfInBounds_toArray, List.set_cons_zero, List.set_cons_succ])
                      refine take_yield (i := 24) (v := ?_) rfl (by kernel_rfl) (by kernel_rfl) (by kernel_rfl) (fun _ _ _ h => h) (by rfl) ?_ hHeld ?_
                      rotate_left 1
                      · (intro w' hSw; clear hSw; go_simp; try with_reducible rfl)
                      (try simp only [Act.put, List.setIfInBounds_toArray, List.set_cons_zero, List.set_cons_succ])
                      refine take_yield (i := 25) (v := ?_) rfl (by kernel_rfl) (by kernel_rfl) (by kernel_rfl) (fun _ _ _ h => h) (by rfl) ?_ hHeld ?_
                      rotate_left 1
                      · (intro w' hSw; clear hSw; go_simp; try with_reducible rfl)
                      (try simp only [Act.put, List.setIfInBounds_toArray, List.set_cons_zero, List.set_cons_succ])
                      refine take_yield (i := 26) (v := ?_) rfl (by kernel_rfl) (by kernel_rfl) (by kernel_rfl) (fun _ _ _ h => h) (by rfl) ?_ hHeld ?_
                      rotate_left 1
                      · (intro w' hSw; clear hSw; go_simp; try with_reducible rfl)
                      (try simp only [Act.put, List.setIfInBounds_toArray, List.set_cons_zero, List.set_cons_succ])
                      refine take_yield (i := 27) (v := ?_) rfl (by kernel_rfl) (by kernel_rfl) (by kernel_rfl) (fun _ _ _ h => h) (by rfl) ?_ hHeld ?_
                      rotate_left 1
                      · (intro w' hSw; have hCell := fun (b o : Nat) (h : b < wr.heap.size) => hSw.cell (p := ⟨b, o, none⟩) h; clear hSw; go_simp; try with_reducible rfl)
                      (try simp only [Act.put, List.setIfInBounds_toArray, List.set_cons_zero, List.set_cons_succ])
                      refine take_yield (i := 28) (v := ?_) rfl (by kernel_rfl) (by kernel_rfl) (by kernel_rfl) (fun _ _ _ h => h) (by rfl) ?_ hHeld ?_
                      rotate_left 1
                      · (intro w' hSw; clear hSw; go_simp; try with_reducible rfl)
                      (try simp only [Act.put, List.setIfInBounds_toArray, List.set_cons_zero, List.set_cons_succ])
                      refine take_yield (i := 29) (v := ?_) rfl (by kernel_rfl) (by kernel_rfl) (by kernel_rfl) (fun _ _ _ h => h) (by rfl) ?_ hHeld ?_
                      rotate_left 1
                      · (intro w' hSw; have hCell := fun (b o : Nat) (h : b < wr.heap.size) => hSw.cell (p := ⟨b, o, none⟩) h; clear hSw; go_simp; try with_reducible rfl)
                      (try simp only [Act.put, List.setIfInBounds_toArray, List.set_cons_zero, List.set_cons_succ])
                      refine take_yield (i := 30) (v := ?_) rfl (by kernel_rfl) (by kernel_rfl) (by kernel_rfl) (fun _ _ _ h => h) (by rfl) ?_ hHeld ?_
                      rotate_left 1
                      · (intro w' hSw; clear hSw; go_simp; try with_reducible rfl)
                      (try simp only [Act.put, List.setIfInBounds_toArray, List.set_cons_zero, List.set_cons_succ])
                      refine take_yield (i := 31) (v := ?_) rfl (by kernel_rfl) (by kernel_rfl) (by kernel_rfl) (fun _ _ _ h => h) (by rfl) ?_ hHeld ?_
                      rotate_left 1
                      · (intro w' hSw; clear hSw; go_simp; try with_reducible rfl)
                      (try simp only [Act.put, List.setIfInBounds_toArray, List.set_cons_zero, List.set_cons_succ])
                      refine take_yield (i := 32) (v := ?_) rfl (by kernel_rfl) (by kernel_rfl) (by kernel_rfl) (fun _ _ _ h => h) (by rfl) ?_ hHeld ?_
                      rotate_left 1
                      · (intro w' hSw; clear hSw; go_simp; try with_reducible rfl)
                      (try simp only [Act.put, List.setIfInBounds_toArray, List.set_cons_zero, List.set_cons_succ])
                      refine take_yield (i := 33) (v := ?_) rfl (by kernel_rfl) (by kernel_rfl) (by kernel_rfl) (fun _ _ _ h => h) (by rfl) ?_ hHeld ?_
                      rotate_left 1
                      · (intro w' hSw; clear hSw; go_simp; try with_reducible rfl)
                      (try simp only [Act.put, List.setIfInBounds_toArray, List.set_cons_zero, List.set_cons_succ])
                      refine wpAnyH_done (by kernel_rfl) ?_ _
                      replace cp0 : wr.drew.cell? ⟨wo.heap.size + 1, 0, none⟩ = some (sv s) := cellAt cp0 hHeld (by omega)
                      replace cp1 : wr.drew.cell? ⟨wo.heap.size + 1, 1, none⟩ = some (sv d) := cellAt cp1 hHeld (by omega)
                      replace hq0 : wr.drew.cell? ⟨b2, o2 + k * 2, none⟩ = some (sv a1) := cellAt hq0 hHeld (by omega)
                      replace hq1 : wr.drew.cell? ⟨b2, o2 + k * 2 + 1, none⟩ = some (sv a2) := cellAt hq1 hHeld (by omega)
                      replace HRa := Lib.hid (HRa.out.at hHeld)
                      replace HB := Lib.hid (HB.out.trans (hHeld.mono HB.out.size))
                      replace n2 : (wo.heap.size + 1) < wr.drew.heap.size := ltAt n2 hHeld
                      replace hB2 : b2 < wr.drew.heap.size := ltAt hB2 hHeld
                      go_wp2_with fail
                      first | (refine wp_named ?_; intro W3 hW) | (refine calls_named ?_; intro W3 hW)
                      have B3 : Below wr.drew.heap.size wr.drew W3 := by rw [hW]; exact (by repeat (first | exact Below.refl _ _ | assumption | refine Below.alloc ?_ (by simp <;> omega) _ | refine Below.setCell ?_ (by simp <;> omega) _ | refine Below.drew ?_))
                      replace cp0 : W3.cell? ⟨wo.heap.size + 1, 0, none⟩ = some (sv s) := cellAt cp0 B3 (by omega)
                      replace cp1 : W3.cell? ⟨wo.heap.size + 1, 1, none⟩ = some (sv d) := cellAt cp1 B3 (by omega)
                      replace hq0 : W3.cell? ⟨b2, o2 + k * 2, none⟩ = some (sv a1) := cellAt hq0 B3 (by omega)
                      replace hq1 : W3.cell? ⟨b2, o2 + k * 2 + 1, none⟩ = some (sv a2) := cellAt hq1 B3 (by omega)
                      replace HRa := Lib.hid (HRa.out.at B3)
                      replace HB := Lib.hid (HB.out.trans (B3.mono HB.out.size))
                      replace n2 : (wo.heap.size + 1) < W3.heap.size := ltAt n2 B3
                      replace hB2 : b2 < W3.heap.size := ltAt hB2 B3
                      clear hW
                      clear B3
                      try go_wp2_with fail
                      refine wp_region_held_drew (S := fun w' => Below W3.heap.size W3 w') (by kernel_rfl) (Below.drew (Below.refl _ _)) (fun hHeld => ?_)
                      refine take_yield (i := 0) (v := ?_) rfl (by kernel_rfl) (by kernel_rfl) (by kernel_rfl) (fun _ _ _ h => h) (by rfl) ?_ hHeld ?_
                      rotate_left 1
                      · (intro w' hSw; clear hSw; go_simp; try with_reducible rfl)
                      (try simp only [Act.put, List.setIfInBounds_toArray, List.set_cons_zero, List.set_cons_succ])
                      refine take_yield (i := 1) (v := ?_) rfl (by kernel_rfl) (by kernel_rfl) (by kernel_rfl) (fun _ _ _ h => h) (by rfl) ?_ hHeld ?_
                      rotate_left 1
                      · (intro w' hSw; clear hSw; go_simp; try with_reducible rfl)
                      (try simp only [Act.put, List.setIfInBounds_toArray, List.set_cons_zero, List.set_cons_succ])
                      refine take_yield (i := 2) (v := ?_) rfl (by kernel_rfl) (by kernel_rfl) (by kernel_rfl) (fun _ _ _ h => h) (by rfl) ?_ hHeld ?_
                      rotate_left 1
                      · (intro w' hSw; clear hSw; go_simp; try with_reducible rfl)
                      (try simp only [Act.put, List.setIfInBounds_toArray, List.set_cons_zero, List.set_cons_succ])
                      refine take_yield (i := 3) (v := ?_) rfl (by kernel_rfl) (by kernel_rfl) (by kernel_rfl) (fun _ _ _ h => h) (by rfl) ?_ hHeld ?_
                      rotate_left 1
                      · (intro w' hSw; clear hSw; go_simp; try with_reducible rfl)
                      (try simp only [Act.put, List.setIfInBounds_toArray, List.set_cons_zero, List.set_cons_succ])
                      refine take_yield (i := 4) (v := ?_) rfl (by kernel_rfl) (by kernel_rfl) (by kernel_rfl) (fun _ _ _ h => h) (by rfl) ?_ hHeld ?_
                      rotate_left 1
                      · (intro w' hSw; clear hSw; go_simp; try with_reducible rfl)
                      (try simp only [Act.put, List.setIfInBounds_toArray, List.set_cons_zero, List.set_cons_succ])
                      refine take_yield (i := 5) (v := ?_) rfl (by kernel_rfl) (by kernel_rfl) (by kernel_rfl) (fun _ _ _ h => h) (by rfl) ?_ hHeld ?_
                      rotate_left 1
                      · (intro w' hSw; clear hSw; go_simp; try with_reducible rfl)
                      (try simp only [Act.put, List.setIfInBounds_toArray, List.set_cons_zero, List.set_cons_succ])
                      refine take_yield (i := 6) (v := ?_) rfl (by kernel_rfl) (by kernel_rfl) (by kernel_rfl) (fun _ _ _ h => h) (by rfl) ?_ hHeld ?_
                      rotate_left 1
                      · (intro w' hSw; clear hSw; go_simp; try with_reducible rfl)
                      (try simp only [Act.put, List.setIfInBounds_toArray, List.set_cons_zero, List.set_cons_succ])
                      refine take_yield (i := 7) (v := ?_) rfl (by kernel_rfl) (by kernel_rfl) (by kernel_rfl) (fun _ _ _ h => h) (by rfl) ?_ hHeld ?_
                      rotate_left 1
                      · (intro w' hSw; clear hSw; go_simp; try with_reducible rfl)
                      (try simp only [Act.put, List.setIfInBounds_toArray, List.set_cons_zero, List.set_cons_succ])
                      refine take_yield (i := 8) (v := ?_) rfl (by kernel_rfl) (by kernel_rfl) (by kernel_rfl) (fun _ _ _ h => h) (by rfl) ?_ hHeld ?_
                      rotate_left 1
                      · (intro w' hSw; have hCell := fun (b o : Nat) (h : b < W3.heap.size) => hSw.cell (p := ⟨b, o, none⟩) h; clear hSw; go_simp; try with_reducible rfl)
                      (try simp only [Act.put, List.setIfInBounds_toArray, List.set_cons_zero, List.set_cons_succ])
                      refine take_yield (i := 9) (v := ?_) rfl (by kernel_rfl) (by kernel_rfl) (by kernel_rfl) (fun _ _ _ h => h) (by rfl) ?_ hHeld ?_
                      rotate_left 1
                      · (intro w' hSw; have hCell := fun (b o : Nat) (h : b < W3.heap.size) => hSw.cell (p := ⟨b, o, none⟩) h; clear hSw; go_simp; try with_reducible rfl)
                      (try simp only [Act.put, List.setIfInBounds_toArray, List.set_cons_zero, List.set_cons_succ])
                      refine take_yield (i := 10) (v := ?_) rfl (by kernel_rfl) (by kernel_rfl) (by kernel_rfl) (fun _ _ _ h => h) (by rfl) ?_ hHeld ?_
                      rotate_left 1
                      · (intro w' hSw; clear hSw; go_simp; try with_reducible rfl)
                      (try simp only [Act.put, List.setIfInBounds_toArray, List.set_cons_zero, List.set_cons_succ])
                      refine take_yield (i := 11) (v := ?_) rfl (by kernel_rfl) (by kernel_rfl) (by kernel_rfl) (fun _ _ _ h => h) (by rfl) ?_ hHeld ?_
                      rotate_left 1
                      · (intro w' hSw; clear hSw; go_simp; try with_reducible rfl)
                      (try simp only [Act.put, List.setIfInBounds_toArray, List.set_cons_zero, List.set_cons_succ])
                      refine wpAnyH_done (by kernel_rfl) ?_ _
                      replace cp0 : W3.drew.cell? ⟨wo.heap.size + 1, 0, none⟩ = some (sv s) := cellAt cp0 hHeld (by omega)
                      replace cp1 : W3.drew.cell? ⟨wo.heap.size + 1, 1, none⟩ = some (sv d) := cellAt cp1 hHeld (by omega)
                      replace hq0 : W3.drew.cell? ⟨b2, o2 + k * 2, none⟩ = some (sv a1) := cellAt hq0 hHeld (by omega)
                      replace hq1 : W3.drew.cell? ⟨b2, o2 + k * 2 + 1, none⟩ = some (sv a2) := cellAt hq1 hHeld (by omega)
                      replace HRa := Lib.hid (HRa.out.at hHeld)
                      replace HB := Lib.hid (HB.out.trans (hHeld.mono HB.out.size))
                      replace n2 : (wo.heap.size + 1) < W3.drew.heap.size := ltAt n2 hHeld
                      replace hB2 : b2 < W3.drew.heap.size := ltAt hB2 hHeld
                      go_wp2_with fail
                      have hge := Hge.out
                      go_roundw
                      case rel =>
                        have hins : accP es (j + 1) = acc := by rw [HN.out, insL_cut acc k hk hall hge, if_pos]; rw [List.getElem?_eq_getElem hlt2, Hq.out]; simp_all
                        exact ⟨j + 1, _, c, by omega, by go_num, by rw [hins], by rw [hins]; exact hc, by rw [hins]; exact HRa.out.at (by repeat (first | exact Below.refl _ _ | assumption | refine Below.alloc ?_ (by simp <;> omega) _ | refine Below.setCell ?_ (by simp <;> omega) _ | refine Below.drew ?_)), by rw [hins]; exact HFr.out, HB.out.trans (Below.mono (by repeat (first | exact Below.refl _ _ | assumption | refine Below.alloc ?_ (by simp <;> omega) _ | refine Below.setCell ?_ (by simp <;> omega) _ | refine Below.drew ?_)) HB.out.size)⟩
                      case measure => simp [intOf]; omega
                  · skip
                    try go_wp2_with fail
                    refine wp_region_held_drew (S := fun w' => Below wr.heap.size wr w') (by kernel_rfl) (Below.drew (Below.refl _ _)) (fun hHeld => ?_)
                    refine take_yield (i := 0) (v := ?_) rfl (by kernel_rfl) (by kernel_rfl) (by kernel_rfl) (fun _ _ _ h => h) (by rfl) ?_ hHeld ?_
                    rotate_left 1
                    · (intro w' hSw; clear hSw; go_simp; try with_reducible rfl)
                    (try simp only [Act.put, List.setIfInBounds_toArray, List.set_cons_zero, List.set_cons_succ])
                    refine take_yield (i := 1) (v := ?_) rfl (by kernel_rfl) (by kernel_rfl) (by kernel_rfl) (fun _ _ _ h => h) (by rfl) ?_ hHeld ?_
                    rotate_left 1
                    · (intro w' hSw; clear hSw; go_simp; try with_reducible rfl)
                    (try simp only [Act.put, List.setIfInBounds_toArray, List.set_cons_zero, List.set_cons_succ])
                    refine take_yield (i := 2) (v := ?_) rfl (by kernel_rfl) (by kernel_rfl) (by kernel_rfl) (fun _ _ _ h => h) (by rfl) ?_ hHeld ?_
                    rotate_left 1
                    · (intro w' hSw; clear hSw; go_simp; try with_reducible rfl)
                    (try simp only [Act.put, List.setIfInBounds_toArray, List.set_cons_zero, List.set_cons_succ])
                    refine take_yield (i := 3) (v := ?_) rfl (by kernel_rfl) (by kernel_rfl) (by kernel_rfl) (fun _ _ _ h => h) (by rfl) ?_ hHeld ?_
                    rotate_left 1
                    · (intro w' hSw; clear hSw; go_simp; try with_reducible rfl)
                    (try simp only [Act.put, List.setIfInBounds_toArray, List.set_cons_zero, List.set_cons_succ])
                    refine take_yield (i := 4) (v := ?_) rfl (by kernel_rfl) (by kernel_rfl) (by kernel_rfl) (fun _ _ _ h => h) (by rfl) ?_ hHeld ?_
                    rotate_left 1
                    · (intro w' hSw; clear hSw; go_simp; try with_reducible rfl)
                    (try simp only [Act.put, List.setIfInBounds_toArray, List.set_cons_zero, List.set_cons_succ])
                    refine take_yield (i := 5) (v := ?_) rfl (by kernel_rfl) (by kernel_rfl) (by kernel_rfl) (fun _ _ _ h => h) (by rfl) ?_ hHeld ?_
                    rotate_left 1
                    · (intro w' hSw; clear hSw; go_simp; try with_reducible rfl)
                    (try simp only [Act.put, List.setIfInBounds_toArray, List.set_cons_zero, List.set_cons_succ])
                    refine take_yield (i := 6) (v := ?_) rfl (by kernel_rfl) (by kernel_rfl) (by kernel_rfl) (fun _ _ _ h => h) (by rfl) ?_ hHeld ?_
                    rotate_left 1
                    · (intro w' hSw; clear hSw; go_simp; try with_reducible rfl)
                    (try simp only [Act.put, List.setIfInBounds_toArray, List.set_cons_zero, List.set_cons_succ])
                    refine take_yield (i := 7) (v := ?_) rfl (by kernel_rfl) (by kernel_rfl) (by kernel_rfl) (fun _ _ _ h => h) (by rfl) ?_ hHeld ?_
                    rotate_left 1
                    · (intro w' hSw; clear hSw; go_simp; try with_reducible rfl)
                    (try simp only [Act.put, List.setIfInBounds_toArray, List.set_cons_zero, List.set_cons_succ])
                    refine take_yield (i := 8) (v := ?_) rfl (by kernel_rfl) (by kernel_rfl) (by kernel_rfl) (fun _ _ _ h => h) (by rfl) ?_ hHeld ?_
                    rotate_left 1
                    · (intro w' hSw; clear hSw; go_simp; try with_reducible rfl)
                    (try simp only [Act.put, List.setIfInBounds_toArray, List.set_cons_zero, List.set_cons_succ])
                    refine take_yield (i := 9) (v := ?_) rfl (by kernel_rfl) (by kernel_rfl) (by kernel_rfl) (fun _ _ _ h => h) (by rfl) ?_ hHeld ?_
                    rotate_left 1
                    · (intro w' hSw; have hCell := fun (b o : Nat) (h : b < wr.heap.size) => hSw.cell (p := ⟨b, o, none⟩) h; clear hSw; go_simp; try with_reducible rfl)
                    (try simp only [Act.put, List.setIfInBounds_toArray, List.set_cons_zero, List.set_cons_succ])
                    refine take_yield (i := 10) (v := ?_) rfl (by kernel_rfl) (by kernel_rfl) (by kernel_rfl) (fun _ _ _ h => h) (by rfl) ?_ hHeld ?_
                    rotate_left 1
                    · (intro w' hSw; clear hSw; go_simp; try with_reducible rfl)
                    (try simp only [Act.put, List.setIfInBounds_toArray, List.set_cons_zero, List.set_cons_succ])
                    refine take_yield (i := 11) (v := ?_) rfl (by kernel_rfl) (by kernel_rfl) (by kernel_rfl) (fun _ _ _ h => h) (by rfl) ?_ hHeld ?_
                    rotate_left 1
                    · (intro w' hSw; have hCell := fun (b o : Nat) (h : b < wr.heap.size) => hSw.cell (p := ⟨b, o, none⟩) h; clear hSw; go_simp; try with_reducible rfl)
                    (try simp only [Act.put, List.setIfInBounds_toArray, List.set_cons_zero, List.set_cons_succ])
                    refine take_yield (i := 12) (v := ?_) rfl (by kernel_rfl) (by kernel_rfl) (by kernel_rfl) (fun _ _ _ h => h) (by rfl) ?_ hHeld ?_
                    rotate_left 1
                    · (intro w' hSw; clear hSw; go_simp; try with_reducible rfl)
                    (try simp only [Act.put, List.setIfInBounds_toArray, List.set_cons_zero, List.set_cons_succ])
                    refine take_yield (i := 13) (v := ?_) rfl (by kernel_rfl) (by kernel_rfl) (by kernel_rfl) (fun _ _ _ h => h) (by rfl) ?_ hHeld ?_
                    rotate_left 1
                    · (intro w' hSw; clear hSw; go_simp; try with_reducible rfl)
                    (try simp only [Act.put, List.setIfInBounds_toArray, List.set_cons_zero, List.set_cons_succ])
                    refine take_yield (i := 14) (v := ?_) rfl (by kernel_rfl) (by kernel_rfl) (by kernel_rfl) (fun _ _ _ h => h) (by rfl) ?_ hHeld ?_
                    rotate_left 1
                    · (intro w' hSw; clear hSw; go_simp; try with_reducible rfl)
                    (try simp only [Act.put, List.setIfInBounds_toArray, List.set_cons_zero, List.set_cons_succ])
                    refine take_yield (i := 15) (v := ?_) rfl (by kernel_rfl) (by kernel_rfl) (by kernel_rfl) (fun _ _ _ h => h) (by rfl) ?_ hHeld ?_
                    rotate_left 1
                    · (intro w' hSw; clear hSw; go_simp; try with_reducible rfl)
                    (try simp only [Act.put, List.setIfInBounds_toArray, List.set_cons_zero, List.set_cons_succ])
                    refine take_yield (i := 16) (v := ?_) rfl (by kernel_rfl) (by kernel_rfl) (by kernel_rfl) (fun _ _ _ h => h) (by rfl) ?_ hHeld ?_
                    rotate_left 1
                    · (intro w' hSw; clear hSw; go_simp; try with_reducible rfl)
                    (try simp only [Act.put, List.setIfInBounds_toArray, List.set_cons_zero, List.set_cons_succ])
                    refine take_yield (i := 17) (v := ?_) rfl (by kernel_rfl) (by kernel_rfl) (by kernel_rfl) (fun _ _ _ h => h) (by rfl) ?_ hHeld ?_
                    rotate_left 1
                    · (intro w' hSw; clear hSw; go_simp; try with_reducible rfl)
                    (try simp only [Act.put, List.setIfInBounds_toArray, List.set_cons_zero, List.set_cons_succ])
                    refine take_yield (i := 18) (v := ?_) rfl (by kernel_rfl) (by kernel_rfl) (by kernel_rfl) (fun _ _ _ h => h) (by rfl) ?_ hHeld ?_
                    rotate_left 1
                    · (intro w' hSw; have hCell := fun (b o : Nat) (h : b < wr.heap.size) => hSw.cell (p := ⟨b, o, none⟩) h; clear hSw; go_simp; try with_reducible rfl)
                    (try simp only [Act.put, List.setIfInBounds_toArray, List.set_cons_zero, List.set_cons_succ])
                    refine take_yield (i := 19) (v := ?_) rfl (by kernel_rfl) (by kernel_rfl) (by kernel_rfl) (fun _ _ _ h => h) (by rfl) ?_ hHeld ?_
                    rotate_left 1
                    · (intro w' hSw; clear hSw; go_simp; try with_reducible rfl)
                    (try simp only [Act.put, List.setIfInBounds_toArray, List.set_cons_zero, List.set_cons_succ])
                    refine take_yield (i := 20) (v := ?_) rfl (by kernel_rfl) (by kernel_rfl) (by kernel_rfl) (fun _ _ _ h => h) (by rfl) ?_ hHeld ?_
                    rotate_left 1
                    · (intro w' hSw; have hCell := fun (b o : Nat) (h : b < wr.heap.size) => hSw.cell (p := ⟨b, o, none⟩) h; clear hSw; go_simp; try with_reducible rfl)
                    (try simp only [Act.put, List.setIfInBounds_toArray, List.set_cons_zero, List.set_cons_succ])
                    refine take_yield (i := 21) (v := ?_) rfl (by kernel_rfl) (by kernel_rfl) (by kernel_rfl) (fun _ _ _ h => h) (by rfl) ?_ hHeld ?_
                    rotate_left 1
                    · (intro w' hSw; clear hSw; go_simp; try with_reducible rfl)
                    (try simp only [Act.put, List.setIfInBounds_toArray, List.set_cons_zero, List.set_cons_succ])
                    refine take_yield (i := 22) (v := ?_) rfl (by kernel_rfl) (by kernel_rfl) (by kernel_rfl) (fun _ _ _ h => h) (by rfl) ?_ hHeld ?_
                    rotate_left 1
                    · (intro w' hSw; clear hSw; go_simp; try with_reducible rfl)
                    (try simp only [Act.put, List.setIfInBounds_toArray, List.set_cons_zero, List.set_cons_succ])
                    refine take_yield (i := 23) (v := ?_) rfl (by kernel_rfl) (by kernel_rfl) (by kernel_rfl) (fun _ _ _ h => h) (by rfl) ?_ hHeld ?_
                    rotate_left 1
                    · (intro w' hSw; clear hSw; go_simp; try with_reducible rfl)
                    (try simp only [Act.put, List.setIfInBounds_toArray, List.set_cons_zero, List.set_cons_succ])
                    refine take_yield (i := 24) (v := ?_) rfl (by kernel_rfl) (by kernel_rfl) (by kernel_rfl) (fun _ _ _ h => h) (by rfl) ?_ hHeld ?_
                    rotate_left 1
                    · (intro w' hSw; clear hSw; go_simp; try with_reducible rfl)
                    (try simp only [Act.put, List.setIfInBounds_toArray, List.set_cons_zero, List.set_cons_succ])
                    refine take_yield (i := 25) (v := ?_) rfl (by kernel_rfl) (by kernel_rfl) (by kernel_rfl) (fun _ _ _ h => h) (by rfl) ?_ hHeld ?_
                    rotate_left 1
                    · (intro w' hSw; clear hSw; go_simp; try with_reducible rfl)
                    (try simp only [Act.put, List.setIfInBounds_toArray, List.set_cons_zero, List.set_cons_succ])
                    refine take_yield (i := 26) (v := ?_) rfl (by kernel_rfl) (by kernel_rfl) (by kernel_rfl) (fun _ _ _ h => h) (by rfl) ?_ hHeld ?_
                    rotate_left 1
                    · (intro w' hSw; clear hSw; go_simp; try with_reducible rfl)
                    (try simp only [Act.put, List.setIfInBounds_toArray, List.set_cons_zero, List.set_cons_succ])
                    refine take_yield (i := 27) (v := ?_) rfl (by kernel_rfl) (by kernel_rfl) (by kernel_rfl) (fun _ _ _ h => h) (by rfl) ?_ hHeld ?_
                    rotate_left 1
                    · (intro w' hSw; have hCell := fun (b o : Nat) (h : b < wr.heap.size) => hSw.cell (p := ⟨b, o, none⟩) h; clear hSw; go_simp; try with_reducible rfl)
                    (try simp only [Act.put, List.setIfInBounds_toArray, List.set_cons_zero, List.set_cons_succ])
                    refine take_yield (i := 28) (v := ?_) rfl (by kernel_rfl) (by kernel_rfl) (by kernel_rfl) (fun _ _ _ h => h) (by rfl) ?_ hHeld ?_
                    rotate_left 1
                    · (intro w' hSw; clear hSw; go_simp; try with_reducible rfl)
                    (try simp only [Act.put, List.setIfInBounds_toArray, List.set_cons_zero, List.set_cons_succ])
                    refine take_yield (i := 29) (v := ?_) rfl (by kernel_rfl) (by kernel_rfl) (by kernel_rfl) (fun _ _ _ h => h) (by rfl) ?_ hHeld ?_
                    rotate_left 1
                    · (intro w' hSw; have hCell := fun (b o : Nat) (h : b < wr.heap.size) => hSw.cell (p := ⟨b, o, none⟩) h; clear hSw; go_simp; try with_reducible rfl)
                    (try simp only [Act.put, List.setIfInBounds_toArray, List.set_cons_zero, List.set_cons_succ])
                    refine take_yield (i := 30) (v := ?_) rfl (by kernel_rfl) (by kernel_rfl) (by kernel_rfl) (fun _ _ _ h => h) (by rfl) ?_ hHeld ?_
                    rotate_left 1
                    · (intro w' hSw; clear hSw; go_simp; try with_reducible rfl)
                    (try simp only [Act.put, List.setIfInBounds_toArray, List.set_cons_zero, List.set_cons_succ])
                    refine take_yield (i := 31) (v := ?_) rfl (by kernel_rfl) (by kernel_rfl) (by kernel_rfl) (fun _ _ _ h => h) (by rfl) ?_ hHeld ?_
                    rotate_left 1
                    · (intro w' hSw; clear hSw; go_simp; try with_reducible rfl)
                    (try simp only [Act.put, List.setIfInBounds_toArray, List.set_cons_zero, List.set_cons_succ])
                    refine take_yield (i := 32) (v := ?_) rfl (by kernel_rfl) (by kernel_rfl) (by kernel_rfl) (fun _ _ _ h => h) (by rfl) ?_ hHeld ?_
                    rotate_left 1
                    · (intro w' hSw; clear hSw; go_simp; try with_reducible rfl)
                    (try simp only [Act.put, List.setIfInBounds_toArray, List.set_cons_zero, List.set_cons_succ])
                    refine take_yield (i := 33) (v := ?_) rfl (by kernel_rfl) (by kernel_rfl) (by kernel_rfl) (fun _ _ _ h => h) (by rfl) ?_ hHeld ?_
                    rotate_left 1
                    · (intro w' hSw; clear hSw; go_simp; try with_reducible rfl)
                    (try simp only [Act.put, List.setIfInBounds_toArray, List.set_cons_zero, List.set_cons_succ])
                    refine wpAnyH_done (by kernel_rfl) ?_ _
                    replace cp0 : wr.drew.cell? ⟨wo.heap.size + 1, 0, none⟩ = some (sv s) := cellAt cp0 hHeld (by omega)
                    replace cp1 : wr.drew.cell? ⟨wo.heap.size + 1, 1, none⟩ = some (sv d) := cellAt cp1 hHeld (by omega)
                    replace hq0 : wr.drew.cell? ⟨b2, o2 + k * 2, none⟩ = some (sv a1) := cellAt hq0 hHeld (by omega)
                    replace hq1 : wr.drew.cell? ⟨b2, o2 + k * 2 + 1, none⟩ = some (sv a2) := cellAt hq1 hHeld (by omega)
                    replace HRa := Lib.hid (HRa.out.at hHeld)
                    replace HB := Lib.hid (HB.out.trans (hHeld.mono HB.out.size))
                    replace n2 : (wo.heap.size + 1) < wr.drew.heap.size := ltAt n2 hHeld
                    replace hB2 : b2 < wr.drew.heap.size := ltAt hB2 hHeld
                    go_wp2_with fail
                    go_roundw
                    case rel =>
                      refine ⟨k + 1, by omega, by go_num, fun q hq => ?_, lift hbq hHeld⟩
                      rw [List.take_succ_eq_append_getElem hlt2, List.mem_append, List.mem_singleton] at hq
                      rcases hq with h | h
                      · exact hall q h
                      · rw [h, Hq.out, ltP_mk]; simp [l1, l2, l3]
                    case measure => simp [intOf]; omega
              · skip
                try go_wp2_with fail
                refine wp_region_held_drew (S := fun w' => Below wr.heap.size wr w') (by kernel_rfl) (Below.drew (Below.refl _ _)) (fun hHeld => ?_)
                refine take_yield (i := 0) (v := ?_) rfl (by kernel_rfl) (by kernel_rfl) (by kernel_rfl) (fun _ _ _ h => h) (by rfl) ?_ hHeld ?_
                rotate_left 1
                · (intro w' hSw; clear hSw; go_simp; try with_reducible rfl)
                (try simp only [Act.put, List.setIfInBounds_toArray, List.set_cons_zero, List.set_cons_succ])
                refine take_yield (i := 1) (v := ?_) rfl (by kernel_rfl) (by kernel_rfl) (by kernel_rfl) (fun _ _ _ h => h) (by rfl) ?_ hHeld ?_
                rotate_left 1
                · (intro w' hSw; clear hSw; go_simp; try with_reducible rfl)
                (try simp only [Act.put, List.setIfInBounds_toArray, List.set_cons_zero, List.set_cons_succ])
                refine take_yield (i := 2) (v := ?_) rfl (by kernel_rfl) (by kernel_rfl) (by kernel_rfl) (fun _ _ _ h => h) (by rfl) ?_ hHeld ?_
                rotate_left 1
                · (intro w' hSw; clear hSw; go_simp; try with_reducible rfl)
                (try simp only [Act.put, List.setIfInBounds_toArray, List.set_cons_zero, List.set_cons_succ])
                refine take_yield (i := 3) (v := ?_) rfl (by kernel_rfl) (by kernel_rfl) (by kernel_rfl) (fun _ _ _ h => h) (by rfl) ?_ hHeld ?_
                rotate_left 1
                · (intro w' hSw; clear hSw; go_simp; try with_reducible rfl)
                (try simp only [Act.put, List.setIfInBounds_toArray, List.set_cons_zero, List.set_cons_succ])
                refine take_yield (i := 4) (v := ?_) rfl (by kernel_rfl) (by kernel_rfl) (by kernel_rfl) (fun _ _ _ h => h) (by rfl) ?_ hHeld ?_
                rotate_left 1
                · (intro w' hSw; clear hSw; go_simp; try with_reducible rfl)
                (try simp only [Act.put, List.setIfInBounds_toArray, List.set_cons_zero, List.set_cons_succ])
                refine take_yield (i := 5) (v := ?_) rfl (by kernel_rfl) (by kernel_rfl) (by kernel_rfl) (fun _ _ _ h => h) (by rfl) ?_ hHeld ?_
                rotate_left 1
                · (intro w' hSw; clear hSw; go_simp; try with_reducible rfl)
                (try simp only [Act.put, List.setIfInBounds_toArray, List.set_cons_zero, List.set_cons_succ])
                refine take_yield (i := 6) (v := ?_) rfl (by kernel_rfl) (by kernel_rfl) (by kernel_rfl) (fun _ _ _ h => h) (by rfl) ?_ hHeld ?_
                rotate_left 1
                · (intro w' hSw; clear hSw; go_simp; try with_reducible rfl)
                (try simp only [Act.put, List.setIfInBounds_toArray, List.set_cons_zero, List.set_cons_succ])
                refine take_yield (i := 7) (v := ?_) rfl (by kernel_rfl) (by kernel_rfl) (by kernel_rfl) (fun _ _ _ h => h) (by rfl) ?_ hHeld ?_
                rotate_left 1
                · (intro w' hSw; clear hSw; go_simp; try with_reducible rfl)
                (try simp only [Act.put, List.setIfInBounds_toArray, List.set_cons_zero, List.set_cons_succ])
                refine take_yield (i := 8) (v := ?_) rfl (by kernel_rfl) (by kernel_rfl) (by kernel_rfl) (fun _ _ _ h => h) (by rfl) ?_ hHeld ?_
                rotate_left 1
                · (intro w' hSw; clear hSw; go_simp; try with_reducible rfl)
                (try simp only [Act.put, List.setIfInBounds_toArray, List.set_cons_zero, List.set_cons_succ])
                refine take_yield (i := 9) (v := ?_) rfl (by kernel_rfl) (by kernel_rfl) (by kernel_rfl) (fun _ _ _ h => h) (by rfl) ?_ hHeld ?_
                rotate_left 1
                · (intro w' hSw; have hCell := fun (b o : Nat) (h : b < wr.heap.size) => hSw.cell (p := ⟨b, o, none⟩) h; clear hSw; go_simp; try with_reducible rfl)
                (try simp only [Act.put, List.setIfInBounds_toArray, List.set_cons_zero, List.set_cons_succ])
                refine take_yield (i := 10) (v := ?_) rfl (by kernel_rfl) (by kernel_rfl) (by kernel_rfl) (fun _ _ _ h => h) (by rfl) ?_ hHeld ?_
                rotate_left 1
                · (intro w' hSw; clear hSw; go_simp; try with_reducible rfl)
                (try simp only [Act.put, List.setIfInBounds_toArray, List.set_cons_zero, List.set_cons_succ])
                refine take_yield (i := 11) (v := ?_) rfl (by kernel_rfl) (by kernel_rfl) (by kernel_rfl) (fun _ _ _ h => h) (by rfl) ?_ hHeld ?_
                rotate_left 1
                · (intro w' hSw; have hCell := fun (b o : Nat) (h : b < wr.heap.size) => hSw.cell (p := ⟨b, o, none⟩) h; clear hSw; go_simp; try with_reducible rfl)
                (try simp only [Act.put, List.setIfInBounds_toArray, List.set_cons_zero, List.set_cons_succ])
                refine take_yield (i := 12) (v := ?_) rfl (by kernel_rfl) (by kernel_rfl) (by kernel_rfl) (fun _ _ _ h => h) (by rfl) ?_ hHeld ?_
                rotate_left 1
                · (intro w' hSw; clear hSw; go_simp; try with_reducible rfl)
                (try simp only [Act.put, List.setIfInBounds_toArray, List.set_cons_zero, List.set_cons_succ])
                refine take_yield (i := 13) (v := ?_) rfl (by kernel_rfl) (by kernel_rfl) (by kernel_rfl) (fun _ _ _ h => h) (by rfl) ?_ hHeld ?_
                rotate_left 1
                · (intro w' hSw; clear hSw; go_simp; try with_reducible rfl)
                (try simp only [Act.put, List.setIfInBounds_toArray, List.set_cons_zero, List.set_cons_succ])
                refine take_skip (i := 14) rfl (by kernel_rfl) (by kernel_rfl) (by kernel_rfl) (fun _ _ _ h => h) (by rfl) hHeld ?_
                (try simp only [Act.put, List.setIfInBounds_toArray, List.set_cons_zero, List.set_cons_succ])
                refine take_skip (i := 15) rfl (by kernel_rfl) (by kernel_rfl) (by kernel_rfl) (fun _ _ _ h => h) (by rfl) hHeld ?_
                (try simp only [Act.put, List.setIfInBounds_toArray, List.set_cons_zero, List.set_cons_succ])
                refine take_skip (i := 16) rfl (by kernel_rfl) (by kernel_rfl) (by kernel_rfl) (fun _ _ _ h => h) (by rfl) hHeld ?_
                (try simp only [Act.put, List.setIfInBounds_toArray, List.set_cons_zero, List.set_cons_succ])
                refine take_skip (i := 17) rfl (by kernel_rfl) (by kernel_rfl) (by kernel_rfl) (fun _ _ _ h => h) (by rfl) hHeld ?_
                (try simp only [Act.put, List.setIfInBounds_toArray, List.set_cons_zero, List.set_cons_succ])
                refine take_skip (i := 18) rfl (by kernel_rfl) (by kernel_rfl) (by kernel_rfl) (fun _ _ _ h => h) (by rfl) hHeld ?_
                (try simp only [Act.put, List.setIfInBounds_toArray, List.set_cons_zero, List.set_cons_succ])
                refine take_skip (i := 19) rfl (by kernel_rfl) (by kernel_rfl) (by kernel_rfl) (fun _ _ _ h => h) (by rfl) hHeld ?_
                (try simp only [Act.put, List.setIfInBounds_toArray, List.set_cons_zero, List.set_cons_succ])
                refine take_skip (i := 20) rfl (by kernel_rfl) (by kernel_rfl) (by kernel_rfl) (fun _ _ _ h => h) (by rfl) hHeld ?_
                (try simp only [Act.put, List.setIfInBounds_toArray, List.set_cons_zero, List.set_cons_succ])
                refine take_skip (i := 21) rfl (by kernel_rfl) (by kernel_rfl) (by kernel_rfl) (fun _ _ _ h => h) (by rfl) hHeld ?_
                (try simp only [Act.put, List.setIfInBounds_toArray, List.set_cons_zero, List.set_cons_succ])
                refine take_skip (i := 22) rfl (by kernel_rfl) (by kernel_rfl) (by kernel_rfl) (fun _ _ _ h => h) (by rfl) hHeld ?_
                (try simp only [Act.put, List.setIfInBounds_toArray, List.set_cons_zero, List.set_cons_succ])
                refine take_skip (i := 23) rfl (by kernel_rfl) (by kernel_rfl) (by kernel_rfl) (fun _ _ _ h => h) (by rfl) hHeld ?_
                (try simp only [Act.put, List.setIfInBounds_toArray, List.set_cons_zero, List.set_cons_succ])
                refine take_skip (i := 24) rfl (by kernel_rfl) (by kernel_rfl) (by kernel_rfl) (fun _ _ _ h => h) (by rfl) hHeld ?_
                (try simp only [Act.put, List.setIfInBounds_toArray, List.set_cons_zero, List.set_cons_succ])
                refine take_skip (i := 25) rfl (by kernel_rfl) (by kernel_rfl) (by kernel_rfl) (fun _ _ _ h => h) (by rfl) hHeld ?_
                (try simp only [Act.put, List.setIfInBounds_toArray, List.set_cons_zero, List.set_cons_succ])
                refine take_skip (i := 26) rfl (by kernel_rfl) (by kernel_rfl) (by kernel_rfl) (fun _ _ _ h => h) (by rfl) hHeld ?_
                (try simp only [Act.put, List.setIfInBounds_toArray, List.set_cons_zero, List.set_cons_succ])
                refine take_skip (i := 27) rfl (by kernel_rfl) (by kernel_rfl) (by kernel_rfl) (fun _ _ _ h => h) (by rfl) hHeld ?_
                (try simp only [Act.put, List.setIfInBounds_toArray, List.set_cons_zero, List.set_cons_succ])
                refine take_skip (i := 28) rfl (by kernel_rfl) (by kernel_rfl) (by kernel_rfl) (fun _ _ _ h => h) (by rfl) hHeld ?_
                (try simp only [Act.put, List.setIfInBounds_toArray, List.set_cons_zero, List.set_cons_succ])
                refine take_skip (i := 29) rfl (by kernel_rfl) (by kernel_rfl) (by kernel_rfl) (fun _ _ _ h => h) (by rfl) hHeld ?_
                (try simp only [Act.put, List.setIfInBounds_toArray, List.set_cons_zero, List.set_cons_succ])
                refine take_skip (i := 30) rfl (by kernel_rfl) (by kernel_rfl) (by kernel_rfl) (fun _ _ _ h => h) (by rfl) hHeld ?_
                (try simp only [Act.put, List.setIfInBounds_toArray, List.set_cons_zero, List.set_cons_succ])
                refine take_skip (i := 31) rfl (by kernel_rfl) (by kernel_rfl) (by kernel_rfl) (fun _ _ _ h => h) (by rfl) hHeld ?_
                (try simp only [Act.put, List.setIfInBounds_toArray, List.set_cons_zero, List.set_cons_succ])
                refine take_yield (i := 32) (v := ?_) rfl (by kernel_rfl) (by kernel_rfl) (by kernel_rfl) (fun _ _ _ h => h) (by rfl) ?_ hHeld ?_
                rotate_left 1
                · (intro w' hSw; clear hSw; go_simp; try with_reducible rfl)
                (try simp only [Act.put, List.setIfInBounds_toArray, List.set_cons_zero, List.set_cons_succ])
                refine take_yield (i := 33) (v := ?_) rfl (by kernel_rfl) (by kernel_rfl) (by kernel_rfl) (fun _ _ _ h => h) (by rfl) ?_ hHeld ?_
                rotate_left 1
                · (intro w' hSw; clear hSw; go_simp; try with_reducible rfl)
                (try simp only [Act.put, List.setIfInBounds_toArray, List.set_cons_zero, List.set_cons_succ])
                refine wpAnyH_done (by kernel_rfl) ?_ _
                replace cp0 : wr.drew.cell? ⟨wo.heap.size + 1, 0, none⟩ = some (sv s) := cellAt cp0 hHeld (by omega)
                replace cp1 : wr.drew.cell? ⟨wo.heap.size + 1, 1, none⟩ = some (sv d) := cellAt cp1 hHeld (by omega)
                replace hq0 : wr.drew.cell? ⟨b2, o2 + k * 2, none⟩ = some (sv a1) := cellAt hq0 hHeld (by omega)
                replace hq1 : wr.drew.cell? ⟨b2, o2 + k * 2 + 1, none⟩ = some (sv a2) := cellAt hq1 hHeld (by omega)
                replace HRa := Lib.hid (HRa.out.at hHeld)
                replace HB := Lib.hid (HB.out.trans (hHeld.mono HB.out.size))
                replace n2 : (wo.heap.size + 1) < wr.drew.heap.size := ltAt n2 hHeld
                replace hB2 : b2 < wr.drew.heap.size := ltAt hB2 hHeld
                go_wp2_with fail
                go_roundw
                case rel =>
                  refine ⟨k + 1, by omega, by go_num, fun q hq => ?_, lift hbq hHeld⟩
                  rw [List.take_succ_eq_append_getElem hlt2, List.mem_append, List.mem_singleton] at hq
                  rcases hq with h | h
                  · exact hall q h
                  · rw [h, Hq.out, ltP_mk]; simp [l1]
                case measure => simp [intOf]; omega
            · have hge : ∀ h : k < acc.length, ltP acc[k] (s, d) = false := fun h => absurd h hlt2
              have hne : ¬ acc[k]? = some (s, d) := by rw [List.getElem?_eq_none (by omega)]; simp
              have Hge := Lib.hid (And.intro hge hne)
              clear hge hne
              try go_wp2_with fail
              refine wp_region_held_drew (S := fun w' => Below wr.heap.size wr w') (by kernel_rfl) (Below.drew (Below.refl _ _)) (fun hHeld => ?_)
              refine take_yield (i := 0) (v := ?_) rfl (by kernel_rfl) (by kernel_rfl) (by kernel_rfl) (fun _ _ _ h => h) (by rfl) ?_ hHeld ?_
              rotate_left 1
              · (intro w' hSw; clear hSw; go_simp; try with_reducible rfl)
              (try simp only [Act.put, List.setIfInBounds_toArray, List.set_cons_zero, List.set_cons_succ])
              refine take_yield (i := 1) (v := ?_) rfl (by kernel_rfl) (by kernel_rfl) (by kernel_rfl) (fun _ _ _ h => h) (by rfl) ?_ hHeld ?_
              rotate_left 1
              · (intro w' hSw; clear hSw; go_simp; try with_reducible rfl)
              (try simp only [Act.put, List.setIfInBounds_toArray, List.set_cons_zero, List.set_cons_succ])
              refine take_yield (i := 2) (v := ?_) rfl (by kernel_rfl) (by kernel_rfl) (by kernel_rfl) (fun _ _ _ h => h) (by rfl) ?_ hHeld ?_
              rotate_left 1
              · (intro w' hSw; clear hSw; go_simp; try with_reducible rfl)
              (try simp only [Act.put, List.setIfInBounds_toArray, List.set_cons_zero, List.set_cons_succ])
              refine take_yield (i := 3) (v := ?_) rfl (by kernel_rfl) (by kernel_rfl) (by kernel_rfl) (fun _ _ _ h => h) (by rfl) ?_ hHeld ?_
              rotate_left 1
              · (intro w' hSw; clear hSw; go_simp; try with_reducible rfl)
              (try simp only [Act.put, List.setIfInBounds_toArray, List.set_cons_zero, List.set_cons_succ])
              refine take_yield (i := 4) (v := ?_) rfl (by kernel_rfl) (by kernel_rfl) (by kernel_rfl) (fun _ _ _ h => h) (by rfl) ?_ hHeld ?_
              rotate_left 1
              · (intro w' hSw; clear hSw; go_simp; try with_reducible rfl)
              (try simp only [Act.put, List.setIfInBounds_toArray, List.set_cons_zero, List.set_cons_succ])
              refine take_skip (i := 5) rfl (by kernel_rfl) (by kernel_rfl) (by kernel_rfl) (fun _ _ _ h => h) (by rfl) hHeld ?_
              (try simp only [Act.put, List.setIfInBounds_toArray, List.set_cons_zero, List.set_cons_succ])
              refine take_skip (i := 6) rfl (by kernel_rfl) (by kernel_rfl) (by kernel_rfl) (fun _ _ _ h => h) (by rfl) hHeld ?_
              (try simp only [Act.put, List.setIfInBounds_toArray, List.set_cons_zero, List.set_cons_succ])
              refine take_skip (i := 7) rfl (by kernel_rfl) (by kernel_rfl) (by kernel_rfl) (fun _ _ _ h => h) (by rfl) hHeld ?_
              (try simp only [Act.put, List.setIfInBounds_toArray, List.set_cons_zero, List.set_cons_succ])
              refine take_skip (i := 8) rfl (by kernel_rfl) (by kernel_rfl) (by kernel_rfl) (fun _ _ _ h => h) (by rfl) hHeld ?_
              (try simp only [Act.put, List.setIfInBounds_toArray, List.set_cons_zero, List.set_cons_succ])
              refine take_skip (i := 9) rfl (by kernel_rfl) (by kernel_rfl) (by kernel_rfl) (fun _ _ _ h => h) (by rfl) hHeld ?_
              (try simp only [Act.put, List.setIfInBounds_toArray, List.set_cons_zero, List.set_cons_succ])
              refine take_skip (i := 10) rfl (by kernel_rfl) (by kernel_rfl) (by kernel_rfl) (fun _ _ _ h => h) (by rfl) hHeld ?_
              (try simp only [Act.put, List.setIfInBounds_toArray, List.set_cons_zero, List.set_cons_succ])
              refine take_skip (i := 11) rfl (by kernel_rfl) (by kernel_rfl) (by kernel_rfl) (fun _ _ _ h => h) (by rfl) hHeld ?_
              (try simp only [Act.put, List.setIfInBounds_toArray, List.set_cons_zero, List.set_cons_succ])
              refine take_skip (i := 12) rfl (by kernel_rfl) (by kernel_rfl) (by kernel_rfl) (fun _ _ _ h => h) (by rfl) hHeld ?_
              (try simp only [Act.put, List.setIfInBounds_toArray, List.set_cons_zero, List.set_cons_succ])
              refine take_skip (i := 13) rfl (by kernel_rfl) (by kernel_rfl) (by kernel_rfl) (fun _ _ _ h => h) (by rfl) hHeld ?_
              (try simp only [Act.put, List.setIfInBounds_toArray, List.set_cons_zero, List.set_cons_succ])
              refine take_skip (i := 14) rfl (by kernel_rfl) (by kernel_rfl) (by kernel_rfl) (fun _ _ _ h => h) (by rfl) hHeld ?_
              (try simp only [Act.put, List.setIfInBounds_toArray, List.set_cons_zero, List.set_cons_succ])
              refine take_skip (i := 15) rfl (by kernel_rfl) (by kernel_rfl) (by kernel_rfl) (fun _ _ _ h => h) (by rfl) hHeld ?_
              (try simp only [Act.put, List.setIfInBounds_toArray, List.set_cons_zero, List.set_cons_succ])
              refine take_skip (i := 16) rfl (by kernel_rfl) (by kernel_rfl) (by kernel_rfl) (fun _ _ _ h => h) (by rfl) hHeld ?_
              (try simp only [Act.put, List.setIfInBounds_toArray, List.set_cons_zero, List.set_cons_succ])
              refine take_skip (i := 17) rfl (by kernel_rfl) (by kernel_rfl) (by kernel_rfl) (fun _ _ _ h => h) (by rfl) hHeld ?_
              (try simp only [Act.put, List.setIfInBounds_toArray, List.set_cons_zero, List.set_cons_succ])
              refine take_skip (i := 18) rfl (by kernel_rfl) (by kernel_rfl) (by kernel_rfl) (fun _ _ _ h => h) (by rfl) hHeld ?_
              (try simp only [Act.put, List.setIfInBounds_toArray, List.set_cons_zero, List.set_cons_succ])
              refine take_skip (i := 19) rfl (by kernel_rfl) (by kernel_rfl) (by kernel_rfl) (fun _ _ _ h => h) (by rfl) hHeld ?_
              (try simp only [Act.put, List.setIfInBounds_toArray, List.set_cons_zero, List.set_cons_succ])
              refine take_skip (i := 20) rfl (by kernel_rfl) (by kernel_rfl) (by kernel_rfl) (fun _ _ _ h => h) (by rfl) hHeld ?_
              (try simp only [Act.put, List.setIfInBounds_toArray, List.set_cons_zero, List.set_cons_succ])
              refine take_skip (i := 21) rfl (by kernel_rfl) (by kernel_rfl) (by kernel_rfl) (fun _ _ _ h => h) (by rfl) hHeld ?_
              (try simp only [Act.put, List.setIfInBounds_toArray, List.set_cons_zero, List.set_cons_succ])
              refine take_skip (i := 22) rfl (by kernel_rfl) (by kernel_rfl) (by kernel_rfl) (fun _ _ _ h => h) (by rfl) hHeld ?_
              (try simp only [Act.put, List.setIfInBounds_toArray, List.set_cons_zero, List.set_cons_succ])
              refine take_skip (i := 23) rfl (by kernel_rfl) (by kernel_rfl) (by kernel_rfl) (fun _ _ _ h => h) (by rfl) hHeld ?_
              (try simp only [Act.put, List.setIfInBounds_toArray, List.set_cons_zero, List.set_cons_succ])
              refine take_skip (i := 24) rfl (by kernel_rfl) (by kernel_rfl) (by kernel_rfl) (fun _ _ _ h => h) (by rfl) hHeld ?_
              (try simp only [Act.put, List.setIfInBounds_toArray, List.set_cons_zero, List.set_cons_succ])
              refine take_skip (i := 25) rfl (by kernel_rfl) (by kernel_rfl) (by kernel_rfl) (fun _ _ _ h => h) (by rfl) hHeld ?_
              (try simp only [Act.put, List.setIfInBounds_toArray, List.set_cons_zero, List.set_cons_succ])
              refine take_skip (i := 26) rfl (by kernel_rfl) (by kernel_rfl) (by kernel_rfl) (fun _ _ _ h => h) (by rfl) hHeld ?_
              (try simp only [Act.put, List.setIfInBounds_toArray, List.set_cons_zero, List.set_cons_succ])
              refine take_skip (i := 27) rfl (by kernel_rfl) (by kernel_rfl) (by kernel_rfl) (fun _ _ _ h => h) (by rfl) hHeld ?_
              (try simp only [Act.put, List.setIfInBounds_toArray, List.set_cons_zero, List.set_cons_succ])
              refine take_skip (i := 28) rfl (by kernel_rfl) (by kernel_rfl) (by kernel_rfl) (fun _ _ _ h => h) (by rfl) hHeld ?_
              (try simp only [Act.put, List.setIfInBounds_toArray, List.set_cons_zero, List.set_cons_succ])
              refine take_skip (i := 29) rfl (by kernel_rfl) (by kernel_rfl) (by kernel_rfl) (fun _ _ _ h => h) (by rfl) hHeld ?_
              (try simp only [Act.put, List.setIfInBounds_toArray, List.set_cons_zero, List.set_cons_succ])
              refine take_skip (i := 30) rfl (by kernel_rfl) (by kernel_rfl) (by kernel_rfl) (fun _ _ _ h => h) (by rfl) hHeld ?_
              (try simp only [Act.put, List.setIfInBounds_toArray, List.set_cons_zero, List.set_cons_succ])
              refine take_skip (i := 31) rfl (by kernel_rfl) (by kernel_rfl) (by kernel_rfl) (fun _ _ _ h => h) (by rfl) hHeld ?_
              (try simp only [Act.put, List.setIfInBounds_toArray, List.set_cons_zero, List.set_cons_succ])
              refine take_skip (i := 32) rfl (by kernel_rfl) (by kernel_rfl) (by kernel_rfl) (fun _ _ _ h => h) (by rfl) hHeld ?_
              (try simp only [Act.put, List.setIfInBounds_toArray, List.set_cons_zero, List.set_cons_succ])
              refine take_yield (i := 33) (v := ?_) rfl (by kernel_rfl) (by kernel_rfl) (by kernel_rfl) (fun _ _ _ h => h) (by rfl) ?_ hHeld ?_
              rotate_left 1
              · (intro w' hSw; clear hSw; go_simp; try with_reducible rfl)
              (try simp only [Act.put, List.setIfInBounds_toArray, List.set_cons_zero, List.set_cons_succ])
              refine wpAnyH_done (by kernel_rfl) ?_ _
              replace cp0 : wr.drew.cell? ⟨wo.heap.size + 1, 0, none⟩ = some (sv s) := cellAt cp0 hHeld (by omega)
              replace cp1 : wr.drew.cell? ⟨wo.heap.size + 1, 1, none⟩ = some (sv d) := cellAt cp1 hHeld (by omega)
              replace HRa := Lib.hid (HRa.out.at hHeld)
              replace HB := Lib.hid (HB.out.trans (hHeld.mono HB.out.size))
              replace n2 : (wo.heap.size + 1) < wr.drew.heap.size := ltAt n2 hHeld
              go_wp2_with fail
              first | (refine wp_named ?_; intro W3 hW) | (refine calls_named ?_; intro W3 hW)
              have B3 : Below wr.drew.heap.size wr.drew W3 := by rw [hW]; exact (by repeat (first | exact Below.refl _ _ | assumption | refine Below.alloc ?_ (by simp <;> omega) _ | refine Below.setCell ?_ (by simp <;> omega) _ | refine Below.drew ?_))
              replace cp0 : W3.cell? ⟨wo.heap.size + 1, 0, none⟩ = some (sv s) := cellAt cp0 B3 (by omega)
              replace cp1 : W3.cell? ⟨wo.heap.size + 1, 1, none⟩ = some (sv d) := cellAt cp1 B3 (by omega)
              replace HRa := Lib.hid (HRa.out.at B3)
              replace HB := Lib.hid (HB.out.trans (B3.mono HB.out.size))
              replace n2 : (wo.heap.size + 1) < W3.heap.size := ltAt n2 B3
              clear hW
              clear B3
              try go_wp2_with fail
              refine wp_region_held_drew (S := fun w' => Below W3.heap.size W3 w') (by kernel_rfl) (Below.drew (Below.refl _ _)) (fun hHeld => ?_)
              refine take_yield (i := 0) (v := ?_) rfl (by kernel_rfl) (by kernel_rfl) (by kernel_rfl) (fun _ _ _ h => h) (by rfl) ?_ hHeld ?_
              rotate_left 1
              · (intro w' hSw; clear hSw; go_simp; try with_reducible rfl)
              (try simp only [Act.put, List.setIfInBounds_toArray, List.set_cons_zero, List.set_cons_succ])
              refine take_yield (i := 1) (v := ?_) rfl (by kernel_rfl) (by kernel_rfl) (by kernel_rfl) (fun _ _ _ h => h) (by rfl) ?_ hHeld ?_
              rotate_left 1
              · (intro w' hSw; clear hSw; go_simp; try with_reducible rfl)
              (try simp only [Act.put, List.setIfInBounds_toArray, List.set_cons_zero, List.set_cons_succ])
              refine take_yield (i := 2) (v := ?_) rfl (by kernel_rfl) (by kernel_rfl) (by kernel_rfl) (fun _ _ _ h => h) (by rfl) ?_ hHeld ?_
              rotate_left 1
              · (intro w' hSw; clear hSw; go_simp; try with_reducible rfl)
              (try simp only [Act.put, List.setIfInBounds_toArray, List.set_cons_zero, List.set_cons_succ])
              refine take_yield (i := 3) (v := ?_) rfl (by kernel_rfl) (by kernel_rfl) (by kernel_rfl) (fun _ _ _ h => h) (by rfl) ?_ hHeld ?_
              rotate_left 1
              · (intro w' hSw; clear hSw; go_simp; try with_reducible rfl)
              (try simp only [Act.put, List.setIfInBounds_toArray, List.set_cons_zero, List.set_cons_succ])
              refine take_yield (i := 4) (v := ?_) rfl (by kernel_rfl) (by kernel_rfl) (by kernel_rfl) (fun _ _ _ h => h) (by rfl) ?_ hHeld ?_
              rotate_left 1
              · (intro w' hSw; clear hSw; go_simp; try with_reducible rfl)
              (try simp only [Act.put, List.setIfInBounds_toArray, List.set_cons_zero, List.set_cons_succ])
              refine take_skip (i := 5) rfl (by kernel_rfl) (by kernel_rfl) (by kernel_rfl) (fun _ _ _ h => h) (by rfl) hHeld ?_
              (try simp only [Act.put, List.setIfInBounds_toArray, List.set_cons_zero, List.set_cons_succ])
              refine take_skip (i := 6) rfl (by kernel_rfl) (by kernel_rfl) (by kernel_rfl) (fun _ _ _ h => h) (by rfl) hHeld ?_
              (try simp only [Act.put, List.setIfInBounds_toArray, List.set_cons_zero, List.set_cons_succ])
              refine take_skip (i := 7) rfl (by kernel_rfl) (by kernel_rfl) (by kernel_rfl) (fun _ _ _ h => h) (by rfl) hHeld ?_
              (try simp only [Act.put, List.setIfInBounds_toArray, List.set_cons_zero, List.set_cons_succ])
              refine take_skip (i := 8) rfl (by kernel_rfl) (by kernel_rfl) (by kernel_rfl) (fun _ _ _ h => h) (by rfl) hHeld ?_
              (try simp only [Act.put, List.setIfInBounds_toArray, List.set_cons_zero, List.set_cons_succ])
              refine take_skip (i := 9) rfl (by kernel_rfl) (by kernel_rfl) (by kernel_rfl) (fun _ _ _ h => h) (by rfl) hHeld ?_
              (try simp only [Act.put, List.setIfInBounds_toArray, List.set_cons_zero, List.set_cons_succ])
              refine take_skip (i := 10) rfl (by kernel_rfl) (by kernel_rfl) (by kernel_rfl) (fun _ _ _ h => h) (by rfl) hHeld ?_
              (try simp only [Act.put, List.setIfInBounds_toArray, List.set_cons_zero, List.set_cons_succ])
              refine take_yield (i := 11) (v := ?_) rfl (by kernel_rfl) (by kernel_rfl) (by kernel_rfl) (fun _ _ _ h => h) (by rfl) ?_ hHeld ?_
              rotate_left 1
              · (intro w' hSw; clear hSw; go_simp; try with_reducible rfl)
              (try simp only [Act.put, List.setIfInBounds_toArray, List.set_cons_zero, List.set_cons_succ])
              refine wpAnyH_done (by kernel_rfl) ?_ _
              replace cp0 : W3.drew.cell? ⟨wo.heap.size + 1, 0, none⟩ = some (sv s) := cellAt cp0 hHeld (by omega)
              replace cp1 : W3.drew.cell? ⟨wo.heap.size + 1, 1, none⟩ = some (sv d) := cellAt cp1 hHeld (by omega)
              replace HRa := Lib.hid (HRa.out.at hHeld)
              replace HB := Lib.hid (HB.out.trans (hHeld.mono HB.out.size))
              replace n2 : (wo.heap.size + 1) < W3.drew.heap.size := ltAt n2 hHeld
              go_wp2_with fail
              obtain ⟨hge, hne⟩ := Hge.out
              have hins : insL ltP (s, d) acc = acc.take k ++ (s, d) :: acc.drop k := by rw [insL_cut acc k hk hall hge, if_neg hne]
              have HI := Lib.hid hins
              first | (refine wp_named ?_; intro W4 hW) | (refine calls_named ?_; intro W4 hW)
              have B4 : Below W3.drew.heap.size W3.drew W4 := by rw [hW]; exact (by repeat (first | exact Below.refl _ _ | assumption | refine Below.alloc ?_ (by simp <;> omega) _ | refine Below.setCell ?_ (by simp <;> omega) _ | refine Below.drew ?_))
              replace cp0 : W4.cell? ⟨wo.heap.size + 1, 0, none⟩ = some (sv s) := cellAt cp0 B4 (by omega)
              replace cp1 : W4.cell? ⟨wo.heap.size + 1, 1, none⟩ = some (sv d) := cellAt cp1 B4 (by omega)
              replace HRa := Lib.hid (HRa.out.at B4)
              replace HB := Lib.hid (HB.out.trans (B4.mono HB.out.size))
              replace n2 : (wo.heap.size + 1) < W4.heap.size := ltAt n2 B4
              clear hW
              clear B4 hins hge hne
              have hz4 := Nat.le_trans HB1.out.size HB.out.size
              have HR1 := Lib.hid (HRa.out.takeA hk)
              have HR2 := Lib.hid (HRa.out.dropA hk hc)
              have hs1 := run_slice_full (P := Tryz.prog) Tryz.underlying59 hi A acc.length c k (Nat.le_trans hk hc)
              have hs2 := run_slice_tail (P := Tryz.prog) Tryz.underlying59 hi A acc.length c k hk
              rw [hz1] at hs1 hs2
              have HLk := Lib.hid (show (acc.drop k).length = acc.length - k from List.length_drop)
              try go_wp2_with fail
              refine wp_region_held_drew (S := fun w' => Below W4.heap.size W4 w') (by kernel_rfl) (Below.drew (Below.refl _ _)) (fun hHeld => ?_)
              refine take_yield (i := 0) (v := ?_) rfl (by kernel_rfl) (by kernel_rfl) (by kernel_rfl) (fun _ _ _ h => h) (by rfl) ?_ hHeld ?_
              rotate_left 1
              · (intro w' hSw; clear hSw; go_simp; try with_reducible rfl)
              (try simp only [Act.put, List.setIfInBounds_toArray, List.set_cons_zero, List.set_cons_succ])
              refine take_yield (i := 1) (v := ?_) rfl (by kernel_rfl) (by kernel_rfl) (by kernel_rfl) (fun _ _ _ h => h) (by rfl) ?_ hHeld ?_
              rotate_left 1
              · (intro w' hSw; clear hSw; go_simp; try with_reducible rfl)
              (try simp only [Act.put, List.setIfInBounds_toArray, List.set_cons_zero, List.set_cons_succ])
              refine take_yield (i := 2) (v := ?_) rfl (by kernel_rfl) (by kernel_rfl) (by kernel_rfl) (fun _ _ _ h => h) (by rfl) ?_ hHeld ?_
              rotate_left 1
              · (intro w' hSw; clear hSw; go_simp; try with_reducible rfl)
              (try simp only [Act.put, List.setIfInBounds_toArray, List.set_cons_zero, List.set_cons_succ])
              refine take_yield (i := 3) (v := ?_) rfl (by kernel_rfl) (by kernel_rfl) (by kernel_rfl) (fun _ _ _ h => h) (by rfl) ?_ hHeld ?_
              rotate_left 1
              · (intro w' hSw; clear hSw; go_simp; try with_reducible rfl)
              (try simp only [Act.put, List.setIfInBounds_toArray, List.set_cons_zero, List.set_cons_succ])
              refine take_yield (i := 4) (v := ?_) rfl (by kernel_rfl) (by kernel_rfl) (by kernel_rfl) (fun _ _ _ h => h) (by rfl) ?_ hHeld ?_
              rotate_left 1
              · (intro w' hSw; have hCell := fun (b o : Nat) (h : b < W4.heap.size) => hSw.cell (p := ⟨b, o, none⟩) h; clear hSw; go_simp; try with_reducible rfl)
              (try simp only [Act.put, List.setIfInBounds_toArray, List.set_cons_zero, List.set_cons_succ])
              refine take_yield (i := 6) (v := ?_) rfl (by kernel_rfl) (by kernel_rfl) (by kernel_rfl) (fun _ _ _ h => h) (by rfl) ?_ hHeld ?_
              rotate_left 1
              · (intro w' hSw; clear hSw; go_simp; try with_reducible rfl)
              (try simp only [Act.put, List.setIfInBounds_toArray, List.set_cons_zero, List.set_cons_succ])
              refine take_yield (i := 7) (v := ?_) rfl (by kernel_rfl) (by kernel_rfl) (by kernel_rfl) (fun _ _ _ h => h) (by rfl) ?_ hHeld ?_
              rotate_left 1
              · (intro w' hSw; clear hSw; go_simp; try with_reducible rfl)
              (try simp only [Act.put, List.setIfInBounds_toArray, List.set_cons_zero, List.set_cons_succ])
              refine take_yield (i := 8) (v := ?_) rfl (by kernel_rfl) (by kernel_rfl) (by kernel_rfl) (fun _ _ _ h => h) (by rfl) ?_ hHeld ?_
              rotate_left 1
              · (intro w' hSw; clear hSw; go_simp; try with_reducible rfl)
              (try simp only [Act.put, List.setIfInBounds_toArray, List.set_cons_zero, List.set_cons_succ])
              refine ready_one (i := 5) rfl (by kernel_rfl) (fun K hK => ?_)
              go_simp
              refine hK.out _ _ ?_ (fun hHeld2 => ?_)
              · (try dsimp only); first | exact hHeld | exact (by repeat (first | exact Below.refl _ _ | assumption | refine Below.alloc ?_ (by simp <;> omega) _ | refine Below.setCell ?_ (by simp <;> omega) _ | refine Below.drew ?_))
              clear hK K hHeld
              have hHeld := hHeld2
              clear hHeld2
              (try simp only [Act.put, List.setIfInBounds_toArray, List.set_cons_zero, List.set_cons_succ])
              refine ready_one (i := 9) rfl (by kernel_rfl) (fun K hK => ?_)
              refine step_append_full (by rfl) (.tmp 89) (.tmp 92) 59 (by rfl) 61 i0 _ 2 32 Tryz.underlying59 hi hz0 hz1 hz2 rfl _ (some ⟨W4.heap.size, 0, none⟩) 1 (prC (s, d)) (by rfl) (Rd.lit W4.drew (prC (s, d)) 61 2 1 rfl) (Nat.le_refl _) _ _ (acc.length - k) (c - k) _ (by rfl) (HR2.out.at' (Nat.le_refl _) hHeld) (one_drop (one_prsC acc) _) (by unfold maxLen; omega) (by omega) ?_
              intro A2 c2 v2 hc2 hr2 hb
              have HR3 := Lib.hid hr2
              clear hr2
              refine hK.out _ _ ?_ (fun hHeld2 => ?_)
              · (try dsimp only); first | exact Below.trans hHeld (Below.mono hb hHeld.size) | exact hHeld | exact Below.drew hHeld | exact (by repeat (first | exact Below.refl _ _ | assumption | refine Below.alloc ?_ (by simp <;> omega) _ | refine Below.setCell ?_ (by simp <;> omega) _ | refine Below.drew ?_))
              clear hK K hHeld
              have hHeld := hHeld2
              clear hHeld2
              (try simp only [Act.put, List.setIfInBounds_toArray, List.set_cons_zero, List.set_cons_succ])
              refine ready_one (i := 10) rfl (by kernel_rfl) (fun K hK => ?_)
              refine step_append_fresh (by rfl) (.tmp 87) (.tmp 93) 59 (by rfl) 61 i0 _ 2 32 Tryz.underlying59 hi hz0 hz1 hz2 rfl _ _ k _ (by rfl) (HR1.out.at' (Nat.le_refl _) hHeld) (Nat.le_refl _) _ A2 (1 + (acc.length - k)) c2 _ (by rfl) HR3.out (one_app (one_prC _) (one_drop (one_prsC acc) _)) (by unfold maxLen; omega) (by omega) ?_
              intro A3 c3 v3 hc3 hr3 hb hf3
              have hz5 := Nat.le_trans hz4 hHeld.size
              have HR4 := Lib.hid hr3
              clear hr3
              refine hK.out _ _ ?_ (fun hHeld2 => ?_)
              · (try dsimp only); first | exact Below.trans hHeld (Below.mono hb hHeld.size) | exact hHeld | exact Below.drew hHeld | exact (by repeat (first | exact Below.refl _ _ | assumption | refine Below.alloc ?_ (by simp <;> omega) _ | refine Below.setCell ?_ (by simp <;> omega) _ | refine Below.drew ?_))
              clear hK K hHeld
              have hHeld := hHeld2
              clear hHeld2
              (try simp only [Act.put, List.setIfInBounds_toArray, List.set_cons_zero, List.set_cons_succ])
              refine take_yield (i := 11) (v := ?_) rfl (by kernel_rfl) (by kernel_rfl) (by kernel_rfl) (fun _ _ _ h => h) (by rfl) ?_ hHeld ?_
              rotate_left 1
              · (intro w' hSw; clear hSw; go_simp; try with_reducible rfl)
              (try simp only [Act.put, List.setIfInBounds_toArray, List.set_cons_zero, List.set_cons_succ])
              refine wpAnyH_done (by kernel_rfl) ?_ _
              replace cp0 : v3.cell? ⟨wo.heap.size + 1, 0, none⟩ = some (sv s) := cellAt cp0 hHeld (by omega)
              replace cp1 : v3.cell? ⟨wo.heap.size + 1, 1, none⟩ = some (sv d) := cellAt cp1 hHeld (by omega)
              replace HRa := Lib.hid (HRa.out.at hHeld)
              replace HB := Lib.hid (HB.out.trans (hHeld.mono HB.out.size))
              replace n2 : (wo.heap.size + 1) < v3.heap.size := ltAt n2 hHeld
              clear hs1 hs2
              go_wp2_with fail
              go_roundw
              case rel =>
                have hlen : k + (1 + (acc.length - k)) = (accP es (j + 1)).length := by rw [HN.out, HI.out, List.length_append, List.length_cons, List.length_take, HLk.out]; omega
                refine ⟨j + 1, A3, c3, by omega, by go_num, by rw [hlen], by rw [← hlen]; exact hc3, ?_, fun _ ad e => Nat.le_trans hz5 (hf3 (by omega) ad e), HB.out⟩
                have h4 := HR4.out
                rw [hlen] at h4
                have hx : (prsC acc).take (k * 2) ++ (prC (s, d) ++ (prsC acc).drop (k * 2)) = prsC (accP es (j + 1)) := by rw [HN.out, HI.out, prsC_take, prsC_drop]; simp [prsC]
                rw [hx] at h4
                exact h4
              case measure => simp [intOf]; omega
        · have hp : pairE es[j] = none := by rw [Hx.out]; simp [pairE, h8, h7]
          have HN := Lib.hid (accP_none hlt hp)
          clear hp
          have t1 : (r == 8) = false := by simpa using h8
          have t2 : (r != 8) = true := by simpa using h8
          have t3 : (r != 7) = true := by simpa using h7
          go_wp2_with fail
          go_roundw
          case rel => exact ⟨j + 1, A, c, by omega, by go_num, by rw [HN.out], by rw [HN.out]; exact hc, by rw [HN.out]; exact HRa.out.at (by repeat (first | exact Below.refl _ _ | assumption | refine Below.alloc ?_ (by simp <;> omega) _ | refine Below.setCell ?_ (by simp <;> omega) _ | refine Below.drew ?_)), by rw [HN.out]; exact HFr.out, HB.out.trans (Below.mono (by repeat (first | exact Below.refl _ _ | assumption | refine Below.alloc ?_ (by simp <;> omega) _ | refine Below.setCell ?_ (by simp <;> omega) _ | refine Below.drew ?_)) HB.out.size)⟩
          case measure => simp [intOf]; omega
    · have hjn : j = es.length := by omega
      subst hjn
      rw [accP_all] at hc hra ⊢
      have HRa := Lib.hid hra
      have HB := Lib.hid hb
      clear hra hb
      go_wp2_with fail
      go_ret
      exact ⟨A, c, rfl, hc, HRa.out, by have h := HFr.out; rw [accP_all] at h; exact h, lift HB1.out HB.out⟩
end Od
end Go.Proofs.YtclaoffnfopekaaGreat
end
