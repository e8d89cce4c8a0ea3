/- My texts, joined for the claim: NMay RPut GEq2. -/
import Derived.Test.YtclaoffnfopekaaGreatZB6
import Derived.Test.YtclaoffnfopekaaGreatZB1
import Derived.Test.YtclaoffnfopekaaGreatRows
import Derived.Test.YtclaoffnfopekaaGreatZB5
import Derived.Test.YtclaoffnfopekaaGreatZB4
import Derived.Test.YtclaoffnfopekaaGreatZB0
import Derived.WalkKit

section
/- The walks of graph.mayNode and graph.May. -/
namespace Go.Proofs.YtclaoffnfopekaaGreat
open Go.RowKit

namespace Od
def mayN (n : Nd) : Bool := kindS n.1 != 0 && ((n.2.1 == kindS n.1) && (decide (1 ≤ n.2.2) && decide (n.2.2 ≤ 4)))
set_option maxRecDepth 100000 in
set_option maxHeartbeats 4000000 in
theorem mayNode_any (s : Str) (k r : Int) (w : World) (hl : s.length ≤ 140737488355328) : Calls Tryz.prog 56 #[.agg #[sv s, .int .i64 k, .int .i64 r]] w fun e w' => e = .returned (.bool (mayN (s, k, r))) ∧ Below w.heap.size w w' := by
  have hm : mayN (s, k, r) = (kindS s != 0 && ((k == kindS s) && (decide (1 ≤ r) && decide (r ≤ 4)))) := rfl
  have HM := Lib.hid hm
  clear hm
  go_enter Tryz.func56, Tryz.ntmps56
  go_wp2_with fail
  first | (refine wp_named ?_; intro W1 hW) | (refine calls_named ?_; intro W1 hW)
  have B1 : Below w.heap.size w W1 := by rw [hW]; exact (by repeat (first | exact Below.refl _ _ | assumption | refine Below.alloc ?_ (by simp <;> omega) _ | refine Below.setCell ?_ (by simp <;> omega) _ | refine Below.drew ?_))
  have n1 : w.heap.size < W1.heap.size := by rw [hW]; simp <;> omega
  have c0 : W1.cell? ⟨w.heap.size, 0, none⟩ = some (sv s) := by rw [hW]; go_simp
  have c1 : W1.cell? ⟨w.heap.size, 1, none⟩ = some (.int .i64 k) := by rw [hW]; go_simp
  have c2 : W1.cell? ⟨w.heap.size, 2, none⟩ = some (.int .i64 r) := by rw [hW]; go_simp
  clear hW
  have HB := Lib.hid B1
  clear B1
  cases h1 : (kindS s != 0)
  · have H1 := Lib.hid h1
    try go_wp2_with fail
    refine wp_region_held_drew (S := fun w' => Below W1.heap.size W1 w') (by kernel_rfl) (Below.drew (Below.refl _ _)) (fun hHeld => ?_)
    refine take_yield (i := 0) (v := ?_) rfl (by kernel_rfl) (by kernel_rfl) (by kernel_rfl) (fun _ _ _ h => h) (by rfl) ?_ hHeld ?_
    rotate_left 1
    · (intro w' hSw; clear hSw; go_simp; try with_reducible rfl)
    (try simp only [Act.put, List.setIfInBounds_toArray, List.set_cons_zero, List.set_cons_succ])
    refine take_yield (i := 1) (v := ?_) rfl (by kernel_rfl) (by kernel_rfl) (by kernel_rfl) (fun _ _ _ h => h) (by rfl) ?_ hHeld ?_
    rotate_left 1
    · (intro w' hSw; have hCell := fun (b o : Nat) (h : b < W1.heap.size) => hSw.cell (p := ⟨b, o, none⟩) h; clear hSw; go_simp; try with_reducible rfl)
    (try simp only [Act.put, List.setIfInBounds_toArray, List.set_cons_zero, List.set_cons_succ])
    refine ready_one (i := 2) rfl (by kernel_rfl) (fun K hK => ?_)
    go_simp
    refine (May_any s _ hl).mono ?_
    rintro e v2 ⟨rfl, hb⟩
    refine hK.out _ _ ?_ (fun hHeld2 => ?_)
    · (try dsimp only); first | exact Below.trans hHeld (Below.mono hb hHeld.size) | exact hHeld | exact Below.drew hHeld | exact (by repeat (first | exact Below.refl _ _ | assumption | refine Below.alloc ?_ (by simp <;> omega) _ | refine Below.setCell ?_ (by simp <;> omega) _ | refine Below.drew ?_))
    clear hK K hHeld
    have hHeld := hHeld2
    clear hHeld2
    (try simp only [Act.put, List.setIfInBounds_toArray, List.set_cons_zero, List.set_cons_succ])
    refine take_yield (i := 3) (v := ?_) rfl (by kernel_rfl) (by kernel_rfl) (by kernel_rfl) (fun _ _ _ h => h) (by rfl) ?_ hHeld ?_
    rotate_left 1
    · (intro w' hSw; clear hSw; go_simp; try with_reducible rfl)
    (try simp only [Act.put, List.setIfInBounds_toArray, List.set_cons_zero, List.set_cons_succ])
    refine take_skip (i := 4) rfl (by kernel_rfl) (by kernel_rfl) (by kernel_rfl) (fun _ _ _ h => h) (by rfl) hHeld ?_
    (try simp only [Act.put, List.setIfInBounds_toArray, List.set_cons_zero, List.set_cons_succ])
    refine take_skip (i := 5) rfl (by kernel_rfl) (by kernel_rfl) (by kernel_rfl) (fun _ _ _ h => h) (by rfl) hHeld ?_
    (try simp only [Act.put, List.setIfInBounds_toArray, List.set_cons_zero, List.set_cons_succ])
    refine take_skip (i := 6) rfl (by kernel_rfl) (by kernel_rfl) (by kernel_rfl) (fun _ _ _ h => h) (by rfl) hHeld ?_
    (try simp only [Act.put, List.setIfInBounds_toArray, List.set_cons_zero, List.set_cons_succ])
    refine take_skip (i := 7) rfl (by kernel_rfl) (by kernel_rfl) (by kernel_rfl) (fun _ _ _ h => h) (by rfl) hHeld ?_
    (try simp only [Act.put, List.setIfInBounds_toArray, List.set_cons_zero, List.set_cons_succ])
    refine take_skip (i := 8) rfl (by kernel_rfl) (by kernel_rfl) (by kernel_rfl) (fun _ _ _ h => h) (by rfl) hHeld ?_
    (try simp only [Act.put, List.setIfInBounds_toArray, List.set_cons_zero, List.set_cons_succ])
    refine take_skip (i := 9) rfl (by kernel_rfl) (by kernel_rfl) (by kernel_rfl) (fun _ _ _ h => h) (by rfl) hHeld ?_
    (try simp only [Act.put, List.setIfInBounds_toArray, List.set_cons_zero, List.set_cons_succ])
    refine take_yield (i := 10) (v := ?_) rfl (by kernel_rfl) (by kernel_rfl) (by kernel_rfl) (fun _ _ _ h => h) (by rfl) ?_ hHeld ?_
    rotate_left 1
    · (intro w' hSw; clear hSw; go_simp; try with_reducible rfl)
    (try simp only [Act.put, List.setIfInBounds_toArray, List.set_cons_zero, List.set_cons_succ])
    refine take_yield (i := 11) (v := ?_) rfl (by kernel_rfl) (by kernel_rfl) (by kernel_rfl) (fun _ _ _ h => h) (by rfl) ?_ hHeld ?_
    rotate_left 1
    · (intro w' hSw; clear hSw; go_simp; try with_reducible rfl)
    (try simp only [Act.put, List.setIfInBounds_toArray, List.set_cons_zero, List.set_cons_succ])
    refine take_skip (i := 12) rfl (by kernel_rfl) (by kernel_rfl) (by kernel_rfl) (fun _ _ _ h => h) (by rfl) hHeld ?_
    (try simp only [Act.put, List.setIfInBounds_toArray, List.set_cons_zero, List.set_cons_succ])
    refine take_skip (i := 13) rfl (by kernel_rfl) (by kernel_rfl) (by kernel_rfl) (fun _ _ _ h => h) (by rfl) hHeld ?_
    (try simp only [Act.put, List.setIfInBounds_toArray, List.set_cons_zero, List.set_cons_succ])
    refine take_skip (i := 14) rfl (by kernel_rfl) (by kernel_rfl) (by kernel_rfl) (fun _ _ _ h => h) (by rfl) hHeld ?_
    (try simp only [Act.put, List.setIfInBounds_toArray, List.set_cons_zero, List.set_cons_succ])
    refine take_yield (i := 15) (v := ?_) rfl (by kernel_rfl) (by kernel_rfl) (by kernel_rfl) (fun _ _ _ h => h) (by rfl) ?_ hHeld ?_
    rotate_left 1
    · (intro w' hSw; clear hSw; go_simp; try with_reducible rfl)
    (try simp only [Act.put, List.setIfInBounds_toArray, List.set_cons_zero, List.set_cons_succ])
    refine take_yield (i := 16) (v := ?_) rfl (by kernel_rfl) (by kernel_rfl) (by kernel_rfl) (fun _ _ _ h => h) (by rfl) ?_ hHeld ?_
    rotate_left 1
    · (intro w' hSw; clear hSw; go_simp; try with_reducible rfl)
    (try simp only [Act.put, List.setIfInBounds_toArray, List.set_cons_zero, List.set_cons_succ])
    refine take_skip (i := 17) rfl (by kernel_rfl) (by kernel_rfl) (by kernel_rfl) (fun _ _ _ h => h) (by rfl) hHeld ?_
    (try simp only [Act.put, List.setIfInBounds_toArray, List.set_cons_zero, List.set_cons_succ])
    refine take_skip (i := 18) rfl (by kernel_rfl) (by kernel_rfl) (by kernel_rfl) (fun _ _ _ h => h) (by rfl) hHeld ?_
    (try simp only [Act.put, List.setIfInBounds_toArray, List.set_cons_zero, List.set_cons_succ])
    refine take_skip (i := 19) rfl (by kernel_rfl) (by kernel_rfl) (by kernel_rfl) (fun _ _ _ h => h) (by rfl) hHeld ?_
    (try simp only [Act.put, List.setIfInBounds_toArray, List.set_cons_zero, List.set_cons_succ])
    refine take_yield (i := 20) (v := ?_) rfl (by kernel_rfl) (by kernel_rfl) (by kernel_rfl) (fun _ _ _ h => h) (by rfl) ?_ hHeld ?_
    rotate_left 1
    · (intro w' hSw; clear hSw; go_simp; try with_reducible rfl)
    (try simp only [Act.put, List.setIfInBounds_toArray, List.set_cons_zero, List.set_cons_succ])
    refine take_yield (i := 21) (v := ?_) rfl (by kernel_rfl) (by kernel_rfl) (by kernel_rfl) (fun _ _ _ h => h) (by rfl) ?_ hHeld ?_
    rotate_left 1
    · (intro w' hSw; clear hSw; go_simp; try with_reducible rfl)
    (try simp only [Act.put, List.setIfInBounds_toArray, List.set_cons_zero, List.set_cons_succ])
    refine wpAnyH_done (by kernel_rfl) ?_ _
    go_wp2_with fail
    go_ret
    exact ⟨ret_bool (by rw [HM.out]; simp [H1.out]), lift HB.out hHeld⟩
  · have H1 := Lib.hid h1
    cases h2 : (k == kindS s)
    · have H2 := Lib.hid h2
      try go_wp2_with fail
      refine wp_region_held_drew (S := fun w' => Below W1.heap.size W1 w') (by kernel_rfl) (Below.drew (Below.refl _ _)) (fun hHeld => ?_)
      refine take_yield (i := 0) (v := ?_) rfl (by kernel_rfl) (by kernel_rfl) (by kernel_rfl) (fun _ _ _ h => h) (by rfl) ?_ hHeld ?_
      rotate_left 1
      · (intro w' hSw; clear hSw; go_simp; try with_reducible rfl)
      (try simp only [Act.put, List.setIfInBounds_toArray, List.set_cons_zero, List.set_cons_succ])
      refine take_yield (i := 1) (v := ?_) rfl (by kernel_rfl) (by kernel_rfl) (by kernel_rfl) (fun _ _ _ h => h) (by rfl) ?_ hHeld ?_
      rotate_left 1
      · (intro w' hSw; have hCell := fun (b o : Nat) (h : b < W1.heap.size) => hSw.cell (p := ⟨b, o, none⟩) h; clear hSw; go_simp; try with_reducible rfl)
      (try simp only [Act.put, List.setIfInBounds_toArray, List.set_cons_zero, List.set_cons_succ])
      refine ready_one (i := 2) rfl (by kernel_rfl) (fun K hK => ?_)
      go_simp
      refine (May_any s _ hl).mono ?_
      rintro e v2 ⟨rfl, hb⟩
      refine hK.out _ _ ?_ (fun hHeld2 => ?_)
      · (try dsimp only); first | exact Below.trans hHeld (Below.mono hb hHeld.size) | exact hHeld | exact Below.drew hHeld | exact (by repeat (first | exact Below.refl _ _ | assumption | refine Below.alloc ?_ (by simp <;> omega) _ | refine Below.setCell ?_ (by simp <;> omega) _ | refine Below.drew ?_))
      clear hK K hHeld
      have hHeld := hHeld2
      clear hHeld2
      (try simp only [Act.put, List.setIfInBounds_toArray, List.set_cons_zero, List.set_cons_succ])
      refine take_yield (i := 3) (v := ?_) rfl (by kernel_rfl) (by kernel_rfl) (by kernel_rfl) (fun _ _ _ h => h) (by rfl) ?_ hHeld ?_
      rotate_left 1
      · (intro w' hSw; clear hSw; go_simp; try with_reducible rfl)
      (try simp only [Act.put, List.setIfInBounds_toArray, List.set_cons_zero, List.set_cons_succ])
      refine take_yield (i := 4) (v := ?_) rfl (by kernel_rfl) (by kernel_rfl) (by kernel_rfl) (fun _ _ _ h => h) (by rfl) ?_ hHeld ?_
      rotate_left 1
      · (intro w' hSw; clear hSw; go_simp; try with_reducible rfl)
      (try simp only [Act.put, List.setIfInBounds_toArray, List.set_cons_zero, List.set_cons_succ])
      refine take_yield (i := 5) (v := ?_) rfl (by kernel_rfl) (by kernel_rfl) (by kernel_rfl) (fun _ _ _ h => h) (by rfl) ?_ hHeld ?_
      rotate_left 1
      · (intro w' hSw; have hCell := fun (b o : Nat) (h : b < W1.heap.size) => hSw.cell (p := ⟨b, o, none⟩) h; clear hSw; go_simp; try with_reducible rfl)
      (try simp only [Act.put, List.setIfInBounds_toArray, List.set_cons_zero, List.set_cons_succ])
      refine take_yield (i := 6) (v := ?_) rfl (by kernel_rfl) (by kernel_rfl) (by kernel_rfl) (fun _ _ _ h => h) (by rfl) ?_ hHeld ?_
      rotate_left 1
      · (intro w' hSw; clear hSw; go_simp; try with_reducible rfl)
      (try simp only [Act.put, List.setIfInBounds_toArray, List.set_cons_zero, List.set_cons_succ])
      refine take_yield (i := 7) (v := ?_) rfl (by kernel_rfl) (by kernel_rfl) (by kernel_rfl) (fun _ _ _ h => h) (by rfl) ?_ hHeld ?_
      rotate_left 1
      · (intro w' hSw; have hCell := fun (b o : Nat) (h : b < W1.heap.size) => hSw.cell (p := ⟨b, o, none⟩) h; clear hSw; go_simp; try with_reducible rfl)
      (try simp only [Act.put, List.setIfInBounds_toArray, List.set_cons_zero, List.set_cons_succ])
      refine ready_one (i := 8) rfl (by kernel_rfl) (fun K hK => ?_)
      go_simp
      refine (Kind_any s _ hl).mono ?_
      rintro e v3 ⟨rfl, hb⟩
      refine hK.out _ _ ?_ (fun hHeld2 => ?_)
      · (try dsimp only); first | exact Below.trans hHeld (Below.mono hb hHeld.size) | exact hHeld | exact Below.drew hHeld | exact (by repeat (first | exact Below.refl _ _ | assumption | refine Below.alloc ?_ (by simp <;> omega) _ | refine Below.setCell ?_ (by simp <;> omega) _ | refine Below.drew ?_))
      clear hK K hHeld
      have hHeld := hHeld2
      clear hHeld2
      (try simp only [Act.put, List.setIfInBounds_toArray, List.set_cons_zero, List.set_cons_succ])
      refine take_yield (i := 9) (v := ?_) rfl (by kernel_rfl) (by kernel_rfl) (by kernel_rfl) (fun _ _ _ h => h) (by rfl) ?_ hHeld ?_
      rotate_left 1
      · (intro w' hSw; clear hSw; go_simp; try with_reducible rfl)
      (try simp only [Act.put, List.setIfInBounds_toArray, List.set_cons_zero, List.set_cons_succ])
      refine take_yield (i := 10) (v := ?_) rfl (by kernel_rfl) (by kernel_rfl) (by kernel_rfl) (fun _ _ _ h => h) (by rfl) ?_ hHeld ?_
      rotate_left 1
      · (intro w' hSw; clear hSw; go_simp; try with_reducible rfl)
      (try simp only [Act.put, List.setIfInBounds_toArray, List.set_cons_zero, List.set_cons_succ])
      refine take_yield (i := 11) (v := ?_) rfl (by kernel_rfl) (by kernel_rfl) (by kernel_rfl) (fun _ _ _ h => h) (by rfl) ?_ hHeld ?_
      rotate_left 1
      · (intro w' hSw; clear hSw; go_simp; try with_reducible rfl)
      (try simp only [Act.put, List.setIfInBounds_toArray, List.set_cons_zero, List.set_cons_succ])
      refine take_skip (i := 12) rfl (by kernel_rfl) (by kernel_rfl) (by kernel_rfl) (fun _ _ _ h => h) (by rfl) hHeld ?_
      (try simp only [Act.put, List.setIfInBounds_toArray, List.set_cons_zero, List.set_cons_succ])
      refine take_skip (i := 13) rfl (by kernel_rfl) (by kernel_rfl) (by kernel_rfl) (fun _ _ _ h => h) (by rfl) hHeld ?_
      (try simp only [Act.put, List.setIfInBounds_toArray, List.set_cons_zero, List.set_cons_succ])
      refine take_skip (i := 14) rfl (by kernel_rfl) (by kernel_rfl) (by kernel_rfl) (fun _ _ _ h => h) (by rfl) hHeld ?_
      (try simp only [Act.put, List.setIfInBounds_toArray, List.set_cons_zero, List.set_cons_succ])
      refine take_yield (i := 15) (v := ?_) rfl (by kernel_rfl) (by kernel_rfl) (by kernel_rfl) (fun _ _ _ h => h) (by rfl) ?_ hHeld ?_
      rotate_left 1
      · (intro w' hSw; clear hSw; go_simp; try with_reducible rfl)
      (try simp only [Act.put, List.setIfInBounds_toArray, List.set_cons_zero, List.set_cons_succ])
      refine take_yield (i := 16) (v := ?_) rfl (by kernel_rfl) (by kernel_rfl) (by kernel_rfl) (fun _ _ _ h => h) (by rfl) ?_ hHeld ?_
      rotate_left 1
      · (intro w' hSw; clear hSw; go_simp; try with_reducible rfl)
      (try simp only [Act.put, List.setIfInBounds_toArray, List.set_cons_zero, List.set_cons_succ])
      refine take_skip (i := 17) rfl (by kernel_rfl) (by kernel_rfl) (by kernel_rfl) (fun _ _ _ h => h) (by rfl) hHeld ?_
      (try simp only [Act.put, List.setIfInBounds_toArray, List.set_cons_zero, List.set_cons_succ])
      refine take_skip (i := 18) rfl (by kernel_rfl) (by kernel_rfl) (by kernel_rfl) (fun _ _ _ h => h) (by rfl) hHeld ?_
      (try simp only [Act.put, List.setIfInBounds_toArray, List.set_cons_zero, List.set_cons_succ])
      refine take_skip (i := 19) rfl (by kernel_rfl) (by kernel_rfl) (by kernel_rfl) (fun _ _ _ h => h) (by rfl) hHeld ?_
      (try simp only [Act.put, List.setIfInBounds_toArray, List.set_cons_zero, List.set_cons_succ])
      refine take_yield (i := 20) (v := ?_) rfl (by kernel_rfl) (by kernel_rfl) (by kernel_rfl) (fun _ _ _ h => h) (by rfl) ?_ hHeld ?_
      rotate_left 1
      · (intro w' hSw; clear hSw; go_simp; try with_reducible rfl)
      (try simp only [Act.put, List.setIfInBounds_toArray, List.set_cons_zero, List.set_cons_succ])
      refine take_yield (i := 21) (v := ?_) rfl (by kernel_rfl) (by kernel_rfl) (by kernel_rfl) (fun _ _ _ h => h) (by rfl) ?_ hHeld ?_
      rotate_left 1
      · (intro w' hSw; clear hSw; go_simp; try with_reducible rfl)
      (try simp only [Act.put, List.setIfInBounds_toArray, List.set_cons_zero, List.set_cons_succ])
      refine wpAnyH_done (by kernel_rfl) ?_ _
      go_wp2_with fail
      go_ret
      exact ⟨ret_bool (by rw [HM.out]; simp [H1.out, H2.out]), lift HB.out hHeld⟩
    · have H2 := Lib.hid h2
      cases h3 : decide (1 ≤ r)
      · have H3 := Lib.hid h3
        try go_wp2_with fail
        refine wp_region_held_drew (S := fun w' => Below W1.heap.size W1 w') (by kernel_rfl) (Below.drew (Below.refl _ _)) (fun hHeld => ?_)
        refine take_yield (i := 0) (v := ?_) rfl (by kernel_rfl) (by kernel_rfl) (by kernel_rfl) (fun _ _ _ h => h) (by rfl) ?_ hHeld ?_
        rotate_left 1
        · (intro w' hSw; clear hSw; go_simp; try with_reducible rfl)
        (try simp only [Act.put, List.setIfInBounds_toArray, List.set_cons_zero, List.set_cons_succ])
        refine take_yield (i := 1) (v := ?_) rfl (by kernel_rfl) (by kernel_rfl) (by kernel_rfl) (fun _ _ _ h => h) (by rfl) ?_ hHeld ?_
        rotate_left 1
        · (intro w' hSw; have hCell := fun (b o : Nat) (h : b < W1.heap.size) => hSw.cell (p := ⟨b, o, none⟩) h; clear hSw; go_simp; try with_reducible rfl)
        (try simp only [Act.put, List.setIfInBounds_toArray, List.set_cons_zero, List.set_cons_succ])
        refine ready_one (i := 2) rfl (by kernel_rfl) (fun K hK => ?_)
        go_simp
        refine (May_any s _ hl).mono ?_
        rintro e v2 ⟨rfl, hb⟩
        refine hK.out _ _ ?_ (fun hHeld2 => ?_)
        · (try dsimp only); first | exact Below.trans hHeld (Below.mono hb hHeld.size) | exact hHeld | exact Below.drew hHeld | exact (by repeat (first | exact Below.refl _ _ | assumption | refine Below.alloc ?_ (by simp <;> omega) _ | refine Below.setCell ?_ (by simp <;> omega) _ | refine Below.drew ?_))
        clear hK K hHeld
        have hHeld := hHeld2
        clear hHeld2
        (try simp only [Act.put, List.setIfInBounds_toArray, List.set_cons_zero, List.set_cons_succ])
        refine take_yield (i := 3) (v := ?_) rfl (by kernel_rfl) (by kernel_rfl) (by kernel_rfl) (fun _ _ _ h => h) (by rfl) ?_ hHeld ?_
        rotate_left 1
        · (intro w' hSw; clear hSw; go_simp; try with_reducible rfl)
        (try simp only [Act.put, List.setIfInBounds_toArray, List.set_cons_zero, List.set_cons_succ])
        refine take_yield (i := 4) (v := ?_) rfl (by kernel_rfl) (by kernel_rfl) (by kernel_rfl) (fun _ _ _ h => h) (by rfl) ?_ hHeld ?_
        rotate_left 1
        · (intro w' hSw; clear hSw; go_simp; try with_reducible rfl)
        (try simp only [Act.put, List.setIfInBounds_toArray, List.set_cons_zero, List.set_cons_succ])
        refine take_yield (i := 5) (v := ?_) rfl (by kernel_rfl) (by kernel_rfl) (by kernel_rfl) (fun _ _ _ h => h) (by rfl) ?_ hHeld ?_
        rotate_left 1
        · (intro w' hSw; have hCell := fun (b o : Nat) (h : b < W1.heap.size) => hSw.cell (p := ⟨b, o, none⟩) h; clear hSw; go_simp; try with_reducible rfl)
        (try simp only [Act.put, List.setIfInBounds_toArray, List.set_cons_zero, List.set_cons_succ])
        refine take_yield (i := 6) (v := ?_) rfl (by kernel_rfl) (by kernel_rfl) (by kernel_rfl) (fun _ _ _ h => h) (by rfl) ?_ hHeld ?_
        rotate_left 1
        · (intro w' hSw; clear hSw; go_simp; try with_reducible rfl)
        (try simp only [Act.put, List.setIfInBounds_toArray, List.set_cons_zero, List.set_cons_succ])
        refine take_yield (i := 7) (v := ?_) rfl (by kernel_rfl) (by kernel_rfl) (by kernel_rfl) (fun _ _ _ h => h) (by rfl) ?_ hHeld ?_
        rotate_left 1
        · (intro w' hSw; have hCell := fun (b o : Nat) (h : b < W1.heap.size) => hSw.cell (p := ⟨b, o, none⟩) h; clear hSw; go_simp; try with_reducible rfl)
        (try simp only [Act.put, List.setIfInBounds_toArray, List.set_cons_zero, List.set_cons_succ])
        refine ready_one (i := 8) rfl (by kernel_rfl) (fun K hK => ?_)
        go_simp
        refine (Kind_any s _ hl).mono ?_
        rintro e v3 ⟨rfl, hb⟩
        refine hK.out _ _ ?_ (fun hHeld2 => ?_)
        · (try dsimp only); first | exact Below.trans hHeld (Below.mono hb hHeld.size) | exact hHeld | exact Below.drew hHeld | exact (by repeat (first | exact Below.refl _ _ | assumption | refine Below.alloc ?_ (by simp <;> omega) _ | refine Below.setCell ?_ (by simp <;> omega) _ | refine Below.drew ?_))
        clear hK K hHeld
        have hHeld := hHeld2
        clear hHeld2
        (try simp only [Act.put, List.setIfInBounds_toArray, List.set_cons_zero, List.set_cons_succ])
        refine take_yield (i := 9) (v := ?_) rfl (by kernel_rfl) (by kernel_rfl) (by kernel_rfl) (fun _ _ _ h => h) (by rfl) ?_ hHeld ?_
        rotate_left 1
        · (intro w' hSw; clear hSw; go_simp; try with_reducible rfl)
        (try simp only [Act.put, List.setIfInBounds_toArray, List.set_cons_zero, List.set_cons_succ])
        refine take_yield (i := 10) (v := ?_) rfl (by kernel_rfl) (by kernel_rfl) (by kernel_rfl) (fun _ _ _ h => h) (by rfl) ?_ hHeld ?_
        rotate_left 1
        · (intro w' hSw; clear hSw; go_simp; try with_reducible rfl)
        (try simp only [Act.put, List.setIfInBounds_toArray, List.set_cons_zero, List.set_cons_succ])
        refine take_yield (i := 11) (v := ?_) rfl (by kernel_rfl) (by kernel_rfl) (by kernel_rfl) (fun _ _ _ h => h) (by rfl) ?_ hHeld ?_
        rotate_left 1
        · (intro w' hSw; clear hSw; go_simp; try with_reducible rfl)
        (try simp only [Act.put, List.setIfInBounds_toArray, List.set_cons_zero, List.set_cons_succ])
        refine take_yield (i := 12) (v := ?_) rfl (by kernel_rfl) (by kernel_rfl) (by kernel_rfl) (fun _ _ _ h => h) (by rfl) ?_ hHeld ?_
        rotate_left 1
        · (intro w' hSw; clear hSw; go_simp; try with_reducible rfl)
        (try simp only [Act.put, List.setIfInBounds_toArray, List.set_cons_zero, List.set_cons_succ])
        refine take_yield (i := 13) (v := ?_) rfl (by kernel_rfl) (by kernel_rfl) (by kernel_rfl) (fun _ _ _ h => h) (by rfl) ?_ hHeld ?_
        rotate_left 1
        · (intro w' hSw; have hCell := fun (b o : Nat) (h : b < W1.heap.size) => hSw.cell (p := ⟨b, o, none⟩) h; clear hSw; go_simp; try with_reducible rfl)
        (try simp only [Act.put, List.setIfInBounds_toArray, List.set_cons_zero, List.set_cons_succ])
        refine take_yield (i := 14) (v := ?_) rfl (by kernel_rfl) (by kernel_rfl) (by kernel_rfl) (fun _ _ _ h => h) (by rfl) ?_ hHeld ?_
        rotate_left 1
        · (intro w' hSw; clear hSw; go_simp; try with_reducible rfl)
        (try simp only [Act.put, List.setIfInBounds_toArray, List.set_cons_zero, List.set_cons_succ])
        refine take_yield (i := 15) (v := ?_) rfl (by kernel_rfl) (by kernel_rfl) (by kernel_rfl) (fun _ _ _ h => h) (by rfl) ?_ hHeld ?_
        rotate_left 1
        · (intro w' hSw; clear hSw; go_simp; try with_reducible rfl)
        (try simp only [Act.put, List.setIfInBounds_toArray, List.set_cons_zero, List.set_cons_succ])
        refine take_yield (i := 16) (v := ?_) rfl (by kernel_rfl) (by kernel_rfl) (by kernel_rfl) (fun _ _ _ h => h) (by rfl) ?_ hHeld ?_
        rotate_left 1
        · (intro w' hSw; clear hSw; go_simp; try with_reducible rfl)
        (try simp only [Act.put, List.setIfInBounds_toArray, List.set_cons_zero, List.set_cons_succ])
        refine take_skip (i := 17) rfl (by kernel_rfl) (by kernel_rfl) (by kernel_rfl) (fun _ _ _ h => h) (by rfl) hHeld ?_
        (try simp only [Act.put, List.setIfInBounds_toArray, List.set_cons_zero, List.set_cons_succ])
        refine take_skip (i := 18) rfl (by kernel_rfl) (by kernel_rfl) (by kernel_rfl) (fun _ _ _ h => h) (by rfl) hHeld ?_
        (try simp only [Act.put, List.setIfInBounds_toArray, List.set_cons_zero, List.set_cons_succ])
        refine take_skip (i := 19) rfl (by kernel_rfl) (by kernel_rfl) (by kernel_rfl) (fun _ _ _ h => h) (by rfl) hHeld ?_
        (try simp only [Act.put, List.setIfInBounds_toArray, List.set_cons_zero, List.set_cons_succ])
        refine take_yield (i := 20) (v := ?_) rfl (by kernel_rfl) (by kernel_rfl) (by kernel_rfl) (fun _ _ _ h => h) (by rfl) ?_ hHeld ?_
        rotate_left 1
        · (intro w' hSw; clear hSw; go_simp; try with_reducible rfl)
        (try simp only [Act.put, List.setIfInBounds_toArray, List.set_cons_zero, List.set_cons_succ])
        refine take_yield (i := 21) (v := ?_) rfl (by kernel_rfl) (by kernel_rfl) (by kernel_rfl) (fun _ _ _ h => h) (by rfl) ?_ hHeld ?_
        rotate_left 1
        · (intro w' hSw; clear hSw; go_simp; try with_reducible rfl)
        (try simp only [Act.put, List.setIfInBounds_toArray, List.set_cons_zero, List.set_cons_succ])
        refine wpAnyH_done (by kernel_rfl) ?_ _
        go_wp2_with fail
        go_ret
        exact ⟨ret_bool (by rw [HM.out]; simp [H1.out, H2.out, H3.out]), lift HB.out hHeld⟩
      · have H3 := Lib.hid h3
        try go_wp2_with fail
        refine wp_region_held_drew (S := fun w' => Below W1.heap.size W1 w') (by kernel_rfl) (Below.drew (Below.refl _ _)) (fun hHeld => ?_)
        refine take_yield (i := 0) (v := ?_) rfl (by kernel_rfl) (by kernel_rfl) (by kernel_rfl) (fun _ _ _ h => h) (by rfl) ?_ hHeld ?_
        rotate_left 1
        · (intro w' hSw; clear hSw; go_simp; try with_reducible rfl)
        (try simp only [Act.put, List.setIfInBounds_toArray, List.set_cons_zero, List.set_cons_succ])
        refine take_yield (i := 1) (v := ?_) rfl (by kernel_rfl) (by kernel_rfl) (by kernel_rfl) (fun _ _ _ h => h) (by rfl) ?_ hHeld ?_
        rotate_left 1
        · (intro w' hSw; have hCell := fun (b o : Nat) (h : b < W1.heap.size) => hSw.cell (p := ⟨b, o, none⟩) h; clear hSw; go_simp; try with_reducible rfl)
        (try simp only [Act.put, List.setIfInBounds_toArray, List.set_cons_zero, List.set_cons_succ])
        refine ready_one (i := 2) rfl (by kernel_rfl) (fun K hK => ?_)
        go_simp
        refine (May_any s _ hl).mono ?_
        rintro e v2 ⟨rfl, hb⟩
        refine hK.out _ _ ?_ (fun hHeld2 => ?_)
        · (try dsimp only); first | exact Below.trans hHeld (Below.mono hb hHeld.size) | exact hHeld | exact Below.drew hHeld | exact (by repeat (first | exact Below.refl _ _ | assumption | refine Below.alloc ?_ (by simp <;> omega) _ | refine Below.setCell ?_ (by simp <;> omega) _ | refine Below.drew ?_))
        clear hK K hHeld
        have hHeld := hHeld2
        clear hHeld2
        (try simp only [Act.put, List.setIfInBounds_toArray, List.set_cons_zero, List.set_cons_succ])
        refine take_yield (i := 3) (v := ?_) rfl (by kernel_rfl) (by kernel_rfl) (by kernel_rfl) (fun _ _ _ h => h) (by rfl) ?_ hHeld ?_
        rotate_left 1
        · (intro w' hSw; clear hSw; go_simp; try with_reducible rfl)
        (try simp only [Act.put, List.setIfInBounds_toArray, List.set_cons_zero, List.set_cons_succ])
        refine take_yield (i := 4) (v := ?_) rfl (by kernel_rfl) (by kernel_rfl) (by kernel_rfl) (fun _ _ _ h => h) (by rfl) ?_ hHeld ?_
        rotate_left 1
        · (intro w' hSw; clear hSw; go_simp; try with_reducible rfl)
        (try simp only [Act.put, List.setIfInBounds_toArray, List.set_cons_zero, List.set_cons_succ])
        refine take_yield (i := 5) (v := ?_) rfl (by kernel_rfl) (by kernel_rfl) (by kernel_rfl) (fun _ _ _ h => h) (by rfl) ?_ hHeld ?_
        rotate_left 1
        · (intro w' hSw; have hCell := fun (b o : Nat) (h : b < W1.heap.size) => hSw.cell (p := ⟨b, o, none⟩) h; clear hSw; go_simp; try with_reducible rfl)
        (try simp only [Act.put, List.setIfInBounds_toArray, List.set_cons_zero, List.set_cons_succ])
        refine take_yield (i := 6) (v := ?_) rfl (by kernel_rfl) (by kernel_rfl) (by kernel_rfl) (fun _ _ _ h => h) (by rfl) ?_ hHeld ?_
        rotate_left 1
        · (intro w' hSw; clear hSw; go_simp; try with_reducible rfl)
        (try simp only [Act.put, List.setIfInBounds_toArray, List.set_cons_zero, List.set_cons_succ])
        refine take_yield (i := 7) (v := ?_) rfl (by kernel_rfl) (by kernel_rfl) (by kernel_rfl) (fun _ _ _ h => h) (by rfl) ?_ hHeld ?_
        rotate_left 1
        · (intro w' hSw; have hCell := fun (b o : Nat) (h : b < W1.heap.size) => hSw.cell (p := ⟨b, o, none⟩) h; clear hSw; go_simp; try with_reducible rfl)
        (try simp only [Act.put, List.setIfInBounds_toArray, List.set_cons_zero, List.set_cons_succ])
        refine ready_one (i := 8) rfl (by kernel_rfl) (fun K hK => ?_)
        go_simp
        refine (Kind_any s _ hl).mono ?_
        rintro e v3 ⟨rfl, hb⟩
        refine hK.out _ _ ?_ (fun hHeld2 => ?_)
        · (try dsimp only); first | exact Below.trans hHeld (Below.mono hb hHeld.size) | exact hHeld | exact Below.drew hHeld | exact (by repeat (first | exact Below.refl _ _ | assumption | refine Below.alloc ?_ (by simp <;> omega) _ | refine Below.setCell ?_ (by simp <;> omega) _ | refine Below.drew ?_))
        clear hK K hHeld
        have hHeld := hHeld2
        clear hHeld2
        (try simp only [Act.put, List.setIfInBounds_toArray, List.set_cons_zero, List.set_cons_succ])
        refine take_yield (i := 9) (v := ?_) rfl (by kernel_rfl) (by kernel_rfl) (by kernel_rfl) (fun _ _ _ h => h) (by rfl) ?_ hHeld ?_
        rotate_left 1
        · (intro w' hSw; clear hSw; go_simp; try with_reducible rfl)
        (try simp only [Act.put, List.setIfInBounds_toArray, List.set_cons_zero, List.set_cons_succ])
        refine take_yield (i := 10) (v := ?_) rfl (by kernel_rfl) (by kernel_rfl) (by kernel_rfl) (fun _ _ _ h => h) (by rfl) ?_ hHeld ?_
        rotate_left 1
        · (intro w' hSw; clear hSw; go_simp; try with_reducible rfl)
        (try simp only [Act.put, List.setIfInBounds_toArray, List.set_cons_zero, List.set_cons_succ])
        refine take_yield (i := 11) (v := ?_) rfl (by kernel_rfl) (by kernel_rfl) (by kernel_rfl) (fun _ _ _ h => h) (by rfl) ?_ hHeld ?_
        rotate_left 1
        · (intro w' hSw; clear hSw; go_simp; try with_reducible rfl)
        (try simp only [Act.put, List.setIfInBounds_toArray, List.set_cons_zero, List.set_cons_succ])
        refine take_yield (i := 12) (v := ?_) rfl (by kernel_rfl) (by kernel_rfl) (by kernel_rfl) (fun _ _ _ h => h) (by rfl) ?_ hHeld ?_
        rotate_left 1
        · (intro w' hSw; clear hSw; go_simp; try with_reducible rfl)
        (try simp only [Act.put, List.setIfInBounds_toArray, List.set_cons_zero, List.set_cons_succ])
        refine take_yield (i := 13) (v := ?_) rfl (by kernel_rfl) (by kernel_rfl) (by kernel_rfl) (fun _ _ _ h => h) (by rfl) ?_ hHeld ?_
        rotate_left 1
        · (intro w' hSw; have hCell := fun (b o : Nat) (h : b < W1.heap.size) => hSw.cell (p := ⟨b, o, none⟩) h; clear hSw; go_simp; try with_reducible rfl)
        (try simp only [Act.put, List.setIfInBounds_toArray, List.set_cons_zero, List.set_cons_succ])
        refine take_yield (i := 14) (v := ?_) rfl (by kernel_rfl) (by kernel_rfl) (by kernel_rfl) (fun _ _ _ h => h) (by rfl) ?_ hHeld ?_
        rotate_left 1
        · (intro w' hSw; clear hSw; go_simp; try with_reducible rfl)
        (try simp only [Act.put, List.setIfInBounds_toArray, List.set_cons_zero, List.set_cons_succ])
        refine take_yield (i := 15) (v := ?_) rfl (by kernel_rfl) (by kernel_rfl) (by kernel_rfl) (fun _ _ _ h => h) (by rfl) ?_ hHeld ?_
        rotate_left 1
        · (intro w' hSw; clear hSw; go_simp; try with_reducible rfl)
        (try simp only [Act.put, List.setIfInBounds_toArray, List.set_cons_zero, List.set_cons_succ])
        refine take_yield (i := 16) (v := ?_) rfl (by kernel_rfl) (by kernel_rfl) (by kernel_rfl) (fun _ _ _ h => h) (by rfl) ?_ hHeld ?_
        rotate_left 1
        · (intro w' hSw; clear hSw; go_simp; try with_reducible rfl)
        (try simp only [Act.put, List.setIfInBounds_toArray, List.set_cons_zero, List.set_cons_succ])
        refine take_yield (i := 17) (v := ?_) rfl (by kernel_rfl) (by kernel_rfl) (by kernel_rfl) (fun _ _ _ h => h) (by rfl) ?_ hHeld ?_
        rotate_left 1
        · (intro w' hSw; clear hSw; go_simp; try with_reducible rfl)
        (try simp only [Act.put, List.setIfInBounds_toArray, List.set_cons_zero, List.set_cons_succ])
        refine take_yield (i := 18) (v := ?_) rfl (by kernel_rfl) (by kernel_rfl) (by kernel_rfl) (fun _ _ _ h => h) (by rfl) ?_ hHeld ?_
        rotate_left 1
        · (intro w' hSw; have hCell := fun (b o : Nat) (h : b < W1.heap.size) => hSw.cell (p := ⟨b, o, none⟩) h; clear hSw; go_simp; try with_reducible rfl)
        (try simp only [Act.put, List.setIfInBounds_toArray, List.set_cons_zero, List.set_cons_succ])
        refine take_yield (i := 19) (v := ?_) rfl (by kernel_rfl) (by kernel_rfl) (by kernel_rfl) (fun _ _ _ h => h) (by rfl) ?_ hHeld ?_
        rotate_left 1
        · (intro w' hSw; clear hSw; go_simp; try with_reducible rfl)
        (try simp only [Act.put, List.setIfInBounds_toArray, List.set_cons_zero, List.set_cons_succ])
        refine take_yield (i := 20) (v := ?_) rfl (by kernel_rfl) (by kernel_rfl) (by kernel_rfl) (fun _ _ _ h => h) (by rfl) ?_ hHeld ?_
        rotate_left 1
        · (intro w' hSw; clear hSw; go_simp; try with_reducible rfl)
        (try simp only [Act.put, List.setIfInBounds_toArray, List.set_cons_zero, List.set_cons_succ])
        refine take_yield (i := 21) (v := ?_) rfl (by kernel_rfl) (by kernel_rfl) (by kernel_rfl) (fun _ _ _ h => h) (by rfl) ?_ hHeld ?_
        rotate_left 1
        · (intro w' hSw; clear hSw; go_simp; try with_reducible rfl)
        (try simp only [Act.put, List.setIfInBounds_toArray, List.set_cons_zero, List.set_cons_succ])
        refine wpAnyH_done (by kernel_rfl) ?_ _
        go_wp2_with fail
        go_ret
        exact ⟨ret_bool (by rw [HM.out]; simp [H1.out, H2.out, H3.out]), lift HB.out hHeld⟩
/-- May an edge stand in a graph with these nodes? -/
def edgeOk (ns : List Nd) (e : Ed) : Bool := (nodeOf ns e.1).isSome && ((nodeOf ns e.2.1).isSome && (!(e.1 == e.2.1) && (((nodeOf ns e.1).getD ([], 0, 0)).2.2 == 1 && (!decide (e.2.2 < 1) && !decide (10 < e.2.2)))))
def mayG (ns : List Nd) (es : List Ed) : Bool := !decide ((64 : Int) < (ns.length : Int)) && (risesB nodeCmp ns && (risesB edgeCmp es && (ns.all mayN && es.all (edgeOk ns))))
def OkNs (ns : List Nd) : Prop := ∀ n ∈ ns, n.1.length ≤ 140737488355328
theorem all_take_succ {α : Type} {p : α → Bool} {l : List α} {k : Nat} (hk : k < l.length) : (l.take (k + 1)).all p = ((l.take k).all p && p l[k]) := by
  rw [List.take_succ_eq_append_getElem hk, List.all_append]; simp
theorem all_false_at {α : Type} {p : α → Bool} {l : List α} {k : Nat} (hk : k < l.length) (h : p l[k] = false) : l.all p = false := by
  rw [List.all_eq_false]; exact ⟨l[k], List.getElem_mem hk, by simp [h]⟩
set_option maxRecDepth 100000 in
set_option maxHeartbeats 8000000 in
theorem MayG_any (An Ae : Option Addr) (cn ce : Nat) (ns : List Nd) (es : List Ed) (w : World) (hn : Rd w w.heap.size 3 An ns.length (ndsC ns)) (hr : Rd w w.heap.size 3 Ae es.length (edsC es)) (hln : ns.length ≤ 1000000) (hl : es.length ≤ 1000000) (hok : OkNs ns) :
    Calls Tryz.prog 26 #[gV An ns.length cn Ae es.length ce] w fun e w' => e = .returned (.bool (mayG ns es)) ∧ Below w.heap.size w w' := by
  have Hn := Lib.hid hn
  have Hr := Lib.hid hr
  have HO := Lib.hid hok
  have HM := Lib.hid (show mayG ns es = (!decide ((64 : Int) < (ns.length : Int)) && (risesB nodeCmp ns && (risesB edgeCmp es && (ns.all mayN && es.all (edgeOk ns))))) from rfl)
  clear hn hr hok
  by_cases h64 : (64 : Int) < (ns.length : Int)
  · have h1 : decide ((64 : Int) < (ns.length : Int)) = true := by simpa using h64
    have H1 := Lib.hid h1
    go_enter Tryz.func26, Tryz.ntmps26
    go_wp2_with fail
    go_ret
    exact ⟨ret_bool (by rw [HM.out, H1.out]; rfl), (by repeat (first | exact Below.refl _ _ | assumption | refine Below.alloc ?_ (by simp <;> omega) _ | refine Below.setCell ?_ (by simp <;> omega) _ | refine Below.drew ?_))⟩
  · have h1 : decide ((64 : Int) < (ns.length : Int)) = false := by simpa using h64
    have H1 := Lib.hid h1
    go_enter Tryz.func26, Tryz.ntmps26
    go_wp2_with fail
    first | (refine wp_named ?_; intro W1 hW) | (refine calls_named ?_; intro W1 hW)
    have B1 : Below w.heap.size w W1 := by rw [hW]; exact (by repeat (first | exact Below.refl _ _ | assumption | refine Below.alloc ?_ (by simp <;> omega) _ | refine Below.setCell ?_ (by simp <;> omega) _ | refine Below.drew ?_))
    replace Hr := Lib.hid (Hr.out.at B1)
    replace Hn := Lib.hid (Hn.out.at B1)
    have n1 : w.heap.size < W1.heap.size := by rw [hW]; simp <;> omega
    have c0 : W1.cell? ⟨w.heap.size, 0, none⟩ = some (.slice An ns.length cn) := by rw [hW]; go_simp
    have c1 : W1.cell? ⟨w.heap.size, 1, none⟩ = some (.slice Ae es.length ce) := by rw [hW]; go_simp
    clear hW
    have HB := Lib.hid B1
    clear B1
    go_wp2_with fail
    refine (risesN_any _ cn ns W1 Hn.out hln).mono ?_
    rintro e v1 ⟨rfl, hb⟩
    replace c0 := cellAt c0 hb (by omega)
    replace c1 := cellAt c1 hb (by omega)
    replace Hr := Lib.hid (Hr.out.at hb)
    replace Hn := Lib.hid (Hn.out.at hb)
    replace n1 : w.heap.size < v1.heap.size := ltAt n1 hb
    replace HB := Lib.hid (lift HB.out hb)
    clear hb
    cases h2 : risesB nodeCmp ns
    · have H2 := Lib.hid h2
      go_wp2_with fail
      go_ret
      exact ⟨ret_bool (by rw [HM.out, H1.out, H2.out]; simp), HB.out⟩
    · have H2 := Lib.hid h2
      go_wp2_with fail
      refine (risesE_any _ ce es v1 Hr.out hl).mono ?_
      rintro e v2 ⟨rfl, hb⟩
      replace c0 := cellAt c0 hb (by omega)
      replace c1 := cellAt c1 hb (by omega)
      replace Hr := Lib.hid (Hr.out.at hb)
      replace Hn := Lib.hid (Hn.out.at hb)
      replace n1 : w.heap.size < v2.heap.size := ltAt n1 hb
      replace HB := Lib.hid (lift HB.out hb)
      clear hb
      cases h3 : risesB edgeCmp es
      · have H3 := Lib.hid h3
        go_wp2_with fail
        go_ret
        exact ⟨ret_bool (by rw [HM.out, H1.out, H2.out, H3.out]; simp), HB.out⟩
      · have H3 := Lib.hid h3
        go_wp2_with fail
        go_loopw [30] (fun i wr => ∃ k : Nat, k ≤ ns.length ∧ i = .int .i64 k ∧ Hid ((ns.take k).all mayN = true) ∧ Below v2.heap.size v2 wr) (fun i _ => ns.length - (intOf i).toNat)
        case atStart => exact ⟨0, Nat.zero_le _, rfl, by simp [Hid], Below.refl _ _⟩
        case round =>
          obtain ⟨k, hk, rfl, hall, hb⟩ := hrel
          replace c0 := cellAt c0 hb (by omega)
          replace c1 := cellAt c1 hb (by omega)
          replace Hr := Lib.hid (Hr.out.at hb)
          replace Hn := Lib.hid (Hn.out.at hb)
          replace n1 : w.heap.size < wr.heap.size := ltAt n1 hb
          replace HB := Lib.hid (lift HB.out hb)
          have Hb := Lib.hid hb
          clear hb
          by_cases hlt : k < ns.length
          · obtain ⟨b, o, rfl, hB, x0, x1, x2⟩ := Hn.out.node hlt
            have hat := @all_take_succ Nd mayN ns k hlt
            have haf := @all_false_at Nd mayN ns k hlt
            have hlen := HO.out _ (List.getElem_mem hlt)
            generalize ns[k] = p at x0 x1 x2 hat haf hlen
            obtain ⟨s, u, r⟩ := p
            have HA := Lib.hid (And.intro hat haf)
            simp only at x0 x1 x2 hlen
            clear hat haf
            go_wp2_with fail
            first | (refine wp_named ?_; intro W2 hW) | (refine calls_named ?_; intro W2 hW)
            have B2 : Below wr.heap.size wr W2 := by rw [hW]; exact (by repeat (first | exact Below.refl _ _ | assumption | refine Below.alloc ?_ (by simp <;> omega) _ | refine Below.setCell ?_ (by simp <;> omega) _ | refine Below.drew ?_))
            replace c0 := cellAt c0 B2 (by omega)
            replace c1 := cellAt c1 B2 (by omega)
            replace Hr := Lib.hid (Hr.out.at B2)
            replace Hn := Lib.hid (Hn.out.at B2)
            replace n1 : w.heap.size < W2.heap.size := ltAt n1 B2
            replace HB := Lib.hid (lift HB.out B2)
            replace hB := ltAt hB B2
            replace Hb := Lib.hid (lift Hb.out B2)
            clear hW
            refine (mayNode_any s u r W2 hlen).mono ?_
            rintro e v3 ⟨rfl, hb⟩
            replace c0 := cellAt c0 hb (by omega)
            replace c1 := cellAt c1 hb (by omega)
            replace Hr := Lib.hid (Hr.out.at hb)
            replace Hn := Lib.hid (Hn.out.at hb)
            replace n1 : w.heap.size < v3.heap.size := ltAt n1 hb
            replace HB := Lib.hid (lift HB.out hb)
            replace hB := ltAt hB hb
            replace Hb := Lib.hid (lift Hb.out hb)
            clear hb B2
            cases hp : mayN (s, u, r)
            · have HP := Lib.hid (HA.out.2 hp)
              go_wp2_with fail
              go_ret
              exact ⟨ret_bool (by rw [HM.out, H1.out, H2.out, H3.out, HP.out]; simp), HB.out⟩
            · have HP := Lib.hid hp
              go_wp2_with fail
              go_roundw
              case rel => exact ⟨k + 1, by omega, by go_num, by show _ = true; rw [HA.out.1, hall.out, HP.out]; rfl, Hb.out⟩
              case measure => simp [intOf]; omega
          · have hkn : k = ns.length := by omega
            have h4 := hall.out
            rw [hkn, List.take_length] at h4
            have H4 := Lib.hid h4
            obtain ⟨w4, rfl⟩ : ∃ wo : World, wo = wr := ⟨_, rfl⟩
            clear hkn h4 Hb
            go_wp2_with fail
            go_loopw [41] (fun i wr => ∃ k : Nat, k ≤ es.length ∧ i = .int .i64 k ∧ Hid ((es.take k).all (edgeOk ns) = true) ∧ Below w4.heap.size w4 wr) (fun i _ => es.length - (intOf i).toNat)
            case atStart => exact ⟨0, Nat.zero_le _, rfl, by simp [Hid], Below.refl _ _⟩
            case round =>
              obtain ⟨k2, hk2, rfl, hall2, hb⟩ := hrel
              replace c0 := cellAt c0 hb (by omega)
              replace c1 := cellAt c1 hb (by omega)
              replace Hr := Lib.hid (Hr.out.at hb)
              replace Hn := Lib.hid (Hn.out.at hb)
              replace n1 : w.heap.size < wr.heap.size := ltAt n1 hb
              replace HB := Lib.hid (lift HB.out hb)
              have Hb := Lib.hid hb
              clear hb
              by_cases hlt2 : k2 < es.length
              · obtain ⟨b, o, rfl, hB, x0, x1, x2⟩ := Hr.out.edge hlt2
                have hat := @all_take_succ Ed (edgeOk ns) es k2 hlt2
                have haf := @all_false_at Ed (edgeOk ns) es k2 hlt2
                generalize es[k2] = p at x0 x1 x2 hat haf
                obtain ⟨s, d, r⟩ := p
                have HA := Lib.hid (And.intro hat haf)
                simp only at x0 x1 x2
                have hek : edgeOk ns (s, d, r) = ((nodeOf ns s).isSome && ((nodeOf ns d).isSome && (!(s == d) && (((nodeOf ns s).getD ([], 0, 0)).2.2 == 1 && (!decide (r < 1) && !decide (10 < r)))))) := rfl
                have HE := Lib.hid hek
                clear hat haf hek
                go_wp2_with fail
                first | (refine wp_named ?_; intro W2 hW) | (refine calls_named ?_; intro W2 hW)
                have B2 : Below wr.heap.size wr W2 := by rw [hW]; exact (by repeat (first | exact Below.refl _ _ | assumption | refine Below.alloc ?_ (by simp <;> omega) _ | refine Below.setCell ?_ (by simp <;> omega) _ | refine Below.drew ?_))
                replace c0 := cellAt c0 B2 (by omega)
                replace c1 := cellAt c1 B2 (by omega)
                replace Hr := Lib.hid (Hr.out.at B2)
                replace Hn := Lib.hid (Hn.out.at B2)
                replace n1 : w.heap.size < W2.heap.size := ltAt n1 B2
                replace HB := Lib.hid (lift HB.out B2)
                replace Hb := Lib.hid (lift Hb.out B2)
                have m1 : wr.heap.size < W2.heap.size := by rw [hW]; simp <;> omega
                have e0 : W2.cell? ⟨wr.heap.size, 0, none⟩ = some (sv s) := by rw [hW]; go_simp
                have e1 : W2.cell? ⟨wr.heap.size, 1, none⟩ = some (sv d) := by rw [hW]; go_simp
                have e2 : W2.cell? ⟨wr.heap.size, 2, none⟩ = some (.int .i64 r) := by rw [hW]; go_simp
                clear hW
                clear B2
                refine (Node_any _ _ es.length cn ce ns s W2 Hn.out hln).mono ?_
                rintro e v3 ⟨rfl, hb⟩
                replace c0 := cellAt c0 hb (by omega)
                replace c1 := cellAt c1 hb (by omega)
                replace e0 := cellAt e0 hb (by omega)
                replace e1 := cellAt e1 hb (by omega)
                replace e2 := cellAt e2 hb (by omega)
                replace Hr := Lib.hid (Hr.out.at hb)
                replace Hn := Lib.hid (Hn.out.at hb)
                replace n1 : w.heap.size < v3.heap.size := ltAt n1 hb
                replace HB := Lib.hid (lift HB.out hb)
                replace Hb := Lib.hid (lift Hb.out hb)
                replace m1 : wr.heap.size < v3.heap.size := ltAt m1 hb
                clear hb
                unfold nodeV
                generalize ho1 : nodeOf ns s = o1 at *
                generalize hn1 : o1.getD ([], 0, 0) = nd1
                obtain ⟨nm, kd, st⟩ := nd1
                have HN1 := Lib.hid (And.intro ho1 hn1)
                clear ho1 hn1
                go_wp2_with fail
                first | (refine wp_named ?_; intro W4 hW) | (refine calls_named ?_; intro W4 hW)
                have B4 : Below v3.heap.size v3 W4 := by rw [hW]; exact (by repeat (first | exact Below.refl _ _ | assumption | refine Below.alloc ?_ (by simp <;> omega) _ | refine Below.setCell ?_ (by simp <;> omega) _ | refine Below.drew ?_))
                replace c0 := cellAt c0 B4 (by omega)
                replace c1 := cellAt c1 B4 (by omega)
                replace e0 := cellAt e0 B4 (by omega)
                replace e1 := cellAt e1 B4 (by omega)
                replace e2 := cellAt e2 B4 (by omega)
                replace Hr := Lib.hid (Hr.out.at B4)
                replace Hn := Lib.hid (Hn.out.at B4)
                replace n1 : w.heap.size < W4.heap.size := ltAt n1 B4
                replace HB := Lib.hid (lift HB.out B4)
                replace Hb := Lib.hid (lift Hb.out B4)
                replace m1 : wr.heap.size < W4.heap.size := ltAt m1 B4
                have m4 : v3.heap.size < W4.heap.size := by rw [hW]; simp <;> omega
                have f0 : W4.cell? ⟨v3.heap.size, 0, none⟩ = some (sv nm) := by rw [hW]; go_simp
                have f1 : W4.cell? ⟨v3.heap.size, 1, none⟩ = some (.int .i64 kd) := by rw [hW]; go_simp
                have f2 : W4.cell? ⟨v3.heap.size, 2, none⟩ = some (.int .i64 st) := by rw [hW]; go_simp
                clear hW
                clear B4
                refine (Node_any _ _ es.length cn ce ns d W4 Hn.out hln).mono ?_
                rintro e v5 ⟨rfl, hb⟩
                replace c0 := cellAt c0 hb (by omega)
                replace c1 := cellAt c1 hb (by omega)
                replace e0 := cellAt e0 hb (by omega)
                replace e1 := cellAt e1 hb (by omega)
                replace e2 := cellAt e2 hb (by omega)
                replace f0 := cellAt f0 hb (by omega)
                replace f1 := cellAt f1 hb (by omega)
                replace f2 := cellAt f2 hb (by omega)
                replace Hr := Lib.hid (Hr.out.at hb)
                replace Hn := Lib.hid (Hn.out.at hb)
                replace n1 : w.heap.size < v5.heap.size := ltAt n1 hb
                replace HB := Lib.hid (lift HB.out hb)
                replace Hb := Lib.hid (lift Hb.out hb)
                replace m1 : wr.heap.size < v5.heap.size := ltAt m1 hb
                replace m4 : v3.heap.size < v5.heap.size := ltAt m4 hb
                clear hb
                unfold nodeV
                generalize ho2 : nodeOf ns d = o2 at *
                have HN2 := Lib.hid ho2
                clear ho2
                cases k1 : o1.isSome
                · have K1 := Lib.hid k1
                  have hno : edgeOk ns (s, d, r) = false := by rw [HE.out, K1.out]; simp
                  have HNo := Lib.hid (HA.out.2 hno)
                  clear hno
                  go_wp2_with fail
                  go_ret
                  exact ⟨ret_bool (by rw [HM.out, H1.out, H2.out, H3.out, H4.out, HNo.out]; rfl), HB.out.alloc HB.out.size _⟩
                · have K1 := Lib.hid k1
                  cases k2' : o2.isSome
                  · have K2 := Lib.hid k2'
                    have hno : edgeOk ns (s, d, r) = false := by rw [HE.out, K2.out]; simp
                    have HNo := Lib.hid (HA.out.2 hno)
                    clear hno
                    go_wp2_with fail
                    go_ret
                    exact ⟨ret_bool (by rw [HM.out, H1.out, H2.out, H3.out, H4.out, HNo.out]; rfl), HB.out.alloc HB.out.size _⟩
                  · have K2 := Lib.hid k2'
                    cases k3 : (s == d)
                    · have K3 := Lib.hid k3
                      cases k4 : (st == 1)
                      · have K4 := Lib.hid k4
                        have k4' : (st != 1) = true := by rw [bne, k4]; rfl
                        have hno : edgeOk ns (s, d, r) = false := by rw [HE.out, HN1.out.2, K4.out]; simp
                        have HNo := Lib.hid (HA.out.2 hno)
                        clear hno
                        go_wp2_with fail
                        go_ret
                        exact ⟨ret_bool (by rw [HM.out, H1.out, H2.out, H3.out, H4.out, HNo.out]; rfl), HB.out.alloc HB.out.size _⟩
                      · have K4 := Lib.hid k4
                        have k4' : (st != 1) = false := by rw [bne, k4]; rfl
                        cases k5 : decide (r < 1)
                        · have K5 := Lib.hid k5
                          cases k6 : decide (10 < r)
                          · have K6 := Lib.hid k6
                            have hyes : edgeOk ns (s, d, r) = true := by rw [HE.out, HN1.out.2, K1.out, K2.out, K3.out, K4.out, K5.out, K6.out]; rfl
                            have HY := Lib.hid hyes
                            clear hyes
                            go_wp2_with fail
                            go_roundw
                            case rel => exact ⟨k2 + 1, by omega, by go_num, by show _ = true; rw [HA.out.1, hall2.out, HY.out]; rfl, Hb.out.alloc Hb.out.size _⟩
                            case measure => simp [intOf]; omega
                          · have K6 := Lib.hid k6
                            have p6 : (10 : Int) < r := by simpa using k6
                            have hno : edgeOk ns (s, d, r) = false := by rw [HE.out, K6.out]; simp
                            have HNo := Lib.hid (HA.out.2 hno)
                            clear hno
                            go_wp2_with fail
                            go_ret
                            exact ⟨ret_bool (by rw [HM.out, H1.out, H2.out, H3.out, H4.out, HNo.out]; rfl), HB.out.alloc HB.out.size _⟩
                        · have K5 := Lib.hid k5
                          have p5 : r < (1 : Int) := by simpa using k5
                          have hno : edgeOk ns (s, d, r) = false := by rw [HE.out, K5.out]; simp
                          have HNo := Lib.hid (HA.out.2 hno)
                          clear hno
                          go_wp2_with fail
                          go_ret
                          exact ⟨ret_bool (by rw [HM.out, H1.out, H2.out, H3.out, H4.out, HNo.out]; rfl), HB.out.alloc HB.out.size _⟩
                    · have K3 := Lib.hid k3
                      have hno : edgeOk ns (s, d, r) = false := by rw [HE.out, K3.out]; simp
                      have HNo := Lib.hid (HA.out.2 hno)
                      clear hno
                      go_wp2_with fail
                      go_ret
                      exact ⟨ret_bool (by rw [HM.out, H1.out, H2.out, H3.out, H4.out, HNo.out]; rfl), HB.out.alloc HB.out.size _⟩
              · have hkn2 : k2 = es.length := by omega
                have h5 := hall2.out
                rw [hkn2, List.take_length] at h5
                have H5 := Lib.hid h5
                clear hkn2 h5
                go_wp2_with fail
                go_ret
                exact ⟨ret_bool (by rw [HM.out, H1.out, H2.out, H3.out, H4.out, H5.out]; rfl), HB.out⟩
end Od
end Go.Proofs.YtclaoffnfopekaaGreat
end

section
/- The walk of matinsref15.put: a text into a rising row, once. -/
namespace Go.Proofs.YtclaoffnfopekaaGreat
open Go.RowKit Go.Sort

namespace Od
theorem svs_app (a b : List Str) : svs (a ++ b) = svs a ++ svs b := by simp [svs]
set_option maxRecDepth 100000 in
set_option maxHeartbeats 1000000 in
theorem put15_any (A : Option Addr) (c : Nat) (ss : List Str) (s : Str) (w : World) (hr : Rd w w.heap.size 1 A ss.length (svs ss)) (hc : ss.length ≤ c) (hl : ss.length ≤ 1000000) :
    Calls Tryz.prog 50 #[.slice A ss.length c, sv s] w (RdIs 1 (insL ltS s ss).length (svs (insL ltS s ss)) w) := by
  obtain ⟨i0, hi, hz0, hz1, hz2⟩ := info_parts inS
  have Hr := Lib.hid hr
  clear hr
  go_enter Tryz.func50, Tryz.ntmps50
  go_wp2_with fail
  go_loop [5] (fun i => ∃ k : Nat, k ≤ ss.length ∧ i = .int .i64 k ∧ Hid (∀ y ∈ ss.take k, ltS y s = true)) (fun i => ss.length - (intOf i).toNat)
  case atStart => exact ⟨0, Nat.zero_le _, rfl, by simp [Hid]⟩
  case round =>
    obtain ⟨k, hk, rfl, hall⟩ := hrel
    by_cases hlt : k < ss.length
    · obtain ⟨b, o, rfl, hB, hc0⟩ := Hr.out.str hlt
      generalize hx : ss[k] = x at hc0
      have Hx := Lib.hid hx
      clear hx
      cases hlx : Op.bytesLess x s
      · have hge : ∀ h : k < ss.length, ltS ss[k] s = false := fun _ => by rw [Hx.out]; exact hlx
        have Hge := Lib.hid hge
        clear hge
        cases hxs : (x == s)
        · go_wp2_with fail
          have hge := Hge.out
          have hne : ¬ ss[k]? = some s := by rw [List.getElem?_eq_getElem hlt, Hx.out]; intro e; injection e with e; rw [e] at hxs; simp at hxs
          clear hlx hxs
          have hins : insL ltS s ss = ss.take k ++ s :: ss.drop k := by rw [insL_cut ss k hk hall hge, if_neg hne]
          have HI := Lib.hid hins
          have HR1 := Lib.hid (Hr.out.takeA hk)
          have HR2 := Lib.hid (Hr.out.dropA hk hc)
          have hs1 := run_slice_full (P := Tryz.prog) Tryz.underlying30 hi (some ⟨b, o, none⟩) ss.length c k (Nat.le_trans hk hc)
          have hs2 := run_slice_tail (P := Tryz.prog) Tryz.underlying30 hi (some ⟨b, o, none⟩) ss.length c k hk
          rw [hz1] at hs1 hs2
          clear hins hne hge
          have hlk : (ss.drop k).length = ss.length - k := List.length_drop
          have HLk := Lib.hid hlk
          clear hlk
          try go_wp2_with fail
          refine wp_region_held_drew (S := fun w' => Below w.heap.size w w') (by kernel_rfl) (Below.drew (Below.refl _ _)) (fun hHeld => ?_)
          refine take_yield (i := 0) (v := ?_) rfl (by kernel_rfl) (by kernel_rfl) (by kernel_rfl) (fun _ _ _ h => h) (by rfl) ?_ hHeld ?_
          rotate_left 1
          · (intro w' hSw; clear hSw; go_simp; try with_reducible rfl)
          (try simp only [Act.put, List.setIfInBounds_toArray, List.set_cons_zero, List.set_cons_succ])
          refine take_yield (i := 1) (v := ?_) rfl (by kernel_rfl) (by kernel_rfl) (by kernel_rfl) (fun _ _ _ h => h) (by rfl) ?_ hHeld ?_
          rotate_left 1
          · (intro w' hSw; clear hSw; go_simp; try with_reducible rfl)
          (try simp only [Act.put, List.setIfInBounds_toArray, List.set_cons_zero, List.set_cons_succ])
          refine take_yield (i := 2) (v := ?_) rfl (by kernel_rfl) (by kernel_rfl) (by kernel_rfl) (fun _ _ _ h => h) (by rfl) ?_ hHeld ?_
          rotate_left 1
          · (intro w' hSw; clear hSw; go_simp; try with_reducible rfl)
          (try simp only [Act.put, List.setIfInBounds_toArray, List.set_cons_zero, List.set_cons_succ])
          refine take_yield (i := 3) (v := ?_) rfl (by kernel_rfl) (by kernel_rfl) (by kernel_rfl) (fun _ _ _ h => h) (by rfl) ?_ hHeld ?_
          rotate_left 1
          · (intro w' hSw; clear hSw; go_simp; try with_reducible rfl)
          (try simp only [Act.put, List.setIfInBounds_toArray, List.set_cons_zero, List.set_cons_succ])
          refine take_yield (i := 4) (v := ?_) rfl (by kernel_rfl) (by kernel_rfl) (by kernel_rfl) (fun _ _ _ h => h) (by rfl) ?_ hHeld ?_
          rotate_left 1
          · (intro w' hSw; clear hSw; go_simp; try with_reducible rfl)
          (try simp only [Act.put, List.setIfInBounds_toArray, List.set_cons_zero, List.set_cons_succ])
          refine take_yield (i := 6) (v := ?_) rfl (by kernel_rfl) (by kernel_rfl) (by kernel_rfl) (fun _ _ _ h => h) (by rfl) ?_ hHeld ?_
          rotate_left 1
          · (intro w' hSw; clear hSw; go_simp; try with_reducible rfl)
          (try simp only [Act.put, List.setIfInBounds_toArray, List.set_cons_zero, List.set_cons_succ])
          refine take_yield (i := 7) (v := ?_) rfl (by kernel_rfl) (by kernel_rfl) (by kernel_rfl) (fun _ _ _ h => h) (by rfl) ?_ hHeld ?_
          rotate_left 1
          · (intro w' hSw; clear hSw; go_simp; try with_reducible rfl)
          (try simp only [Act.put, List.setIfInBounds_toArray, List.set_cons_zero, List.set_cons_succ])
          refine take_yield (i := 8) (v := ?_) rfl (by kernel_rfl) (by kernel_rfl) (by kernel_rfl) (fun _ _ _ h => h) (by rfl) ?_ hHeld ?_
          rotate_left 1
          · (intro w' hSw; clear hSw; go_simp; try with_reducible rfl)
          (try simp only [Act.put, List.setIfInBounds_toArray, List.set_cons_zero, List.set_cons_succ])
          refine ready_one (i := 5) rfl (by kernel_rfl) (fun K hK => ?_)
          go_simp
          refine hK.out _ _ ?_ (fun hHeld2 => ?_)
          · (try dsimp only); first | exact hHeld | exact (by repeat (first | exact Below.refl _ _ | assumption | refine Below.alloc ?_ (by simp <;> omega) _ | refine Below.setCell ?_ (by simp <;> omega) _ | refine Below.drew ?_))
          clear hK K hHeld
          have hHeld := hHeld2
          clear hHeld2
          (try simp only [Act.put, List.setIfInBounds_toArray, List.set_cons_zero, List.set_cons_succ])
          refine ready_one (i := 9) rfl (by kernel_rfl) (fun K hK => ?_)
          refine step_append_full (by rfl) (.tmp 38) (.tmp 41) 30 (by rfl) 9 i0 (.string ⟨#[]⟩) 1 16 Tryz.underlying30 hi hz0 hz1 hz2 rfl _ (some ⟨w.heap.size, 0, none⟩) 1 [sv s] (by rfl) (Rd.lit w.drew [sv s] 9 1 1 rfl) (Nat.le_refl _) _ _ (ss.length - k) (c - k) _ (by rfl) (HR2.out.at' (Nat.le_refl _) hHeld) (one_drop (one_svs ss) _) (by unfold maxLen; omega) (by omega) ?_
          intro A2 c2 v2 hc2 hr2 hb
          have HR3 := Lib.hid hr2
          clear hr2
          refine hK.out _ _ ?_ (fun hHeld2 => ?_)
          · (try dsimp only); first | exact Below.trans hHeld (Below.mono hb hHeld.size) | exact hHeld | exact Below.drew hHeld | exact (by repeat (first | exact Below.refl _ _ | assumption | refine Below.alloc ?_ (by simp <;> omega) _ | refine Below.setCell ?_ (by simp <;> omega) _ | refine Below.drew ?_))
          clear hK K hHeld
          have hHeld := hHeld2
          clear hHeld2
          (try simp only [Act.put, List.setIfInBounds_toArray, List.set_cons_zero, List.set_cons_succ])
          refine ready_one (i := 10) rfl (by kernel_rfl) (fun K hK => ?_)
          refine step_append_full (by rfl) (.tmp 36) (.tmp 42) 30 (by rfl) 9 i0 (.string ⟨#[]⟩) 1 16 Tryz.underlying30 hi hz0 hz1 hz2 rfl _ _ k _ (by rfl) (HR1.out.at' (Nat.le_refl _) hHeld) (Nat.le_refl _) _ A2 (1 + (ss.length - k)) c2 _ (by rfl) HR3.out (one_app (one_sv s) (one_drop (one_svs ss) _)) (by unfold maxLen; omega) (by omega) ?_
          intro A3 c3 v3 hc3 hr3 hb
          have HR4 := Lib.hid hr3
          clear hr3
          refine hK.out _ _ ?_ (fun hHeld2 => ?_)
          · (try dsimp only); first | exact Below.trans hHeld (Below.mono hb hHeld.size) | exact hHeld | exact Below.drew hHeld | exact (by repeat (first | exact Below.refl _ _ | assumption | refine Below.alloc ?_ (by simp <;> omega) _ | refine Below.setCell ?_ (by simp <;> omega) _ | refine Below.drew ?_))
          clear hK K hHeld
          have hHeld := hHeld2
          clear hHeld2
          (try simp only [Act.put, List.setIfInBounds_toArray, List.set_cons_zero, List.set_cons_succ])
          refine take_yield (i := 11) (v := ?_) rfl (by kernel_rfl) (by kernel_rfl) (by kernel_rfl) (fun _ _ _ h => h) (by rfl) ?_ hHeld ?_
          rotate_left 1
          · (intro w' hSw; clear hSw; go_simp; try with_reducible rfl)
          (try simp only [Act.put, List.setIfInBounds_toArray, List.set_cons_zero, List.set_cons_succ])
          refine wpAnyH_done (by kernel_rfl) ?_ _
          go_wp2_with fail
          go_ret
          refine RdIs.of hc3 HR4.out hHeld ?_ ?_
          · rw [HI.out, List.length_append, List.length_cons, List.length_take, HLk.out]; omega
          · rw [HI.out]; simp [svs, List.map_take, List.map_drop]
        · go_wp2_with fail
          go_ret
          have hins : insL ltS s ss = ss := by rw [insL_cut ss k hk hall Hge.out, if_pos]; rw [List.getElem?_eq_getElem hlt, Hx.out]; simpa using hxs
          exact RdIs.of hc Hr.out (Below.refl _ _) (by rw [hins]) (by rw [hins])
      · go_wp2_with fail
        go_round
        case rel =>
          refine ⟨k + 1, by omega, by go_num, fun y hy => ?_⟩
          rw [List.take_succ_eq_append_getElem hlt, List.mem_append, List.mem_singleton] at hy
          rcases hy with h | h
          · exact hall y h
          · rw [h, Hx.out]; exact hlx
        case measure => simp [intOf]; omega
    · have hge : ∀ h : k < ss.length, ltS ss[k] s = false := fun h => absurd h hlt
      have hne : ¬ ss[k]? = some s := by rw [List.getElem?_eq_none (by omega)]; simp
      go_wp2_with fail
      have hins : insL ltS s ss = ss.take k ++ s :: ss.drop k := by rw [insL_cut ss k hk hall hge, if_neg hne]
      have HI := Lib.hid hins
      have HR1 := Lib.hid (Hr.out.takeA hk)
      have HR2 := Lib.hid (Hr.out.dropA hk hc)
      have hs1 := run_slice_full (P := Tryz.prog) Tryz.underlying30 hi A ss.length c k (Nat.le_trans hk hc)
      have hs2 := run_slice_tail (P := Tryz.prog) Tryz.underlying30 hi A ss.length c k hk
      rw [hz1] at hs1 hs2
      clear hins hne hge
      have hlk : (ss.drop k).length = ss.length - k := List.length_drop
      have HLk := Lib.hid hlk
      clear hlk
      try go_wp2_with fail
      refine wp_region_held_drew (S := fun w' => Below w.heap.size w w') (by kernel_rfl) (Below.drew (Below.refl _ _)) (fun hHeld => ?_)
      refine take_yield (i := 0) (v := ?_) rfl (by kernel_rfl) (by kernel_rfl) (by kernel_rfl) (fun _ _ _ h => h) (by rfl) ?_ hHeld ?_
      rotate_left 1
      · (intro w' hSw; clear hSw; go_simp; try with_reducible rfl)
      (try simp only [Act.put, List.setIfInBounds_toArray, List.set_cons_zero, List.set_cons_succ])
      refine take_yield (i := 1) (v := ?_) rfl (by kernel_rfl) (by kernel_rfl) (by kernel_rfl) (fun _ _ _ h => h) (by rfl) ?_ hHeld ?_
      rotate_left 1
      · (intro w' hSw; clear hSw; go_simp; try with_reducible rfl)
      (try simp only [Act.put, List.setIfInBounds_toArray, List.set_cons_zero, List.set_cons_succ])
      refine take_yield (i := 2) (v := ?_) rfl (by kernel_rfl) (by kernel_rfl) (by kernel_rfl) (fun _ _ _ h => h) (by rfl) ?_ hHeld ?_
      rotate_left 1
      · (intro w' hSw; clear hSw; go_simp; try with_reducible rfl)
      (try simp only [Act.put, List.setIfInBounds_toArray, List.set_cons_zero, List.set_cons_succ])
      refine take_yield (i := 3) (v := ?_) rfl (by kernel_rfl) (by kernel_rfl) (by kernel_rfl) (fun _ _ _ h => h) (by rfl) ?_ hHeld ?_
      rotate_left 1
      · (intro w' hSw; clear hSw; go_simp; try with_reducible rfl)
      (try simp only [Act.put, List.setIfInBounds_toArray, List.set_cons_zero, List.set_cons_succ])
      refine take_yield (i := 4) (v := ?_) rfl (by kernel_rfl) (by kernel_rfl) (by kernel_rfl) (fun _ _ _ h => h) (by rfl) ?_ hHeld ?_
      rotate_left 1
      · (intro w' hSw; clear hSw; go_simp; try with_reducible rfl)
      (try simp only [Act.put, List.setIfInBounds_toArray, List.set_cons_zero, List.set_cons_succ])
      refine take_yield (i := 6) (v := ?_) rfl (by kernel_rfl) (by kernel_rfl) (by kernel_rfl) (fun _ _ _ h => h) (by rfl) ?_ hHeld ?_
      rotate_left 1
      · (intro w' hSw; clear hSw; go_simp; try with_reducible rfl)
      (try simp only [Act.put, List.setIfInBounds_toArray, List.set_cons_zero, List.set_cons_succ])
      refine take_yield (i := 7) (v := ?_) rfl (by kernel_rfl) (by kernel_rfl) (by kernel_rfl) (fun _ _ _ h => h) (by rfl) ?_ hHeld ?_
      rotate_left 1
      · (intro w' hSw; clear hSw; go_simp; try with_reducible rfl)
      (try simp only [Act.put, List.setIfInBounds_toArray, List.set_cons_zero, List.set_cons_succ])
      refine take_yield (i := 8) (v := ?_) rfl (by kernel_rfl) (by kernel_rfl) (by kernel_rfl) (fun _ _ _ h => h) (by rfl) ?_ hHeld ?_
      rotate_left 1
      · (intro w' hSw; clear hSw; go_simp; try with_reducible rfl)
      (try simp only [Act.put, List.setIfInBounds_toArray, List.set_cons_zero, List.set_cons_succ])
      refine ready_one (i := 5) rfl (by kernel_rfl) (fun K hK => ?_)
      go_simp
      refine hK.out _ _ ?_ (fun hHeld2 => ?_)
      · (try dsimp only); first | exact hHeld | exact (by repeat (first | exact Below.refl _ _ | assumption | refine Below.alloc ?_ (by simp <;> omega) _ | refine Below.setCell ?_ (by simp <;> omega) _ | refine Below.drew ?_))
      clear hK K hHeld
      have hHeld := hHeld2
      clear hHeld2
      (try simp only [Act.put, List.setIfInBounds_toArray, List.set_cons_zero, List.set_cons_succ])
      refine ready_one (i := 9) rfl (by kernel_rfl) (fun K hK => ?_)
      refine step_append_full (by rfl) (.tmp 38) (.tmp 41) 30 (by rfl) 9 i0 (.string ⟨#[]⟩) 1 16 Tryz.underlying30 hi hz0 hz1 hz2 rfl _ (some ⟨w.heap.size, 0, none⟩) 1 [sv s] (by rfl) (Rd.lit w.drew [sv s] 9 1 1 rfl) (Nat.le_refl _) _ _ (ss.length - k) (c - k) _ (by rfl) (HR2.out.at' (Nat.le_refl _) hHeld) (one_drop (one_svs ss) _) (by unfold maxLen; omega) (by omega) ?_
      intro A2 c2 v2 hc2 hr2 hb
      have HR3 := Lib.hid hr2
      clear hr2
      refine hK.out _ _ ?_ (fun hHeld2 => ?_)
      · (try dsimp only); first | exact Below.trans hHeld (Below.mono hb hHeld.size) | exact hHeld | exact Below.drew hHeld | exact (by repeat (first | exact Below.refl _ _ | assumption | refine Below.alloc ?_ (by simp <;> omega) _ | refine Below.setCell ?_ (by simp <;> omega) _ | refine Below.drew ?_))
      clear hK K hHeld
      have hHeld := hHeld2
      clear hHeld2
      (try simp only [Act.put, List.setIfInBounds_toArray, List.set_cons_zero, List.set_cons_succ])
      refine ready_one (i := 10) rfl (by kernel_rfl) (fun K hK => ?_)
      refine step_append_full (by rfl) (.tmp 36) (.tmp 42) 30 (by rfl) 9 i0 (.string ⟨#[]⟩) 1 16 Tryz.underlying30 hi hz0 hz1 hz2 rfl _ _ k _ (by rfl) (HR1.out.at' (Nat.le_refl _) hHeld) (Nat.le_refl _) _ A2 (1 + (ss.length - k)) c2 _ (by rfl) HR3.out (one_app (one_sv s) (one_drop (one_svs ss) _)) (by unfold maxLen; omega) (by omega) ?_
      intro A3 c3 v3 hc3 hr3 hb
      have HR4 := Lib.hid hr3
      clear hr3
      refine hK.out _ _ ?_ (fun hHeld2 => ?_)
      · (try dsimp only); first | exact Below.trans hHeld (Below.mono hb hHeld.size) | exact hHeld | exact Below.drew hHeld | exact (by repeat (first | exact Below.refl _ _ | assumption | refine Below.alloc ?_ (by simp <;> omega) _ | refine Below.setCell ?_ (by simp <;> omega) _ | refine Below.drew ?_))
      clear hK K hHeld
      have hHeld := hHeld2
      clear hHeld2
      (try simp only [Act.put, List.setIfInBounds_toArray, List.set_cons_zero, List.set_cons_succ])
      refine take_yield (i := 11) (v := ?_) rfl (by kernel_rfl) (by kernel_rfl) (by kernel_rfl) (fun _ _ _ h => h) (by rfl) ?_ hHeld ?_
      rotate_left 1
      · (intro w' hSw; clear hSw; go_simp; try with_reducible rfl)
      (try simp only [Act.put, List.setIfInBounds_toArray, List.set_cons_zero, List.set_cons_succ])
      refine wpAnyH_done (by kernel_rfl) ?_ _
      go_wp2_with fail
      go_ret
      refine RdIs.of hc3 HR4.out hHeld ?_ ?_
      · rw [HI.out, List.length_append, List.length_cons, List.length_take, HLk.out]; omega
      · rw [HI.out]; simp [svs, List.map_take, List.map_drop]
end Od
end Go.Proofs.YtclaoffnfopekaaGreat
end

section
/- '==' of two pairs of texts laid as arrays. -/
namespace Go.Proofs.YtclaoffnfopekaaGreat
open Go.RowKit
namespace Od
theorem p2_one (d : Nat) (a b : Str) (w : World) : (Op.equalIn (d + 1) 9 (sv a) (sv b)).run Tryz.prog w = .ok (a == b) w := by
  have hu := Tryz.underlying9
  simp [Op.equalIn, run_underlying hu]
  rw [beq_toListBytes]
  simp
set_option maxRecDepth 100000 in
theorem p2_eq (a1 a2 b1 b2 : Str) (w : World) : (Op.equalIn 10000 61 (.agg #[sv a1, sv a2]) (.agg #[sv b1, sv b2])).run Tryz.prog w = .ok (a1 == b1 && a2 == b2) w := by
  have hu := Tryz.underlying61
  have hus := Tryz.underlying9
  have hi : (Tryz.prog.info? 9).map (·.size) = some 1 := by kernel_rfl
  obtain ⟨i0, hi0, hs0⟩ := Option.map_eq_some_iff.1 hi
  have h1 : ∀ w, (Op.equalIn 9999 9 (sv a1) (sv b1)).run Tryz.prog w = .ok (a1 == b1) w := fun w => p2_one 9998 a1 b1 w
  have h2 : ∀ w, (Op.equalIn 9999 9 (sv a2) (sv b2)).run Tryz.prog w = .ok (a2 == b2) w := fun w => p2_one 9998 a2 b2 w
  show (Op.equalIn (9999 + 1) _ _ _).run _ w = _
  unfold Op.equalIn
  simp [run_underlying hu, run_underlying hus, sizeOf, typeInfo, hi0, hs0, part, isAgg, h1, List.range']
  have h2' := h2 w
  by_cases ha : a1 = b1
  · subst ha
    by_cases hb : a2 = b2
    · subst hb; simp [h2']
    · simp [hb, h2']
  · simp [ha]
end Od
end Go.Proofs.YtclaoffnfopekaaGreat
end
