/- My texts, joined for the claim: NMay QBase. -/
import Derived.Test.YtbllehjhmfehbaaGreatZB0
import Derived.Test.YtbllehjhmfehbaaGreatZB3
import Derived.Test.YtbllehjhmfehbaaGreatZB2

section
/- The walks of graph.mayNode and graph.May. -/
namespace Go.Proofs.YtbllehjhmfehbaaGreat
open Go.RowKit

namespace Od
def mayN (n : Nd) : Bool := kindS n.1 != 0 && ((n.2.1 == kindS n.1) && (decide (1 ≤ n.2.2) && decide (n.2.2 ≤ 4)))
set_option maxRecDepth 100000 in
set_option maxHeartbeats 4000000 in
theorem mayNode_any (s : Str) (k r : Int) (w : World) (hl : s.length ≤ 140737488355328) : Calls Tryz.prog 61 #[.agg #[sv s, .int .i64 k, .int .i64 r]] w fun e w' => e = .returned (.bool (mayN (s, k, r))) ∧ Below w.heap.size w w' := by
  have hm : mayN (s, k, r) = (kindS s != 0 && ((k == kindS s) && (decide (1 ≤ r) && decide (r ≤ 4)))) := rfl
  have HM := Lib.hid hm
  clear hm
  go_enter Tryz.func61, Tryz.ntmps61
  go_wp2_with fail
  first | (refine wp_named ?_; intro W1 hW) | (refine calls_named ?_; intro W1 hW)
  have B1 : Below w.heap.size w W1 := by rw [hW]; exact (by repeat (first | exact Below.refl _ _ | assumption | refine Below.alloc ?_ (by simp <;> omega) _ | refine Below.setCell ?_ (by simp <;> omega) _ | refine Below.drew ?_))
  have n1 : w.heap.size < W1.heap.size := by rw [hW]; simp <;> omega
  have c0 : W1.cell? ⟨w.heap.size, 0, none⟩ = some (sv s) := by rw [hW]; go_simp
  have c1 : W1.cell? ⟨w.heap.size, 1, none⟩ = some (.int .i64 k) := by rw [hW]; go_simp
  have c2 : W1.cell? ⟨w.heap.size, 2, none⟩ = some (.int .i64 r) := by rw [hW]; go_simp
  clear hW
  have HB := Lib.hid B1
  clear B1
  cases h1 : (kindS s != 0)
  · have H1 := Lib.hid h1
    try go_wp2_with fail
    refine wp_region_held_drew (S := fun w' => Below W1.heap.size W1 w') (by kernel_rfl) (Below.drew (Below.refl _ _)) (fun hHeld => ?_)
    refine tY (i := 0) (v := ?_) rfl ?_ hHeld ?_; rotate_left 1; focus (intro w' hSw; clear hSw; go_simp; try with_reducible rfl)
    (try simp only [Act.put, zn1, zn2, zn3])
    refine tY (i := 1) (v := ?_) rfl ?_ hHeld ?_; rotate_left 1; focus (intro w' hSw; have hCell := fun (b o : Nat) (h : b < W1.heap.size) => hSw.cell (p := ⟨b, o, none⟩) h; clear hSw; go_simp; try with_reducible rfl)
    (try simp only [Act.put, zn1, zn2, zn3])
    refine ready_one (i := 2) rfl (by kernel_rfl) (fun K hK => ?_)
    go_simp
    refine (May_any s _ hl).mono ?_
    rintro e v2 ⟨rfl, hb⟩
    refine hK.out _ _ ?_ (fun hHeld2 => ?_)
    · (try dsimp only); first | exact Below.trans hHeld (Below.mono hb hHeld.size) | exact hHeld | exact Below.drew hHeld | exact (by repeat (first | exact Below.refl _ _ | assumption | refine Below.alloc ?_ (by simp <;> omega) _ | refine Below.setCell ?_ (by simp <;> omega) _ | refine Below.drew ?_))
    clear hK K hHeld; have hHeld := hHeld2; clear hHeld2; (try simp only [Act.put, zn1, zn2, zn3])
    refine tY (i := 3) (v := ?_) rfl ?_ hHeld ?_; rotate_left 1; focus (intro w' hSw; clear hSw; go_simp; try with_reducible rfl)
    (try simp only [Act.put, zn1, zn2, zn3])
    refine tS (i := 4) rfl hHeld ?_; (try simp only [Act.put, zn1, zn2, zn3])
    refine tS (i := 5) rfl hHeld ?_; (try simp only [Act.put, zn1, zn2, zn3])
    refine tS (i := 6) rfl hHeld ?_; (try simp only [Act.put, zn1, zn2, zn3])
    refine tS (i := 7) rfl hHeld ?_; (try simp only [Act.put, zn1, zn2, zn3])
    refine tS (i := 8) rfl hHeld ?_; (try simp only [Act.put, zn1, zn2, zn3])
    refine tS (i := 9) rfl hHeld ?_; (try simp only [Act.put, zn1, zn2, zn3])
    refine tY (i := 10) (v := ?_) rfl ?_ hHeld ?_; rotate_left 1; focus (intro w' hSw; clear hSw; go_simp; try with_reducible rfl)
    (try simp only [Act.put, zn1, zn2, zn3])
    refine tY (i := 11) (v := ?_) rfl ?_ hHeld ?_; rotate_left 1; focus (intro w' hSw; clear hSw; go_simp; try with_reducible rfl)
    (try simp only [Act.put, zn1, zn2, zn3])
    refine tS (i := 12) rfl hHeld ?_; (try simp only [Act.put, zn1, zn2, zn3])
    refine tS (i := 13) rfl hHeld ?_; (try simp only [Act.put, zn1, zn2, zn3])
    refine tS (i := 14) rfl hHeld ?_; (try simp only [Act.put, zn1, zn2, zn3])
    refine tY (i := 15) (v := ?_) rfl ?_ hHeld ?_; rotate_left 1; focus (intro w' hSw; clear hSw; go_simp; try with_reducible rfl)
    (try simp only [Act.put, zn1, zn2, zn3])
    refine tY (i := 16) (v := ?_) rfl ?_ hHeld ?_; rotate_left 1; focus (intro w' hSw; clear hSw; go_simp; try with_reducible rfl)
    (try simp only [Act.put, zn1, zn2, zn3])
    refine tS (i := 17) rfl hHeld ?_; (try simp only [Act.put, zn1, zn2, zn3])
    refine tS (i := 18) rfl hHeld ?_; (try simp only [Act.put, zn1, zn2, zn3])
    refine tS (i := 19) rfl hHeld ?_; (try simp only [Act.put, zn1, zn2, zn3])
    refine tY (i := 20) (v := ?_) rfl ?_ hHeld ?_; rotate_left 1; focus (intro w' hSw; clear hSw; go_simp; try with_reducible rfl)
    (try simp only [Act.put, zn1, zn2, zn3])
    refine tY (i := 21) (v := ?_) rfl ?_ hHeld ?_; rotate_left 1; focus (intro w' hSw; clear hSw; go_simp; try with_reducible rfl)
    (try simp only [Act.put, zn1, zn2, zn3])
    refine wpAnyH_done (by kernel_rfl) ?_ _
    go_wp2_with fail
    go_ret
    exact ⟨ret_bool (by rw [HM.out]; simp [H1.out]), lift HB.out hHeld⟩
  · have H1 := Lib.hid h1
    cases h2 : (k == kindS s)
    · have H2 := Lib.hid h2
      try go_wp2_with fail
      refine wp_region_held_drew (S := fun w' => Below W1.heap.size W1 w') (by kernel_rfl) (Below.drew (Below.refl _ _)) (fun hHeld => ?_)
      refine tY (i := 0) (v := ?_) rfl ?_ hHeld ?_; rotate_left 1; focus (intro w' hSw; clear hSw; go_simp; try with_reducible rfl)
      (try simp only [Act.put, zn1, zn2, zn3])
      refine tY (i := 1) (v := ?_) rfl ?_ hHeld ?_; rotate_left 1; focus (intro w' hSw; have hCell := fun (b o : Nat) (h : b < W1.heap.size) => hSw.cell (p := ⟨b, o, none⟩) h; clear hSw; go_simp; try with_reducible rfl)
      (try simp only [Act.put, zn1, zn2, zn3])
      refine ready_one (i := 2) rfl (by kernel_rfl) (fun K hK => ?_)
      go_simp
      refine (May_any s _ hl).mono ?_
      rintro e v2 ⟨rfl, hb⟩
      refine hK.out _ _ ?_ (fun hHeld2 => ?_)
      · (try dsimp only); first | exact Below.trans hHeld (Below.mono hb hHeld.size) | exact hHeld | exact Below.drew hHeld | exact (by repeat (first | exact Below.refl _ _ | assumption | refine Below.alloc ?_ (by simp <;> omega) _ | refine Below.setCell ?_ (by simp <;> omega) _ | refine Below.drew ?_))
      clear hK K hHeld; have hHeld := hHeld2; clear hHeld2; (try simp only [Act.put, zn1, zn2, zn3])
      refine tY (i := 3) (v := ?_) rfl ?_ hHeld ?_; rotate_left 1; focus (intro w' hSw; clear hSw; go_simp; try with_reducible rfl)
      (try simp only [Act.put, zn1, zn2, zn3])
      refine tY (i := 4) (v := ?_) rfl ?_ hHeld ?_; rotate_left 1; focus (intro w' hSw; clear hSw; go_simp; try with_reducible rfl)
      (try simp only [Act.put, zn1, zn2, zn3])
      refine tY (i := 5) (v := ?_) rfl ?_ hHeld ?_; rotate_left 1; focus (intro w' hSw; have hCell := fun (b o : Nat) (h : b < W1.heap.size) => hSw.cell (p := ⟨b, o, none⟩) h; clear hSw; go_simp; try with_reducible rfl)
      (try simp only [Act.put, zn1, zn2, zn3])
      refine tY (i := 6) (v := ?_) rfl ?_ hHeld ?_; rotate_left 1; focus (intro w' hSw; clear hSw; go_simp; try with_reducible rfl)
      (try simp only [Act.put, zn1, zn2, zn3])
      refine tY (i := 7) (v := ?_) rfl ?_ hHeld ?_; rotate_left 1; focus (intro w' hSw; have hCell := fun (b o : Nat) (h : b < W1.heap.size) => hSw.cell (p := ⟨b, o, none⟩) h; clear hSw; go_simp; try with_reducible rfl)
      (try simp only [Act.put, zn1, zn2, zn3])
      refine ready_one (i := 8) rfl (by kernel_rfl) (fun K hK => ?_)
      go_simp
      refine (Kind_any s _ hl).mono ?_
      rintro e v3 ⟨rfl, hb⟩
      refine hK.out _ _ ?_ (fun hHeld2 => ?_)
      · (try dsimp only); first | exact Below.trans hHeld (Below.mono hb hHeld.size) | exact hHeld | exact Below.drew hHeld | exact (by repeat (first | exact Below.refl _ _ | assumption | refine Below.alloc ?_ (by simp <;> omega) _ | refine Below.setCell ?_ (by simp <;> omega) _ | refine Below.drew ?_))
      clear hK K hHeld; have hHeld := hHeld2; clear hHeld2; (try simp only [Act.put, zn1, zn2, zn3])
      refine tY (i := 9) (v := ?_) rfl ?_ hHeld ?_; rotate_left 1; focus (intro w' hSw; clear hSw; go_simp; try with_reducible rfl)
      (try simp only [Act.put, zn1, zn2, zn3])
      refine tY (i := 10) (v := ?_) rfl ?_ hHeld ?_; rotate_left 1; focus (intro w' hSw; clear hSw; go_simp; try with_reducible rfl)
      (try simp only [Act.put, zn1, zn2, zn3])
      refine tY (i := 11) (v := ?_) rfl ?_ hHeld ?_; rotate_left 1; focus (intro w' hSw; clear hSw; go_simp; try with_reducible rfl)
      (try simp only [Act.put, zn1, zn2, zn3])
      refine tS (i := 12) rfl hHeld ?_; (try simp only [Act.put, zn1, zn2, zn3])
      refine tS (i := 13) rfl hHeld ?_; (try simp only [Act.put, zn1, zn2, zn3])
      refine tS (i := 14) rfl hHeld ?_; (try simp only [Act.put, zn1, zn2, zn3])
      refine tY (i := 15) (v := ?_) rfl ?_ hHeld ?_; rotate_left 1; focus (intro w' hSw; clear hSw; go_simp; try with_reducible rfl)
      (try simp only [Act.put, zn1, zn2, zn3])
      refine tY (i := 16) (v := ?_) rfl ?_ hHeld ?_; rotate_left 1; focus (intro w' hSw; clear hSw; go_simp; try with_reducible rfl)
      (try simp only [Act.put, zn1, zn2, zn3])
      refine tS (i := 17) rfl hHeld ?_; (try simp only [Act.put, zn1, zn2, zn3])
      refine tS (i := 18) rfl hHeld ?_; (try simp only [Act.put, zn1, zn2, zn3])
      refine tS (i := 19) rfl hHeld ?_; (try simp only [Act.put, zn1, zn2, zn3])
      refine tY (i := 20) (v := ?_) rfl ?_ hHeld ?_; rotate_left 1; focus (intro w' hSw; clear hSw; go_simp; try with_reducible rfl)
      (try simp only [Act.put, zn1, zn2, zn3])
      refine tY (i := 21) (v := ?_) rfl ?_ hHeld ?_; rotate_left 1; focus (intro w' hSw; clear hSw; go_simp; try with_reducible rfl)
      (try simp only [Act.put, zn1, zn2, zn3])
      refine wpAnyH_done (by kernel_rfl) ?_ _
      go_wp2_with fail
      go_ret
      exact ⟨ret_bool (by rw [HM.out]; simp [H1.out, H2.out]), lift HB.out hHeld⟩
    · have H2 := Lib.hid h2
      cases h3 : decide (1 ≤ r)
      · have H3 := Lib.hid h3
        try go_wp2_with fail
        refine wp_region_held_drew (S := fun w' => Below W1.heap.size W1 w') (by kernel_rfl) (Below.drew (Below.refl _ _)) (fun hHeld => ?_)
        refine tY (i := 0) (v := ?_) rfl ?_ hHeld ?_; rotate_left 1; focus (intro w' hSw; clear hSw; go_simp; try with_reducible rfl)
        (try simp only [Act.put, zn1, zn2, zn3])
        refine tY (i := 1) (v := ?_) rfl ?_ hHeld ?_; rotate_left 1; focus (intro w' hSw; have hCell := fun (b o : Nat) (h : b < W1.heap.size) => hSw.cell (p := ⟨b, o, none⟩) h; clear hSw; go_simp; try with_reducible rfl)
        (try simp only [Act.put, zn1, zn2, zn3])
        refine ready_one (i := 2) rfl (by kernel_rfl) (fun K hK => ?_)
        go_simp
        refine (May_any s _ hl).mono ?_
        rintro e v2 ⟨rfl, hb⟩
        refine hK.out _ _ ?_ (fun hHeld2 => ?_)
        · (try dsimp only); first | exact Below.trans hHeld (Below.mono hb hHeld.size) | exact hHeld | exact Below.drew hHeld | exact (by repeat (first | exact Below.refl _ _ | assumption | refine Below.alloc ?_ (by simp <;> omega) _ | refine Below.setCell ?_ (by simp <;> omega) _ | refine Below.drew ?_))
        clear hK K hHeld; have hHeld := hHeld2; clear hHeld2; (try simp only [Act.put, zn1, zn2, zn3])
        refine tY (i := 3) (v := ?_) rfl ?_ hHeld ?_; rotate_left 1; focus (intro w' hSw; clear hSw; go_simp; try with_reducible rfl)
        (try simp only [Act.put, zn1, zn2, zn3])
        refine tY (i := 4) (v := ?_) rfl ?_ hHeld ?_; rotate_left 1; focus (intro w' hSw; clear hSw; go_simp; try with_reducible rfl)
        (try simp only [Act.put, zn1, zn2, zn3])
        refine tY (i := 5) (v := ?_) rfl ?_ hHeld ?_; rotate_left 1; focus (intro w' hSw; have hCell := fun (b o : Nat) (h : b < W1.heap.size) => hSw.cell (p := ⟨b, o, none⟩) h; clear hSw; go_simp; try with_reducible rfl)
        (try simp only [Act.put, zn1, zn2, zn3])
        refine tY (i := 6) (v := ?_) rfl ?_ hHeld ?_; rotate_left 1; focus (intro w' hSw; clear hSw; go_simp; try with_reducible rfl)
        (try simp only [Act.put, zn1, zn2, zn3])
        refine tY (i := 7) (v := ?_) rfl ?_ hHeld ?_; rotate_left 1; focus (intro w' hSw; have hCell := fun (b o : Nat) (h : b < W1.heap.size) => hSw.cell (p := ⟨b, o, none⟩) h; clear hSw; go_simp; try with_reducible rfl)
        (try simp only [Act.put, zn1, zn2, zn3])
        refine ready_one (i := 8) rfl (by kernel_rfl) (fun K hK => ?_)
        go_simp
        refine (Kind_any s _ hl).mono ?_
        rintro e v3 ⟨rfl, hb⟩
        refine hK.out _ _ ?_ (fun hHeld2 => ?_)
        · (try dsimp only); first | exact Below.trans hHeld (Below.mono hb hHeld.size) | exact hHeld | exact Below.drew hHeld | exact (by repeat (first | exact Below.refl _ _ | assumption | refine Below.alloc ?_ (by simp <;> omega) _ | refine Below.setCell ?_ (by simp <;> omega) _ | refine Below.drew ?_))
        clear hK K hHeld; have hHeld := hHeld2; clear hHeld2; (try simp only [Act.put, zn1, zn2, zn3])
        refine tY (i := 9) (v := ?_) rfl ?_ hHeld ?_; rotate_left 1; focus (intro w' hSw; clear hSw; go_simp; try with_reducible rfl)
        (try simp only [Act.put, zn1, zn2, zn3])
        refine tY (i := 10) (v := ?_) rfl ?_ hHeld ?_; rotate_left 1; focus (intro w' hSw; clear hSw; go_simp; try with_reducible rfl)
        (try simp only [Act.put, zn1, zn2, zn3])
        refine tY (i := 11) (v := ?_) rfl ?_ hHeld ?_; rotate_left 1; focus (intro w' hSw; clear hSw; go_simp; try with_reducible rfl)
        (try simp only [Act.put, zn1, zn2, zn3])
        refine tY (i := 12) (v := ?_) rfl ?_ hHeld ?_; rotate_left 1; focus (intro w' hSw; clear hSw; go_simp; try with_reducible rfl)
        (try simp only [Act.put, zn1, zn2, zn3])
        refine tY (i := 13) (v := ?_) rfl ?_ hHeld ?_; rotate_left 1; focus (intro w' hSw; have hCell := fun (b o : Nat) (h : b < W1.heap.size) => hSw.cell (p := ⟨b, o, none⟩) h; clear hSw; go_simp; try with_reducible rfl)
        (try simp only [Act.put, zn1, zn2, zn3])
        refine tY (i := 14) (v := ?_) rfl ?_ hHeld ?_; rotate_left 1; focus (intro w' hSw; clear hSw; go_simp; try with_reducible rfl)
        (try simp only [Act.put, zn1, zn2, zn3])
        refine tY (i := 15) (v := ?_) rfl ?_ hHeld ?_; rotate_left 1; focus (intro w' hSw; clear hSw; go_simp; try with_reducible rfl)
        (try simp only [Act.put, zn1, zn2, zn3])
        refine tY (i := 16) (v := ?_) rfl ?_ hHeld ?_; rotate_left 1; focus (intro w' hSw; clear hSw; go_simp; try with_reducible rfl)
        (try simp only [Act.put, zn1, zn2, zn3])
        refine tS (i := 17) rfl hHeld ?_; (try simp only [Act.put, zn1, zn2, zn3])
        refine tS (i := 18) rfl hHeld ?_; (try simp only [Act.put, zn1, zn2, zn3])
        refine tS (i := 19) rfl hHeld ?_; (try simp only [Act.put, zn1, zn2, zn3])
        refine tY (i := 20) (v := ?_) rfl ?_ hHeld ?_; rotate_left 1; focus (intro w' hSw; clear hSw; go_simp; try with_reducible rfl)
        (try simp only [Act.put, zn1, zn2, zn3])
        refine tY (i := 21) (v := ?_) rfl ?_ hHeld ?_; rotate_left 1; focus (intro w' hSw; clear hSw; go_simp; try with_reducible rfl)
        (try simp only [Act.put, zn1, zn2, zn3])
        refine wpAnyH_done (by kernel_rfl) ?_ _
        go_wp2_with fail
        go_ret
        exact ⟨ret_bool (by rw [HM.out]; simp [H1.out, H2.out, H3.out]), lift HB.out hHeld⟩
      · have H3 := Lib.hid h3
        try go_wp2_with fail
        refine wp_region_held_drew (S := fun w' => Below W1.heap.size W1 w') (by kernel_rfl) (Below.drew (Below.refl _ _)) (fun hHeld => ?_)
        refine tY (i := 0) (v := ?_) rfl ?_ hHeld ?_; rotate_left 1; focus (intro w' hSw; clear hSw; go_simp; try with_reducible rfl)
        (try simp only [Act.put, zn1, zn2, zn3])
        refine tY (i := 1) (v := ?_) rfl ?_ hHeld ?_; rotate_left 1; focus (intro w' hSw; have hCell := fun (b o : Nat) (h : b < W1.heap.size) => hSw.cell (p := ⟨b, o, none⟩) h; clear hSw; go_simp; try with_reducible rfl)
        (try simp only [Act.put, zn1, zn2, zn3])
        refine ready_one (i := 2) rfl (by kernel_rfl) (fun K hK => ?_)
        go_simp
        refine (May_any s _ hl).mono ?_
        rintro e v2 ⟨rfl, hb⟩
        refine hK.out _ _ ?_ (fun hHeld2 => ?_)
        · (try dsimp only); first | exact Below.trans hHeld (Below.mono hb hHeld.size) | exact hHeld | exact Below.drew hHeld | exact (by repeat (first | exact Below.refl _ _ | assumption | refine Below.alloc ?_ (by simp <;> omega) _ | refine Below.setCell ?_ (by simp <;> omega) _ | refine Below.drew ?_))
        clear hK K hHeld; have hHeld := hHeld2; clear hHeld2; (try simp only [Act.put, zn1, zn2, zn3])
        refine tY (i := 3) (v := ?_) rfl ?_ hHeld ?_; rotate_left 1; focus (intro w' hSw; clear hSw; go_simp; try with_reducible rfl)
        (try simp only [Act.put, zn1, zn2, zn3])
        refine tY (i := 4) (v := ?_) rfl ?_ hHeld ?_; rotate_left 1; focus (intro w' hSw; clear hSw; go_simp; try with_reducible rfl)
        (try simp only [Act.put, zn1, zn2, zn3])
        refine tY (i := 5) (v := ?_) rfl ?_ hHeld ?_; rotate_left 1; focus (intro w' hSw; have hCell := fun (b o : Nat) (h : b < W1.heap.size) => hSw.cell (p := ⟨b, o, none⟩) h; clear hSw; go_simp; try with_reducible rfl)
        (try simp only [Act.put, zn1, zn2, zn3])
        refine tY (i := 6) (v := ?_) rfl ?_ hHeld ?_; rotate_left 1; focus (intro w' hSw; clear hSw; go_simp; try with_reducible rfl)
        (try simp only [Act.put, zn1, zn2, zn3])
        refine tY (i := 7) (v := ?_) rfl ?_ hHeld ?_; rotate_left 1; focus (intro w' hSw; have hCell := fun (b o : Nat) (h : b < W1.heap.size) => hSw.cell (p := ⟨b, o, none⟩) h; clear hSw; go_simp; try with_reducible rfl)
        (try simp only [Act.put, zn1, zn2, zn3])
        refine ready_one (i := 8) rfl (by kernel_rfl) (fun K hK => ?_)
        go_simp
        refine (Kind_any s _ hl).mono ?_
        rintro e v3 ⟨rfl, hb⟩
        refine hK.out _ _ ?_ (fun hHeld2 => ?_)
        · (try dsimp only); first | exact Below.trans hHeld (Below.mono hb hHeld.size) | exact hHeld | exact Below.drew hHeld | exact (by repeat (first | exact Below.refl _ _ | assumption | refine Below.alloc ?_ (by simp <;> omega) _ | refine Below.setCell ?_ (by simp <;> omega) _ | refine Below.drew ?_))
        clear hK K hHeld; have hHeld := hHeld2; clear hHeld2; (try simp only [Act.put, zn1, zn2, zn3])
        refine tY (i := 9) (v := ?_) rfl ?_ hHeld ?_; rotate_left 1; focus (intro w' hSw; clear hSw; go_simp; try with_reducible rfl)
        (try simp only [Act.put, zn1, zn2, zn3])
        refine tY (i := 10) (v := ?_) rfl ?_ hHeld ?_; rotate_left 1; focus (intro w' hSw; clear hSw; go_simp; try with_reducible rfl)
        (try simp only [Act.put, zn1, zn2, zn3])
        refine tY (i := 11) (v := ?_) rfl ?_ hHeld ?_; rotate_left 1; focus (intro w' hSw; clear hSw; go_simp; try with_reducible rfl)
        (try simp only [Act.put, zn1, zn2, zn3])
        refine tY (i := 12) (v := ?_) rfl ?_ hHeld ?_; rotate_left 1; focus (intro w' hSw; clear hSw; go_simp; try with_reducible rfl)
        (try simp only [Act.put, zn1, zn2, zn3])
        refine tY (i := 13) (v := ?_) rfl ?_ hHeld ?_; rotate_left 1; focus (intro w' hSw; have hCell := fun (b o : Nat) (h : b < W1.heap.size) => hSw.cell (p := ⟨b, o, none⟩) h; clear hSw; go_simp; try with_reducible rfl)
        (try simp only [Act.put, zn1, zn2, zn3])
        refine tY (i := 14) (v := ?_) rfl ?_ hHeld ?_; rotate_left 1; focus (intro w' hSw; clear hSw; go_simp; try with_reducible rfl)
        (try simp only [Act.put, zn1, zn2, zn3])
        refine tY (i := 15) (v := ?_) rfl ?_ hHeld ?_; rotate_left 1; focus (intro w' hSw; clear hSw; go_simp; try with_reducible rfl)
        (try simp only [Act.put, zn1, zn2, zn3])
        refine tY (i := 16) (v := ?_) rfl ?_ hHeld ?_; rotate_left 1; focus (intro w' hSw; clear hSw; go_simp; try with_reducible rfl)
        (try simp only [Act.put, zn1, zn2, zn3])
        refine tY (i := 17) (v := ?_) rfl ?_ hHeld ?_; rotate_left 1; focus (intro w' hSw; clear hSw; go_simp; try with_reducible rfl)
        (try simp only [Act.put, zn1, zn2, zn3])
        refine tY (i := 18) (v := ?_) rfl ?_ hHeld ?_; rotate_left 1; focus (intro w' hSw; have hCell := fun (b o : Nat) (h : b < W1.heap.size) => hSw.cell (p := ⟨b, o, none⟩) h; clear hSw; go_simp; try with_reducible rfl)
        (try simp only [Act.put, zn1, zn2, zn3])
        refine tY (i := 19) (v := ?_) rfl ?_ hHeld ?_; rotate_left 1; focus (intro w' hSw; clear hSw; go_simp; try with_reducible rfl)
        (try simp only [Act.put, zn1, zn2, zn3])
        refine tY (i := 20) (v := ?_) rfl ?_ hHeld ?_; rotate_left 1; focus (intro w' hSw; clear hSw; go_simp; try with_reducible rfl)
        (try simp only [Act.put, zn1, zn2, zn3])
        refine tY (i := 21) (v := ?_) rfl ?_ hHeld ?_; rotate_left 1; focus (intro w' hSw; clear hSw; go_simp; try with_reducible rfl)
        (try simp only [Act.put, zn1, zn2, zn3])
        refine wpAnyH_done (by kernel_rfl) ?_ _
        go_wp2_with fail
        go_ret
        exact ⟨ret_bool (by rw [HM.out]; simp [H1.out, H2.out, H3.out]), lift HB.out hHeld⟩
/-- May an edge stand in a graph with these nodes? -/
def edgeOk (ns : List Nd) (e : Ed) : Bool := (nodeOf ns e.1).isSome && ((nodeOf ns e.2.1).isSome && (!(e.1 == e.2.1) && (((nodeOf ns e.1).getD ([], 0, 0)).2.2 == 1 && (!decide (e.2.2 < 1) && !decide (10 < e.2.2)))))
def mayG (ns : List Nd) (es : List Ed) : Bool := !decide ((64 : Int) < (ns.length : Int)) && (risesB nodeCmp ns && (risesB edgeCmp es && (ns.all mayN && es.all (edgeOk ns))))
def OkNs (ns : List Nd) : Prop := ∀ n ∈ ns, n.1.length ≤ 140737488355328
theorem all_take_succ {α : Type} {p : α → Bool} {l : List α} {k : Nat} (hk : k < l.length) : (l.take (k + 1)).all p = ((l.take k).all p && p l[k]) := by
  rw [List.take_succ_eq_append_getElem hk, List.all_append]; simp
theorem all_false_at {α : Type} {p : α → Bool} {l : List α} {k : Nat} (hk : k < l.length) (h : p l[k] = false) : l.all p = false := by
  rw [List.all_eq_false]; exact ⟨l[k], List.getElem_mem hk, by simp [h]⟩
set_option maxRecDepth 100000 in
set_option maxHeartbeats 8000000 in
theorem MayG_any (An Ae : Option Addr) (cn ce : Nat) (ns : List Nd) (es : List Ed) (w : World) (hn : Rd w w.heap.size 3 An ns.length (ndsC ns)) (hr : Rd w w.heap.size 3 Ae es.length (edsC es)) (hln : ns.length ≤ 1000000) (hl : es.length ≤ 1000000) (hok : OkNs ns) :
    Calls Tryz.prog 23 #[gV An ns.length cn Ae es.length ce] w fun e w' => e = .returned (.bool (mayG ns es)) ∧ Below w.heap.size w w' := by
  have Hn := Lib.hid hn
  have Hr := Lib.hid hr
  have HO := Lib.hid hok
  have HM := Lib.hid (show mayG ns es = (!decide ((64 : Int) < (ns.length : Int)) && (risesB nodeCmp ns && (risesB edgeCmp es && (ns.all mayN && es.all (edgeOk ns))))) from rfl)
  clear hn hr hok
  by_cases h64 : (64 : Int) < (ns.length : Int)
  · have h1 : decide ((64 : Int) < (ns.length : Int)) = true := by simpa using h64
    have H1 := Lib.hid h1
    go_enter Tryz.func23, Tryz.ntmps23
    go_wp2_with fail
    go_ret
    exact ⟨ret_bool (by rw [HM.out, H1.out]; rfl), (by repeat (first | exact Below.refl _ _ | assumption | refine Below.alloc ?_ (by simp <;> omega) _ | refine Below.setCell ?_ (by simp <;> omega) _ | refine Below.drew ?_))⟩
  · have h1 : decide ((64 : Int) < (ns.length : Int)) = false := by simpa using h64
    have H1 := Lib.hid h1
    go_enter Tryz.func23, Tryz.ntmps23
    go_wp2_with fail
    first | (refine wp_named ?_; intro W1 hW) | (refine calls_named ?_; intro W1 hW)
    have B1 : Below w.heap.size w W1 := by rw [hW]; exact (by repeat (first | exact Below.refl _ _ | assumption | refine Below.alloc ?_ (by simp <;> omega) _ | refine Below.setCell ?_ (by simp <;> omega) _ | refine Below.drew ?_))
    replace Hr := Lib.hid (Hr.out.at B1)
    replace Hn := Lib.hid (Hn.out.at B1)
    have n1 : w.heap.size < W1.heap.size := by rw [hW]; simp <;> omega
    have c0 : W1.cell? ⟨w.heap.size, 0, none⟩ = some (.slice An ns.length cn) := by rw [hW]; go_simp
    have c1 : W1.cell? ⟨w.heap.size, 1, none⟩ = some (.slice Ae es.length ce) := by rw [hW]; go_simp
    clear hW
    have HB := Lib.hid B1
    clear B1
    go_wp2_with fail
    refine (risesN_any _ cn ns W1 Hn.out hln).mono ?_
    rintro e v1 ⟨rfl, hb⟩
    replace c0 := cellAt c0 hb (by omega)
    replace c1 := cellAt c1 hb (by omega)
    replace Hr := Lib.hid (Hr.out.at hb)
    replace Hn := Lib.hid (Hn.out.at hb)
    replace n1 : w.heap.size < v1.heap.size := ltAt n1 hb
    replace HB := Lib.hid (lift HB.out hb)
    clear hb
    cases h2 : risesB nodeCmp ns
    · have H2 := Lib.hid h2
      go_wp2_with fail
      go_ret
      exact ⟨ret_bool (by rw [HM.out, H1.out, H2.out]; simp), HB.out⟩
    · have H2 := Lib.hid h2
      go_wp2_with fail
      refine (risesE_any _ ce es v1 Hr.out hl).mono ?_
      rintro e v2 ⟨rfl, hb⟩
      replace c0 := cellAt c0 hb (by omega)
      replace c1 := cellAt c1 hb (by omega)
      replace Hr := Lib.hid (Hr.out.at hb)
      replace Hn := Lib.hid (Hn.out.at hb)
      replace n1 : w.heap.size < v2.heap.size := ltAt n1 hb
      replace HB := Lib.hid (lift HB.out hb)
      clear hb
      cases h3 : risesB edgeCmp es
      · have H3 := Lib.hid h3
        go_wp2_with fail
        go_ret
        exact ⟨ret_bool (by rw [HM.out, H1.out, H2.out, H3.out]; simp), HB.out⟩
      · have H3 := Lib.hid h3
        go_wp2_with fail
        go_loopw [30] (fun i wr => ∃ k : Nat, k ≤ ns.length ∧ i = .int .i64 k ∧ Hid ((ns.take k).all mayN = true) ∧ Below v2.heap.size v2 wr) (fun i _ => ns.length - (intOf i).toNat)
        case atStart => exact ⟨0, Nat.zero_le _, rfl, by simp [Hid], Below.refl _ _⟩
        case round =>
          obtain ⟨k, hk, rfl, hall, hb⟩ := hrel
          replace c0 := cellAt c0 hb (by omega)
          replace c1 := cellAt c1 hb (by omega)
          replace Hr := Lib.hid (Hr.out.at hb)
          replace Hn := Lib.hid (Hn.out.at hb)
          replace n1 : w.heap.size < wr.heap.size := ltAt n1 hb
          replace HB := Lib.hid (lift HB.out hb)
          have Hb := Lib.hid hb
          clear hb
          by_cases hlt : k < ns.length
          · obtain ⟨b, o, rfl, hB, x0, x1, x2⟩ := Hn.out.node hlt
            have hat := @all_take_succ Nd mayN ns k hlt
            have haf := @all_false_at Nd mayN ns k hlt
            have hlen := HO.out _ (List.getElem_mem hlt)
            generalize ns[k] = p at x0 x1 x2 hat haf hlen
            obtain ⟨s, u, r⟩ := p
            have HA := Lib.hid (And.intro hat haf)
            simp only at x0 x1 x2 hlen
            clear hat haf
            go_wp2_with fail
            first | (refine wp_named ?_; intro W2 hW) | (refine calls_named ?_; intro W2 hW)
            have B2 : Below wr.heap.size wr W2 := by rw [hW]; exact (by repeat (first | exact Below.refl _ _ | assumption | refine Below.alloc ?_ (by simp <;> omega) _ | refine Below.setCell ?_ (by simp <;> omega) _ | refine Below.drew ?_))
            replace c0 := cellAt c0 B2 (by omega)
            replace c1 := cellAt c1 B2 (by omega)
            replace Hr := Lib.hid (Hr.out.at B2)
            replace Hn := Lib.hid (Hn.out.at B2)
            replace n1 : w.heap.size < W2.heap.size := ltAt n1 B2
            replace HB := Lib.hid (lift HB.out B2)
            replace hB := ltAt hB B2
            replace Hb := Lib.hid (lift Hb.out B2)
            clear hW
            refine (mayNode_any s u r W2 hlen).mono ?_
            rintro e v3 ⟨rfl, hb⟩
            replace c0 := cellAt c0 hb (by omega)
            replace c1 := cellAt c1 hb (by omega)
            replace Hr := Lib.hid (Hr.out.at hb)
            replace Hn := Lib.hid (Hn.out.at hb)
            replace n1 : w.heap.size < v3.heap.size := ltAt n1 hb
            replace HB := Lib.hid (lift HB.out hb)
            replace hB := ltAt hB hb
            replace Hb := Lib.hid (lift Hb.out hb)
            clear hb B2
            cases hp : mayN (s, u, r)
            · have HP := Lib.hid (HA.out.2 hp)
              go_wp2_with fail
              go_ret
              exact ⟨ret_bool (by rw [HM.out, H1.out, H2.out, H3.out, HP.out]; simp), HB.out⟩
            · have HP := Lib.hid hp
              go_wp2_with fail
              go_roundw
              case rel => exact ⟨k + 1, by omega, by go_num, by show _ = true; rw [HA.out.1, hall.out, HP.out]; rfl, Hb.out⟩
              case measure => simp [intOf]; omega
          · have hkn : k = ns.length := by omega
            have h4 := hall.out
            rw [hkn, List.take_length] at h4
            have H4 := Lib.hid h4
            obtain ⟨w4, rfl⟩ : ∃ wo : World, wo = wr := ⟨_, rfl⟩
            clear hkn h4 Hb
            go_wp2_with fail
            go_loopw [41] (fun i wr => ∃ k : Nat, k ≤ es.length ∧ i = .int .i64 k ∧ Hid ((es.take k).all (edgeOk ns) = true) ∧ Below w4.heap.size w4 wr) (fun i _ => es.length - (intOf i).toNat)
            case atStart => exact ⟨0, Nat.zero_le _, rfl, by simp [Hid], Below.refl _ _⟩
            case round =>
              obtain ⟨k2, hk2, rfl, hall2, hb⟩ := hrel
              replace c0 := cellAt c0 hb (by omega)
              replace c1 := cellAt c1 hb (by omega)
              replace Hr := Lib.hid (Hr.out.at hb)
              replace Hn := Lib.hid (Hn.out.at hb)
              replace n1 : w.heap.size < wr.heap.size := ltAt n1 hb
              replace HB := Lib.hid (lift HB.out hb)
              have Hb := Lib.hid hb
              clear hb
              by_cases hlt2 : k2 < es.length
              · obtain ⟨b, o, rfl, hB, x0, x1, x2⟩ := Hr.out.edge hlt2
                have hat := @all_take_succ Ed (edgeOk ns) es k2 hlt2
                have haf := @all_false_at Ed (edgeOk ns) es k2 hlt2
                generalize es[k2] = p at x0 x1 x2 hat haf
                obtain ⟨s, d, r⟩ := p
                have HA := Lib.hid (And.intro hat haf)
                simp only at x0 x1 x2
                have hek : edgeOk ns (s, d, r) = ((nodeOf ns s).isSome && ((nodeOf ns d).isSome && (!(s == d) && (((nodeOf ns s).getD ([], 0, 0)).2.2 == 1 && (!decide (r < 1) && !decide (10 < r)))))) := rfl
                have HE := Lib.hid hek
                clear hat haf hek
                go_wp2_with fail
                first | (refine wp_named ?_; intro W2 hW) | (refine calls_named ?_; intro W2 hW)
                have B2 : Below wr.heap.size wr W2 := by rw [hW]; exact (by repeat (first | exact Below.refl _ _ | assumption | refine Below.alloc ?_ (by simp <;> omega) _ | refine Below.setCell ?_ (by simp <;> omega) _ | refine Below.drew ?_))
                replace c0 := cellAt c0 B2 (by omega)
                replace c1 := cellAt c1 B2 (by omega)
                replace Hr := Lib.hid (Hr.out.at B2)
                replace Hn := Lib.hid (Hn.out.at B2)
                replace n1 : w.heap.size < W2.heap.size := ltAt n1 B2
                replace HB := Lib.hid (lift HB.out B2)
                replace Hb := Lib.hid (lift Hb.out B2)
                have m1 : wr.heap.size < W2.heap.size := by rw [hW]; simp <;> omega
                have e0 : W2.cell? ⟨wr.heap.size, 0, none⟩ = some (sv s) := by rw [hW]; go_simp
                have e1 : W2.cell? ⟨wr.heap.size, 1, none⟩ = some (sv d) := by rw [hW]; go_simp
                have e2 : W2.cell? ⟨wr.heap.size, 2, none⟩ = some (.int .i64 r) := by rw [hW]; go_simp
                clear hW
                clear B2
                refine (Node_any _ _ es.length cn ce ns s W2 Hn.out hln).mono ?_
                rintro e v3 ⟨rfl, hb⟩
                replace c0 := cellAt c0 hb (by omega)
                replace c1 := cellAt c1 hb (by omega)
                replace e0 := cellAt e0 hb (by omega)
                replace e1 := cellAt e1 hb (by omega)
                replace e2 := cellAt e2 hb (by omega)
                replace Hr := Lib.hid (Hr.out.at hb)
                replace Hn := Lib.hid (Hn.out.at hb)
                replace n1 : w.heap.size < v3.heap.size := ltAt n1 hb
                replace HB := Lib.hid (lift HB.out hb)
                replace Hb := Lib.hid (lift Hb.out hb)
                replace m1 : wr.heap.size < v3.heap.size := ltAt m1 hb
                clear hb
                unfold nodeV
                generalize ho1 : nodeOf ns s = o1 at *
                generalize hn1 : o1.getD ([], 0, 0) = nd1
                obtain ⟨nm, kd, st⟩ := nd1
                have HN1 := Lib.hid (And.intro ho1 hn1)
                clear ho1 hn1
                go_wp2_with fail
                first | (refine wp_named ?_; intro W4 hW) | (refine calls_named ?_; intro W4 hW)
                have B4 : Below v3.heap.size v3 W4 := by rw [hW]; exact (by repeat (first | exact Below.refl _ _ | assumption | refine Below.alloc ?_ (by simp <;> omega) _ | refine Below.setCell ?_ (by simp <;> omega) _ | refine Below.drew ?_))
                replace c0 := cellAt c0 B4 (by omega)
                replace c1 := cellAt c1 B4 (by omega)
                replace e0 := cellAt e0 B4 (by omega)
                replace e1 := cellAt e1 B4 (by omega)
                replace e2 := cellAt e2 B4 (by omega)
                replace Hr := Lib.hid (Hr.out.at B4)
                replace Hn := Lib.hid (Hn.out.at B4)
                replace n1 : w.heap.size < W4.heap.size := ltAt n1 B4
                replace HB := Lib.hid (lift HB.out B4)
                replace Hb := Lib.hid (lift Hb.out B4)
                replace m1 : wr.heap.size < W4.heap.size := ltAt m1 B4
                have m4 : v3.heap.size < W4.heap.size := by rw [hW]; simp <;> omega
                have f0 : W4.cell? ⟨v3.heap.size, 0, none⟩ = some (sv nm) := by rw [hW]; go_simp
                have f1 : W4.cell? ⟨v3.heap.size, 1, none⟩ = some (.int .i64 kd) := by rw [hW]; go_simp
                have f2 : W4.cell? ⟨v3.heap.size, 2, none⟩ = some (.int .i64 st) := by rw [hW]; go_simp
                clear hW
                clear B4
                refine (Node_any _ _ es.length cn ce ns d W4 Hn.out hln).mono ?_
                rintro e v5 ⟨rfl, hb⟩
                replace c0 := cellAt c0 hb (by omega)
                replace c1 := cellAt c1 hb (by omega)
                replace e0 := cellAt e0 hb (by omega)
                replace e1 := cellAt e1 hb (by omega)
                replace e2 := cellAt e2 hb (by omega)
                replace f0 := cellAt f0 hb (by omega)
                replace f1 := cellAt f1 hb (by omega)
                replace f2 := cellAt f2 hb (by omega)
                replace Hr := Lib.hid (Hr.out.at hb)
                replace Hn := Lib.hid (Hn.out.at hb)
                replace n1 : w.heap.size < v5.heap.size := ltAt n1 hb
                replace HB := Lib.hid (lift HB.out hb)
                replace Hb := Lib.hid (lift Hb.out hb)
                replace m1 : wr.heap.size < v5.heap.size := ltAt m1 hb
                replace m4 : v3.heap.size < v5.heap.size := ltAt m4 hb
                clear hb
                unfold nodeV
                generalize ho2 : nodeOf ns d = o2 at *
                have HN2 := Lib.hid ho2
                clear ho2
                cases k1 : o1.isSome
                · have K1 := Lib.hid k1
                  have hno : edgeOk ns (s, d, r) = false := by rw [HE.out, K1.out]; simp
                  have HNo := Lib.hid (HA.out.2 hno)
                  clear hno
                  go_wp2_with fail
                  go_ret
                  exact ⟨ret_bool (by rw [HM.out, H1.out, H2.out, H3.out, H4.out, HNo.out]; rfl), HB.out.alloc HB.out.size _⟩
                · have K1 := Lib.hid k1
                  cases k2' : o2.isSome
                  · have K2 := Lib.hid k2'
                    have hno : edgeOk ns (s, d, r) = false := by rw [HE.out, K2.out]; simp
                    have HNo := Lib.hid (HA.out.2 hno)
                    clear hno
                    go_wp2_with fail
                    go_ret
                    exact ⟨ret_bool (by rw [HM.out, H1.out, H2.out, H3.out, H4.out, HNo.out]; rfl), HB.out.alloc HB.out.size _⟩
                  · have K2 := Lib.hid k2'
                    cases k3 : (s == d)
                    · have K3 := Lib.hid k3
                      cases k4 : (st == 1)
                      · have K4 := Lib.hid k4
                        have k4' : (st != 1) = true := by rw [bne, k4]; rfl
                        have hno : edgeOk ns (s, d, r) = false := by rw [HE.out, HN1.out.2, K4.out]; simp
                        have HNo := Lib.hid (HA.out.2 hno)
                        clear hno
                        go_wp2_with fail
                        go_ret
                        exact ⟨ret_bool (by rw [HM.out, H1.out, H2.out, H3.out, H4.out, HNo.out]; rfl), HB.out.alloc HB.out.size _⟩
                      · have K4 := Lib.hid k4
                        have k4' : (st != 1) = false := by rw [bne, k4]; rfl
                        cases k5 : decide (r < 1)
                        · have K5 := Lib.hid k5
                          cases k6 : decide (10 < r)
                          · have K6 := Lib.hid k6
                            have hyes : edgeOk ns (s, d, r) = true := by rw [HE.out, HN1.out.2, K1.out, K2.out, K3.out, K4.out, K5.out, K6.out]; rfl
                            have HY := Lib.hid hyes
                            clear hyes
                            go_wp2_with fail
                            go_roundw
                            case rel => exact ⟨k2 + 1, by omega, by go_num, by show _ = true; rw [HA.out.1, hall2.out, HY.out]; rfl, Hb.out.alloc Hb.out.size _⟩
                            case measure => simp [intOf]; omega
                          · have K6 := Lib.hid k6
                            have p6 : (10 : Int) < r := by simpa using k6
                            have hno : edgeOk ns (s, d, r) = false := by rw [HE.out, K6.out]; simp
                            have HNo := Lib.hid (HA.out.2 hno)
                            clear hno
                            go_wp2_with fail
                            go_ret
                            exact ⟨ret_bool (by rw [HM.out, H1.out, H2.out, H3.out, H4.out, HNo.out]; rfl), HB.out.alloc HB.out.size _⟩
                        · have K5 := Lib.hid k5
                          have p5 : r < (1 : Int) := by simpa using k5
                          have hno : edgeOk ns (s, d, r) = false := by rw [HE.out, K5.out]; simp
                          have HNo := Lib.hid (HA.out.2 hno)
                          clear hno
                          go_wp2_with fail
                          go_ret
                          exact ⟨ret_bool (by rw [HM.out, H1.out, H2.out, H3.out, H4.out, HNo.out]; rfl), HB.out.alloc HB.out.size _⟩
                    · have K3 := Lib.hid k3
                      have hno : edgeOk ns (s, d, r) = false := by rw [HE.out, K3.out]; simp
                      have HNo := Lib.hid (HA.out.2 hno)
                      clear hno
                      go_wp2_with fail
                      go_ret
                      exact ⟨ret_bool (by rw [HM.out, H1.out, H2.out, H3.out, H4.out, HNo.out]; rfl), HB.out.alloc HB.out.size _⟩
              · have hkn2 : k2 = es.length := by omega
                have h5 := hall2.out
                rw [hkn2, List.take_length] at h5
                have H5 := Lib.hid h5
                clear hkn2 h5
                go_wp2_with fail
                go_ret
                exact ⟨ret_bool (by rw [HM.out, H1.out, H2.out, H3.out, H4.out, H5.out]; rfl), HB.out⟩
end Od
end Go.Proofs.YtbllehjhmfehbaaGreat
end

section
/- Texts sorted, each once; slices.Contains, IndexFunc and ContainsFunc at texts; rows that rise. -/
namespace Go.Proofs.YtbllehjhmfehbaaGreat
open Go.RowKit Go.Maps Go.Sort

namespace Od
theorem sortS_le (ss : List Str) : LE ltS (sortS ss) := by
  have h := List.pairwise_mergeSort (le := fun x y : Str => decide (x ≤ y)) (fun a b c h1 h2 => by
    simp only [decide_eq_true_eq] at *
    exact List.le_trans h1 h2) (fun a b => by
    simp only [Bool.or_eq_true, decide_eq_true_eq]
    exact List.le_total a b) ss
  refine h.imp fun {a b} hab => ?_
  rw [ltS_false]
  exact List.not_lt.2 (by simpa using hab)
theorem mem_sortS {ss : List Str} {s : Str} : s ∈ sortS ss ↔ s ∈ ss := (List.mergeSort_perm _ _).mem_iff
theorem le_nodup_ss : ∀ {ss : List Str}, LE ltS ss → ss.Nodup → SS ltS ss
  | [], _, _ => List.Pairwise.nil
  | x :: r, h1, h2 => by
    obtain ⟨hx, hr⟩ := List.pairwise_cons.1 h1
    obtain ⟨hx2, hr2⟩ := List.nodup_cons.1 h2
    refine List.pairwise_cons.2 ⟨fun y hy => ?_, le_nodup_ss hr hr2⟩
    cases h : ltS x y
    · exact absurd (toS.total h (hx y hy)) (fun e => hx2 (e ▸ hy))
    · rfl
theorem sortS_ss {ss : List Str} (h : ss.Nodup) : SS ltS (sortS ss) := le_nodup_ss (sortS_le ss) ((List.mergeSort_perm _ _).nodup_iff.2 h)
theorem onceS_ss (ss : List Str) : SS ltS (onceS ss) := compact_ss toS (sortS_le ss)
theorem mem_onceS {ss : List Str} {s : Str} : s ∈ onceS ss ↔ s ∈ ss := by unfold onceS; rw [mem_compact, mem_sortS]
theorem onceS_canon (ss : List Str) : onceS ss = canon ltS ss := SS.eq_canon toS (onceS_ss ss) fun _ => mem_onceS
theorem idxOf_zs (ss : List Str) (x : Str) : Lib.containsS (ss.map fun s => (⟨s.toArray⟩ : ByteArray)) ⟨x.toArray⟩ = decide (x ∈ ss) := by
  rw [Bool.eq_iff_iff, Lib.containsS_iff, decide_eq_true_eq, List.mem_map]
  constructor
  · rintro ⟨a, ha, e⟩
    injection e with e
    have : a = x := by simpa using e
    exact this ▸ ha
  · intro h
    exact ⟨x, h, rfl⟩
theorem containsS_rd (A : Option Addr) (c : Nat) (ss : List Str) (x : Str) (w : World) (hr : Rd w w.heap.size 1 A ss.length (svs ss)) (hl : ss.length ≤ 1000000) :
    Calls Tryz.prog 108 #[.slice A ss.length c, sv x] w fun e w' => e = .returned (.bool (decide (x ∈ ss))) ∧ w' = w := by
  rcases Nat.eq_zero_or_pos ss.length with h0 | h0
  · have hn := List.length_eq_zero_iff.1 h0
    subst hn
    refine (Tryz.slices_Contains_string_empty A c _ w).mono ?_
    rintro e w' ⟨rfl, rfl⟩
    exact ⟨by simp, rfl⟩
  · obtain ⟨b, o, rfl, hb, hc⟩ := hr.open h0
    refine (Tryz.slices_Contains_string b o ss.length c (ss.map fun s => ⟨s.toArray⟩) ⟨x.toArray⟩ w (by simp) (by omega) (fun j hj => ?_)).mono ?_
    · have hj' : j < ss.length := by simpa using hj
      rw [hc j (by omega)]
      simp [svs, hj']
    · rintro e w' ⟨rfl, rfl⟩
      exact ⟨by rw [List.take_of_length_le (by simp), idxOf_zs], rfl⟩
theorem mem_outS {es : List Ed} {u s : Str} {rel : Int} : s ∈ outS es u rel ↔ (u, s, rel) ∈ es := by
  unfold outS outRaw
  rw [mem_onceS, List.mem_map]
  constructor
  · rintro ⟨⟨a, b, c⟩, h, rfl⟩
    obtain ⟨h1, h2⟩ := List.mem_filter.1 h
    have : a = u ∧ c = rel := by simpa [outP] using h2
    rw [← this.1, ← this.2]
    exact h1
  · intro h
    exact ⟨_, List.mem_filter.2 ⟨h, by simp [outP]⟩, rfl⟩
theorem hasE_out (es : List Ed) (u s : Str) (rel : Int) : decide (s ∈ outS es u rel) = hasE es u s rel := by
  rw [Bool.eq_iff_iff, decide_eq_true_eq, mem_outS, hasE_iff]

/-- A function value that says of a text whether p, whatever has been made since. -/
structure SaysS (g : Nat) (caps : Array Value) (p : Str → Bool) (w : World) : Prop where
  enters : ∀ (args : Array Value) (W : World), (callFunc g args).run Tryz.prog W = .ok (.enter g args) W
  says : ∀ (W : World) (s : Str), Below w.heap.size w W → Calls Tryz.prog g (#[sv s] ++ caps) W fun e w' => e = .returned (.bool (p s)) ∧ Below W.heap.size W w'
set_option maxRecDepth 100000 in
set_option maxHeartbeats 1000000 in
theorem IndexFuncS (A : Option Addr) (c : Nat) (ss : List Str) (g : Nat) (caps : Array Value) (p : Str → Bool) (w : World) (hr : Rd w w.heap.size 1 A ss.length (svs ss)) (hl : ss.length ≤ 1000000) (hp : SaysS g caps p w) :
    Calls Tryz.prog 114 #[.slice A ss.length c, .func (.func g) #[] caps] w (FindIdx ss p w) := by
  have Hr := Lib.hid hr
  have Hp := Lib.hid hp
  have eg := hp.enters
  clear hr hp
  go_enter Tryz.func114, Tryz.ntmps114
  go_wp2_with fail
  go_loopw [8] (fun i wr => ∃ k : Nat, k ≤ ss.length ∧ i = .int .i64 k ∧ Hid ((ss.take k).any p = false) ∧ Below w.heap.size w wr) (fun i _ => ss.length - (intOf i).toNat)
  case atStart => exact ⟨0, Nat.zero_le _, rfl, by simp [Hid], Below.refl _ _⟩
  case round =>
    obtain ⟨k, hk, rfl, hall, hbel⟩ := hrel
    by_cases hlt : k < ss.length
    · obtain ⟨b, o, rfl, hB, hc0⟩ := (Hr.out.on (Nat.le_refl _) hbel).str hlt
      have Hbel := Lib.hid hbel
      clear hbel
      generalize hx : ss[k] = x at hc0
      have Hx := Lib.hid hx
      clear hx
      have hcall := Hp.out.says wr x Hbel.out
      have Hcall := Lib.hid hcall
      clear hcall
      go_wp2_with fail
      refine Hcall.out.mono ?_
      rintro e w2 ⟨rfl, hb2⟩
      have Hb2 := Lib.hid (Hbel.out.trans (hb2.mono Hbel.out.size))
      clear hb2
      cases hpx : p x
      · have Hpx := Lib.hid hpx
        go_wp2_with fail
        go_roundw
        case rel => exact ⟨k + 1, by omega, by go_num, by show _ = false; rw [any_take_succ hlt, hall.out, Hx.out, Hpx.out]; rfl, Hb2.out⟩
        case measure => simp [intOf]; omega
      · have Hpx := Lib.hid hpx
        go_wp2_with fail
        go_ret
        exact ⟨k, rfl, .inr ⟨k, hlt, rfl, find_at hlt hall.out (by rw [Hx.out]; exact Hpx.out), by rw [Hx.out]; exact Hpx.out, fun j hj => take_any_at hk hall.out hj⟩, Hb2.out⟩
    · have ha := hall.out
      rw [List.take_of_length_le (by omega)] at ha
      have Ha := Lib.hid ha
      clear ha
      go_wp2_with fail
      go_ret
      exact ⟨-1, rfl, .inl ⟨rfl, find_none_take Ha.out⟩, hbel⟩
set_option maxHeartbeats 1000000 in
theorem ContainsFuncS (A : Option Addr) (c : Nat) (ss : List Str) (g : Nat) (caps : Array Value) (p : Str → Bool) (w : World) (hr : Rd w w.heap.size 1 A ss.length (svs ss)) (hl : ss.length ≤ 1000000) (hp : SaysS g caps p w) :
    Calls Tryz.prog 116 #[.slice A ss.length c, .func (.func g) #[] caps] w fun e w' => e = .returned (.bool (ss.any p)) ∧ Below w.heap.size w w' := by
  go_enter Tryz.func116, Tryz.ntmps116
  go_wp2_with fail
  refine (IndexFuncS A c ss g caps p w hr hl hp).mono ?_
  rintro e w2 ⟨r, rfl, hcase, hb⟩
  have hiff : decide ((0 : Int) ≤ r) = ss.any p := by
    rcases hcase with ⟨rfl, h⟩ | ⟨k, hk, rfl, _, h, _⟩
    · rw [Bool.eq_iff_iff]
      constructor
      · intro h; simp at h
      · intro h2; obtain ⟨x, hx, hpx⟩ := List.any_eq_true.1 h2; rw [List.find?_eq_none] at h; exact absurd hpx (h x hx)
    · rw [any_of_at hk h]; simp
  have Hiff := Lib.hid hiff
  clear hiff hcase
  go_wp2_with fail
  go_ret
  exact ⟨ret_bool Hiff.out, hb⟩
theorem up_pw {α : Type} {c : α → α → Int} (ht : ∀ x y z, c x y < 0 → c y z < 0 → c x z < 0) : ∀ {l : List α}, risesB c l = true → l.Pairwise (fun x y => c x y < 0)
  | [], _ => .nil
  | [x], _ => List.pairwise_singleton _ _
  | x :: y :: r, h => by
    unfold risesB at h
    rw [Bool.and_eq_true, decide_eq_true_eq] at h
    have ih := up_pw ht h.2
    refine List.pairwise_cons.2 ⟨fun z hz => ?_, ih⟩
    rcases List.mem_cons.1 hz with e | e
    · rw [e]; exact h.1
    · exact ht _ _ _ h.1 ((List.pairwise_cons.1 ih).1 z e)
theorem pw_up {α : Type} {c : α → α → Int} : ∀ {l : List α}, l.Pairwise (fun x y => c x y < 0) → risesB c l = true
  | [], _ => rfl
  | [x], _ => rfl
  | x :: y :: r, h => by
    unfold risesB
    obtain ⟨h1, h2⟩ := List.pairwise_cons.1 h
    rw [Bool.and_eq_true, decide_eq_true_eq]
    exact ⟨h1 y (.head _), pw_up h2⟩
theorem aheadB_prs {es : List Ed} {a b : Str} : es.any (aheadB a b) = true ↔ (a, b) ∈ prsL es := by
  rw [List.any_eq_true, mem_prsL]
  have hp : ∀ e : Ed, pairOf e = pairE e := fun e => rfl
  simp only [aheadB, hp, beq_iff_eq]
theorem lessS_lt (a b : Str) : lessS a b = ltS a b := rfl
end Od
end Go.Proofs.YtbllehjhmfehbaaGreat
end
