/- My texts, joined for the claim: NMay QBase PMath. -/
import Derived.Test.YtbllehjhmfehbaaGreatZT1
import Derived.Test.YtbllehjhmfehbaaGreatZT3
import Derived.Test.YtbllehjhmfehbaaGreatZT2

section
/- The walks of graph.mayNode and graph.May. -/
namespace Go.Proofs.YtbllehjhmfehbaaGreat
open Go.RowKit

namespace Od
def mayN (n : Nd) : Bool := kindS n.1 != 0 && ((n.2.1 == kindS n.1) && (decide (1 ≤ n.2.2) && decide (n.2.2 ≤ 4)))
set_option maxRecDepth 100000 in
set_option maxHeartbeats 4000000 in
theorem mayNode_any (s : Str) (k r : Int) (w : World) (hl : s.length ≤ 140737488355328) : Calls Tryz.prog 61 #[.agg #[sv s, .int .i64 k, .int .i64 r]] w fun e w' => e = .returned (.bool (mayN (s, k, r))) ∧ Below w.heap.size w w' := by
  have hm : mayN (s, k, r) = (kindS s != 0 && ((k == kindS s) && (decide (1 ≤ r) && decide (r ≤ 4)))) := rfl
  have HM := Lib.hid hm
  clear hm
  go_enter Tryz.func61, Tryz.ntmps61
  go_wp2_with fail
  first | (refine wp_named ?_; intro W1 hW) | (refine calls_named ?_; intro W1 hW)
  have B1 : Below w.heap.size w W1 := by rw [hW]; exact (by repeat (first | exact Below.refl _ _ | assumption | refine Below.alloc ?_ (by simp <;> omega) _ | refine Below.setCell ?_ (by simp <;> omega) _ | refine Below.drew ?_))
  have n1 : w.heap.size < W1.heap.size := by rw [hW]; simp <;> omega
  have c0 : W1.cell? ⟨w.heap.size, 0, none⟩ = some (sv s) := by rw [hW]; go_simp
  have c1 : W1.cell? ⟨w.heap.size, 1, none⟩ = some (.int .i64 k) := by rw [hW]; go_simp
  have c2 : W1.cell? ⟨w.heap.size, 2, none⟩ = some (.int .i64 r) := by rw [hW]; go_simp
  clear hW
  have HB := Lib.hid B1
  clear B1
  cases h1 : (kindS s != 0)
  · have H1 := Lib.hid h1
    try go_wp2_with fail
    refine wp_region_held_drew (S := fun w' => Below W1.heap.size W1 w') (by kernel_rfl) (Below.drew (Below.refl _ _)) (fun hHeld => ?_)
    refine tY (i := 0) (v := ?_) rfl ?_ hHeld ?_; rotate_left 1; focus (intro w' hSw; clear hSw; go_simp; try with_reducible rfl)
    (try simp only [Act.put, zn1, zn2, zn3])
    refine tY (i := 1) (v := ?_) rfl ?_ hHeld ?_; rotate_left 1; focus (intro w' hSw; have hCell := fun (b o : Nat) (h : b < W1.heap.size) => hSw.cell (p := ⟨b, o, none⟩) h; clear hSw; go_simp; try with_reducible rfl)
    (try simp only [Act.put, zn1, zn2, zn3])
    refine ready_one (i := 2) rfl (by kernel_rfl) (fun K hK => ?_)
    go_simp
    refine (May_any s _ hl).mono ?_
    rintro e v2 ⟨rfl, hb⟩
    refine hK.out _ _ ?_ (fun hHeld2 => ?_)
    · (try dsimp only); first | exact Below.trans hHeld (Below.mono hb hHeld.size) | exact hHeld | exact Below.drew hHeld | exact (by repeat (first | exact Below.refl _ _ | assumption | refine Below.alloc ?_ (by simp <;> omega) _ | refine Below.setCell ?_ (by simp <;> omega) _ | refine Below.drew ?_))
    clear hK K hHeld; have hHeld := hHeld2; clear hHeld2; (try simp only [Act.put, zn1, zn2, zn3])
    refine tY (i := 3) (v := ?_) rfl ?_ hHeld ?_; rotate_left 1; focus (intro w' hSw; clear hSw; go_simp; try with_reducible rfl)
    (try simp only [Act.put, zn1, zn2, zn3])
    refine tS (i := 4) rfl hHeld ?_; (try simp only [Act.put, zn1, zn2, zn3])
    refine tS (i := 5) rfl hHeld ?_; (try simp only [Act.put, zn1, zn2, zn3])
    refine tS (i := 6) rfl hHeld ?_; (try simp only [Act.put, zn1, zn2, zn3])
    refine tS (i := 7) rfl hHeld ?_; (try simp only [Act.put, zn1, zn2, zn3])
    refine tS (i := 8) rfl hHeld ?_; (try simp only [Act.put, zn1, zn2, zn3])
    refine tS (i := 9) rfl hHeld ?_; (try simp only [Act.put, zn1, zn2, zn3])
    refine tY (i := 10) (v := ?_) rfl ?_ hHeld ?_; rotate_left 1; focus (intro w' hSw; clear hSw; go_simp; try with_reducible rfl)
    (try simp only [Act.put, zn1, zn2, zn3])
    refine tY (i := 11) (v := ?_) rfl ?_ hHeld ?_; rotate_left 1; focus (intro w' hSw; clear hSw; go_simp; try with_reducible rfl)
    (try simp only [Act.put, zn1, zn2, zn3])
    refine tS (i := 12) rfl hHeld ?_; (try simp only [Act.put, zn1, zn2, zn3])
    refine tS (i := 13) rfl hHeld ?_; (try simp only [Act.put, zn1, zn2, zn3])
    refine tS (i := 14) rfl hHeld ?_; (try simp only [Act.put, zn1, zn2, zn3])
    refine tY (i := 15) (v := ?_) rfl ?_ hHeld ?_; rotate_left 1; focus (intro w' hSw; clear hSw; go_simp; try with_reducible rfl)
    (try simp only [Act.put, zn1, zn2, zn3])
    refine tY (i := 16) (v := ?_) rfl ?_ hHeld ?_; rotate_left 1; focus (intro w' hSw; clear hSw; go_simp; try with_reducible rfl)
    (try simp only [Act.put, zn1, zn2, zn3])
    refine tS (i := 17) rfl hHeld ?_; (try simp only [Act.put, zn1, zn2, zn3])
    refine tS (i := 18) rfl hHeld ?_; (try simp only [Act.put, zn1, zn2, zn3])
    refine tS (i := 19) rfl hHeld ?_; (try simp only [Act.put, zn1, zn2, zn3])
    refine tY (i := 20) (v := ?_) rfl ?_ hHeld ?_; rotate_left 1; focus (intro w' hSw; clear hSw; go_simp; try with_reducible rfl)
    (try simp only [Act.put, zn1, zn2, zn3])
    refine tY (i := 21) (v := ?_) rfl ?_ hHeld ?_; rotate_left 1; focus (intro w' hSw; clear hSw; go_simp; try with_reducible rfl)
    (try simp only [Act.put, zn1, zn2, zn3])
    refine wpAnyH_done (by kernel_rfl) ?_ _
    go_wp2_with fail
    go_ret
    exact ⟨ret_bool (by rw [HM.out]; simp [H1.out]), lift HB.out hHeld⟩
  · have H1 := Lib.hid h1
    cases h2 : (k == kindS s)
    · have H2 := Lib.hid h2
      try go_wp2_with fail
      refine wp_region_held_drew (S := fun w' => Below W1.heap.size W1 w') (by kernel_rfl) (Below.drew (Below.refl _ _)) (fun hHeld => ?_)
      refine tY (i := 0) (v := ?_) rfl ?_ hHeld ?_; rotate_left 1; focus (intro w' hSw; clear hSw; go_simp; try with_reducible rfl)
      (try simp only [Act.put, zn1, zn2, zn3])
      refine tY (i := 1) (v := ?_) rfl ?_ hHeld ?_; rotate_left 1; focus (intro w' hSw; have hCell := fun (b o : Nat) (h : b < W1.heap.size) => hSw.cell (p := ⟨b, o, none⟩) h; clear hSw; go_simp; try with_reducible rfl)
      (try simp only [Act.put, zn1, zn2, zn3])
      refine ready_one (i := 2) rfl (by kernel_rfl) (fun K hK => ?_)
      go_simp
      refine (May_any s _ hl).mono ?_
      rintro e v2 ⟨rfl, hb⟩
      refine hK.out _ _ ?_ (fun hHeld2 => ?_)
      · (try dsimp only); first | exact Below.trans hHeld (Below.mono hb hHeld.size) | exact hHeld | exact Below.drew hHeld | exact (by repeat (first | exact Below.refl _ _ | assumption | refine Below.alloc ?_ (by simp <;> omega) _ | refine Below.setCell ?_ (by simp <;> omega) _ | refine Below.drew ?_))
      clear hK K hHeld; have hHeld := hHeld2; clear hHeld2; (try simp only [Act.put, zn1, zn2, zn3])
      refine tY (i := 3) (v := ?_) rfl ?_ hHeld ?_; rotate_left 1; focus (intro w' hSw; clear hSw; go_simp; try with_reducible rfl)
      (try simp only [Act.put, zn1, zn2, zn3])
      refine tY (i := 4) (v := ?_) rfl ?_ hHeld ?_; rotate_left 1; focus (intro w' hSw; clear hSw; go_simp; try with_reducible rfl)
      (try simp only [Act.put, zn1, zn2, zn3])
      refine tY (i := 5) (v := ?_) rfl ?_ hHeld ?_; rotate_left 1; focus (intro w' hSw; have hCell := fun (b o : Nat) (h : b < W1.heap.size) => hSw.cell (p := ⟨b, o, none⟩) h; clear hSw; go_simp; try with_reducible rfl)
      (try simp only [Act.put, zn1, zn2, zn3])
      refine tY (i := 6) (v := ?_) rfl ?_ hHeld ?_; rotate_left 1; focus (intro w' hSw; clear hSw; go_simp; try with_reducible rfl)
      (try simp only [Act.put, zn1, zn2, zn3])
      refine tY (i := 7) (v := ?_) rfl ?_ hHeld ?_; rotate_left 1; focus (intro w' hSw; have hCell := fun (b o : Nat) (h : b < W1.heap.size) => hSw.cell (p := ⟨b, o, none⟩) h; clear hSw; go_simp; try with_reducible rfl)
      (try simp only [Act.put, zn1, zn2, zn3])
      refine ready_one (i := 8) rfl (by kernel_rfl) (fun K hK => ?_)
      go_simp
      refine (Kind_any s _ hl).mono ?_
      rintro e v3 ⟨rfl, hb⟩
      refine hK.out _ _ ?_ (fun hHeld2 => ?_)
      · (try dsimp only); first | exact Below.trans hHeld (Below.mono hb hHeld.size) | exact hHeld | exact Below.drew hHeld | exact (by repeat (first | exact Below.refl _ _ | assumption | refine Below.alloc ?_ (by simp <;> omega) _ | refine Below.setCell ?_ (by simp <;> omega) _ | refine Below.drew ?_))
      clear hK K hHeld; have hHeld := hHeld2; clear hHeld2; (try simp only [Act.put, zn1, zn2, zn3])
      refine tY (i := 9) (v := ?_) rfl ?_ hHeld ?_; rotate_left 1; focus (intro w' hSw; clear hSw; go_simp; try with_reducible rfl)
      (try simp only [Act.put, zn1, zn2, zn3])
      refine tY (i := 10) (v := ?_) rfl ?_ hHeld ?_; rotate_left 1; focus (intro w' hSw; clear hSw; go_simp; try with_reducible rfl)
      (try simp only [Act.put, zn1, zn2, zn3])
      refine tY (i := 11) (v := ?_) rfl ?_ hHeld ?_; rotate_left 1; focus (intro w' hSw; clear hSw; go_simp; try with_reducible rfl)
      (try simp only [Act.put, zn1, zn2, zn3])
      refine tS (i := 12) rfl hHeld ?_; (try simp only [Act.put, zn1, zn2, zn3])
      refine tS (i := 13) rfl hHeld ?_; (try simp only [Act.put, zn1, zn2, zn3])
      refine tS (i := 14) rfl hHeld ?_; (try simp only [Act.put, zn1, zn2, zn3])
      refine tY (i := 15) (v := ?_) rfl ?_ hHeld ?_; rotate_left 1; focus (intro w' hSw; clear hSw; go_simp; try with_reducible rfl)
      (try simp only [Act.put, zn1, zn2, zn3])
      refine tY (i := 16) (v := ?_) rfl ?_ hHeld ?_; rotate_left 1; focus (intro w' hSw; clear hSw; go_simp; try with_reducible rfl)
      (try simp only [Act.put, zn1, zn2, zn3])
      refine tS (i := 17) rfl hHeld ?_; (try simp only [Act.put, zn1, zn2, zn3])
      refine tS (i := 18) rfl hHeld ?_; (try simp only [Act.put, zn1, zn2, zn3])
      refine tS (i := 19) rfl hHeld ?_; (try simp only [Act.put, zn1, zn2, zn3])
      refine tY (i := 20) (v := ?_) rfl ?_ hHeld ?_; rotate_left 1; focus (intro w' hSw; clear hSw; go_simp; try with_reducible rfl)
      (try simp only [Act.put, zn1, zn2, zn3])
      refine tY (i := 21) (v := ?_) rfl ?_ hHeld ?_; rotate_left 1; focus (intro w' hSw; clear hSw; go_simp; try with_reducible rfl)
      (try simp only [Act.put, zn1, zn2, zn3])
      refine wpAnyH_done (by kernel_rfl) ?_ _
      go_wp2_with fail
      go_ret
      exact ⟨ret_bool (by rw [HM.out]; simp [H1.out, H2.out]), lift HB.out hHeld⟩
    · have H2 := Lib.hid h2
      cases h3 : decide (1 ≤ r)
      · have H3 := Lib.hid h3
        try go_wp2_with fail
        refine wp_region_held_drew (S := fun w' => Below W1.heap.size W1 w') (by kernel_rfl) (Below.drew (Below.refl _ _)) (fun hHeld => ?_)
        refine tY (i := 0) (v := ?_) rfl ?_ hHeld ?_; rotate_left 1; focus (intro w' hSw; clear hSw; go_simp; try with_reducible rfl)
        (try simp only [Act.put, zn1, zn2, zn3])
        refine tY (i := 1) (v := ?_) rfl ?_ hHeld ?_; rotate_left 1; focus (intro w' hSw; have hCell := fun (b o : Nat) (h : b < W1.heap.size) => hSw.cell (p := ⟨b, o, none⟩) h; clear hSw; go_simp; try with_reducible rfl)
        (try simp only [Act.put, zn1, zn2, zn3])
        refine ready_one (i := 2) rfl (by kernel_rfl) (fun K hK => ?_)
        go_simp
        refine (May_any s _ hl).mono ?_
        rintro e v2 ⟨rfl, hb⟩
        refine hK.out _ _ ?_ (fun hHeld2 => ?_)
        · (try dsimp only); first | exact Below.trans hHeld (Below.mono hb hHeld.size) | exact hHeld | exact Below.drew hHeld | exact (by repeat (first | exact Below.refl _ _ | assumption | refine Below.alloc ?_ (by simp <;> omega) _ | refine Below.setCell ?_ (by simp <;> omega) _ | refine Below.drew ?_))
        clear hK K hHeld; have hHeld := hHeld2; clear hHeld2; (try simp only [Act.put, zn1, zn2, zn3])
        refine tY (i := 3) (v := ?_) rfl ?_ hHeld ?_; rotate_left 1; focus (intro w' hSw; clear hSw; go_simp; try with_reducible rfl)
        (try simp only [Act.put, zn1, zn2, zn3])
        refine tY (i := 4) (v := ?_) rfl ?_ hHeld ?_; rotate_left 1; focus (intro w' hSw; clear hSw; go_simp; try with_reducible rfl)
        (try simp only [Act.put, zn1, zn2, zn3])
        refine tY (i := 5) (v := ?_) rfl ?_ hHeld ?_; rotate_left 1; focus (intro w' hSw; have hCell := fun (b o : Nat) (h : b < W1.heap.size) => hSw.cell (p := ⟨b, o, none⟩) h; clear hSw; go_simp; try with_reducible rfl)
        (try simp only [Act.put, zn1, zn2, zn3])
        refine tY (i := 6) (v := ?_) rfl ?_ hHeld ?_; rotate_left 1; focus (intro w' hSw; clear hSw; go_simp; try with_reducible rfl)
        (try simp only [Act.put, zn1, zn2, zn3])
        refine tY (i := 7) (v := ?_) rfl ?_ hHeld ?_; rotate_left 1; focus (intro w' hSw; have hCell := fun (b o : Nat) (h : b < W1.heap.size) => hSw.cell (p := ⟨b, o, none⟩) h; clear hSw; go_simp; try with_reducible rfl)
        (try simp only [Act.put, zn1, zn2, zn3])
        refine ready_one (i := 8) rfl (by kernel_rfl) (fun K hK => ?_)
        go_simp
        refine (Kind_any s _ hl).mono ?_
        rintro e v3 ⟨rfl, hb⟩
        refine hK.out _ _ ?_ (fun hHeld2 => ?_)
        · (try dsimp only); first | exact Below.trans hHeld (Below.mono hb hHeld.size) | exact hHeld | exact Below.drew hHeld | exact (by repeat (first | exact Below.refl _ _ | assumption | refine Below.alloc ?_ (by simp <;> omega) _ | refine Below.setCell ?_ (by simp <;> omega) _ | refine Below.drew ?_))
        clear hK K hHeld; have hHeld := hHeld2; clear hHeld2; (try simp only [Act.put, zn1, zn2, zn3])
        refine tY (i := 9) (v := ?_) rfl ?_ hHeld ?_; rotate_left 1; focus (intro w' hSw; clear hSw; go_simp; try with_reducible rfl)
        (try simp only [Act.put, zn1, zn2, zn3])
        refine tY (i := 10) (v := ?_) rfl ?_ hHeld ?_; rotate_left 1; focus (intro w' hSw; clear hSw; go_simp; try with_reducible rfl)
        (try simp only [Act.put, zn1, zn2, zn3])
        refine tY (i := 11) (v := ?_) rfl ?_ hHeld ?_; rotate_left 1; focus (intro w' hSw; clear hSw; go_simp; try with_reducible rfl)
        (try simp only [Act.put, zn1, zn2, zn3])
        refine tY (i := 12) (v := ?_) rfl ?_ hHeld ?_; rotate_left 1; focus (intro w' hSw; clear hSw; go_simp; try with_reducible rfl)
        (try simp only [Act.put, zn1, zn2, zn3])
        refine tY (i := 13) (v := ?_) rfl ?_ hHeld ?_; rotate_left 1; focus (intro w' hSw; have hCell := fun (b o : Nat) (h : b < W1.heap.size) => hSw.cell (p := ⟨b, o, none⟩) h; clear hSw; go_simp; try with_reducible rfl)
        (try simp only [Act.put, zn1, zn2, zn3])
        refine tY (i := 14) (v := ?_) rfl ?_ hHeld ?_; rotate_left 1; focus (intro w' hSw; clear hSw; go_simp; try with_reducible rfl)
        (try simp only [Act.put, zn1, zn2, zn3])
        refine tY (i := 15) (v := ?_) rfl ?_ hHeld ?_; rotate_left 1; focus (intro w' hSw; clear hSw; go_simp; try with_reducible rfl)
        (try simp only [Act.put, zn1, zn2, zn3])
        refine tY (i := 16) (v := ?_) rfl ?_ hHeld ?_; rotate_left 1; focus (intro w' hSw; clear hSw; go_simp; try with_reducible rfl)
        (try simp only [Act.put, zn1, zn2, zn3])
        refine tS (i := 17) rfl hHeld ?_; (try simp only [Act.put, zn1, zn2, zn3])
        refine tS (i := 18) rfl hHeld ?_; (try simp only [Act.put, zn1, zn2, zn3])
        refine tS (i := 19) rfl hHeld ?_; (try simp only [Act.put, zn1, zn2, zn3])
        refine tY (i := 20) (v := ?_) rfl ?_ hHeld ?_; rotate_left 1; focus (intro w' hSw; clear hSw; go_simp; try with_reducible rfl)
        (try simp only [Act.put, zn1, zn2, zn3])
        refine tY (i := 21) (v := ?_) rfl ?_ hHeld ?_; rotate_left 1; focus (intro w' hSw; clear hSw; go_simp; try with_reducible rfl)
        (try simp only [Act.put, zn1, zn2, zn3])
        refine wpAnyH_done (by kernel_rfl) ?_ _
        go_wp2_with fail
        go_ret
        exact ⟨ret_bool (by rw [HM.out]; simp [H1.out, H2.out, H3.out]), lift HB.out hHeld⟩
      · have H3 := Lib.hid h3
        try go_wp2_with fail
        refine wp_region_held_drew (S := fun w' => Below W1.heap.size W1 w') (by kernel_rfl) (Below.drew (Below.refl _ _)) (fun hHeld => ?_)
        refine tY (i := 0) (v := ?_) rfl ?_ hHeld ?_; rotate_left 1; focus (intro w' hSw; clear hSw; go_simp; try with_reducible rfl)
        (try simp only [Act.put, zn1, zn2, zn3])
        refine tY (i := 1) (v := ?_) rfl ?_ hHeld ?_; rotate_left 1; focus (intro w' hSw; have hCell := fun (b o : Nat) (h : b < W1.heap.size) => hSw.cell (p := ⟨b, o, none⟩) h; clear hSw; go_simp; try with_reducible rfl)
        (try simp only [Act.put, zn1, zn2, zn3])
        refine ready_one (i := 2) rfl (by kernel_rfl) (fun K hK => ?_)
        go_simp
        refine (May_any s _ hl).mono ?_
        rintro e v2 ⟨rfl, hb⟩
        refine hK.out _ _ ?_ (fun hHeld2 => ?_)
        · (try dsimp only); first | exact Below.trans hHeld (Below.mono hb hHeld.size) | exact hHeld | exact Below.drew hHeld | exact (by repeat (first | exact Below.refl _ _ | assumption | refine Below.alloc ?_ (by simp <;> omega) _ | refine Below.setCell ?_ (by simp <;> omega) _ | refine Below.drew ?_))
        clear hK K hHeld; have hHeld := hHeld2; clear hHeld2; (try simp only [Act.put, zn1, zn2, zn3])
        refine tY (i := 3) (v := ?_) rfl ?_ hHeld ?_; rotate_left 1; focus (intro w' hSw; clear hSw; go_simp; try with_reducible rfl)
        (try simp only [Act.put, zn1, zn2, zn3])
        refine tY (i := 4) (v := ?_) rfl ?_ hHeld ?_; rotate_left 1; focus (intro w' hSw; clear hSw; go_simp; try with_reducible rfl)
        (try simp only [Act.put, zn1, zn2, zn3])
        refine tY (i := 5) (v := ?_) rfl ?_ hHeld ?_; rotate_left 1; focus (intro w' hSw; have hCell := fun (b o : Nat) (h : b < W1.heap.size) => hSw.cell (p := ⟨b, o, none⟩) h; clear hSw; go_simp; try with_reducible rfl)
        (try simp only [Act.put, zn1, zn2, zn3])
        refine tY (i := 6) (v := ?_) rfl ?_ hHeld ?_; rotate_left 1; focus (intro w' hSw; clear hSw; go_simp; try with_reducible rfl)
        (try simp only [Act.put, zn1, zn2, zn3])
        refine tY (i := 7) (v := ?_) rfl ?_ hHeld ?_; rotate_left 1; focus (intro w' hSw; have hCell := fun (b o : Nat) (h : b < W1.heap.size) => hSw.cell (p := ⟨b, o, none⟩) h; clear hSw; go_simp; try with_reducible rfl)
        (try simp only [Act.put, zn1, zn2, zn3])
        refine ready_one (i := 8) rfl (by kernel_rfl) (fun K hK => ?_)
        go_simp
        refine (Kind_any s _ hl).mono ?_
        rintro e v3 ⟨rfl, hb⟩
        refine hK.out _ _ ?_ (fun hHeld2 => ?_)
        · (try dsimp only); first | exact Below.trans hHeld (Below.mono hb hHeld.size) | exact hHeld | exact Below.drew hHeld | exact (by repeat (first | exact Below.refl _ _ | assumption | refine Below.alloc ?_ (by simp <;> omega) _ | refine Below.setCell ?_ (by simp <;> omega) _ | refine Below.drew ?_))
        clear hK K hHeld; have hHeld := hHeld2; clear hHeld2; (try simp only [Act.put, zn1, zn2, zn3])
        refine tY (i := 9) (v := ?_) rfl ?_ hHeld ?_; rotate_left 1; focus (intro w' hSw; clear hSw; go_simp; try with_reducible rfl)
        (try simp only [Act.put, zn1, zn2, zn3])
        refine tY (i := 10) (v := ?_) rfl ?_ hHeld ?_; rotate_left 1; focus (intro w' hSw; clear hSw; go_simp; try with_reducible rfl)
        (try simp only [Act.put, zn1, zn2, zn3])
        refine tY (i := 11) (v := ?_) rfl ?_ hHeld ?_; rotate_left 1; focus (intro w' hSw; clear hSw; go_simp; try with_reducible rfl)
        (try simp only [Act.put, zn1, zn2, zn3])
        refine tY (i := 12) (v := ?_) rfl ?_ hHeld ?_; rotate_left 1; focus (intro w' hSw; clear hSw; go_simp; try with_reducible rfl)
        (try simp only [Act.put, zn1, zn2, zn3])
        refine tY (i := 13) (v := ?_) rfl ?_ hHeld ?_; rotate_left 1; focus (intro w' hSw; have hCell := fun (b o : Nat) (h : b < W1.heap.size) => hSw.cell (p := ⟨b, o, none⟩) h; clear hSw; go_simp; try with_reducible rfl)
        (try simp only [Act.put, zn1, zn2, zn3])
        refine tY (i := 14) (v := ?_) rfl ?_ hHeld ?_; rotate_left 1; focus (intro w' hSw; clear hSw; go_simp; try with_reducible rfl)
        (try simp only [Act.put, zn1, zn2, zn3])
        refine tY (i := 15) (v := ?_) rfl ?_ hHeld ?_; rotate_left 1; focus (intro w' hSw; clear hSw; go_simp; try with_reducible rfl)
        (try simp only [Act.put, zn1, zn2, zn3])
        refine tY (i := 16) (v := ?_) rfl ?_ hHeld ?_; rotate_left 1; focus (intro w' hSw; clear hSw; go_simp; try with_reducible rfl)
        (try simp only [Act.put, zn1, zn2, zn3])
        refine tY (i := 17) (v := ?_) rfl ?_ hHeld ?_; rotate_left 1; focus (intro w' hSw; clear hSw; go_simp; try with_reducible rfl)
        (try simp only [Act.put, zn1, zn2, zn3])
        refine tY (i := 18) (v := ?_) rfl ?_ hHeld ?_; rotate_left 1; focus (intro w' hSw; have hCell := fun (b o : Nat) (h : b < W1.heap.size) => hSw.cell (p := ⟨b, o, none⟩) h; clear hSw; go_simp; try with_reducible rfl)
        (try simp only [Act.put, zn1, zn2, zn3])
        refine tY (i := 19) (v := ?_) rfl ?_ hHeld ?_; rotate_left 1; focus (intro w' hSw; clear hSw; go_simp; try with_reducible rfl)
        (try simp only [Act.put, zn1, zn2, zn3])
        refine tY (i := 20) (v := ?_) rfl ?_ hHeld ?_; rotate_left 1; focus (intro w' hSw; clear hSw; go_simp; try with_reducible rfl)
        (try simp only [Act.put, zn1, zn2, zn3])
        refine tY (i := 21) (v := ?_) rfl ?_ hHeld ?_; rotate_left 1; focus (intro w' hSw; clear hSw; go_simp; try with_reducible rfl)
        (try simp only [Act.put, zn1, zn2, zn3])
        refine wpAnyH_done (by kernel_rfl) ?_ _
        go_wp2_with fail
        go_ret
        exact ⟨ret_bool (by rw [HM.out]; simp [H1.out, H2.out, H3.out]), lift HB.out hHeld⟩
/-- May an edge stand in a graph with these nodes? -/
def edgeOk (ns : List Nd) (e : Ed) : Bool := (nodeOf ns e.1).isSome && ((nodeOf ns e.2.1).isSome && (!(e.1 == e.2.1) && (((nodeOf ns e.1).getD ([], 0, 0)).2.2 == 1 && (!decide (e.2.2 < 1) && !decide (10 < e.2.2)))))
def mayG (ns : List Nd) (es : List Ed) : Bool := !decide ((64 : Int) < (ns.length : Int)) && (risesB nodeCmp ns && (risesB edgeCmp es && (ns.all mayN && es.all (edgeOk ns))))
def OkNs (ns : List Nd) : Prop := ∀ n ∈ ns, n.1.length ≤ 140737488355328
theorem all_take_succ {α : Type} {p : α → Bool} {l : List α} {k : Nat} (hk : k < l.length) : (l.take (k + 1)).all p = ((l.take k).all p && p l[k]) := by
  rw [List.take_succ_eq_append_getElem hk, List.all_append]; simp
theorem all_false_at {α : Type} {p : α → Bool} {l : List α} {k : Nat} (hk : k < l.length) (h : p l[k] = false) : l.all p = false := by
  rw [List.all_eq_false]; exact ⟨l[k], List.getElem_mem hk, by simp [h]⟩
set_option maxRecDepth 100000 in
set_option maxHeartbeats 8000000 in
theorem MayG_any (An Ae : Option Addr) (cn ce : Nat) (ns : List Nd) (es : List Ed) (w : World) (hn : Rd w w.heap.size 3 An ns.length (ndsC ns)) (hr : Rd w w.heap.size 3 Ae es.length (edsC es)) (hln : ns.length ≤ 1000000) (hl : es.length ≤ 1000000) (hok : OkNs ns) :
    Calls Tryz.prog 23 #[gV An ns.length cn Ae es.length ce] w fun e w' => e = .returned (.bool (mayG ns es)) ∧ Below w.heap.size w w' := by
  have Hn := Lib.hid hn
  have Hr := Lib.hid hr
  have HO := Lib.hid hok
  have HM := Lib.hid (show mayG ns es = (!decide ((64 : Int) < (ns.length : Int)) && (risesB nodeCmp ns && (risesB edgeCmp es && (ns.all mayN && es.all (edgeOk ns))))) from rfl)
  clear hn hr hok
  by_cases h64 : (64 : Int) < (ns.length : Int)
  · have h1 : decide ((64 : Int) < (ns.length : Int)) = true := by simpa using h64
    have H1 := Lib.hid h1
    go_enter Tryz.func23, Tryz.ntmps23
    go_wp2_with fail
    go_ret
    exact ⟨ret_bool (by rw [HM.out, H1.out]; rfl), (by repeat (first | exact Below.refl _ _ | assumption | refine Below.alloc ?_ (by simp <;> omega) _ | refine Below.setCell ?_ (by simp <;> omega) _ | refine Below.drew ?_))⟩
  · have h1 : decide ((64 : Int) < (ns.length : Int)) = false := by simpa using h64
    have H1 := Lib.hid h1
    go_enter Tryz.func23, Tryz.ntmps23
    go_wp2_with fail
    first | (refine wp_named ?_; intro W1 hW) | (refine calls_named ?_; intro W1 hW)
    have B1 : Below w.heap.size w W1 := by rw [hW]; exact (by repeat (first | exact Below.refl _ _ | assumption | refine Below.alloc ?_ (by simp <;> omega) _ | refine Below.setCell ?_ (by simp <;> omega) _ | refine Below.drew ?_))
    replace Hr := Lib.hid (Hr.out.at B1)
    replace Hn := Lib.hid (Hn.out.at B1)
    have n1 : w.heap.size < W1.heap.size := by rw [hW]; simp <;> omega
    have c0 : W1.cell? ⟨w.heap.size, 0, none⟩ = some (.slice An ns.length cn) := by rw [hW]; go_simp
    have c1 : W1.cell? ⟨w.heap.size, 1, none⟩ = some (.slice Ae es.length ce) := by rw [hW]; go_simp
    clear hW
    have HB := Lib.hid B1
    clear B1
    go_wp2_with fail
    refine (risesN_any _ cn ns W1 Hn.out hln).mono ?_
    rintro e v1 ⟨rfl, hb⟩
    replace c0 := cellAt c0 hb (by omega)
    replace c1 := cellAt c1 hb (by omega)
    replace Hr := Lib.hid (Hr.out.at hb)
    replace Hn := Lib.hid (Hn.out.at hb)
    replace n1 : w.heap.size < v1.heap.size := ltAt n1 hb
    replace HB := Lib.hid (lift HB.out hb)
    clear hb
    cases h2 : risesB nodeCmp ns
    · have H2 := Lib.hid h2
      go_wp2_with fail
      go_ret
      exact ⟨ret_bool (by rw [HM.out, H1.out, H2.out]; simp), HB.out⟩
    · have H2 := Lib.hid h2
      go_wp2_with fail
      refine (risesE_any _ ce es v1 Hr.out hl).mono ?_
      rintro e v2 ⟨rfl, hb⟩
      replace c0 := cellAt c0 hb (by omega)
      replace c1 := cellAt c1 hb (by omega)
      replace Hr := Lib.hid (Hr.out.at hb)
      replace Hn := Lib.hid (Hn.out.at hb)
      replace n1 : w.heap.size < v2.heap.size := ltAt n1 hb
      replace HB := Lib.hid (lift HB.out hb)
      clear hb
      cases h3 : risesB edgeCmp es
      · have H3 := Lib.hid h3
        go_wp2_with fail
        go_ret
        exact ⟨ret_bool (by rw [HM.out, H1.out, H2.out, H3.out]; simp), HB.out⟩
      · have H3 := Lib.hid h3
        go_wp2_with fail
        go_loopw [30] (fun i wr => ∃ k : Nat, k ≤ ns.length ∧ i = .int .i64 k ∧ Hid ((ns.take k).all mayN = true) ∧ Below v2.heap.size v2 wr) (fun i _ => ns.length - (intOf i).toNat)
        case atStart => exact ⟨0, Nat.zero_le _, rfl, by simp [Hid], Below.refl _ _⟩
        case round =>
          obtain ⟨k, hk, rfl, hall, hb⟩ := hrel
          replace c0 := cellAt c0 hb (by omega)
          replace c1 := cellAt c1 hb (by omega)
          replace Hr := Lib.hid (Hr.out.at hb)
          replace Hn := Lib.hid (Hn.out.at hb)
          replace n1 : w.heap.size < wr.heap.size := ltAt n1 hb
          replace HB := Lib.hid (lift HB.out hb)
          have Hb := Lib.hid hb
          clear hb
          by_cases hlt : k < ns.length
          · obtain ⟨b, o, rfl, hB, x0, x1, x2⟩ := Hn.out.node hlt
            have hat := @all_take_succ Nd mayN ns k hlt
            have haf := @all_false_at Nd mayN ns k hlt
            have hlen := HO.out _ (List.getElem_mem hlt)
            generalize ns[k] = p at x0 x1 x2 hat haf hlen
            obtain ⟨s, u, r⟩ := p
            have HA := Lib.hid (And.intro hat haf)
            simp only at x0 x1 x2 hlen
            clear hat haf
            go_wp2_with fail
            first | (refine wp_named ?_; intro W2 hW) | (refine calls_named ?_; intro W2 hW)
            have B2 : Below wr.heap.size wr W2 := by rw [hW]; exact (by repeat (first | exact Below.refl _ _ | assumption | refine Below.alloc ?_ (by simp <;> omega) _ | refine Below.setCell ?_ (by simp <;> omega) _ | refine Below.drew ?_))
            replace c0 := cellAt c0 B2 (by omega)
            replace c1 := cellAt c1 B2 (by omega)
            replace Hr := Lib.hid (Hr.out.at B2)
            replace Hn := Lib.hid (Hn.out.at B2)
            replace n1 : w.heap.size < W2.heap.size := ltAt n1 B2
            replace HB := Lib.hid (lift HB.out B2)
            replace hB := ltAt hB B2
            replace Hb := Lib.hid (lift Hb.out B2)
            clear hW
            refine (mayNode_any s u r W2 hlen).mono ?_
            rintro e v3 ⟨rfl, hb⟩
            replace c0 := cellAt c0 hb (by omega)
            replace c1 := cellAt c1 hb (by omega)
            replace Hr := Lib.hid (Hr.out.at hb)
            replace Hn := Lib.hid (Hn.out.at hb)
            replace n1 : w.heap.size < v3.heap.size := ltAt n1 hb
            replace HB := Lib.hid (lift HB.out hb)
            replace hB := ltAt hB hb
            replace Hb := Lib.hid (lift Hb.out hb)
            clear hb B2
            cases hp : mayN (s, u, r)
            · have HP := Lib.hid (HA.out.2 hp)
              go_wp2_with fail
              go_ret
              exact ⟨ret_bool (by rw [HM.out, H1.out, H2.out, H3.out, HP.out]; simp), HB.out⟩
            · have HP := Lib.hid hp
              go_wp2_with fail
              go_roundw
              case rel => exact ⟨k + 1, by omega, by go_num, by show _ = true; rw [HA.out.1, hall.out, HP.out]; rfl, Hb.out⟩
              case measure => simp [intOf]; omega
          · have hkn : k = ns.length := by omega
            have h4 := hall.out
            rw [hkn, List.take_length] at h4
            have H4 := Lib.hid h4
            obtain ⟨w4, rfl⟩ : ∃ wo : World, wo = wr := ⟨_, rfl⟩
            clear hkn h4 Hb
            go_wp2_with fail
            go_loopw [41] (fun i wr => ∃ k : Nat, k ≤ es.length ∧ i = .int .i64 k ∧ Hid ((es.take k).all (edgeOk ns) = true) ∧ Below w4.heap.size w4 wr) (fun i _ => es.length - (intOf i).toNat)
            case atStart => exact ⟨0, Nat.zero_le _, rfl, by simp [Hid], Below.refl _ _⟩
            case round =>
              obtain ⟨k2, hk2, rfl, hall2, hb⟩ := hrel
              replace c0 := cellAt c0 hb (by omega)
              replace c1 := cellAt c1 hb (by omega)
              replace Hr := Lib.hid (Hr.out.at hb)
              replace Hn := Lib.hid (Hn.out.at hb)
              replace n1 : w.heap.size < wr.heap.size := ltAt n1 hb
              replace HB := Lib.hid (lift HB.out hb)
              have Hb := Lib.hid hb
              clear hb
              by_cases hlt2 : k2 < es.length
              · obtain ⟨b, o, rfl, hB, x0, x1, x2⟩ := Hr.out.edge hlt2
                have hat := @all_take_succ Ed (edgeOk ns) es k2 hlt2
                have haf := @all_false_at Ed (edgeOk ns) es k2 hlt2
                generalize es[k2] = p at x0 x1 x2 hat haf
                obtain ⟨s, d, r⟩ := p
                have HA := Lib.hid (And.intro hat haf)
                simp only at x0 x1 x2
                have hek : edgeOk ns (s, d, r) = ((nodeOf ns s).isSome && ((nodeOf ns d).isSome && (!(s == d) && (((nodeOf ns s).getD ([], 0, 0)).2.2 == 1 && (!decide (r < 1) && !decide (10 < r)))))) := rfl
                have HE := Lib.hid hek
                clear hat haf hek
                go_wp2_with fail
                first | (refine wp_named ?_; intro W2 hW) | (refine calls_named ?_; intro W2 hW)
                have B2 : Below wr.heap.size wr W2 := by rw [hW]; exact (by repeat (first | exact Below.refl _ _ | assumption | refine Below.alloc ?_ (by simp <;> omega) _ | refine Below.setCell ?_ (by simp <;> omega) _ | refine Below.drew ?_))
                replace c0 := cellAt c0 B2 (by omega)
                replace c1 := cellAt c1 B2 (by omega)
                replace Hr := Lib.hid (Hr.out.at B2)
                replace Hn := Lib.hid (Hn.out.at B2)
                replace n1 : w.heap.size < W2.heap.size := ltAt n1 B2
                replace HB := Lib.hid (lift HB.out B2)
                replace Hb := Lib.hid (lift Hb.out B2)
                have m1 : wr.heap.size < W2.heap.size := by rw [hW]; simp <;> omega
                have e0 : W2.cell? ⟨wr.heap.size, 0, none⟩ = some (sv s) := by rw [hW]; go_simp
                have e1 : W2.cell? ⟨wr.heap.size, 1, none⟩ = some (sv d) := by rw [hW]; go_simp
                have e2 : W2.cell? ⟨wr.heap.size, 2, none⟩ = some (.int .i64 r) := by rw [hW]; go_simp
                clear hW
                clear B2
                refine (Node_any _ _ es.length cn ce ns s W2 Hn.out hln).mono ?_
                rintro e v3 ⟨rfl, hb⟩
                replace c0 := cellAt c0 hb (by omega)
                replace c1 := cellAt c1 hb (by omega)
                replace e0 := cellAt e0 hb (by omega)
                replace e1 := cellAt e1 hb (by omega)
                replace e2 := cellAt e2 hb (by omega)
                replace Hr := Lib.hid (Hr.out.at hb)
                replace Hn := Lib.hid (Hn.out.at hb)
                replace n1 : w.heap.size < v3.heap.size := ltAt n1 hb
                replace HB := Lib.hid (lift HB.out hb)
                replace Hb := Lib.hid (lift Hb.out hb)
                replace m1 : wr.heap.size < v3.heap.size := ltAt m1 hb
                clear hb
                unfold nodeV
                generalize ho1 : nodeOf ns s = o1 at *
                generalize hn1 : o1.getD ([], 0, 0) = nd1
                obtain ⟨nm, kd, st⟩ := nd1
                have HN1 := Lib.hid (And.intro ho1 hn1)
                clear ho1 hn1
                go_wp2_with fail
                first | (refine wp_named ?_; intro W4 hW) | (refine calls_named ?_; intro W4 hW)
                have B4 : Below v3.heap.size v3 W4 := by rw [hW]; exact (by repeat (first | exact Below.refl _ _ | assumption | refine Below.alloc ?_ (by simp <;> omega) _ | refine Below.setCell ?_ (by simp <;> omega) _ | refine Below.drew ?_))
                replace c0 := cellAt c0 B4 (by omega)
                replace c1 := cellAt c1 B4 (by omega)
                replace e0 := cellAt e0 B4 (by omega)
                replace e1 := cellAt e1 B4 (by omega)
                replace e2 := cellAt e2 B4 (by omega)
                replace Hr := Lib.hid (Hr.out.at B4)
                replace Hn := Lib.hid (Hn.out.at B4)
                replace n1 : w.heap.size < W4.heap.size := ltAt n1 B4
                replace HB := Lib.hid (lift HB.out B4)
                replace Hb := Lib.hid (lift Hb.out B4)
                replace m1 : wr.heap.size < W4.heap.size := ltAt m1 B4
                have m4 : v3.heap.size < W4.heap.size := by rw [hW]; simp <;> omega
                have f0 : W4.cell? ⟨v3.heap.size, 0, none⟩ = some (sv nm) := by rw [hW]; go_simp
                have f1 : W4.cell? ⟨v3.heap.size, 1, none⟩ = some (.int .i64 kd) := by rw [hW]; go_simp
                have f2 : W4.cell? ⟨v3.heap.size, 2, none⟩ = some (.int .i64 st) := by rw [hW]; go_simp
                clear hW
                clear B4
                refine (Node_any _ _ es.length cn ce ns d W4 Hn.out hln).mono ?_
                rintro e v5 ⟨rfl, hb⟩
                replace c0 := cellAt c0 hb (by omega)
                replace c1 := cellAt c1 hb (by omega)
                replace e0 := cellAt e0 hb (by omega)
                replace e1 := cellAt e1 hb (by omega)
                replace e2 := cellAt e2 hb (by omega)
                replace f0 := cellAt f0 hb (by omega)
                replace f1 := cellAt f1 hb (by omega)
                replace f2 := cellAt f2 hb (by omega)
                replace Hr := Lib.hid (Hr.out.at hb)
                replace Hn := Lib.hid (Hn.out.at hb)
                replace n1 : w.heap.size < v5.heap.size := ltAt n1 hb
                replace HB := Lib.hid (lift HB.out hb)
                replace Hb := Lib.hid (lift Hb.out hb)
                replace m1 : wr.heap.size < v5.heap.size := ltAt m1 hb
                replace m4 : v3.heap.size < v5.heap.size := ltAt m4 hb
                clear hb
                unfold nodeV
                generalize ho2 : nodeOf ns d = o2 at *
                have HN2 := Lib.hid ho2
                clear ho2
                cases k1 : o1.isSome
                · have K1 := Lib.hid k1
                  have hno : edgeOk ns (s, d, r) = false := by rw [HE.out, K1.out]; simp
                  have HNo := Lib.hid (HA.out.2 hno)
                  clear hno
                  go_wp2_with fail
                  go_ret
                  exact ⟨ret_bool (by rw [HM.out, H1.out, H2.out, H3.out, H4.out, HNo.out]; rfl), HB.out.alloc HB.out.size _⟩
                · have K1 := Lib.hid k1
                  cases k2' : o2.isSome
                  · have K2 := Lib.hid k2'
                    have hno : edgeOk ns (s, d, r) = false := by rw [HE.out, K2.out]; simp
                    have HNo := Lib.hid (HA.out.2 hno)
                    clear hno
                    go_wp2_with fail
                    go_ret
                    exact ⟨ret_bool (by rw [HM.out, H1.out, H2.out, H3.out, H4.out, HNo.out]; rfl), HB.out.alloc HB.out.size _⟩
                  · have K2 := Lib.hid k2'
                    cases k3 : (s == d)
                    · have K3 := Lib.hid k3
                      cases k4 : (st == 1)
                      · have K4 := Lib.hid k4
                        have k4' : (st != 1) = true := by rw [bne, k4]; rfl
                        have hno : edgeOk ns (s, d, r) = false := by rw [HE.out, HN1.out.2, K4.out]; simp
                        have HNo := Lib.hid (HA.out.2 hno)
                        clear hno
                        go_wp2_with fail
                        go_ret
                        exact ⟨ret_bool (by rw [HM.out, H1.out, H2.out, H3.out, H4.out, HNo.out]; rfl), HB.out.alloc HB.out.size _⟩
                      · have K4 := Lib.hid k4
                        have k4' : (st != 1) = false := by rw [bne, k4]; rfl
                        cases k5 : decide (r < 1)
                        · have K5 := Lib.hid k5
                          cases k6 : decide (10 < r)
                          · have K6 := Lib.hid k6
                            have hyes : edgeOk ns (s, d, r) = true := by rw [HE.out, HN1.out.2, K1.out, K2.out, K3.out, K4.out, K5.out, K6.out]; rfl
                            have HY := Lib.hid hyes
                            clear hyes
                            go_wp2_with fail
                            go_roundw
                            case rel => exact ⟨k2 + 1, by omega, by go_num, by show _ = true; rw [HA.out.1, hall2.out, HY.out]; rfl, Hb.out.alloc Hb.out.size _⟩
                            case measure => simp [intOf]; omega
                          · have K6 := Lib.hid k6
                            have p6 : (10 : Int) < r := by simpa using k6
                            have hno : edgeOk ns (s, d, r) = false := by rw [HE.out, K6.out]; simp
                            have HNo := Lib.hid (HA.out.2 hno)
                            clear hno
                            go_wp2_with fail
                            go_ret
                            exact ⟨ret_bool (by rw [HM.out, H1.out, H2.out, H3.out, H4.out, HNo.out]; rfl), HB.out.alloc HB.out.size _⟩
                        · have K5 := Lib.hid k5
                          have p5 : r < (1 : Int) := by simpa using k5
                          have hno : edgeOk ns (s, d, r) = false := by rw [HE.out, K5.out]; simp
                          have HNo := Lib.hid (HA.out.2 hno)
                          clear hno
                          go_wp2_with fail
                          go_ret
                          exact ⟨ret_bool (by rw [HM.out, H1.out, H2.out, H3.out, H4.out, HNo.out]; rfl), HB.out.alloc HB.out.size _⟩
                    · have K3 := Lib.hid k3
                      have hno : edgeOk ns (s, d, r) = false := by rw [HE.out, K3.out]; simp
                      have HNo := Lib.hid (HA.out.2 hno)
                      clear hno
                      go_wp2_with fail
                      go_ret
                      exact ⟨ret_bool (by rw [HM.out, H1.out, H2.out, H3.out, H4.out, HNo.out]; rfl), HB.out.alloc HB.out.size _⟩
              · have hkn2 : k2 = es.length := by omega
                have h5 := hall2.out
                rw [hkn2, List.take_length] at h5
                have H5 := Lib.hid h5
                clear hkn2 h5
                go_wp2_with fail
                go_ret
                exact ⟨ret_bool (by rw [HM.out, H1.out, H2.out, H3.out, H4.out, H5.out]; rfl), HB.out⟩
end Od
end Go.Proofs.YtbllehjhmfehbaaGreat
end

section
/- Texts sorted, each once; slices.Contains, IndexFunc and ContainsFunc at texts; rows that rise. -/
namespace Go.Proofs.YtbllehjhmfehbaaGreat
open Go.RowKit Go.Maps Go.Sort

namespace Od
theorem sortS_le (ss : List Str) : LE ltS (sortS ss) := by
  have h := List.pairwise_mergeSort (le := fun x y : Str => decide (x ≤ y)) (fun a b c h1 h2 => by
    simp only [decide_eq_true_eq] at *
    exact List.le_trans h1 h2) (fun a b => by
    simp only [Bool.or_eq_true, decide_eq_true_eq]
    exact List.le_total a b) ss
  refine h.imp fun {a b} hab => ?_
  rw [ltS_false]
  exact List.not_lt.2 (by simpa using hab)
theorem mem_sortS {ss : List Str} {s : Str} : s ∈ sortS ss ↔ s ∈ ss := (List.mergeSort_perm _ _).mem_iff
theorem le_nodup_ss : ∀ {ss : List Str}, LE ltS ss → ss.Nodup → SS ltS ss
  | [], _, _ => List.Pairwise.nil
  | x :: r, h1, h2 => by
    obtain ⟨hx, hr⟩ := List.pairwise_cons.1 h1
    obtain ⟨hx2, hr2⟩ := List.nodup_cons.1 h2
    refine List.pairwise_cons.2 ⟨fun y hy => ?_, le_nodup_ss hr hr2⟩
    cases h : ltS x y
    · exact absurd (toS.total h (hx y hy)) (fun e => hx2 (e ▸ hy))
    · rfl
theorem sortS_ss {ss : List Str} (h : ss.Nodup) : SS ltS (sortS ss) := le_nodup_ss (sortS_le ss) ((List.mergeSort_perm _ _).nodup_iff.2 h)
theorem onceS_ss (ss : List Str) : SS ltS (onceS ss) := compact_ss toS (sortS_le ss)
theorem mem_onceS {ss : List Str} {s : Str} : s ∈ onceS ss ↔ s ∈ ss := by unfold onceS; rw [mem_compact, mem_sortS]
theorem onceS_canon (ss : List Str) : onceS ss = canon ltS ss := SS.eq_canon toS (onceS_ss ss) fun _ => mem_onceS
theorem idxOf_zs (ss : List Str) (x : Str) : Lib.containsS (ss.map fun s => (⟨s.toArray⟩ : ByteArray)) ⟨x.toArray⟩ = decide (x ∈ ss) := by
  rw [Bool.eq_iff_iff, Lib.containsS_iff, decide_eq_true_eq, List.mem_map]
  constructor
  · rintro ⟨a, ha, e⟩
    injection e with e
    have : a = x := by simpa using e
    exact this ▸ ha
  · intro h
    exact ⟨x, h, rfl⟩
theorem containsS_rd (A : Option Addr) (c : Nat) (ss : List Str) (x : Str) (w : World) (hr : Rd w w.heap.size 1 A ss.length (svs ss)) (hl : ss.length ≤ 1000000) :
    Calls Tryz.prog 108 #[.slice A ss.length c, sv x] w fun e w' => e = .returned (.bool (decide (x ∈ ss))) ∧ w' = w := by
  rcases Nat.eq_zero_or_pos ss.length with h0 | h0
  · have hn := List.length_eq_zero_iff.1 h0
    subst hn
    refine (Tryz.slices_Contains_string_empty A c _ w).mono ?_
    rintro e w' ⟨rfl, rfl⟩
    exact ⟨by simp, rfl⟩
  · obtain ⟨b, o, rfl, hb, hc⟩ := hr.open h0
    refine (Tryz.slices_Contains_string b o ss.length c (ss.map fun s => ⟨s.toArray⟩) ⟨x.toArray⟩ w (by simp) (by omega) (fun j hj => ?_)).mono ?_
    · have hj' : j < ss.length := by simpa using hj
      rw [hc j (by omega)]
      simp [svs, hj']
    · rintro e w' ⟨rfl, rfl⟩
      exact ⟨by rw [List.take_of_length_le (by simp), idxOf_zs], rfl⟩
theorem mem_outS {es : List Ed} {u s : Str} {rel : Int} : s ∈ outS es u rel ↔ (u, s, rel) ∈ es := by
  unfold outS outRaw
  rw [mem_onceS, List.mem_map]
  constructor
  · rintro ⟨⟨a, b, c⟩, h, rfl⟩
    obtain ⟨h1, h2⟩ := List.mem_filter.1 h
    have : a = u ∧ c = rel := by simpa [outP] using h2
    rw [← this.1, ← this.2]
    exact h1
  · intro h
    exact ⟨_, List.mem_filter.2 ⟨h, by simp [outP]⟩, rfl⟩
theorem hasE_out (es : List Ed) (u s : Str) (rel : Int) : decide (s ∈ outS es u rel) = hasE es u s rel := by
  rw [Bool.eq_iff_iff, decide_eq_true_eq, mem_outS, hasE_iff]

/-- A function value that says of a text whether p, whatever has been made since. -/
structure SaysS (g : Nat) (caps : Array Value) (p : Str → Bool) (w : World) : Prop where
  enters : ∀ (args : Array Value) (W : World), (callFunc g args).run Tryz.prog W = .ok (.enter g args) W
  says : ∀ (W : World) (s : Str), Below w.heap.size w W → Calls Tryz.prog g (#[sv s] ++ caps) W fun e w' => e = .returned (.bool (p s)) ∧ Below W.heap.size W w'
set_option maxRecDepth 100000 in
set_option maxHeartbeats 1000000 in
theorem IndexFuncS (A : Option Addr) (c : Nat) (ss : List Str) (g : Nat) (caps : Array Value) (p : Str → Bool) (w : World) (hr : Rd w w.heap.size 1 A ss.length (svs ss)) (hl : ss.length ≤ 1000000) (hp : SaysS g caps p w) :
    Calls Tryz.prog 114 #[.slice A ss.length c, .func (.func g) #[] caps] w (FindIdx ss p w) := by
  have Hr := Lib.hid hr
  have Hp := Lib.hid hp
  have eg := hp.enters
  clear hr hp
  go_enter Tryz.func114, Tryz.ntmps114
  go_wp2_with fail
  go_loopw [8] (fun i wr => ∃ k : Nat, k ≤ ss.length ∧ i = .int .i64 k ∧ Hid ((ss.take k).any p = false) ∧ Below w.heap.size w wr) (fun i _ => ss.length - (intOf i).toNat)
  case atStart => exact ⟨0, Nat.zero_le _, rfl, by simp [Hid], Below.refl _ _⟩
  case round =>
    obtain ⟨k, hk, rfl, hall, hbel⟩ := hrel
    by_cases hlt : k < ss.length
    · obtain ⟨b, o, rfl, hB, hc0⟩ := (Hr.out.on (Nat.le_refl _) hbel).str hlt
      have Hbel := Lib.hid hbel
      clear hbel
      generalize hx : ss[k] = x at hc0
      have Hx := Lib.hid hx
      clear hx
      have hcall := Hp.out.says wr x Hbel.out
      have Hcall := Lib.hid hcall
      clear hcall
      go_wp2_with fail
      refine Hcall.out.mono ?_
      rintro e w2 ⟨rfl, hb2⟩
      have Hb2 := Lib.hid (Hbel.out.trans (hb2.mono Hbel.out.size))
      clear hb2
      cases hpx : p x
      · have Hpx := Lib.hid hpx
        go_wp2_with fail
        go_roundw
        case rel => exact ⟨k + 1, by omega, by go_num, by show _ = false; rw [any_take_succ hlt, hall.out, Hx.out, Hpx.out]; rfl, Hb2.out⟩
        case measure => simp [intOf]; omega
      · have Hpx := Lib.hid hpx
        go_wp2_with fail
        go_ret
        exact ⟨k, rfl, .inr ⟨k, hlt, rfl, find_at hlt hall.out (by rw [Hx.out]; exact Hpx.out), by rw [Hx.out]; exact Hpx.out, fun j hj => take_any_at hk hall.out hj⟩, Hb2.out⟩
    · have ha := hall.out
      rw [List.take_of_length_le (by omega)] at ha
      have Ha := Lib.hid ha
      clear ha
      go_wp2_with fail
      go_ret
      exact ⟨-1, rfl, .inl ⟨rfl, find_none_take Ha.out⟩, hbel⟩
set_option maxHeartbeats 1000000 in
theorem ContainsFuncS (A : Option Addr) (c : Nat) (ss : List Str) (g : Nat) (caps : Array Value) (p : Str → Bool) (w : World) (hr : Rd w w.heap.size 1 A ss.length (svs ss)) (hl : ss.length ≤ 1000000) (hp : SaysS g caps p w) :
    Calls Tryz.prog 116 #[.slice A ss.length c, .func (.func g) #[] caps] w fun e w' => e = .returned (.bool (ss.any p)) ∧ Below w.heap.size w w' := by
  go_enter Tryz.func116, Tryz.ntmps116
  go_wp2_with fail
  refine (IndexFuncS A c ss g caps p w hr hl hp).mono ?_
  rintro e w2 ⟨r, rfl, hcase, hb⟩
  have hiff : decide ((0 : Int) ≤ r) = ss.any p := by
    rcases hcase with ⟨rfl, h⟩ | ⟨k, hk, rfl, _, h, _⟩
    · rw [Bool.eq_iff_iff]
      constructor
      · intro h; simp at h
      · intro h2; obtain ⟨x, hx, hpx⟩ := List.any_eq_true.1 h2; rw [List.find?_eq_none] at h; exact absurd hpx (h x hx)
    · rw [any_of_at hk h]; simp
  have Hiff := Lib.hid hiff
  clear hiff hcase
  go_wp2_with fail
  go_ret
  exact ⟨ret_bool Hiff.out, hb⟩
theorem up_pw {α : Type} {c : α → α → Int} (ht : ∀ x y z, c x y < 0 → c y z < 0 → c x z < 0) : ∀ {l : List α}, risesB c l = true → l.Pairwise (fun x y => c x y < 0)
  | [], _ => .nil
  | [x], _ => List.pairwise_singleton _ _
  | x :: y :: r, h => by
    unfold risesB at h
    rw [Bool.and_eq_true, decide_eq_true_eq] at h
    have ih := up_pw ht h.2
    refine List.pairwise_cons.2 ⟨fun z hz => ?_, ih⟩
    rcases List.mem_cons.1 hz with e | e
    · rw [e]; exact h.1
    · exact ht _ _ _ h.1 ((List.pairwise_cons.1 ih).1 z e)
theorem pw_up {α : Type} {c : α → α → Int} : ∀ {l : List α}, l.Pairwise (fun x y => c x y < 0) → risesB c l = true
  | [], _ => rfl
  | [x], _ => rfl
  | x :: y :: r, h => by
    unfold risesB
    obtain ⟨h1, h2⟩ := List.pairwise_cons.1 h
    rw [Bool.and_eq_true, decide_eq_true_eq]
    exact ⟨h1 y (.head _), pw_up h2⟩
theorem aheadB_prs {es : List Ed} {a b : Str} : es.any (aheadB a b) = true ↔ (a, b) ∈ prsL es := by
  rw [List.any_eq_true, mem_prsL]
  have hp : ∀ e : Ed, pairOf e = pairE e := fun e => rfl
  simp only [aheadB, hp, beq_iff_eq]
theorem lessS_lt (a b : Str) : lessS a b = ltS a b := rfl
end Od
end Go.Proofs.YtbllehjhmfehbaaGreat
end

section
/- What comes along with a job, as lists; what is true of it. No program. -/
namespace Go.Proofs.YtbllehjhmfehbaaGreat
set_option linter.unusedSimpArgs false
namespace Od
/-- A unit and a type. -/
abbrev Jp := Str × Int
/-- A job that is brought, and whether it is needed. -/
abbrev Bg := Jp × Bool
def ltJ (a b : Jp) : Bool := ltS a.1 b.1 || (a.1 == b.1 && decide (a.2 < b.2))
theorem toJ : TO ltJ where
  irrefl x := by simp [ltJ, toS.irrefl]
  trans {x y z} h1 h2 := by
    unfold ltJ at *
    rw [Bool.or_eq_true, Bool.and_eq_true, beq_iff_eq, decide_eq_true_eq] at *
    rcases h1 with h1 | ⟨h1, h3⟩
    · rcases h2 with h2 | ⟨h2, h4⟩
      · exact .inl (toS.trans h1 h2)
      · exact .inl (by rw [← h2]; exact h1)
    · rcases h2 with h2 | ⟨h2, h4⟩
      · exact .inl (by rw [h1]; exact h2)
      · exact .inr ⟨by rw [h1, h2], by omega⟩
  total {x y} h1 h2 := by
    unfold ltJ at *
    rw [Bool.or_eq_false_iff, Bool.and_eq_false_iff] at *
    have e := toS.total h1.1 h2.1
    refine Prod.ext e ?_
    rcases h1.2 with h3 | h3
    · simp [e] at h3
    · rcases h2.2 with h4 | h4
      · simp [e] at h4
      · simp only [decide_eq_false_iff_not] at h3 h4; omega
section
variable (E : Jp → List Bg) (out : Jp → Bool)
/-- What comes along. -/
inductive Rj (first : Jp) : Jp → Prop
  | one : Rj first first
  | more {j : Jp} {b : Bg} : Rj first j → b ∈ E j → out b.1 = false → Rj first b.1
abbrev Ms := List (Jp × Str)
def keysP (m : Ms) : List Jp := m.map (·.1)
def knownP (m : Ms) (k : Jp) : Bool := m.any (fun p => p.1 == k)
def addP (s : Ms × List Jp) (p : Jp × Str) : Ms × List Jp := if (knownP s.1 p.1 || out p.1) = true then s else (s.1 ++ [p], s.2 ++ [p.1])
def brP (j : Jp) : List (Jp × Str) := (E j).map (fun b => (b.1, j.1))
def stepP (m : Ms) (row : List Jp) : Ms × List Jp := (row.flatMap (brP E)).foldl (addP out) (m, [])
def layP : Nat → Ms → List Jp → Ms
  | 0, m, _ => m
  | _ + 1, m, [] => m
  | n + 1, m, j :: r => layP n (stepP E out m (j :: r)).1 (canon ltJ (stepP E out m (j :: r)).2)
end
theorem knownP_iff {m : Ms} {k : Jp} : knownP m k = true ↔ k ∈ keysP m := by
  unfold knownP keysP
  rw [List.any_eq_true, List.mem_map]
  constructor
  · rintro ⟨p, h, e⟩; exact ⟨p, h, by simpa using e⟩
  · rintro ⟨p, h, e⟩; exact ⟨p, h, by simpa using e⟩
theorem addP_fold {out : Jp → Bool} : ∀ (l : List (Jp × Str)) (m : Ms) (n : List Jp), (keysP m).Nodup → ∃ xs : Ms, l.foldl (addP out) (m, n) = (m ++ xs, n ++ keysP xs) ∧ (∀ p ∈ xs, p ∈ l ∧ out p.1 = false) ∧ (keysP (m ++ xs)).Nodup ∧ (∀ p ∈ l, out p.1 = false → p.1 ∈ keysP (m ++ xs))
  | [], m, n, h => ⟨[], by simp [keysP], (by simp), (by simpa using h), (by simp)⟩
  | p :: l, m, n, h => by
    rw [List.foldl_cons]
    by_cases hc : (knownP m p.1 || out p.1) = true
    · have e : addP out (m, n) p = (m, n) := by unfold addP; rw [if_pos hc]
      rw [e]
      obtain ⟨xs, h1, h2, h3, h4⟩ := addP_fold l m n h
      refine ⟨xs, h1, fun q hq => ⟨.tail _ (h2 q hq).1, (h2 q hq).2⟩, h3, fun q hq ho => ?_⟩
      rcases List.mem_cons.1 hq with e2 | hq
      · subst e2
        rw [ho, Bool.or_false] at hc
        unfold keysP
        rw [List.map_append]
        exact List.mem_append_left _ (knownP_iff.1 hc)
      · exact h4 q hq ho
    · have e : addP out (m, n) p = (m ++ [p], n ++ [p.1]) := by unfold addP; rw [if_neg hc]
      rw [e]
      have hc2 : p.1 ∉ keysP m ∧ out p.1 = false := by
        simp only [Bool.or_eq_true, not_or, Bool.not_eq_true] at hc
        exact ⟨fun h => (by rw [knownP_iff.2 h] at hc; cases hc.1), hc.2⟩
      have hnd : (keysP (m ++ [p])).Nodup := by
        unfold keysP at *
        rw [List.map_append, List.nodup_append]
        refine ⟨h, by simp, fun a ha b hb e => ?_⟩
        simp only [List.map_cons, List.map_nil, List.mem_singleton] at hb
        exact hc2.1 (by rw [← hb, ← e]; exact ha)
      obtain ⟨xs, h1, h2, h3, h4⟩ := addP_fold l (m ++ [p]) (n ++ [p.1]) hnd
      have e3 : m ++ [p] ++ xs = m ++ p :: xs := by simp
      rw [e3] at h1 h3 h4
      refine ⟨p :: xs, by rw [h1]; simp [keysP], fun q hq => ?_, h3, fun q hq ho => ?_⟩
      · rcases List.mem_cons.1 hq with e2 | hq
        · subst e2; exact And.intro (.head _) hc2.2
        · exact ⟨.tail _ (h2 q hq).1, (h2 q hq).2⟩
      · rcases List.mem_cons.1 hq with e2 | hq
        · subst e2; unfold keysP; simp
        · exact h4 q hq ho
theorem mem_brs {E : Jp → List Bg} {row : List Jp} {p : Jp × Str} : p ∈ row.flatMap (brP E) ↔ ∃ j ∈ row, ∃ b ∈ E j, p = (b.1, j.1) := by
  unfold brP
  rw [List.mem_flatMap]
  constructor
  · rintro ⟨j, hj, h⟩
    obtain ⟨b, hb, e⟩ := List.mem_map.1 h
    exact ⟨j, hj, b, hb, e.symm⟩
  · rintro ⟨j, hj, b, hb, e⟩
    exact ⟨j, hj, List.mem_map.2 ⟨b, hb, e.symm⟩⟩
/-- In the middle of the layers. -/
structure Lay (E : Jp → List Bg) (out : Jp → Bool) (first : Jp) (m : Ms) (row : List Jp) : Prop where
  nd : (keysP m).Nodup
  all : ∀ p ∈ m, Rj E out first p.1
  fst : first ∈ keysP m
  sub : ∀ j ∈ row, j ∈ keysP m
  clo : ∀ j ∈ keysP m, j ∉ row → ∀ b ∈ E j, out b.1 = false → b.1 ∈ keysP m
  by_ : ∀ p ∈ m, p = (first, []) ∨ (out p.1 = false ∧ ∃ j ∈ keysP m, j.1 = p.2 ∧ ∃ b ∈ E j, b.1 = p.1)
theorem Lay.zero {E : Jp → List Bg} {out : Jp → Bool} {first : Jp} : Lay E out first [(first, [])] [first] where
  nd := by simp [keysP]
  all := fun p hp => by rw [List.mem_singleton] at hp; subst hp; exact .one
  fst := by simp [keysP]
  sub := fun j hj => by rw [List.mem_singleton] at hj; subst hj; simp [keysP]
  clo := fun j hj hn => by simp [keysP] at hj hn; exact absurd hj hn
  by_ := fun p hp => .inl (List.mem_singleton.1 hp)
theorem Lay.step {E : Jp → List Bg} {out : Jp → Bool} {first : Jp} {m : Ms} {row : List Jp} (h : Lay E out first m row) : Lay E out first (stepP E out m row).1 (canon ltJ (stepP E out m row).2) ∧ ((stepP E out m row).1.length = m.length + (stepP E out m row).2.length) ∧ (stepP E out m row).2.Nodup := by
  obtain ⟨xs, h1, h2, h3, h4⟩ := addP_fold (out := out) (row.flatMap (brP E)) m [] h.nd
  have e : stepP E out m row = (m ++ xs, keysP xs) := by unfold stepP; rw [h1]; simp
  rw [e]
  have hk : ∀ j, j ∈ keysP (m ++ xs) ↔ j ∈ keysP m ∨ j ∈ keysP xs := fun j => by unfold keysP; rw [List.map_append, List.mem_append]
  have hxs : ∀ p ∈ xs, ∃ j ∈ keysP m, j.1 = p.2 ∧ ∃ b ∈ E j, b.1 = p.1 := fun p hp => by
    obtain ⟨j, hj, b, hb, e⟩ := mem_brs.1 (h2 p hp).1
    exact ⟨j, h.sub j hj, by rw [e], b, hb, by rw [e]⟩
  have hrj : ∀ j ∈ keysP m, Rj E out first j := fun j hj => by
    obtain ⟨p, hp, rfl⟩ := List.mem_map.1 hj
    exact h.all p hp
  refine ⟨⟨h3, fun p hp => ?_, (hk _).2 (.inl h.fst), fun j hj => ?_, fun j hj hn b hb ho => ?_, fun p hp => ?_⟩, ?_, ?_⟩
  · rcases List.mem_append.1 hp with hp | hp
    · exact h.all p hp
    · obtain ⟨j, hj, _, b, hb, e2⟩ := hxs p hp
      rw [← e2]
      exact .more (hrj j hj) hb (by rw [e2]; exact (h2 p hp).2)
  · exact (hk j).2 (.inr ((mem_canon toJ).1 hj))
  · have hj2 : j ∈ keysP m := by
      rcases (hk j).1 hj with h5 | h5
      · exact h5
      · exact absurd ((mem_canon toJ).2 h5) hn
    by_cases hr : j ∈ row
    · exact h4 (b.1, j.1) (mem_brs.2 ⟨j, hr, b, hb, rfl⟩) ho
    · exact (hk _).2 (.inl (h.clo j hj2 hr b hb ho))
  · rcases List.mem_append.1 hp with hp | hp
    · rcases h.by_ p hp with h5 | ⟨h5, j, hj, h6⟩
      · exact .inl h5
      · exact .inr ⟨h5, j, (hk j).2 (.inl hj), h6⟩
    · obtain ⟨j, hj, h6⟩ := hxs p hp
      exact .inr ⟨(h2 p hp).2, j, (hk j).2 (.inl hj), h6⟩
  · simp [keysP]
  · unfold keysP at h3 ⊢
    rw [List.map_append, List.nodup_append] at h3
    exact h3.2.1
theorem nodup_len : ∀ {l cand : List Jp}, l.Nodup → (∀ j ∈ l, j ∈ cand) → l.length ≤ cand.length
  | [], _, _, _ => Nat.zero_le _
  | a :: l, cand, h, hs => by
    obtain ⟨h1, h2⟩ := List.nodup_cons.1 h
    have ha := hs a (.head _)
    have := nodup_len (cand := cand.erase a) h2 fun j hj => (List.mem_erase_of_ne (fun e : j = a => h1 (by rw [← e]; exact hj))).2 (hs j (.tail _ hj))
    rw [List.length_erase_of_mem ha] at this
    have := List.length_pos_of_mem ha
    simp only [List.length_cons]
    omega
theorem Lay.len {E : Jp → List Bg} {out : Jp → Bool} {first : Jp} {m : Ms} {row : List Jp} (h : Lay E out first m row) {cand : List Jp} (hc : ∀ j b, b ∈ E j → b.1 ∈ cand) : m.length ≤ cand.length + 1 := by
  have h1 : ∀ j ∈ keysP m, j ∈ first :: cand := fun j hj => by
    obtain ⟨p, hp, rfl⟩ := List.mem_map.1 hj
    rcases h.by_ p hp with e | ⟨_, k, _, _, b, hb, e⟩
    · rw [e]; exact .head _
    · rw [← e]; exact .tail _ (hc k b hb)
  have := nodup_len h.nd h1
  simpa [keysP] using this
theorem lay_ok {E : Jp → List Bg} {out : Jp → Bool} {first : Jp} {cand : List Jp} (hc : ∀ j b, b ∈ E j → b.1 ∈ cand) : ∀ (n : Nat) (m : Ms) (row : List Jp), Lay E out first m row → (row ≠ [] → cand.length + 2 ≤ n + m.length) → Lay E out first (layP E out n m row) []
  | 0, m, row, h, hn => by
    have h1 := h.len hc
    cases row with
    | nil => exact h
    | cons j r => have := hn (by simp); omega
  | n + 1, m, [], h, _ => h
  | n + 1, m, j :: r, h, hn => by
    obtain ⟨h1, h2, h3⟩ := h.step
    refine lay_ok hc n _ _ h1 fun hne => ?_
    have := hn (by simp)
    have h4 : (stepP E out m (j :: r)).2 ≠ [] := fun e => hne (by rw [e]; rfl)
    have := List.length_pos_iff.2 h4
    omega
/-- What is closed is all. -/
theorem clo_iff {E : Jp → List Bg} {out : Jp → Bool} {first : Jp} {N : List Jp} (h1 : first ∈ N) (h2 : ∀ j ∈ N, Rj E out first j) (h3 : ∀ j ∈ N, ∀ b ∈ E j, out b.1 = false → b.1 ∈ N) (k : Jp) : k ∈ N ↔ Rj E out first k := by
  refine ⟨h2 k, fun h => ?_⟩
  induction h with
  | one => exact h1
  | more _ hb ho ih => exact h3 _ ih _ hb ho
theorem Lay.iff {E : Jp → List Bg} {out : Jp → Bool} {first : Jp} {m : Ms} (h : Lay E out first m []) (k : Jp) : k ∈ keysP m ↔ Rj E out first k :=
  clo_iff h.fst (fun j hj => by obtain ⟨p, hp, rfl⟩ := List.mem_map.1 hj; exact h.all p hp) (fun j hj b hb ho => h.clo j hj (by simp) b hb ho) k
/-- More is brought, less is left out: more comes along. -/
theorem Rj.mono {E E' : Jp → List Bg} {out out' : Jp → Bool} {first : Jp} (hE : ∀ j, Rj E out first j → ∀ b ∈ E j, out b.1 = false → ∃ b' ∈ E' j, b'.1 = b.1) (ho : ∀ j, Rj E out first j → out j = false → out' j = false) {k : Jp} (h : Rj E out first k) : Rj E' out' first k := by
  induction h with
  | one => exact .one
  | more hj hb hx ih =>
    obtain ⟨b', hb', e⟩ := hE _ hj _ hb hx
    rw [← e]
    exact .more ih hb' (by rw [e]; exact ho _ (.more hj hb hx) hx)
/-! What a job brings -/
def inwRaw (es : List Ed) (u : Str) (rel : Int) : List Str := (es.filter (fun e => e.2.1 == u && e.2.2 == rel)).map (·.1)
def inwS (es : List Ed) (u : Str) (rel : Int) : List Str := onceS (inwRaw es u rel)
theorem mem_inwS {es : List Ed} {u s : Str} {rel : Int} : s ∈ inwS es u rel ↔ (s, u, rel) ∈ es := by
  unfold inwS inwRaw
  rw [mem_onceS, List.mem_map]
  constructor
  · rintro ⟨⟨a, b, c⟩, h, rfl⟩
    obtain ⟨h1, h2⟩ := List.mem_filter.1 h
    simp only [Bool.and_eq_true, beq_iff_eq] at h2
    rw [← h2.1, ← h2.2]
    exact h1
  · intro h
    exact ⟨(s, u, rel), List.mem_filter.2 ⟨h, by simp⟩, rfl⟩
def eachB (us : List Str) (t : Int) (n : Bool) : List Bg := us.map fun u => ((u, t), n)
theorem mem_eachB {us : List Str} {t : Int} {n : Bool} {b : Bg} : b ∈ eachB us t n ↔ b.1.1 ∈ us ∧ b.1.2 = t ∧ b.2 = n := by
  unfold eachB
  rw [List.mem_map]
  constructor
  · rintro ⟨u, h, rfl⟩; exact ⟨h, rfl, rfl⟩
  · rintro ⟨h, rfl, rfl⟩; exact ⟨b.1.1, h, rfl⟩
def startB (es : List Ed) (u : Str) : List Bg := eachB (outS es u 1) 1 true ++ (eachB (outS es u 4) 1 true ++ (eachB (outS es u 2) 1 false ++ (eachB (outS es u 6) 2 true ++ eachB (inwS es u 6) 2 true)))
def upB (up half : List Str) (u : Str) : Bool := hasB up u || hasB half u
def backA (es : List Ed) (u : Str) (t : Int) : List Bg := eachB (inwS es u 1) t true ++ (eachB (inwS es u 4) t true ++ eachB (inwS es u 5) t true)
def backB (es : List Ed) (up half : List Str) (u : Str) (t : Int) : List Bg := (backA es u t).filter (fun b => upB up half b.1.1)
def bringB (es : List Ed) (up half : List Str) (j : Jp) : List Bg :=
  if j.2 = 1 then startB es j.1 else if j.2 = 2 then backB es up half j.1 2 else if j.2 = 3 then startB es j.1 ++ backB es up half j.1 3 else []
def candB (es : List Ed) : List Jp := es.flatMap fun e => [(e.1, 1), (e.1, 2), (e.1, 3), (e.2.1, 1), (e.2.1, 2), (e.2.1, 3)]
theorem candB_len (es : List Ed) : (candB es).length = 6 * es.length := by
  unfold candB
  induction es with
  | nil => rfl
  | cons e r ih => rw [List.flatMap_cons, List.length_append, ih]; simp only [List.length_cons, List.length_nil]; omega
theorem mem_candB {es : List Ed} {u : Str} {t : Int} (h : ∃ e ∈ es, e.1 = u ∨ e.2.1 = u) (ht : t = 1 ∨ t = 2 ∨ t = 3) : (u, t) ∈ candB es := by
  obtain ⟨e, he, h⟩ := h
  refine List.mem_flatMap.2 ⟨e, he, ?_⟩
  rcases h with rfl | rfl <;> rcases ht with rfl | rfl | rfl <;> simp
theorem mem_startB {es : List Ed} {u : Str} {b : Bg} : b ∈ startB es u ↔ (b.1.2 = 1 ∧ b.2 = true ∧ ((u, b.1.1, 1) ∈ es ∨ (u, b.1.1, 4) ∈ es)) ∨ (b.1.2 = 1 ∧ b.2 = false ∧ (u, b.1.1, 2) ∈ es) ∨ (b.1.2 = 2 ∧ b.2 = true ∧ ((u, b.1.1, 6) ∈ es ∨ (b.1.1, u, 6) ∈ es)) := by
  unfold startB
  simp only [List.mem_append, mem_eachB, mem_outS, mem_inwS]
  constructor
  · rintro (⟨h1, h2, h3⟩ | ⟨h1, h2, h3⟩ | ⟨h1, h2, h3⟩ | ⟨h1, h2, h3⟩ | ⟨h1, h2, h3⟩)
    · exact .inl ⟨h2, h3, .inl h1⟩
    · exact .inl ⟨h2, h3, .inr h1⟩
    · exact .inr (.inl ⟨h2, h3, h1⟩)
    · exact .inr (.inr ⟨h2, h3, .inl h1⟩)
    · exact .inr (.inr ⟨h2, h3, .inr h1⟩)
  · rintro (⟨h2, h3, h1 | h1⟩ | ⟨h2, h3, h1⟩ | ⟨h2, h3, h1 | h1⟩)
    · exact .inl ⟨h1, h2, h3⟩
    · exact .inr (.inl ⟨h1, h2, h3⟩)
    · exact .inr (.inr (.inl ⟨h1, h2, h3⟩))
    · exact .inr (.inr (.inr (.inl ⟨h1, h2, h3⟩)))
    · exact .inr (.inr (.inr (.inr ⟨h1, h2, h3⟩)))
theorem mem_backB {es : List Ed} {up half : List Str} {u : Str} {t : Int} {b : Bg} : b ∈ backB es up half u t ↔ b.1.2 = t ∧ b.2 = true ∧ ((b.1.1, u, 1) ∈ es ∨ (b.1.1, u, 4) ∈ es ∨ (b.1.1, u, 5) ∈ es) ∧ upB up half b.1.1 = true := by
  unfold backB backA
  rw [List.mem_filter]
  simp only [List.mem_append, mem_eachB, mem_inwS]
  constructor
  · rintro ⟨⟨h1, h2, h3⟩ | ⟨h1, h2, h3⟩ | ⟨h1, h2, h3⟩, h4⟩
    · exact ⟨h2, h3, .inl h1, h4⟩
    · exact ⟨h2, h3, .inr (.inl h1), h4⟩
    · exact ⟨h2, h3, .inr (.inr h1), h4⟩
  · rintro ⟨h2, h3, h1 | h1 | h1, h4⟩
    · exact ⟨.inl ⟨h1, h2, h3⟩, h4⟩
    · exact ⟨.inr (.inl ⟨h1, h2, h3⟩), h4⟩
    · exact ⟨.inr (.inr ⟨h1, h2, h3⟩), h4⟩
theorem mem_bringB {es : List Ed} {up half : List Str} {j : Jp} {b : Bg} : b ∈ bringB es up half j ↔ ((j.2 = 1 ∨ j.2 = 3) ∧ b ∈ startB es j.1) ∨ ((j.2 = 2 ∨ j.2 = 3) ∧ b ∈ backB es up half j.1 j.2) := by
  unfold bringB
  by_cases h1 : j.2 = 1
  · rw [if_pos h1]; constructor
    · exact fun h => .inl ⟨.inl h1, h⟩
    · rintro (⟨_, h⟩ | ⟨h, _⟩)
      · exact h
      · omega
  · rw [if_neg h1]
    by_cases h2 : j.2 = 2
    · rw [if_pos h2]; constructor
      · exact fun h => .inr ⟨.inl h2, by rw [h2]; exact h⟩
      · rintro (⟨h, _⟩ | ⟨_, h⟩)
        · omega
        · rw [h2] at h; exact h
    · rw [if_neg h2]
      by_cases h3 : j.2 = 3
      · rw [if_pos h3, List.mem_append]; constructor
        · rintro (h | h)
          · exact .inl ⟨.inr h3, h⟩
          · exact .inr ⟨.inr h3, by rw [h3]; exact h⟩
        · rintro (⟨_, h⟩ | ⟨_, h⟩)
          · exact .inl h
          · rw [h3] at h; exact .inr h
      · rw [if_neg h3]; constructor
        · intro h; cases h
        · rintro (⟨h, _⟩ | ⟨h, _⟩) <;> omega
/-- Who is brought is of an edge. -/
theorem bring_edge {es : List Ed} {up half : List Str} {j : Jp} {b : Bg} (h : b ∈ bringB es up half j) : (∃ e ∈ es, e.1 = b.1.1 ∨ e.2.1 = b.1.1) ∧ (b.1.2 = 1 ∨ b.1.2 = 2 ∨ b.1.2 = 3) := by
  rcases mem_bringB.1 h with ⟨hj, h⟩ | ⟨hj, h⟩
  · rcases mem_startB.1 h with ⟨h1, _, h2 | h2⟩ | ⟨h1, _, h2⟩ | ⟨h1, _, h2 | h2⟩
    · exact ⟨⟨_, h2, .inr rfl⟩, .inl h1⟩
    · exact ⟨⟨_, h2, .inr rfl⟩, .inl h1⟩
    · exact ⟨⟨_, h2, .inr rfl⟩, .inl h1⟩
    · exact ⟨⟨_, h2, .inr rfl⟩, .inr (.inl h1)⟩
    · exact ⟨⟨_, h2, .inl rfl⟩, .inr (.inl h1)⟩
  · obtain ⟨h1, _, h2, _⟩ := mem_backB.1 h
    refine ⟨?_, by omega⟩
    rcases h2 with h2 | h2 | h2 <;> exact ⟨_, h2, .inl rfl⟩
theorem bring_cand {es : List Ed} {up half : List Str} (j : Jp) (b : Bg) (h : b ∈ bringB es up half j) : b.1 ∈ candB es := by
  obtain ⟨h1, h2⟩ := bring_edge h
  exact mem_candB h1 h2
/-! All -/
/-- A pull: the unit, the type, whether it is needed, by whom. -/
abbrev Pl := Str × Int × Bool × Str
def outB (wo : List Pl) (k : Jp) : Bool := wo.any (fun p => p.1 == k.1 && p.2.1 == k.2)
def pullM (es : List Ed) (up half : List Str) (first : Jp) (wo : List Pl) : Ms := layP (bringB es up half) (outB wo) (6 * es.length + 1) [(first, [])] [first]
def needJ (E : Jp → List Bg) (j : Jp) : List Bg := (E j).filter (·.2)
def needM (es : List Ed) (up half : List Str) (first : Jp) (wo : List Pl) : Ms := layP (needJ (bringB es up half)) (outB wo) (6 * es.length + 1) [(first, [])] [first]
def byOf (m : Ms) (k : Jp) : Str := match m.find? (fun p => p.1 == k) with | none => [] | some p => p.2
def plOf (m n : Ms) (k : Jp) : Pl := (k.1, k.2, knownP n k, byOf m k)
def allP (es : List Ed) (up half : List Str) (first : Jp) (wo : List Pl) : List Pl := (canon ltJ (keysP (pullM es up half first wo))).map (plOf (pullM es up half first wo) (needM es up half first wo))
def asksB (ns : List Nd) (first : Jp) : Bool := (nodeOf ns first.1).isSome && (decide (1 ≤ first.2) && decide (first.2 ≤ 4))
def pullQ (ns : List Nd) (es : List Ed) (up half : List Str) (first : Jp) (wo : List Pl) : List Pl := if asksB ns first = true then allP es up half first wo else []
theorem need_cand {es : List Ed} {up half : List Str} (j : Jp) (b : Bg) (h : b ∈ needJ (bringB es up half) j) : b.1 ∈ candB es := bring_cand j b (List.mem_filter.1 h).1
theorem pullM_ok (es : List Ed) (up half : List Str) (first : Jp) (wo : List Pl) : Lay (bringB es up half) (outB wo) first (pullM es up half first wo) [] :=
  lay_ok (bring_cand) _ _ _ .zero (fun _ => by rw [candB_len]; simp <;> omega)
theorem needM_ok (es : List Ed) (up half : List Str) (first : Jp) (wo : List Pl) : Lay (needJ (bringB es up half)) (outB wo) first (needM es up half first wo) [] :=
  lay_ok (need_cand) _ _ _ .zero (fun _ => by rw [candB_len]; simp <;> omega)
theorem mem_pullM {es : List Ed} {up half : List Str} {first : Jp} {wo : List Pl} {k : Jp} : k ∈ keysP (pullM es up half first wo) ↔ Rj (bringB es up half) (outB wo) first k := (pullM_ok es up half first wo).iff k
theorem mem_needM {es : List Ed} {up half : List Str} {first : Jp} {wo : List Pl} {k : Jp} : k ∈ keysP (needM es up half first wo) ↔ Rj (needJ (bringB es up half)) (outB wo) first k := (needM_ok es up half first wo).iff k
theorem need_pull {es : List Ed} {up half : List Str} {first : Jp} {wo : List Pl} {k : Jp} (h : Rj (needJ (bringB es up half)) (outB wo) first k) : Rj (bringB es up half) (outB wo) first k :=
  h.mono (fun _ _ b hb _ => ⟨b, (List.mem_filter.1 hb).1, rfl⟩) (fun _ _ h => h)
theorem pullM_len (es : List Ed) (up half : List Str) (first : Jp) (wo : List Pl) : (pullM es up half first wo).length ≤ 6 * es.length + 1 := by
  have := (pullM_ok es up half first wo).len bring_cand
  rw [candB_len] at this; exact this
theorem allP_len (es : List Ed) (up half : List Str) (first : Jp) (wo : List Pl) : (allP es up half first wo).length ≤ 6 * es.length + 1 := by
  unfold allP
  rw [List.length_map]
  refine Nat.le_trans (canon_len _) ?_
  unfold keysP
  rw [List.length_map]
  exact pullM_len es up half first wo
theorem pullQ_len (ns : List Nd) (es : List Ed) (up half : List Str) (first : Jp) (wo : List Pl) : (pullQ ns es up half first wo).length ≤ 6 * es.length + 1 := by
  unfold pullQ; split
  · exact allP_len _ _ _ _ _
  · simp
theorem mem_allP {es : List Ed} {up half : List Str} {first : Jp} {wo : List Pl} {p : Pl} : p ∈ allP es up half first wo ↔ Rj (bringB es up half) (outB wo) first (p.1, p.2.1) ∧ (p.2.2.1 = true ↔ Rj (needJ (bringB es up half)) (outB wo) first (p.1, p.2.1)) ∧ p.2.2.2 = byOf (pullM es up half first wo) (p.1, p.2.1) := by
  unfold allP
  rw [List.mem_map]
  constructor
  · rintro ⟨k, hk, rfl⟩
    rw [mem_canon toJ, mem_pullM] at hk
    refine ⟨hk, ?_, rfl⟩
    show knownP _ k = true ↔ Rj _ _ _ k
    rw [knownP_iff, mem_needM]
  · rintro ⟨h1, h2, h3⟩
    refine ⟨(p.1, p.2.1), (mem_canon toJ).2 (mem_pullM.2 h1), ?_⟩
    obtain ⟨a, b, c, d⟩ := p
    simp only at *
    unfold plOf
    simp only
    rw [h3]
    have : knownP (needM es up half first wo) (a, b) = c := by
      rw [Bool.eq_iff_iff, knownP_iff, mem_needM]; exact h2.symm
    rw [this]
theorem allP_ss (es : List Ed) (up half : List Str) (first : Jp) (wo : List Pl) : (allP es up half first wo).Pairwise (fun p q => ltJ (p.1, p.2.1) (q.1, q.2.1) = true) := by
  unfold allP
  rw [List.pairwise_map]
  exact (canon_ss toJ _).imp fun h => h
theorem byOf_mem {m : Ms} (hd : (keysP m).Nodup) {p : Jp × Str} (hp : p ∈ m) : byOf m p.1 = p.2 := by
  unfold byOf
  induction m with
  | nil => cases hp
  | cons q r ih =>
    obtain ⟨h1, h2⟩ := List.nodup_cons.1 (show (q.1 :: keysP r).Nodup from hd)
    rw [List.find?_cons]
    by_cases e : q.1 = p.1
    · rw [show (q.1 == p.1) = true by simpa using e]
      simp only
      rcases List.mem_cons.1 hp with e2 | hp2
      · rw [e2]
      · exact absurd (List.mem_map.2 ⟨p, hp2, e.symm⟩) h1
    · rw [show (q.1 == p.1) = false by simpa using e]
      simp only
      rcases List.mem_cons.1 hp with e2 | hp2
      · exact absurd (by rw [e2]) e
      · exact ih h2 hp2
/-- By whom it was brought. -/
theorem by_cases_ {es : List Ed} {up half : List Str} {first : Jp} {wo : List Pl} {k : Jp} (h : Rj (bringB es up half) (outB wo) first k) :
    (k = first ∧ byOf (pullM es up half first wo) k = []) ∨ (k ≠ first ∧ outB wo k = false ∧ ∃ j, Rj (bringB es up half) (outB wo) first j ∧ j.1 = byOf (pullM es up half first wo) k ∧ ∃ b ∈ bringB es up half j, b.1 = k) := by
  have hl := pullM_ok es up half first wo
  obtain ⟨p, hp, rfl⟩ := List.mem_map.1 (mem_pullM.2 h)
  rw [byOf_mem hl.nd hp]
  rcases hl.by_ p hp with e | ⟨h1, j, hj, h2, b, hb, e⟩
  · exact .inl ⟨by rw [e], by rw [e]⟩
  · by_cases hf : p.1 = first
    · -- the first was known from the beginning
      have h0 : (first, ([] : Str)) ∈ pullM es up half first wo := by
        have hsub : ∀ (n : Nat) (m : Ms) (row : List Jp), (keysP m).Nodup → ∀ x ∈ m, x ∈ layP (bringB es up half) (outB wo) n m row := by
          intro n
          induction n with
          | zero => exact fun m row _ x hx => hx
          | succ n ih =>
            intro m row hd x hx
            cases row with
            | nil => exact hx
            | cons j r =>
              obtain ⟨xs, h5, _, h7, _⟩ := addP_fold (out := outB wo) ((j :: r).flatMap (brP (bringB es up half))) m [] hd
              have e5 : (stepP (bringB es up half) (outB wo) m (j :: r)).1 = m ++ xs := by unfold stepP; rw [h5]
              exact ih _ _ (by rw [e5]; exact h7) x (by rw [e5]; exact List.mem_append_left _ hx)
        exact hsub _ _ _ (by simp [keysP]) _ (.head _)
      have e1 := byOf_mem hl.nd hp
      have e2 := byOf_mem hl.nd h0
      simp only at e2
      rw [hf, e2] at e1
      exact .inl ⟨hf, e1.symm⟩
    · exact .inr ⟨hf, h1, j, mem_pullM.1 hj, h2, b, hb, e⟩
end Od
end Go.Proofs.YtbllehjhmfehbaaGreat
end
