/- My texts, joined for the claim: DOwn. -/
import Derived.Test.YtgfdcmlmgeoimaaZB1
import Derived.Test.YtgfdcmlmgeoimaaZB8

section
/- disk.own, disk.may. (bel2) -/
namespace Go.Proofs.Ytgfdcmlmgeoimaa
open Go.RowKit Go.Sort
set_option linter.unusedSimpArgs false
namespace Od
set_option maxRecDepth 100000 in
set_option maxHeartbeats 16000000 in
theorem own_any (i : Int) (u d g s t l : Str) (w : World) (hu : u.length ≤ 140737488355328) (hl : l.length ≤ 140737488355328) : Calls Try.prog 36 #[phV (i, u, d, g), flV (s, t, l)] w fun e w' => e = .returned (.bool (ownP u (s, t, l))) ∧ Below w.heap.size w w' := by
  have hm : ownP u (s, t, l) = (l == ([] : Str) || (t == ([] : Str) && (l == ([110, 117, 108, 108] : Str) || (kindS l == kindS u && tmplS l == tmplS u)))) := rfl
  have hKu := Lib.hid (fun W => Kind_any u W hu)
  have hKl := Lib.hid (fun W => Kind_any l W hl)
  have hIu := Lib.hid (fun W => Bare_any u W hu)
  have hIl := Lib.hid (fun W => Bare_any l W hl)
  have HM := Lib.hid hm
  clear hm
  cases hle : (l == ([] : Str))
  · cases hte : (t == ([] : Str))
    · skip
      go_enter Try.func36, Try.ntmps36
      go_wp2_with fail
      first | (refine wp_named ?_; intro W1 hW) | (refine calls_named ?_; intro W1 hW) | (refine exit_named ?_; intro W1 hW)
      have B1 : Below w.heap.size w W1 := by rw [hW]; exact (by repeat (first | exact Below.refl _ _ | assumption | refine Below.alloc ?_ (by first | omega | (simp <;> omega)) _ | refine Below.setCell ?_ (by first | omega | (simp <;> omega)) _ | refine Below.drew ?_))
      have n0 : w.heap.size < W1.heap.size := by rw [hW]; simp <;> omega
      have n1 : (w.heap.size + 1) < W1.heap.size := by rw [hW]; simp <;> omega
      have a1 : W1.cell? ⟨w.heap.size, 1, none⟩ = some (sv u) := by rw [hW]; go_simp
      have c1 : W1.cell? ⟨(w.heap.size + 1), 1, none⟩ = some (sv t) := by rw [hW]; go_simp
      have c2 : W1.cell? ⟨(w.heap.size + 1), 2, none⟩ = some (sv l) := by rw [hW]; go_simp
      clear hW
      have HB1 := Lib.hid B1
      clear B1
      go_upto_region 3 with fail
      try go_wp2_with fail
      refine wp_region_held_drew (S := fun w' => Below W1.heap.size W1 w') (by kernel_rfl) (Below.drew (Below.refl _ _)) (fun hHeld => ?_)
      refine tY (i := 0) (v := ?_) rfl ?_ hHeld ?_; rotate_left 1; focus (intro w' hSw; clear hSw; go_simp; try with_reducible rfl)
      (try simp only [Act.put, zn1, zn2, zn3])
      refine tY (i := 1) (v := ?_) rfl ?_ hHeld ?_; rotate_left 1; focus (intro w' hSw; have hCell := fun (b o : Nat) (h : b < W1.heap.size) => hSw.cell (p := ⟨b, o, none⟩) h; clear hSw; go_simp; try with_reducible rfl)
      (try simp only [Act.put, zn1, zn2, zn3])
      refine tY (i := 2) (v := ?_) rfl ?_ hHeld ?_; rotate_left 1; focus (intro w' hSw; clear hSw; go_simp; try with_reducible rfl)
      (try simp only [Act.put, zn1, zn2, zn3])
      refine tY (i := 3) (v := ?_) rfl ?_ hHeld ?_; rotate_left 1; focus (intro w' hSw; clear hSw; go_simp; try with_reducible rfl)
      (try simp only [Act.put, zn1, zn2, zn3])
      refine tS (i := 4) rfl hHeld ?_; (try simp only [Act.put, zn1, zn2, zn3])
      refine tS (i := 5) rfl hHeld ?_; (try simp only [Act.put, zn1, zn2, zn3])
      refine tS (i := 6) rfl hHeld ?_; (try simp only [Act.put, zn1, zn2, zn3])
      refine tS (i := 7) rfl hHeld ?_; (try simp only [Act.put, zn1, zn2, zn3])
      refine tS (i := 8) rfl hHeld ?_; (try simp only [Act.put, zn1, zn2, zn3])
      refine tS (i := 9) rfl hHeld ?_; (try simp only [Act.put, zn1, zn2, zn3])
      refine tS (i := 10) rfl hHeld ?_; (try simp only [Act.put, zn1, zn2, zn3])
      refine tS (i := 11) rfl hHeld ?_; (try simp only [Act.put, zn1, zn2, zn3])
      refine tS (i := 12) rfl hHeld ?_; (try simp only [Act.put, zn1, zn2, zn3])
      refine tS (i := 13) rfl hHeld ?_; (try simp only [Act.put, zn1, zn2, zn3])
      refine tS (i := 14) rfl hHeld ?_; (try simp only [Act.put, zn1, zn2, zn3])
      refine tS (i := 15) rfl hHeld ?_; (try simp only [Act.put, zn1, zn2, zn3])
      refine tS (i := 16) rfl hHeld ?_; (try simp only [Act.put, zn1, zn2, zn3])
      refine tS (i := 17) rfl hHeld ?_; (try simp only [Act.put, zn1, zn2, zn3])
      refine tS (i := 18) rfl hHeld ?_; (try simp only [Act.put, zn1, zn2, zn3])
      refine tS (i := 19) rfl hHeld ?_; (try simp only [Act.put, zn1, zn2, zn3])
      refine tS (i := 20) rfl hHeld ?_; (try simp only [Act.put, zn1, zn2, zn3])
      refine tS (i := 21) rfl hHeld ?_; (try simp only [Act.put, zn1, zn2, zn3])
      refine tS (i := 22) rfl hHeld ?_; (try simp only [Act.put, zn1, zn2, zn3])
      refine tS (i := 23) rfl hHeld ?_; (try simp only [Act.put, zn1, zn2, zn3])
      refine tS (i := 24) rfl hHeld ?_; (try simp only [Act.put, zn1, zn2, zn3])
      refine tY (i := 25) (v := ?_) rfl ?_ hHeld ?_; rotate_left 1; focus (intro w' hSw; clear hSw; go_simp; try with_reducible rfl)
      (try simp only [Act.put, zn1, zn2, zn3])
      refine tY (i := 26) (v := ?_) rfl ?_ hHeld ?_; rotate_left 1; focus (intro w' hSw; clear hSw; go_simp; try with_reducible rfl)
      (try simp only [Act.put, zn1, zn2, zn3])
      refine wpAnyH_done (by kernel_rfl) ?_ _
      go_wp2_with fail
      have hB0 := lift HB1.out hHeld
      go_ret
      refine ⟨ret_bool (by rw [HM.out]; simp [*]), ?_⟩
      repeat (first | (with_reducible exact hB0) | (with_reducible refine Below.drew ?_) | (with_reducible refine Below.alloc ?_ ?zs _; case zs => first | omega | (simp <;> omega)) | (with_reducible refine Below.setCell ?_ ?zs _; case zs => first | omega | (simp <;> omega)))
    · cases hln : (l == ([110, 117, 108, 108] : Str))
      · cases hkk : (kindS l == kindS u)
        · skip
          go_enter Try.func36, Try.ntmps36
          go_wp2_with fail
          first | (refine wp_named ?_; intro W1 hW) | (refine calls_named ?_; intro W1 hW) | (refine exit_named ?_; intro W1 hW)
          have B1 : Below w.heap.size w W1 := by rw [hW]; exact (by repeat (first | exact Below.refl _ _ | assumption | refine Below.alloc ?_ (by first | omega | (simp <;> omega)) _ | refine Below.setCell ?_ (by first | omega | (simp <;> omega)) _ | refine Below.drew ?_))
          have n0 : w.heap.size < W1.heap.size := by rw [hW]; simp <;> omega
          have n1 : (w.heap.size + 1) < W1.heap.size := by rw [hW]; simp <;> omega
          have a1 : W1.cell? ⟨w.heap.size, 1, none⟩ = some (sv u) := by rw [hW]; go_simp
          have c1 : W1.cell? ⟨(w.heap.size + 1), 1, none⟩ = some (sv t) := by rw [hW]; go_simp
          have c2 : W1.cell? ⟨(w.heap.size + 1), 2, none⟩ = some (sv l) := by rw [hW]; go_simp
          clear hW
          have HB1 := Lib.hid B1
          clear B1
          go_upto_region 3 with fail
          try go_wp2_with fail
          refine wp_region_held_drew (S := fun w' => Below W1.heap.size W1 w') (by kernel_rfl) (Below.drew (Below.refl _ _)) (fun hHeld => ?_)
          refine tY (i := 0) (v := ?_) rfl ?_ hHeld ?_; rotate_left 1; focus (intro w' hSw; clear hSw; go_simp; try with_reducible rfl)
          (try simp only [Act.put, zn1, zn2, zn3])
          refine tY (i := 1) (v := ?_) rfl ?_ hHeld ?_; rotate_left 1; focus (intro w' hSw; have hCell := fun (b o : Nat) (h : b < W1.heap.size) => hSw.cell (p := ⟨b, o, none⟩) h; clear hSw; go_simp; try with_reducible rfl)
          (try simp only [Act.put, zn1, zn2, zn3])
          refine tY (i := 2) (v := ?_) rfl ?_ hHeld ?_; rotate_left 1; focus (intro w' hSw; clear hSw; go_simp; try with_reducible rfl)
          (try simp only [Act.put, zn1, zn2, zn3])
          refine tY (i := 3) (v := ?_) rfl ?_ hHeld ?_; rotate_left 1; focus (intro w' hSw; clear hSw; go_simp; try with_reducible rfl)
          (try simp only [Act.put, zn1, zn2, zn3])
          refine tY (i := 4) (v := ?_) rfl ?_ hHeld ?_; rotate_left 1; focus (intro w' hSw; clear hSw; go_simp; try with_reducible rfl)
          (try simp only [Act.put, zn1, zn2, zn3])
          refine tY (i := 5) (v := ?_) rfl ?_ hHeld ?_; rotate_left 1; focus (intro w' hSw; have hCell := fun (b o : Nat) (h : b < W1.heap.size) => hSw.cell (p := ⟨b, o, none⟩) h; clear hSw; go_simp; try with_reducible rfl)
          (try simp only [Act.put, zn1, zn2, zn3])
          refine tY (i := 6) (v := ?_) rfl ?_ hHeld ?_; rotate_left 1; focus (intro w' hSw; clear hSw; go_simp; try with_reducible rfl)
          (try simp only [Act.put, zn1, zn2, zn3])
          refine tY (i := 7) (v := ?_) rfl ?_ hHeld ?_; rotate_left 1; focus (intro w' hSw; clear hSw; go_simp; try with_reducible rfl)
          (try simp only [Act.put, zn1, zn2, zn3])
          refine tY (i := 8) (v := ?_) rfl ?_ hHeld ?_; rotate_left 1; focus (intro w' hSw; clear hSw; go_simp; try with_reducible rfl)
          (try simp only [Act.put, zn1, zn2, zn3])
          refine tY (i := 9) (v := ?_) rfl ?_ hHeld ?_; rotate_left 1; focus (intro w' hSw; have hCell := fun (b o : Nat) (h : b < W1.heap.size) => hSw.cell (p := ⟨b, o, none⟩) h; clear hSw; go_simp; try with_reducible rfl)
          (try simp only [Act.put, zn1, zn2, zn3])
          refine tY (i := 11) (v := ?_) rfl ?_ hHeld ?_; rotate_left 1; focus (intro w' hSw; clear hSw; go_simp; try with_reducible rfl)
          (try simp only [Act.put, zn1, zn2, zn3])
          refine tY (i := 12) (v := ?_) rfl ?_ hHeld ?_; rotate_left 1; focus (intro w' hSw; have hCell := fun (b o : Nat) (h : b < W1.heap.size) => hSw.cell (p := ⟨b, o, none⟩) h; clear hSw; go_simp; try with_reducible rfl)
          (try simp only [Act.put, zn1, zn2, zn3])
          refine ready_one (i := 10) rfl (by kernel_rfl) (fun K hK => ?_)
          go_simp
          refine (hKl.out _).mono ?_
          rintro e y2 ⟨rfl, hb⟩
          refine hK.out _ _ ?_ (fun hHeld2 => ?_)
          · (try dsimp only); first | exact Below.trans hHeld (Below.mono hb hHeld.size) | exact hHeld | exact Below.drew hHeld | exact (by repeat (first | exact Below.refl _ _ | assumption | refine Below.alloc ?_ (by first | omega | (simp <;> omega)) _ | refine Below.setCell ?_ (by first | omega | (simp <;> omega)) _ | refine Below.drew ?_))
          clear hK K hHeld; have hHeld := hHeld2; clear hHeld2; (try simp only [Act.put, zn1, zn2, zn3])
          refine ready_one (i := 13) rfl (by kernel_rfl) (fun K hK => ?_)
          go_simp
          refine (hKu.out _).mono ?_
          rintro e y3 ⟨rfl, hb⟩
          refine hK.out _ _ ?_ (fun hHeld2 => ?_)
          · (try dsimp only); first | exact Below.trans hHeld (Below.mono hb hHeld.size) | exact hHeld | exact Below.drew hHeld | exact (by repeat (first | exact Below.refl _ _ | assumption | refine Below.alloc ?_ (by first | omega | (simp <;> omega)) _ | refine Below.setCell ?_ (by first | omega | (simp <;> omega)) _ | refine Below.drew ?_))
          clear hK K hHeld; have hHeld := hHeld2; clear hHeld2; (try simp only [Act.put, zn1, zn2, zn3])
          refine tY (i := 14) (v := ?_) rfl ?_ hHeld ?_; rotate_left 1; focus (intro w' hSw; clear hSw; go_simp; try with_reducible rfl)
          (try simp only [Act.put, zn1, zn2, zn3])
          refine tY (i := 15) (v := ?_) rfl ?_ hHeld ?_; rotate_left 1; focus (intro w' hSw; clear hSw; go_simp; try with_reducible rfl)
          (try simp only [Act.put, zn1, zn2, zn3])
          refine tS (i := 16) rfl hHeld ?_; (try simp only [Act.put, zn1, zn2, zn3])
          refine tS (i := 17) rfl hHeld ?_; (try simp only [Act.put, zn1, zn2, zn3])
          refine tS (i := 18) rfl hHeld ?_; (try simp only [Act.put, zn1, zn2, zn3])
          refine tS (i := 19) rfl hHeld ?_; (try simp only [Act.put, zn1, zn2, zn3])
          refine tS (i := 20) rfl hHeld ?_; (try simp only [Act.put, zn1, zn2, zn3])
          refine tS (i := 21) rfl hHeld ?_; (try simp only [Act.put, zn1, zn2, zn3])
          refine tS (i := 22) rfl hHeld ?_; (try simp only [Act.put, zn1, zn2, zn3])
          refine tY (i := 23) (v := ?_) rfl ?_ hHeld ?_; rotate_left 1; focus (intro w' hSw; clear hSw; go_simp; try with_reducible rfl)
          (try simp only [Act.put, zn1, zn2, zn3])
          refine tY (i := 24) (v := ?_) rfl ?_ hHeld ?_; rotate_left 1; focus (intro w' hSw; clear hSw; go_simp; try with_reducible rfl)
          (try simp only [Act.put, zn1, zn2, zn3])
          refine tY (i := 25) (v := ?_) rfl ?_ hHeld ?_; rotate_left 1; focus (intro w' hSw; clear hSw; go_simp; try with_reducible rfl)
          (try simp only [Act.put, zn1, zn2, zn3])
          refine tY (i := 26) (v := ?_) rfl ?_ hHeld ?_; rotate_left 1; focus (intro w' hSw; clear hSw; go_simp; try with_reducible rfl)
          (try simp only [Act.put, zn1, zn2, zn3])
          refine wpAnyH_done (by kernel_rfl) ?_ _
          go_wp2_with fail
          have hB0 := lift HB1.out hHeld
          go_ret
          refine ⟨ret_bool (by rw [HM.out]; simp [*]), ?_⟩
          repeat (first | (with_reducible exact hB0) | (with_reducible refine Below.drew ?_) | (with_reducible refine Below.alloc ?_ ?zs _; case zs => first | omega | (simp <;> omega)) | (with_reducible refine Below.setCell ?_ ?zs _; case zs => first | omega | (simp <;> omega)))
        · cases htt : (tmplS l == tmplS u)
          · skip
            go_enter Try.func36, Try.ntmps36
            go_wp2_with fail
            first | (refine wp_named ?_; intro W1 hW) | (refine calls_named ?_; intro W1 hW) | (refine exit_named ?_; intro W1 hW)
            have B1 : Below w.heap.size w W1 := by rw [hW]; exact (by repeat (first | exact Below.refl _ _ | assumption | refine Below.alloc ?_ (by first | omega | (simp <;> omega)) _ | refine Below.setCell ?_ (by first | omega | (simp <;> omega)) _ | refine Below.drew ?_))
            have n0 : w.heap.size < W1.heap.size := by rw [hW]; simp <;> omega
            have n1 : (w.heap.size + 1) < W1.heap.size := by rw [hW]; simp <;> omega
            have a1 : W1.cell? ⟨w.heap.size, 1, none⟩ = some (sv u) := by rw [hW]; go_simp
            have c1 : W1.cell? ⟨(w.heap.size + 1), 1, none⟩ = some (sv t) := by rw [hW]; go_simp
            have c2 : W1.cell? ⟨(w.heap.size + 1), 2, none⟩ = some (sv l) := by rw [hW]; go_simp
            clear hW
            have HB1 := Lib.hid B1
            clear B1
            go_upto_region 3 with fail
            try go_wp2_with fail
            refine wp_region_held_drew (S := fun w' => Below W1.heap.size W1 w') (by kernel_rfl) (Below.drew (Below.refl _ _)) (fun hHeld => ?_)
            refine tY (i := 0) (v := ?_) rfl ?_ hHeld ?_; rotate_left 1; focus (intro w' hSw; clear hSw; go_simp; try with_reducible rfl)
            (try simp only [Act.put, zn1, zn2, zn3])
            refine tY (i := 1) (v := ?_) rfl ?_ hHeld ?_; rotate_left 1; focus (intro w' hSw; have hCell := fun (b o : Nat) (h : b < W1.heap.size) => hSw.cell (p := ⟨b, o, none⟩) h; clear hSw; go_simp; try with_reducible rfl)
            (try simp only [Act.put, zn1, zn2, zn3])
            refine tY (i := 2) (v := ?_) rfl ?_ hHeld ?_; rotate_left 1; focus (intro w' hSw; clear hSw; go_simp; try with_reducible rfl)
            (try simp only [Act.put, zn1, zn2, zn3])
            refine tY (i := 3) (v := ?_) rfl ?_ hHeld ?_; rotate_left 1; focus (intro w' hSw; clear hSw; go_simp; try with_reducible rfl)
            (try simp only [Act.put, zn1, zn2, zn3])
            refine tY (i := 4) (v := ?_) rfl ?_ hHeld ?_; rotate_left 1; focus (intro w' hSw; clear hSw; go_simp; try with_reducible rfl)
            (try simp only [Act.put, zn1, zn2, zn3])
            refine tY (i := 5) (v := ?_) rfl ?_ hHeld ?_; rotate_left 1; focus (intro w' hSw; have hCell := fun (b o : Nat) (h : b < W1.heap.size) => hSw.cell (p := ⟨b, o, none⟩) h; clear hSw; go_simp; try with_reducible rfl)
            (try simp only [Act.put, zn1, zn2, zn3])
            refine tY (i := 6) (v := ?_) rfl ?_ hHeld ?_; rotate_left 1; focus (intro w' hSw; clear hSw; go_simp; try with_reducible rfl)
            (try simp only [Act.put, zn1, zn2, zn3])
            refine tY (i := 7) (v := ?_) rfl ?_ hHeld ?_; rotate_left 1; focus (intro w' hSw; clear hSw; go_simp; try with_reducible rfl)
            (try simp only [Act.put, zn1, zn2, zn3])
            refine tY (i := 8) (v := ?_) rfl ?_ hHeld ?_; rotate_left 1; focus (intro w' hSw; clear hSw; go_simp; try with_reducible rfl)
            (try simp only [Act.put, zn1, zn2, zn3])
            refine tY (i := 9) (v := ?_) rfl ?_ hHeld ?_; rotate_left 1; focus (intro w' hSw; have hCell := fun (b o : Nat) (h : b < W1.heap.size) => hSw.cell (p := ⟨b, o, none⟩) h; clear hSw; go_simp; try with_reducible rfl)
            (try simp only [Act.put, zn1, zn2, zn3])
            refine tY (i := 11) (v := ?_) rfl ?_ hHeld ?_; rotate_left 1; focus (intro w' hSw; clear hSw; go_simp; try with_reducible rfl)
            (try simp only [Act.put, zn1, zn2, zn3])
            refine tY (i := 12) (v := ?_) rfl ?_ hHeld ?_; rotate_left 1; focus (intro w' hSw; have hCell := fun (b o : Nat) (h : b < W1.heap.size) => hSw.cell (p := ⟨b, o, none⟩) h; clear hSw; go_simp; try with_reducible rfl)
            (try simp only [Act.put, zn1, zn2, zn3])
            refine ready_one (i := 10) rfl (by kernel_rfl) (fun K hK => ?_)
            go_simp
            refine (hKl.out _).mono ?_
            rintro e y2 ⟨rfl, hb⟩
            refine hK.out _ _ ?_ (fun hHeld2 => ?_)
            · (try dsimp only); first | exact Below.trans hHeld (Below.mono hb hHeld.size) | exact hHeld | exact Below.drew hHeld | exact (by repeat (first | exact Below.refl _ _ | assumption | refine Below.alloc ?_ (by first | omega | (simp <;> omega)) _ | refine Below.setCell ?_ (by first | omega | (simp <;> omega)) _ | refine Below.drew ?_))
            clear hK K hHeld; have hHeld := hHeld2; clear hHeld2; (try simp only [Act.put, zn1, zn2, zn3])
            refine ready_one (i := 13) rfl (by kernel_rfl) (fun K hK => ?_)
            go_simp
            refine (hKu.out _).mono ?_
            rintro e y3 ⟨rfl, hb⟩
            refine hK.out _ _ ?_ (fun hHeld2 => ?_)
            · (try dsimp only); first | exact Below.trans hHeld (Below.mono hb hHeld.size) | exact hHeld | exact Below.drew hHeld | exact (by repeat (first | exact Below.refl _ _ | assumption | refine Below.alloc ?_ (by first | omega | (simp <;> omega)) _ | refine Below.setCell ?_ (by first | omega | (simp <;> omega)) _ | refine Below.drew ?_))
            clear hK K hHeld; have hHeld := hHeld2; clear hHeld2; (try simp only [Act.put, zn1, zn2, zn3])
            refine tY (i := 14) (v := ?_) rfl ?_ hHeld ?_; rotate_left 1; focus (intro w' hSw; clear hSw; go_simp; try with_reducible rfl)
            (try simp only [Act.put, zn1, zn2, zn3])
            refine tY (i := 15) (v := ?_) rfl ?_ hHeld ?_; rotate_left 1; focus (intro w' hSw; clear hSw; go_simp; try with_reducible rfl)
            (try simp only [Act.put, zn1, zn2, zn3])
            refine tY (i := 16) (v := ?_) rfl ?_ hHeld ?_; rotate_left 1; focus (intro w' hSw; clear hSw; go_simp; try with_reducible rfl)
            (try simp only [Act.put, zn1, zn2, zn3])
            refine tY (i := 17) (v := ?_) rfl ?_ hHeld ?_; rotate_left 1; focus (intro w' hSw; have hCell := fun (b o : Nat) (h : b < W1.heap.size) => hSw.cell (p := ⟨b, o, none⟩) h; clear hSw; go_simp; try with_reducible rfl)
            (try simp only [Act.put, zn1, zn2, zn3])
            refine tY (i := 19) (v := ?_) rfl ?_ hHeld ?_; rotate_left 1; focus (intro w' hSw; clear hSw; go_simp; try with_reducible rfl)
            (try simp only [Act.put, zn1, zn2, zn3])
            refine tY (i := 20) (v := ?_) rfl ?_ hHeld ?_; rotate_left 1; focus (intro w' hSw; have hCell := fun (b o : Nat) (h : b < W1.heap.size) => hSw.cell (p := ⟨b, o, none⟩) h; clear hSw; go_simp; try with_reducible rfl)
            (try simp only [Act.put, zn1, zn2, zn3])
            refine ready_one (i := 18) rfl (by kernel_rfl) (fun K hK => ?_)
            go_simp
            refine (hIl.out _).mono ?_
            rintro e y4 ⟨rfl, hb⟩
            refine hK.out _ _ ?_ (fun hHeld2 => ?_)
            · (try dsimp only); first | exact Below.trans hHeld (Below.mono hb hHeld.size) | exact hHeld | exact Below.drew hHeld | exact (by repeat (first | exact Below.refl _ _ | assumption | refine Below.alloc ?_ (by first | omega | (simp <;> omega)) _ | refine Below.setCell ?_ (by first | omega | (simp <;> omega)) _ | refine Below.drew ?_))
            clear hK K hHeld; have hHeld := hHeld2; clear hHeld2; (try simp only [Act.put, zn1, zn2, zn3])
            refine ready_one (i := 21) rfl (by kernel_rfl) (fun K hK => ?_)
            go_simp
            refine (hIu.out _).mono ?_
            rintro e y5 ⟨rfl, hb⟩
            refine hK.out _ _ ?_ (fun hHeld2 => ?_)
            · (try dsimp only); first | exact Below.trans hHeld (Below.mono hb hHeld.size) | exact hHeld | exact Below.drew hHeld | exact (by repeat (first | exact Below.refl _ _ | assumption | refine Below.alloc ?_ (by first | omega | (simp <;> omega)) _ | refine Below.setCell ?_ (by first | omega | (simp <;> omega)) _ | refine Below.drew ?_))
            clear hK K hHeld; have hHeld := hHeld2; clear hHeld2; (try simp only [Act.put, zn1, zn2, zn3])
            refine tY (i := 22) (v := ?_) rfl ?_ hHeld ?_; rotate_left 1; focus (intro w' hSw; clear hSw; go_simp; try with_reducible rfl)
            (try simp only [Act.put, zn1, zn2, zn3])
            refine tY (i := 23) (v := ?_) rfl ?_ hHeld ?_; rotate_left 1; focus (intro w' hSw; clear hSw; go_simp; try with_reducible rfl)
            (try simp only [Act.put, zn1, zn2, zn3])
            refine tY (i := 24) (v := ?_) rfl ?_ hHeld ?_; rotate_left 1; focus (intro w' hSw; clear hSw; go_simp; try with_reducible rfl)
            (try simp only [Act.put, zn1, zn2, zn3])
            refine tY (i := 25) (v := ?_) rfl ?_ hHeld ?_; rotate_left 1; focus (intro w' hSw; clear hSw; go_simp; try with_reducible rfl)
            (try simp only [Act.put, zn1, zn2, zn3])
            refine tY (i := 26) (v := ?_) rfl ?_ hHeld ?_; rotate_left 1; focus (intro w' hSw; clear hSw; go_simp; try with_reducible rfl)
            (try simp only [Act.put, zn1, zn2, zn3])
            refine wpAnyH_done (by kernel_rfl) ?_ _
            go_wp2_with fail
            have hB0 := lift HB1.out hHeld
            go_ret
            refine ⟨ret_bool (by rw [HM.out]; simp [*]), ?_⟩
            repeat (first | (with_reducible exact hB0) | (with_reducible refine Below.drew ?_) | (with_reducible refine Below.alloc ?_ ?zs _; case zs => first | omega | (simp <;> omega)) | (with_reducible refine Below.setCell ?_ ?zs _; case zs => first | omega | (simp <;> omega)))
          · skip
            go_enter Try.func36, Try.ntmps36
            go_wp2_with fail
            first | (refine wp_named ?_; intro W1 hW) | (refine calls_named ?_; intro W1 hW) | (refine exit_named ?_; intro W1 hW)
            have B1 : Below w.heap.size w W1 := by rw [hW]; exact (by repeat (first | exact Below.refl _ _ | assumption | refine Below.alloc ?_ (by first | omega | (simp <;> omega)) _ | refine Below.setCell ?_ (by first | omega | (simp <;> omega)) _ | refine Below.drew ?_))
            have n0 : w.heap.size < W1.heap.size := by rw [hW]; simp <;> omega
            have n1 : (w.heap.size + 1) < W1.heap.size := by rw [hW]; simp <;> omega
            have a1 : W1.cell? ⟨w.heap.size, 1, none⟩ = some (sv u) := by rw [hW]; go_simp
            have c1 : W1.cell? ⟨(w.heap.size + 1), 1, none⟩ = some (sv t) := by rw [hW]; go_simp
            have c2 : W1.cell? ⟨(w.heap.size + 1), 2, none⟩ = some (sv l) := by rw [hW]; go_simp
            clear hW
            have HB1 := Lib.hid B1
            clear B1
            go_upto_region 3 with fail
            try go_wp2_with fail
            refine wp_region_held_drew (S := fun w' => Below W1.heap.size W1 w') (by kernel_rfl) (Below.drew (Below.refl _ _)) (fun hHeld => ?_)
            refine tY (i := 0) (v := ?_) rfl ?_ hHeld ?_; rotate_left 1; focus (intro w' hSw; clear hSw; go_simp; try with_reducible rfl)
            (try simp only [Act.put, zn1, zn2, zn3])
            refine tY (i := 1) (v := ?_) rfl ?_ hHeld ?_; rotate_left 1; focus (intro w' hSw; have hCell := fun (b o : Nat) (h : b < W1.heap.size) => hSw.cell (p := ⟨b, o, none⟩) h; clear hSw; go_simp; try with_reducible rfl)
            (try simp only [Act.put, zn1, zn2, zn3])
            refine tY (i := 2) (v := ?_) rfl ?_ hHeld ?_; rotate_left 1; focus (intro w' hSw; clear hSw; go_simp; try with_reducible rfl)
            (try simp only [Act.put, zn1, zn2, zn3])
            refine tY (i := 3) (v := ?_) rfl ?_ hHeld ?_; rotate_left 1; focus (intro w' hSw; clear hSw; go_simp; try with_reducible rfl)
            (try simp only [Act.put, zn1, zn2, zn3])
            refine tY (i := 4) (v := ?_) rfl ?_ hHeld ?_; rotate_left 1; focus (intro w' hSw; clear hSw; go_simp; try with_reducible rfl)
            (try simp only [Act.put, zn1, zn2, zn3])
            refine tY (i := 5) (v := ?_) rfl ?_ hHeld ?_; rotate_left 1; focus (intro w' hSw; have hCell := fun (b o : Nat) (h : b < W1.heap.size) => hSw.cell (p := ⟨b, o, none⟩) h; clear hSw; go_simp; try with_reducible rfl)
            (try simp only [Act.put, zn1, zn2, zn3])
            refine tY (i := 6) (v := ?_) rfl ?_ hHeld ?_; rotate_left 1; focus (intro w' hSw; clear hSw; go_simp; try with_reducible rfl)
            (try simp only [Act.put, zn1, zn2, zn3])
            refine tY (i := 7) (v := ?_) rfl ?_ hHeld ?_; rotate_left 1; focus (intro w' hSw; clear hSw; go_simp; try with_reducible rfl)
            (try simp only [Act.put, zn1, zn2, zn3])
            refine tY (i := 8) (v := ?_) rfl ?_ hHeld ?_; rotate_left 1; focus (intro w' hSw; clear hSw; go_simp; try with_reducible rfl)
            (try simp only [Act.put, zn1, zn2, zn3])
            refine tY (i := 9) (v := ?_) rfl ?_ hHeld ?_; rotate_left 1; focus (intro w' hSw; have hCell := fun (b o : Nat) (h : b < W1.heap.size) => hSw.cell (p := ⟨b, o, none⟩) h; clear hSw; go_simp; try with_reducible rfl)
            (try simp only [Act.put, zn1, zn2, zn3])
            refine tY (i := 11) (v := ?_) rfl ?_ hHeld ?_; rotate_left 1; focus (intro w' hSw; clear hSw; go_simp; try with_reducible rfl)
            (try simp only [Act.put, zn1, zn2, zn3])
            refine tY (i := 12) (v := ?_) rfl ?_ hHeld ?_; rotate_left 1; focus (intro w' hSw; have hCell := fun (b o : Nat) (h : b < W1.heap.size) => hSw.cell (p := ⟨b, o, none⟩) h; clear hSw; go_simp; try with_reducible rfl)
            (try simp only [Act.put, zn1, zn2, zn3])
            refine ready_one (i := 10) rfl (by kernel_rfl) (fun K hK => ?_)
            go_simp
            refine (hKl.out _).mono ?_
            rintro e y2 ⟨rfl, hb⟩
            refine hK.out _ _ ?_ (fun hHeld2 => ?_)
            · (try dsimp only); first | exact Below.trans hHeld (Below.mono hb hHeld.size) | exact hHeld | exact Below.drew hHeld | exact (by repeat (first | exact Below.refl _ _ | assumption | refine Below.alloc ?_ (by first | omega | (simp <;> omega)) _ | refine Below.setCell ?_ (by first | omega | (simp <;> omega)) _ | refine Below.drew ?_))
            clear hK K hHeld; have hHeld := hHeld2; clear hHeld2; (try simp only [Act.put, zn1, zn2, zn3])
            refine ready_one (i := 13) rfl (by kernel_rfl) (fun K hK => ?_)
            go_simp
            refine (hKu.out _).mono ?_
            rintro e y3 ⟨rfl, hb⟩
            refine hK.out _ _ ?_ (fun hHeld2 => ?_)
            · (try dsimp only); first | exact Below.trans hHeld (Below.mono hb hHeld.size) | exact hHeld | exact Below.drew hHeld | exact (by repeat (first | exact Below.refl _ _ | assumption | refine Below.alloc ?_ (by first | omega | (simp <;> omega)) _ | refine Below.setCell ?_ (by first | omega | (simp <;> omega)) _ | refine Below.drew ?_))
            clear hK K hHeld; have hHeld := hHeld2; clear hHeld2; (try simp only [Act.put, zn1, zn2, zn3])
            refine tY (i := 14) (v := ?_) rfl ?_ hHeld ?_; rotate_left 1; focus (intro w' hSw; clear hSw; go_simp; try with_reducible rfl)
            (try simp only [Act.put, zn1, zn2, zn3])
            refine tY (i := 15) (v := ?_) rfl ?_ hHeld ?_; rotate_left 1; focus (intro w' hSw; clear hSw; go_simp; try with_reducible rfl)
            (try simp only [Act.put, zn1, zn2, zn3])
            refine tY (i := 16) (v := ?_) rfl ?_ hHeld ?_; rotate_left 1; focus (intro w' hSw; clear hSw; go_simp; try with_reducible rfl)
            (try simp only [Act.put, zn1, zn2, zn3])
            refine tY (i := 17) (v := ?_) rfl ?_ hHeld ?_; rotate_left 1; focus (intro w' hSw; have hCell := fun (b o : Nat) (h : b < W1.heap.size) => hSw.cell (p := ⟨b, o, none⟩) h; clear hSw; go_simp; try with_reducible rfl)
            (try simp only [Act.put, zn1, zn2, zn3])
            refine tY (i := 19) (v := ?_) rfl ?_ hHeld ?_; rotate_left 1; focus (intro w' hSw; clear hSw; go_simp; try with_reducible rfl)
            (try simp only [Act.put, zn1, zn2, zn3])
            refine tY (i := 20) (v := ?_) rfl ?_ hHeld ?_; rotate_left 1; focus (intro w' hSw; have hCell := fun (b o : Nat) (h : b < W1.heap.size) => hSw.cell (p := ⟨b, o, none⟩) h; clear hSw; go_simp; try with_reducible rfl)
            (try simp only [Act.put, zn1, zn2, zn3])
            refine ready_one (i := 18) rfl (by kernel_rfl) (fun K hK => ?_)
            go_simp
            refine (hIl.out _).mono ?_
            rintro e y4 ⟨rfl, hb⟩
            refine hK.out _ _ ?_ (fun hHeld2 => ?_)
            · (try dsimp only); first | exact Below.trans hHeld (Below.mono hb hHeld.size) | exact hHeld | exact Below.drew hHeld | exact (by repeat (first | exact Below.refl _ _ | assumption | refine Below.alloc ?_ (by first | omega | (simp <;> omega)) _ | refine Below.setCell ?_ (by first | omega | (simp <;> omega)) _ | refine Below.drew ?_))
            clear hK K hHeld; have hHeld := hHeld2; clear hHeld2; (try simp only [Act.put, zn1, zn2, zn3])
            refine ready_one (i := 21) rfl (by kernel_rfl) (fun K hK => ?_)
            go_simp
            refine (hIu.out _).mono ?_
            rintro e y5 ⟨rfl, hb⟩
            refine hK.out _ _ ?_ (fun hHeld2 => ?_)
            · (try dsimp only); first | exact Below.trans hHeld (Below.mono hb hHeld.size) | exact hHeld | exact Below.drew hHeld | exact (by repeat (first | exact Below.refl _ _ | assumption | refine Below.alloc ?_ (by first | omega | (simp <;> omega)) _ | refine Below.setCell ?_ (by first | omega | (simp <;> omega)) _ | refine Below.drew ?_))
            clear hK K hHeld; have hHeld := hHeld2; clear hHeld2; (try simp only [Act.put, zn1, zn2, zn3])
            refine tY (i := 22) (v := ?_) rfl ?_ hHeld ?_; rotate_left 1; focus (intro w' hSw; clear hSw; go_simp; try with_reducible rfl)
            (try simp only [Act.put, zn1, zn2, zn3])
            refine tY (i := 23) (v := ?_) rfl ?_ hHeld ?_; rotate_left 1; focus (intro w' hSw; clear hSw; go_simp; try with_reducible rfl)
            (try simp only [Act.put, zn1, zn2, zn3])
            refine tY (i := 24) (v := ?_) rfl ?_ hHeld ?_; rotate_left 1; focus (intro w' hSw; clear hSw; go_simp; try with_reducible rfl)
            (try simp only [Act.put, zn1, zn2, zn3])
            refine tY (i := 25) (v := ?_) rfl ?_ hHeld ?_; rotate_left 1; focus (intro w' hSw; clear hSw; go_simp; try with_reducible rfl)
            (try simp only [Act.put, zn1, zn2, zn3])
            refine tY (i := 26) (v := ?_) rfl ?_ hHeld ?_; rotate_left 1; focus (intro w' hSw; clear hSw; go_simp; try with_reducible rfl)
            (try simp only [Act.put, zn1, zn2, zn3])
            refine wpAnyH_done (by kernel_rfl) ?_ _
            go_wp2_with fail
            have hB0 := lift HB1.out hHeld
            go_ret
            refine ⟨ret_bool (by rw [HM.out]; simp [*]), ?_⟩
            repeat (first | (with_reducible exact hB0) | (with_reducible refine Below.drew ?_) | (with_reducible refine Below.alloc ?_ ?zs _; case zs => first | omega | (simp <;> omega)) | (with_reducible refine Below.setCell ?_ ?zs _; case zs => first | omega | (simp <;> omega)))
      · skip
        go_enter Try.func36, Try.ntmps36
        go_wp2_with fail
        first | (refine wp_named ?_; intro W1 hW) | (refine calls_named ?_; intro W1 hW) | (refine exit_named ?_; intro W1 hW)
        have B1 : Below w.heap.size w W1 := by rw [hW]; exact (by repeat (first | exact Below.refl _ _ | assumption | refine Below.alloc ?_ (by first | omega | (simp <;> omega)) _ | refine Below.setCell ?_ (by first | omega | (simp <;> omega)) _ | refine Below.drew ?_))
        have n0 : w.heap.size < W1.heap.size := by rw [hW]; simp <;> omega
        have n1 : (w.heap.size + 1) < W1.heap.size := by rw [hW]; simp <;> omega
        have a1 : W1.cell? ⟨w.heap.size, 1, none⟩ = some (sv u) := by rw [hW]; go_simp
        have c1 : W1.cell? ⟨(w.heap.size + 1), 1, none⟩ = some (sv t) := by rw [hW]; go_simp
        have c2 : W1.cell? ⟨(w.heap.size + 1), 2, none⟩ = some (sv l) := by rw [hW]; go_simp
        clear hW
        have HB1 := Lib.hid B1
        clear B1
        go_upto_region 3 with fail
        try go_wp2_with fail
        refine wp_region_held_drew (S := fun w' => Below W1.heap.size W1 w') (by kernel_rfl) (Below.drew (Below.refl _ _)) (fun hHeld => ?_)
        refine tY (i := 0) (v := ?_) rfl ?_ hHeld ?_; rotate_left 1; focus (intro w' hSw; clear hSw; go_simp; try with_reducible rfl)
        (try simp only [Act.put, zn1, zn2, zn3])
        refine tY (i := 1) (v := ?_) rfl ?_ hHeld ?_; rotate_left 1; focus (intro w' hSw; have hCell := fun (b o : Nat) (h : b < W1.heap.size) => hSw.cell (p := ⟨b, o, none⟩) h; clear hSw; go_simp; try with_reducible rfl)
        (try simp only [Act.put, zn1, zn2, zn3])
        refine tY (i := 2) (v := ?_) rfl ?_ hHeld ?_; rotate_left 1; focus (intro w' hSw; clear hSw; go_simp; try with_reducible rfl)
        (try simp only [Act.put, zn1, zn2, zn3])
        refine tY (i := 3) (v := ?_) rfl ?_ hHeld ?_; rotate_left 1; focus (intro w' hSw; clear hSw; go_simp; try with_reducible rfl)
        (try simp only [Act.put, zn1, zn2, zn3])
        refine tY (i := 4) (v := ?_) rfl ?_ hHeld ?_; rotate_left 1; focus (intro w' hSw; clear hSw; go_simp; try with_reducible rfl)
        (try simp only [Act.put, zn1, zn2, zn3])
        refine tY (i := 5) (v := ?_) rfl ?_ hHeld ?_; rotate_left 1; focus (intro w' hSw; have hCell := fun (b o : Nat) (h : b < W1.heap.size) => hSw.cell (p := ⟨b, o, none⟩) h; clear hSw; go_simp; try with_reducible rfl)
        (try simp only [Act.put, zn1, zn2, zn3])
        refine tY (i := 6) (v := ?_) rfl ?_ hHeld ?_; rotate_left 1; focus (intro w' hSw; clear hSw; go_simp; try with_reducible rfl)
        (try simp only [Act.put, zn1, zn2, zn3])
        refine tY (i := 7) (v := ?_) rfl ?_ hHeld ?_; rotate_left 1; focus (intro w' hSw; clear hSw; go_simp; try with_reducible rfl)
        (try simp only [Act.put, zn1, zn2, zn3])
        refine tS (i := 8) rfl hHeld ?_; (try simp only [Act.put, zn1, zn2, zn3])
        refine tS (i := 9) rfl hHeld ?_; (try simp only [Act.put, zn1, zn2, zn3])
        refine tS (i := 10) rfl hHeld ?_; (try simp only [Act.put, zn1, zn2, zn3])
        refine tS (i := 11) rfl hHeld ?_; (try simp only [Act.put, zn1, zn2, zn3])
        refine tS (i := 12) rfl hHeld ?_; (try simp only [Act.put, zn1, zn2, zn3])
        refine tS (i := 13) rfl hHeld ?_; (try simp only [Act.put, zn1, zn2, zn3])
        refine tS (i := 14) rfl hHeld ?_; (try simp only [Act.put, zn1, zn2, zn3])
        refine tS (i := 15) rfl hHeld ?_; (try simp only [Act.put, zn1, zn2, zn3])
        refine tS (i := 16) rfl hHeld ?_; (try simp only [Act.put, zn1, zn2, zn3])
        refine tS (i := 17) rfl hHeld ?_; (try simp only [Act.put, zn1, zn2, zn3])
        refine tS (i := 18) rfl hHeld ?_; (try simp only [Act.put, zn1, zn2, zn3])
        refine tS (i := 19) rfl hHeld ?_; (try simp only [Act.put, zn1, zn2, zn3])
        refine tS (i := 20) rfl hHeld ?_; (try simp only [Act.put, zn1, zn2, zn3])
        refine tS (i := 21) rfl hHeld ?_; (try simp only [Act.put, zn1, zn2, zn3])
        refine tS (i := 22) rfl hHeld ?_; (try simp only [Act.put, zn1, zn2, zn3])
        refine tS (i := 23) rfl hHeld ?_; (try simp only [Act.put, zn1, zn2, zn3])
        refine tY (i := 24) (v := ?_) rfl ?_ hHeld ?_; rotate_left 1; focus (intro w' hSw; clear hSw; go_simp; try with_reducible rfl)
        (try simp only [Act.put, zn1, zn2, zn3])
        refine tY (i := 25) (v := ?_) rfl ?_ hHeld ?_; rotate_left 1; focus (intro w' hSw; clear hSw; go_simp; try with_reducible rfl)
        (try simp only [Act.put, zn1, zn2, zn3])
        refine tY (i := 26) (v := ?_) rfl ?_ hHeld ?_; rotate_left 1; focus (intro w' hSw; clear hSw; go_simp; try with_reducible rfl)
        (try simp only [Act.put, zn1, zn2, zn3])
        refine wpAnyH_done (by kernel_rfl) ?_ _
        go_wp2_with fail
        have hB0 := lift HB1.out hHeld
        go_ret
        refine ⟨ret_bool (by rw [HM.out]; simp [*]), ?_⟩
        repeat (first | (with_reducible exact hB0) | (with_reducible refine Below.drew ?_) | (with_reducible refine Below.alloc ?_ ?zs _; case zs => first | omega | (simp <;> omega)) | (with_reducible refine Below.setCell ?_ ?zs _; case zs => first | omega | (simp <;> omega)))
  · skip
    go_enter Try.func36, Try.ntmps36
    go_wp2_with fail
    first | (refine wp_named ?_; intro W1 hW) | (refine calls_named ?_; intro W1 hW) | (refine exit_named ?_; intro W1 hW)
    have B1 : Below w.heap.size w W1 := by rw [hW]; exact (by repeat (first | exact Below.refl _ _ | assumption | refine Below.alloc ?_ (by first | omega | (simp <;> omega)) _ | refine Below.setCell ?_ (by first | omega | (simp <;> omega)) _ | refine Below.drew ?_))
    have n0 : w.heap.size < W1.heap.size := by rw [hW]; simp <;> omega
    have n1 : (w.heap.size + 1) < W1.heap.size := by rw [hW]; simp <;> omega
    have a1 : W1.cell? ⟨w.heap.size, 1, none⟩ = some (sv u) := by rw [hW]; go_simp
    have c1 : W1.cell? ⟨(w.heap.size + 1), 1, none⟩ = some (sv t) := by rw [hW]; go_simp
    have c2 : W1.cell? ⟨(w.heap.size + 1), 2, none⟩ = some (sv l) := by rw [hW]; go_simp
    clear hW
    have HB1 := Lib.hid B1
    clear B1
    go_wp2_with fail
    have hB0 := HB1.out
    go_ret
    refine ⟨ret_bool (by rw [HM.out]; simp [*]), ?_⟩
    repeat (first | (with_reducible exact hB0) | (with_reducible refine Below.drew ?_) | (with_reducible refine Below.alloc ?_ ?zs _; case zs => first | omega | (simp <;> omega)) | (with_reducible refine Below.setCell ?_ ?zs _; case zs => first | omega | (simp <;> omega)))
theorem spl_le (s : Str) : (splP s).1.2.1.length ≤ s.length ∧ (splP s).1.2.2.2.length ≤ s.length := by
  unfold splP
  cases h1 : cutR 47 s with
  | none => exact ⟨Nat.zero_le _, Nat.zero_le _⟩
  | some q =>
    obtain ⟨p, r⟩ := q
    have e1 := congrArg List.length (cutR_some.1 h1).1
    rw [List.length_append, List.length_cons] at e1
    simp only
    split
    · exact ⟨Nat.zero_le _, Nat.zero_le _⟩
    · cases h2 : cutR 47 r with
      | none => exact ⟨by simp only; omega, Nat.zero_le _⟩
      | some q2 =>
        obtain ⟨h, f⟩ := q2
        have e2 := congrArg List.length (cutR_some.1 h2).1
        rw [List.length_append, List.length_cons] at e2
        simp only
        cases h3 : foldS h with
        | none => exact ⟨Nat.zero_le _, Nat.zero_le _⟩
        | some q3 =>
          obtain ⟨k, u⟩ := q3
          have e3 := congrArg List.length (foldS_range h3).2.1
          rw [List.length_append] at e3
          exact ⟨by simp only; omega, by simp only; omega⟩
theorem conf_cut (g : Str) : ((cutSx g confS).2 && dropN (cutSx g confS).1) = confP g := by
  unfold confP
  cases h : endsW g confS with
  | some x => rw [cutSx_ends h]; simp
  | none =>
    rcases cutSx_none h with h1 | h1
    · rw [h1]; rfl
    · rw [h1, show dropN [] = false by decide, Bool.and_false]
theorem long_drop (x : Str) : (!(x == ([] : Str)) && (!decide (20 < x.length) && allB (okT dashS) x)) = dropN x := by
  unfold dropN; rw [allB_drop]
theorem mayP_at (s t l u d g : Str) (i : Int) (b : Bool) (h : splP s = ((i, u, d, g), b)) : mayP (s, t, l) = if b = false ∨ 20000 < t.length then false else if d = [] then ownP u (s, t, l) else if d = dropsS then l == ([] : Str) && confP g else kindS g != 0 && (!tmplS g && (t == ([] : Str) && kindS l != 0)) := by
  unfold mayP
  simp only [h]
set_option maxRecDepth 100000 in
set_option maxHeartbeats 16000000 in
theorem may_any (s t l : Str) (w : World) (hs : s.length ≤ 140737488355328) (ht : t.length ≤ 140737488355328) (hl : l.length ≤ 140737488355328) : Calls Try.prog 20 #[flV (s, t, l)] w fun e w' => e = .returned (.bool (mayP (s, t, l))) ∧ Below w.heap.size w w' := by
  have hsl := spl_le s
  have HSp := Lib.hid (fun W => split_any s W hs)
  rcases hx : splP s with ⟨⟨i, u, d, g⟩, b⟩
  have hm := mayP_at s t l u d g i b hx
  rw [hx] at hsl HSp
  simp only at hsl
  clear hx
  cases b
  · have HM := Lib.hid (show mayP (s, t, l) = false by rw [hm, if_pos (.inl rfl)])
    clear hm
    go_enter Try.func20, Try.ntmps20
    go_wp2_with fail
    first | (refine wp_named ?_; intro W1 hW) | (refine calls_named ?_; intro W1 hW) | (refine exit_named ?_; intro W1 hW)
    have B1 : Below w.heap.size w W1 := by rw [hW]; exact (by repeat (first | exact Below.refl _ _ | assumption | refine Below.alloc ?_ (by first | omega | (simp <;> omega)) _ | refine Below.setCell ?_ (by first | omega | (simp <;> omega)) _ | refine Below.drew ?_))
    have n0 : w.heap.size < W1.heap.size := by rw [hW]; simp <;> omega
    have c0 : W1.cell? ⟨w.heap.size, 0, none⟩ = some (sv s) := by rw [hW]; go_simp
    have c1 : W1.cell? ⟨w.heap.size, 1, none⟩ = some (sv t) := by rw [hW]; go_simp
    have c2 : W1.cell? ⟨w.heap.size, 2, none⟩ = some (sv l) := by rw [hW]; go_simp
    clear hW
    have HB1 := Lib.hid B1
    clear B1
    refine (HSp.out W1).mono ?_
    rintro e w2 ⟨rfl, hb⟩
    have HB2 := Lib.hid (lift HB1.out hb)
    replace c0 := cellAt c0 hb (by omega)
    replace c1 := cellAt c1 hb (by omega)
    replace c2 := cellAt c2 hb (by omega)
    replace n0 : w.heap.size < w2.heap.size := ltAt n0 hb
    clear hb
    go_wp2_with fail
    first | (refine wp_named ?_; intro W3 hW) | (refine calls_named ?_; intro W3 hW) | (refine exit_named ?_; intro W3 hW)
    have B3 : Below w2.heap.size w2 W3 := by rw [hW]; exact (by repeat (first | exact Below.refl _ _ | assumption | refine Below.alloc ?_ (by first | omega | (simp <;> omega)) _ | refine Below.setCell ?_ (by first | omega | (simp <;> omega)) _ | refine Below.drew ?_))
    replace c0 := cellAt c0 B3 (by omega)
    replace c1 := cellAt c1 B3 (by omega)
    replace c2 := cellAt c2 B3 (by omega)
    replace n0 : w.heap.size < W3.heap.size := ltAt n0 B3
    have n2 : w2.heap.size < W3.heap.size := by rw [hW]; simp <;> omega
    have y0 : W3.cell? ⟨w2.heap.size, 0, none⟩ = some (.int .i64 i) := by rw [hW]; go_simp
    have y1 : W3.cell? ⟨w2.heap.size, 1, none⟩ = some (sv u) := by rw [hW]; go_simp
    have y2 : W3.cell? ⟨w2.heap.size, 2, none⟩ = some (sv d) := by rw [hW]; go_simp
    have y3 : W3.cell? ⟨w2.heap.size, 3, none⟩ = some (sv g) := by rw [hW]; go_simp
    clear hW
    have HB3 := Lib.hid (lift HB2.out B3)
    clear B3 HSp
    go_wp2_with fail
    have hB0 := HB3.out
    go_ret
    refine ⟨ret_bool (by rw [HM.out]; skip), ?_⟩
    repeat (first | (with_reducible exact hB0) | (with_reducible refine Below.drew ?_) | (with_reducible refine Below.alloc ?_ ?zs _; case zs => first | omega | (simp <;> omega)) | (with_reducible refine Below.setCell ?_ ?zs _; case zs => first | omega | (simp <;> omega)))
  · by_cases h20 : 20000 < t.length
    · have d1 : decide ((20000 : Int) < (t.length : Int)) = true := by rw [decide_eq_true_eq]; omega
      have d2 : decide (20000 < t.length) = true := by rw [decide_eq_true_eq]; omega
      have HM := Lib.hid (show mayP (s, t, l) = false by rw [hm, if_pos (.inr h20)])
      clear hm h20
      go_enter Try.func20, Try.ntmps20
      go_wp2_with fail
      first | (refine wp_named ?_; intro W1 hW) | (refine calls_named ?_; intro W1 hW) | (refine exit_named ?_; intro W1 hW)
      have B1 : Below w.heap.size w W1 := by rw [hW]; exact (by repeat (first | exact Below.refl _ _ | assumption | refine Below.alloc ?_ (by first | omega | (simp <;> omega)) _ | refine Below.setCell ?_ (by first | omega | (simp <;> omega)) _ | refine Below.drew ?_))
      have n0 : w.heap.size < W1.heap.size := by rw [hW]; simp <;> omega
      have c0 : W1.cell? ⟨w.heap.size, 0, none⟩ = some (sv s) := by rw [hW]; go_simp
      have c1 : W1.cell? ⟨w.heap.size, 1, none⟩ = some (sv t) := by rw [hW]; go_simp
      have c2 : W1.cell? ⟨w.heap.size, 2, none⟩ = some (sv l) := by rw [hW]; go_simp
      clear hW
      have HB1 := Lib.hid B1
      clear B1
      refine (HSp.out W1).mono ?_
      rintro e w2 ⟨rfl, hb⟩
      have HB2 := Lib.hid (lift HB1.out hb)
      replace c0 := cellAt c0 hb (by omega)
      replace c1 := cellAt c1 hb (by omega)
      replace c2 := cellAt c2 hb (by omega)
      replace n0 : w.heap.size < w2.heap.size := ltAt n0 hb
      clear hb
      go_wp2_with fail
      first | (refine wp_named ?_; intro W3 hW) | (refine calls_named ?_; intro W3 hW) | (refine exit_named ?_; intro W3 hW)
      have B3 : Below w2.heap.size w2 W3 := by rw [hW]; exact (by repeat (first | exact Below.refl _ _ | assumption | refine Below.alloc ?_ (by first | omega | (simp <;> omega)) _ | refine Below.setCell ?_ (by first | omega | (simp <;> omega)) _ | refine Below.drew ?_))
      replace c0 := cellAt c0 B3 (by omega)
      replace c1 := cellAt c1 B3 (by omega)
      replace c2 := cellAt c2 B3 (by omega)
      replace n0 : w.heap.size < W3.heap.size := ltAt n0 B3
      have n2 : w2.heap.size < W3.heap.size := by rw [hW]; simp <;> omega
      have y0 : W3.cell? ⟨w2.heap.size, 0, none⟩ = some (.int .i64 i) := by rw [hW]; go_simp
      have y1 : W3.cell? ⟨w2.heap.size, 1, none⟩ = some (sv u) := by rw [hW]; go_simp
      have y2 : W3.cell? ⟨w2.heap.size, 2, none⟩ = some (sv d) := by rw [hW]; go_simp
      have y3 : W3.cell? ⟨w2.heap.size, 3, none⟩ = some (sv g) := by rw [hW]; go_simp
      clear hW
      have HB3 := Lib.hid (lift HB2.out B3)
      clear B3 HSp
      go_wp2_with fail
      have hB0 := HB3.out
      go_ret
      refine ⟨ret_bool (by rw [HM.out]; skip), ?_⟩
      repeat (first | (with_reducible exact hB0) | (with_reducible refine Below.drew ?_) | (with_reducible refine Below.alloc ?_ ?zs _; case zs => first | omega | (simp <;> omega)) | (with_reducible refine Below.setCell ?_ ?zs _; case zs => first | omega | (simp <;> omega)))
    · have d1 : decide ((20000 : Int) < (t.length : Int)) = false := by rw [decide_eq_false_iff_not]; omega
      have d2 : decide (20000 < t.length) = false := by rw [decide_eq_false_iff_not]; omega
      rw [if_neg (by rintro (h | h); cases h; exact h20 h)] at hm
      clear h20
      by_cases hd0 : d = []
      · subst hd0
        have HM := Lib.hid (show mayP (s, t, l) = ownP u (s, t, l) by rw [hm, if_pos rfl])
        clear hm
        go_enter Try.func20, Try.ntmps20
        go_wp2_with fail
        first | (refine wp_named ?_; intro W1 hW) | (refine calls_named ?_; intro W1 hW) | (refine exit_named ?_; intro W1 hW)
        have B1 : Below w.heap.size w W1 := by rw [hW]; exact (by repeat (first | exact Below.refl _ _ | assumption | refine Below.alloc ?_ (by first | omega | (simp <;> omega)) _ | refine Below.setCell ?_ (by first | omega | (simp <;> omega)) _ | refine Below.drew ?_))
        have n0 : w.heap.size < W1.heap.size := by rw [hW]; simp <;> omega
        have c0 : W1.cell? ⟨w.heap.size, 0, none⟩ = some (sv s) := by rw [hW]; go_simp
        have c1 : W1.cell? ⟨w.heap.size, 1, none⟩ = some (sv t) := by rw [hW]; go_simp
        have c2 : W1.cell? ⟨w.heap.size, 2, none⟩ = some (sv l) := by rw [hW]; go_simp
        clear hW
        have HB1 := Lib.hid B1
        clear B1
        refine (HSp.out W1).mono ?_
        rintro e w2 ⟨rfl, hb⟩
        have HB2 := Lib.hid (lift HB1.out hb)
        replace c0 := cellAt c0 hb (by omega)
        replace c1 := cellAt c1 hb (by omega)
        replace c2 := cellAt c2 hb (by omega)
        replace n0 : w.heap.size < w2.heap.size := ltAt n0 hb
        clear hb
        go_wp2_with fail
        first | (refine wp_named ?_; intro W3 hW) | (refine calls_named ?_; intro W3 hW) | (refine exit_named ?_; intro W3 hW)
        have B3 : Below w2.heap.size w2 W3 := by rw [hW]; exact (by repeat (first | exact Below.refl _ _ | assumption | refine Below.alloc ?_ (by first | omega | (simp <;> omega)) _ | refine Below.setCell ?_ (by first | omega | (simp <;> omega)) _ | refine Below.drew ?_))
        replace c0 := cellAt c0 B3 (by omega)
        replace c1 := cellAt c1 B3 (by omega)
        replace c2 := cellAt c2 B3 (by omega)
        replace n0 : w.heap.size < W3.heap.size := ltAt n0 B3
        have n2 : w2.heap.size < W3.heap.size := by rw [hW]; simp <;> omega
        have y0 : W3.cell? ⟨w2.heap.size, 0, none⟩ = some (.int .i64 i) := by rw [hW]; go_simp
        have y1 : W3.cell? ⟨w2.heap.size, 1, none⟩ = some (sv u) := by rw [hW]; go_simp
        have y2 : W3.cell? ⟨w2.heap.size, 2, none⟩ = some (sv []) := by rw [hW]; go_simp
        have y3 : W3.cell? ⟨w2.heap.size, 3, none⟩ = some (sv g) := by rw [hW]; go_simp
        clear hW
        have HB3 := Lib.hid (lift HB2.out B3)
        clear B3 HSp
        go_wp2_with fail
        refine (own_any i u [] g s t l W3 (by omega) hl).mono ?_
        rintro e w4 ⟨rfl, hb⟩
        have HB4 := Lib.hid (lift HB3.out hb)
        clear hb
        go_wp2_with fail
        have hB0 := HB4.out
        go_ret
        refine ⟨ret_bool (by rw [HM.out]; skip), ?_⟩
        repeat (first | (with_reducible exact hB0) | (with_reducible refine Below.drew ?_) | (with_reducible refine Below.alloc ?_ ?zs _; case zs => first | omega | (simp <;> omega)) | (with_reducible refine Below.setCell ?_ ?zs _; case zs => first | omega | (simp <;> omega)))
      · rw [if_neg hd0] at hm
        have hdb : (d == ([] : Str)) = false := by simpa using hd0
        clear hd0
        by_cases hd1 : d = dropsS
        · have hdd : (d == ([46, 100] : Str)) = true := by rw [hd1]; rfl
          rw [if_pos hd1, ← conf_cut] at hm
          have hcs := Lib.hid (fun W => CutSuffix_any g confS W (by omega))
          have hxl := cutSx_le g confS
          clear hd1
          generalize cutSx g confS = q at *
          obtain ⟨x, b'⟩ := q
          simp only at hm hxl
          go_enter Try.func20, Try.ntmps20
          go_wp2_with fail
          first | (refine wp_named ?_; intro W1 hW) | (refine calls_named ?_; intro W1 hW) | (refine exit_named ?_; intro W1 hW)
          have B1 : Below w.heap.size w W1 := by rw [hW]; exact (by repeat (first | exact Below.refl _ _ | assumption | refine Below.alloc ?_ (by first | omega | (simp <;> omega)) _ | refine Below.setCell ?_ (by first | omega | (simp <;> omega)) _ | refine Below.drew ?_))
          have n0 : w.heap.size < W1.heap.size := by rw [hW]; simp <;> omega
          have c0 : W1.cell? ⟨w.heap.size, 0, none⟩ = some (sv s) := by rw [hW]; go_simp
          have c1 : W1.cell? ⟨w.heap.size, 1, none⟩ = some (sv t) := by rw [hW]; go_simp
          have c2 : W1.cell? ⟨w.heap.size, 2, none⟩ = some (sv l) := by rw [hW]; go_simp
          clear hW
          have HB1 := Lib.hid B1
          clear B1
          refine (HSp.out W1).mono ?_
          rintro e w2 ⟨rfl, hb⟩
          have HB2 := Lib.hid (lift HB1.out hb)
          replace c0 := cellAt c0 hb (by omega)
          replace c1 := cellAt c1 hb (by omega)
          replace c2 := cellAt c2 hb (by omega)
          replace n0 : w.heap.size < w2.heap.size := ltAt n0 hb
          clear hb
          go_wp2_with fail
          first | (refine wp_named ?_; intro W3 hW) | (refine calls_named ?_; intro W3 hW) | (refine exit_named ?_; intro W3 hW)
          have B3 : Below w2.heap.size w2 W3 := by rw [hW]; exact (by repeat (first | exact Below.refl _ _ | assumption | refine Below.alloc ?_ (by first | omega | (simp <;> omega)) _ | refine Below.setCell ?_ (by first | omega | (simp <;> omega)) _ | refine Below.drew ?_))
          replace c0 := cellAt c0 B3 (by omega)
          replace c1 := cellAt c1 B3 (by omega)
          replace c2 := cellAt c2 B3 (by omega)
          replace n0 : w.heap.size < W3.heap.size := ltAt n0 B3
          have n2 : w2.heap.size < W3.heap.size := by rw [hW]; simp <;> omega
          have y0 : W3.cell? ⟨w2.heap.size, 0, none⟩ = some (.int .i64 i) := by rw [hW]; go_simp
          have y1 : W3.cell? ⟨w2.heap.size, 1, none⟩ = some (sv u) := by rw [hW]; go_simp
          have y2 : W3.cell? ⟨w2.heap.size, 2, none⟩ = some (sv d) := by rw [hW]; go_simp
          have y3 : W3.cell? ⟨w2.heap.size, 3, none⟩ = some (sv g) := by rw [hW]; go_simp
          clear hW
          have HB3 := Lib.hid (lift HB2.out B3)
          clear B3 HSp
          go_wp2_with fail
          refine (hcs.out W3).mono ?_
          rintro e w4 ⟨rfl, rfl⟩
          unfold pairV
          simp only
          clear hcs
          cases b'
          · have HM := Lib.hid (show mayP (s, t, l) = false by rw [hm]; simp)
            clear hm
            go_wp2_with fail
            have hB0 := HB3.out
            go_ret
            refine ⟨ret_bool (by rw [HM.out]; skip), ?_⟩
            repeat (first | (with_reducible exact hB0) | (with_reducible refine Below.drew ?_) | (with_reducible refine Below.alloc ?_ ?zs _; case zs => first | omega | (simp <;> omega)) | (with_reducible refine Below.setCell ?_ ?zs _; case zs => first | omega | (simp <;> omega)))
          · cases hle : (l == ([] : Str))
            · have HM := Lib.hid (show mayP (s, t, l) = false by rw [hm, hle]; rfl)
              clear hm
              go_wp2_with fail
              have hB0 := HB3.out
              go_ret
              refine ⟨ret_bool (by rw [HM.out]; skip), ?_⟩
              repeat (first | (with_reducible exact hB0) | (with_reducible refine Below.drew ?_) | (with_reducible refine Below.alloc ?_ ?zs _; case zs => first | omega | (simp <;> omega)) | (with_reducible refine Below.setCell ?_ ?zs _; case zs => first | omega | (simp <;> omega)))
            · have HM := Lib.hid (show mayP (s, t, l) = dropN x by rw [hm, hle]; simp)
              clear hm
              go_wp2_with fail
              refine (In_any dashS W3).mono ?_
              rintro e w4 ⟨rfl, rfl⟩
              go_wp2_with fail
              refine (Anyc_any _ _).mono ?_
              rintro e w5 ⟨rfl, rfl⟩
              go_wp2_with fail
              refine (Long_any x 20 _ _ (okT dashS) _ (by unfold maxLen; omega) (saysT_any dashS _ (W3.heap.size + 1) W3.heap.size _ (by go_simp) (by go_simp) (by go_simp) (by go_simp) (by go_simp))).mono ?_
              rintro e w6 ⟨rfl, hb⟩
              rw [long_drop]
              have HB6 := Lib.hid (lift HB3.out (lift (by repeat (first | exact Below.refl _ _ | assumption | refine Below.alloc ?_ (by first | omega | (simp <;> omega)) _ | refine Below.setCell ?_ (by first | omega | (simp <;> omega)) _ | refine Below.drew ?_)) hb))
              clear hb
              go_wp2_with fail
              have hB0 := HB6.out
              go_ret
              refine ⟨ret_bool (by rw [HM.out]; skip), ?_⟩
              repeat (first | (with_reducible exact hB0) | (with_reducible refine Below.drew ?_) | (with_reducible refine Below.alloc ?_ ?zs _; case zs => first | omega | (simp <;> omega)) | (with_reducible refine Below.setCell ?_ ?zs _; case zs => first | omega | (simp <;> omega)))
        · have hdd : (d == ([46, 100] : Str)) = false := by rw [beq_eq_false_iff_ne]; exact hd1
          rw [if_neg hd1] at hm
          clear hd1
          have hMg := Lib.hid (fun W => May_any g W (by omega))
          have hBg := Lib.hid (fun W => Bare_any g W (by omega))
          have hMl := Lib.hid (fun W => May_any l W hl)
          generalize (kindS g != 0) = b1 at *
          generalize tmplS g = b2 at *
          generalize (kindS l != 0) = b3 at *
          go_enter Try.func20, Try.ntmps20
          go_wp2_with fail
          first | (refine wp_named ?_; intro W1 hW) | (refine calls_named ?_; intro W1 hW) | (refine exit_named ?_; intro W1 hW)
          have B1 : Below w.heap.size w W1 := by rw [hW]; exact (by repeat (first | exact Below.refl _ _ | assumption | refine Below.alloc ?_ (by first | omega | (simp <;> omega)) _ | refine Below.setCell ?_ (by first | omega | (simp <;> omega)) _ | refine Below.drew ?_))
          have n0 : w.heap.size < W1.heap.size := by rw [hW]; simp <;> omega
          have c0 : W1.cell? ⟨w.heap.size, 0, none⟩ = some (sv s) := by rw [hW]; go_simp
          have c1 : W1.cell? ⟨w.heap.size, 1, none⟩ = some (sv t) := by rw [hW]; go_simp
          have c2 : W1.cell? ⟨w.heap.size, 2, none⟩ = some (sv l) := by rw [hW]; go_simp
          clear hW
          have HB1 := Lib.hid B1
          clear B1
          refine (HSp.out W1).mono ?_
          rintro e w2 ⟨rfl, hb⟩
          have HB2 := Lib.hid (lift HB1.out hb)
          replace c0 := cellAt c0 hb (by omega)
          replace c1 := cellAt c1 hb (by omega)
          replace c2 := cellAt c2 hb (by omega)
          replace n0 : w.heap.size < w2.heap.size := ltAt n0 hb
          clear hb
          go_wp2_with fail
          first | (refine wp_named ?_; intro W3 hW) | (refine calls_named ?_; intro W3 hW) | (refine exit_named ?_; intro W3 hW)
          have B3 : Below w2.heap.size w2 W3 := by rw [hW]; exact (by repeat (first | exact Below.refl _ _ | assumption | refine Below.alloc ?_ (by first | omega | (simp <;> omega)) _ | refine Below.setCell ?_ (by first | omega | (simp <;> omega)) _ | refine Below.drew ?_))
          replace c0 := cellAt c0 B3 (by omega)
          replace c1 := cellAt c1 B3 (by omega)
          replace c2 := cellAt c2 B3 (by omega)
          replace n0 : w.heap.size < W3.heap.size := ltAt n0 B3
          have n2 : w2.heap.size < W3.heap.size := by rw [hW]; simp <;> omega
          have y0 : W3.cell? ⟨w2.heap.size, 0, none⟩ = some (.int .i64 i) := by rw [hW]; go_simp
          have y1 : W3.cell? ⟨w2.heap.size, 1, none⟩ = some (sv u) := by rw [hW]; go_simp
          have y2 : W3.cell? ⟨w2.heap.size, 2, none⟩ = some (sv d) := by rw [hW]; go_simp
          have y3 : W3.cell? ⟨w2.heap.size, 3, none⟩ = some (sv g) := by rw [hW]; go_simp
          clear hW
          have HB3 := Lib.hid (lift HB2.out B3)
          clear B3 HSp
          cases b1
          · have HM := Lib.hid (show mayP (s, t, l) = false by rw [hm]; rfl)
            clear hm
            go_wp2_with fail
            refine (hMg.out W3).mono ?_
            rintro e w4 ⟨rfl, hb⟩
            replace c0 := cellAt c0 hb (by omega)
            replace c1 := cellAt c1 hb (by omega)
            replace c2 := cellAt c2 hb (by omega)
            replace y0 := cellAt y0 hb (by omega)
            replace y1 := cellAt y1 hb (by omega)
            replace y2 := cellAt y2 hb (by omega)
            replace y3 := cellAt y3 hb (by omega)
            replace n0 : w.heap.size < w4.heap.size := ltAt n0 hb
            replace n2 : w2.heap.size < w4.heap.size := ltAt n2 hb
            have HB4 := Lib.hid (lift HB3.out hb)
            clear hb hMg
            go_wp2_with fail
            have hB0 := HB4.out
            go_ret
            refine ⟨ret_bool (by rw [HM.out]; skip), ?_⟩
            repeat (first | (with_reducible exact hB0) | (with_reducible refine Below.drew ?_) | (with_reducible refine Below.alloc ?_ ?zs _; case zs => first | omega | (simp <;> omega)) | (with_reducible refine Below.setCell ?_ ?zs _; case zs => first | omega | (simp <;> omega)))
          · cases b2
            · cases hte : (t == ([] : Str))
              · have HM := Lib.hid (show mayP (s, t, l) = false by rw [hm, hte]; rfl)
                clear hm
                go_wp2_with fail
                refine (hMg.out W3).mono ?_
                rintro e w4 ⟨rfl, hb⟩
                replace c0 := cellAt c0 hb (by omega)
                replace c1 := cellAt c1 hb (by omega)
                replace c2 := cellAt c2 hb (by omega)
                replace y0 := cellAt y0 hb (by omega)
                replace y1 := cellAt y1 hb (by omega)
                replace y2 := cellAt y2 hb (by omega)
                replace y3 := cellAt y3 hb (by omega)
                replace n0 : w.heap.size < w4.heap.size := ltAt n0 hb
                replace n2 : w2.heap.size < w4.heap.size := ltAt n2 hb
                have HB4 := Lib.hid (lift HB3.out hb)
                clear hb hMg
                go_wp2_with fail
                refine (hBg.out w4).mono ?_
                rintro e w5 ⟨rfl, hb⟩
                replace c0 := cellAt c0 hb (by omega)
                replace c1 := cellAt c1 hb (by omega)
                replace c2 := cellAt c2 hb (by omega)
                replace y0 := cellAt y0 hb (by omega)
                replace y1 := cellAt y1 hb (by omega)
                replace y2 := cellAt y2 hb (by omega)
                replace y3 := cellAt y3 hb (by omega)
                replace n0 : w.heap.size < w5.heap.size := ltAt n0 hb
                replace n2 : w2.heap.size < w5.heap.size := ltAt n2 hb
                have HB5 := Lib.hid (lift HB4.out hb)
                clear hb hBg
                go_wp2_with fail
                have hB0 := HB5.out
                go_ret
                refine ⟨ret_bool (by rw [HM.out]; skip), ?_⟩
                repeat (first | (with_reducible exact hB0) | (with_reducible refine Below.drew ?_) | (with_reducible refine Below.alloc ?_ ?zs _; case zs => first | omega | (simp <;> omega)) | (with_reducible refine Below.setCell ?_ ?zs _; case zs => first | omega | (simp <;> omega)))
              · have HM := Lib.hid (show mayP (s, t, l) = b3 by rw [hm, hte]; simp)
                clear hm
                go_wp2_with fail
                refine (hMg.out W3).mono ?_
                rintro e w4 ⟨rfl, hb⟩
                replace c0 := cellAt c0 hb (by omega)
                replace c1 := cellAt c1 hb (by omega)
                replace c2 := cellAt c2 hb (by omega)
                replace y0 := cellAt y0 hb (by omega)
                replace y1 := cellAt y1 hb (by omega)
                replace y2 := cellAt y2 hb (by omega)
                replace y3 := cellAt y3 hb (by omega)
                replace n0 : w.heap.size < w4.heap.size := ltAt n0 hb
                replace n2 : w2.heap.size < w4.heap.size := ltAt n2 hb
                have HB4 := Lib.hid (lift HB3.out hb)
                clear hb hMg
                go_wp2_with fail
                refine (hBg.out w4).mono ?_
                rintro e w5 ⟨rfl, hb⟩
                replace c0 := cellAt c0 hb (by omega)
                replace c1 := cellAt c1 hb (by omega)
                replace c2 := cellAt c2 hb (by omega)
                replace y0 := cellAt y0 hb (by omega)
                replace y1 := cellAt y1 hb (by omega)
                replace y2 := cellAt y2 hb (by omega)
                replace y3 := cellAt y3 hb (by omega)
                replace n0 : w.heap.size < w5.heap.size := ltAt n0 hb
                replace n2 : w2.heap.size < w5.heap.size := ltAt n2 hb
                have HB5 := Lib.hid (lift HB4.out hb)
                clear hb hBg
                go_wp2_with fail
                refine (hMl.out w5).mono ?_
                rintro e w6 ⟨rfl, hb⟩
                have HB6 := Lib.hid (lift HB5.out hb)
                clear hb
                go_wp2_with fail
                have hB0 := HB6.out
                go_ret
                refine ⟨ret_bool (by rw [HM.out]; skip), ?_⟩
                repeat (first | (with_reducible exact hB0) | (with_reducible refine Below.drew ?_) | (with_reducible refine Below.alloc ?_ ?zs _; case zs => first | omega | (simp <;> omega)) | (with_reducible refine Below.setCell ?_ ?zs _; case zs => first | omega | (simp <;> omega)))
            · have HM := Lib.hid (show mayP (s, t, l) = false by rw [hm]; rfl)
              clear hm
              go_wp2_with fail
              refine (hMg.out W3).mono ?_
              rintro e w4 ⟨rfl, hb⟩
              replace c0 := cellAt c0 hb (by omega)
              replace c1 := cellAt c1 hb (by omega)
              replace c2 := cellAt c2 hb (by omega)
              replace y0 := cellAt y0 hb (by omega)
              replace y1 := cellAt y1 hb (by omega)
              replace y2 := cellAt y2 hb (by omega)
              replace y3 := cellAt y3 hb (by omega)
              replace n0 : w.heap.size < w4.heap.size := ltAt n0 hb
              replace n2 : w2.heap.size < w4.heap.size := ltAt n2 hb
              have HB4 := Lib.hid (lift HB3.out hb)
              clear hb hMg
              go_wp2_with fail
              refine (hBg.out w4).mono ?_
              rintro e w5 ⟨rfl, hb⟩
              replace c0 := cellAt c0 hb (by omega)
              replace c1 := cellAt c1 hb (by omega)
              replace c2 := cellAt c2 hb (by omega)
              replace y0 := cellAt y0 hb (by omega)
              replace y1 := cellAt y1 hb (by omega)
              replace y2 := cellAt y2 hb (by omega)
              replace y3 := cellAt y3 hb (by omega)
              replace n0 : w.heap.size < w5.heap.size := ltAt n0 hb
              replace n2 : w2.heap.size < w5.heap.size := ltAt n2 hb
              have HB5 := Lib.hid (lift HB4.out hb)
              clear hb hBg
              go_wp2_with fail
              have hB0 := HB5.out
              go_ret
              refine ⟨ret_bool (by rw [HM.out]; skip), ?_⟩
              repeat (first | (with_reducible exact hB0) | (with_reducible refine Below.drew ?_) | (with_reducible refine Below.alloc ?_ ?zs _; case zs => first | omega | (simp <;> omega)) | (with_reducible refine Below.setCell ?_ ?zs _; case zs => first | omega | (simp <;> omega)))
end Od
end Go.Proofs.Ytgfdcmlmgeoimaa
end
