/- My texts, joined for the claim: DMayF. -/
import Derived.Test.YtgfdcmlmgeoimaaGreatZB0
import Derived.Test.YtgfdcmlmgeoimaaGreatZB5

section
/- mayFile of the reference. (bel2) -/
namespace Go.Proofs.YtgfdcmlmgeoimaaGreat
open Go.RowKit Go.Sort
set_option linter.unusedSimpArgs false
namespace Od
set_option maxRecDepth 100000 in
set_option maxHeartbeats 16000000 in
theorem mayFile_any (s t l : Str) (w : World) (hs : s.length ≤ 1099511627776) (ht : t.length ≤ 140737488355328) (hl : l.length ≤ 140737488355328) : Calls Tryz.prog 35 #[flV (s, t, l)] w fun e w' => e = .returned (.bool (mayF (s, t, l))) ∧ Below w.heap.size w w' := by
  have HP := Lib.hid (fun W => Path_any s W hs)
  have hm : mayF (s, t, l) = (!decide (20000 < t.length) && mayW (wayS s) t l) := rfl
  have hul := way_le s
  generalize wayS s = x at *
  obtain ⟨k, p, u, o⟩ := x
  simp only at hul
  by_cases h20 : 20000 < t.length
  · have d1 : decide ((20000 : Int) < (t.length : Int)) = true := by rw [decide_eq_true_eq]; omega
    have d2 : decide (20000 < t.length) = true := by rw [decide_eq_true_eq]; omega
    have HM := Lib.hid (show mayF (s, t, l) = false by rw [hm, d2]; rfl)
    clear hm h20
    go_enter Tryz.func35, Tryz.ntmps35
    go_wp2_with fail
    first | (refine wp_named ?_; intro W1 hW) | (refine calls_named ?_; intro W1 hW) | (refine exit_named ?_; intro W1 hW)
    have B1 : Below w.heap.size w W1 := by rw [hW]; exact (by repeat (first | exact Below.refl _ _ | assumption | refine Below.alloc ?_ (by first | omega | (simp <;> omega)) _ | refine Below.setCell ?_ (by first | omega | (simp <;> omega)) _ | refine Below.drew ?_))
    have n0 : w.heap.size < W1.heap.size := by rw [hW]; simp <;> omega
    have c0 : W1.cell? ⟨w.heap.size, 0, none⟩ = some (sv s) := by rw [hW]; go_simp
    have c1 : W1.cell? ⟨w.heap.size, 1, none⟩ = some (sv t) := by rw [hW]; go_simp
    have c2 : W1.cell? ⟨w.heap.size, 2, none⟩ = some (sv l) := by rw [hW]; go_simp
    clear hW
    have HB1 := Lib.hid B1
    clear B1
    refine (HP.out W1).mono ?_
    rintro e w2 ⟨rfl, hb⟩
    have HB2 := Lib.hid (lift HB1.out hb)
    replace c0 := cellAt c0 hb (by omega)
    replace c1 := cellAt c1 hb (by omega)
    replace c2 := cellAt c2 hb (by omega)
    replace n0 : w.heap.size < w2.heap.size := ltAt n0 hb
    clear hb HP
    go_wp2_with fail
    have hB0 := HB2.out
    go_ret
    refine ⟨ret_bool (by rw [HM.out]; skip), ?_⟩
    repeat (first | (with_reducible exact hB0) | (with_reducible refine Below.drew ?_) | (with_reducible refine Below.alloc ?_ ?zs _; case zs => first | omega | (simp <;> omega)) | (with_reducible refine Below.setCell ?_ ?zs _; case zs => first | omega | (simp <;> omega)))
  · have d1 : decide ((20000 : Int) < (t.length : Int)) = false := by rw [decide_eq_false_iff_not]; omega
    have d2 : decide (20000 < t.length) = false := by rw [decide_eq_false_iff_not]; omega
    rw [d2, Bool.not_false, Bool.true_and] at hm
    have hmw : mayW (k, p, u, o) t l = (!(!(t == ([] : Str)) && !(l == ([] : Str))) && (if k = 1 then l == ([] : Str) || (l == nullS || (kindS l == kindS u && tmplS u == tmplS l)) else if k = 2 then l == ([] : Str) else if k = 3 ∨ k = 4 then kindS l != 0 else false)) := rfl
    rw [hmw] at hm
    clear hmw h20
    cases htb : (t == ([] : Str))
    · cases hlb : (l == ([] : Str))
      · have HM := Lib.hid (show mayF (s, t, l) = false by rw [hm, htb, hlb]; rfl)
        clear hm
        go_enter Tryz.func35, Tryz.ntmps35
        go_wp2_with fail
        first | (refine wp_named ?_; intro W1 hW) | (refine calls_named ?_; intro W1 hW) | (refine exit_named ?_; intro W1 hW)
        have B1 : Below w.heap.size w W1 := by rw [hW]; exact (by repeat (first | exact Below.refl _ _ | assumption | refine Below.alloc ?_ (by first | omega | (simp <;> omega)) _ | refine Below.setCell ?_ (by first | omega | (simp <;> omega)) _ | refine Below.drew ?_))
        have n0 : w.heap.size < W1.heap.size := by rw [hW]; simp <;> omega
        have c0 : W1.cell? ⟨w.heap.size, 0, none⟩ = some (sv s) := by rw [hW]; go_simp
        have c1 : W1.cell? ⟨w.heap.size, 1, none⟩ = some (sv t) := by rw [hW]; go_simp
        have c2 : W1.cell? ⟨w.heap.size, 2, none⟩ = some (sv l) := by rw [hW]; go_simp
        clear hW
        have HB1 := Lib.hid B1
        clear B1
        refine (HP.out W1).mono ?_
        rintro e w2 ⟨rfl, hb⟩
        have HB2 := Lib.hid (lift HB1.out hb)
        replace c0 := cellAt c0 hb (by omega)
        replace c1 := cellAt c1 hb (by omega)
        replace c2 := cellAt c2 hb (by omega)
        replace n0 : w.heap.size < w2.heap.size := ltAt n0 hb
        clear hb HP
        go_wp2_with fail
        have hB0 := HB2.out
        go_ret
        refine ⟨ret_bool (by rw [HM.out]; skip), ?_⟩
        repeat (first | (with_reducible exact hB0) | (with_reducible refine Below.drew ?_) | (with_reducible refine Below.alloc ?_ ?zs _; case zs => first | omega | (simp <;> omega)) | (with_reducible refine Below.setCell ?_ ?zs _; case zs => first | omega | (simp <;> omega)))
      · rw [htb, hlb] at hm
        simp only [Bool.not_true, Bool.not_false, Bool.and_false, Bool.true_and] at hm
        go_enter Tryz.func35, Tryz.ntmps35
        go_wp2_with fail
        first | (refine wp_named ?_; intro W1 hW) | (refine calls_named ?_; intro W1 hW) | (refine exit_named ?_; intro W1 hW)
        have B1 : Below w.heap.size w W1 := by rw [hW]; exact (by repeat (first | exact Below.refl _ _ | assumption | refine Below.alloc ?_ (by first | omega | (simp <;> omega)) _ | refine Below.setCell ?_ (by first | omega | (simp <;> omega)) _ | refine Below.drew ?_))
        have n0 : w.heap.size < W1.heap.size := by rw [hW]; simp <;> omega
        have c0 : W1.cell? ⟨w.heap.size, 0, none⟩ = some (sv s) := by rw [hW]; go_simp
        have c1 : W1.cell? ⟨w.heap.size, 1, none⟩ = some (sv t) := by rw [hW]; go_simp
        have c2 : W1.cell? ⟨w.heap.size, 2, none⟩ = some (sv l) := by rw [hW]; go_simp
        clear hW
        have HB1 := Lib.hid B1
        clear B1
        refine (HP.out W1).mono ?_
        rintro e w2 ⟨rfl, hb⟩
        have HB2 := Lib.hid (lift HB1.out hb)
        replace c0 := cellAt c0 hb (by omega)
        replace c1 := cellAt c1 hb (by omega)
        replace c2 := cellAt c2 hb (by omega)
        replace n0 : w.heap.size < w2.heap.size := ltAt n0 hb
        clear hb HP
        go_wp2_with fail
        first | (refine wp_named ?_; intro W3 hW) | (refine calls_named ?_; intro W3 hW) | (refine exit_named ?_; intro W3 hW)
        have B3 : Below w2.heap.size w2 W3 := by rw [hW]; exact (by repeat (first | exact Below.refl _ _ | assumption | refine Below.alloc ?_ (by first | omega | (simp <;> omega)) _ | refine Below.setCell ?_ (by first | omega | (simp <;> omega)) _ | refine Below.drew ?_))
        replace c0 := cellAt c0 B3 (by omega)
        replace c1 := cellAt c1 B3 (by omega)
        replace c2 := cellAt c2 B3 (by omega)
        replace n0 : w.heap.size < W3.heap.size := ltAt n0 B3
        have n2 : w2.heap.size < W3.heap.size := by rw [hW]; simp <;> omega
        have y0 : W3.cell? ⟨w2.heap.size, 0, none⟩ = some (.int .i64 k) := by rw [hW]; go_simp
        have y2 : W3.cell? ⟨w2.heap.size, 2, none⟩ = some (sv u) := by rw [hW]; go_simp
        clear hW
        have HB3 := Lib.hid (lift HB2.out B3)
        clear B3
        have HOu := Lib.hid (fun W => Of_any u W (by omega))
        have HOl := Lib.hid (fun W => Of_any l W hl)
        have hku := ofS_kind u
        have hkl := ofS_kind l
        generalize ofS u = ru at *
        generalize ofS l = rl at *
        go_cut [4, 5] (fun v u' wx => ∃ b4 b5 : Nat, v = .pointer (some ⟨b4, 0, none⟩) ∧ u' = .pointer (some ⟨b5, 0, none⟩) ∧ Hid (wx.cell? ⟨b4, 0, none⟩ = some (.int .i64 (kindS u))) ∧ Hid (wx.cell? ⟨b5, 0, none⟩ = some (.int .i64 (kindS l))) ∧ Hid (Below W3.heap.size W3 wx))
        case first =>
          try go_wp2_with fail
          refine wp_region_held_drew (S := fun w' => Below W3.heap.size W3 w') (by kernel_rfl) (Below.drew (Below.refl _ _)) (fun hHeld => ?_)
          generalize W3.drew = v0 at hHeld ⊢
          refine tY (i := 0) (v := ?_) rfl ?_ hHeld ?_; rotate_left 1; focus (intro w' hSw; clear hSw; go_simp; try with_reducible rfl)
          (try simp only [Act.put, zn1, zn2, zn3])
          refine tY (i := 1) (v := ?_) rfl ?_ hHeld ?_; rotate_left 1; focus (intro w' hSw; have hCell := fun (b o : Nat) (h : b < W3.heap.size) => hSw.cell (p := ⟨b, o, none⟩) h; clear hSw; go_simp; try with_reducible rfl)
          (try simp only [Act.put, zn1, zn2, zn3])
          refine tY (i := 3) (v := ?_) rfl ?_ hHeld ?_; rotate_left 1; focus (intro w' hSw; clear hSw; go_simp; try with_reducible rfl)
          (try simp only [Act.put, zn1, zn2, zn3])
          refine tY (i := 4) (v := ?_) rfl ?_ hHeld ?_; rotate_left 1; focus (intro w' hSw; have hCell := fun (b o : Nat) (h : b < W3.heap.size) => hSw.cell (p := ⟨b, o, none⟩) h; clear hSw; go_simp; try with_reducible rfl)
          (try simp only [Act.put, zn1, zn2, zn3])
          refine ready_threeD (i := 2) (j := 6) (k := 7) rfl rfl rfl (by kernel_rfl) (fun K hK => ?_) (fun K hK => ?_) (fun K hK => ?_) 
          · skip
            go_simp
            refine (HOu.out _).mono ?_
            rintro e y2 ⟨rfl, hb⟩
            try replace HZ4 := Lib.hid (HZ4.out.on hb)
            try replace HZ5 := Lib.hid (HZ5.out.on hb)
            refine hK.out _ _ ?_ (fun hHeld2 => ?_)
            · (try dsimp only); exact Below.trans hHeld (Below.mono hb hHeld.size)
            clear hK K hHeld hb; have hHeld := hHeld2; clear hHeld2; (try simp only [Act.put, zn1, zn2, zn3])
            refine ready_threeD (i := 5) (j := 6) (k := 7) rfl rfl rfl (by kernel_rfl) (fun K hK => ?_) (fun K hK => ?_) (fun K hK => ?_) 
            · skip
              go_simp
              refine (HOl.out _).mono ?_
              rintro e y5 ⟨rfl, hb⟩
              try replace HZ4 := Lib.hid (HZ4.out.on hb)
              try replace HZ5 := Lib.hid (HZ5.out.on hb)
              refine hK.out _ _ ?_ (fun hHeld2 => ?_)
              · (try dsimp only); exact Below.trans hHeld (Below.mono hb hHeld.size)
              clear hK K hHeld hb; have hHeld := hHeld2; clear hHeld2; (try simp only [Act.put, zn1, zn2, zn3])
              refine ready_twoD (i := 6) (j := 7) rfl rfl (by kernel_rfl) (fun K hK => ?_) (fun K hK => ?_) 
              · skip
                go_simp
                refine hK.out _ _ ?_ (fun hHeld2 => ?_)
                · (try dsimp only); first | (with_reducible exact hHeld) | (repeat (first | (with_reducible exact hHeld) | (with_reducible refine Below.alloc ?_ ?zs _; case zs => first | omega | exact hHeld.size | (simp <;> omega)) | (with_reducible refine Below.setCell ?_ ?zs _; case zs => first | omega | (simp <;> omega))))
                have hge4 : W3.heap.size ≤ y5.heap.size := hHeld.size
                try (have hlt5 := HZ5.out.lt)
                try replace HZ5 := Lib.hid (HZ5.out.on (below_new _ (.cells #[.int .i64 0, .string ⟨#[]⟩, .string ⟨#[]⟩, .bool false] 57)))
                have HZ4 := Lib.hid (CutZ.new y5)
                generalize y5.alloc (.cells #[.int .i64 0, .string ⟨#[]⟩, .string ⟨#[]⟩, .bool false] 57) = z6 at *
                generalize y5.heap.size = b4 at *
                clear hK K hHeld; have hHeld := hHeld2; clear hHeld2; (try simp only [Act.put, zn1, zn2, zn3])
                refine ready_one (i := 7) rfl (by kernel_rfl) (fun K hK => ?_)
                go_simp
                refine hK.out _ _ ?_ (fun hHeld2 => ?_)
                · (try dsimp only); first | (with_reducible exact hHeld) | (repeat (first | (with_reducible exact hHeld) | (with_reducible refine Below.alloc ?_ ?zs _; case zs => first | omega | exact hHeld.size | (simp <;> omega)) | (with_reducible refine Below.setCell ?_ ?zs _; case zs => first | omega | (simp <;> omega))))
                have hge5 : W3.heap.size ≤ z6.heap.size := hHeld.size
                try (have hlt4 := HZ4.out.lt)
                try replace HZ4 := Lib.hid (HZ4.out.on (below_new _ (.cells #[.int .i64 0, .string ⟨#[]⟩, .string ⟨#[]⟩, .bool false] 57)))
                have HZ5 := Lib.hid (CutZ.new z6)
                generalize z6.alloc (.cells #[.int .i64 0, .string ⟨#[]⟩, .string ⟨#[]⟩, .bool false] 57) = z7 at *
                generalize z6.heap.size = b5 at *
                clear hK K hHeld; have hHeld := hHeld2; clear hHeld2; (try simp only [Act.put, zn1, zn2, zn3])
                have k0 := HZ4.out.c0
                have k1 := HZ4.out.c1
                have k2 := HZ4.out.c2
                have k3 := HZ4.out.c3
                have g0 := HZ4.out.f0
                have g1 := HZ4.out.f1
                have g2 := HZ4.out.f2
                have g3 := HZ4.out.f3
                have m0 := HZ5.out.c0
                have m1 := HZ5.out.c1
                have m2 := HZ5.out.c2
                have m3 := HZ5.out.c3
                have q0 := HZ5.out.f0
                have q1 := HZ5.out.f1
                have q2 := HZ5.out.f2
                have q3 := HZ5.out.f3
                have hn45 : ¬ b4 = b5 := by omega
                have hn54 : ¬ b5 = b4 := by omega
                refine ready_one (i := 8) rfl (by kernel_rfl) (fun K hK => ?_)
                go_simp
                refine hK.out _ _ ?_ (fun hHeld2 => ?_)
                · (try dsimp only); first | (with_reducible exact hHeld) | (repeat (first | (with_reducible exact hHeld) | (with_reducible refine Below.alloc ?_ ?zs _; case zs => first | omega | exact hHeld.size | (simp <;> omega)) | (with_reducible refine Below.setCell ?_ ?zs _; case zs => first | omega | (simp <;> omega))))
                clear hK K hHeld; have hHeld := hHeld2; clear hHeld2; (try simp only [Act.put, zn1, zn2, zn3])
                refine ready_one (i := 9) rfl (by kernel_rfl) (fun K hK => ?_)
                go_simp
                refine hK.out _ _ ?_ (fun hHeld2 => ?_)
                · (try dsimp only); first | (with_reducible exact hHeld) | (repeat (first | (with_reducible exact hHeld) | (with_reducible refine Below.alloc ?_ ?zs _; case zs => first | omega | exact hHeld.size | (simp <;> omega)) | (with_reducible refine Below.setCell ?_ ?zs _; case zs => first | omega | (simp <;> omega))))
                clear hK K hHeld; have hHeld := hHeld2; clear hHeld2; (try simp only [Act.put, zn1, zn2, zn3])
                refine wpAnyH_done (by kernel_rfl) ?_ _
                go_wp2_with fail
                go_meet
                refine ⟨b4, b5, rfl, rfl, ?_, ?_, hHeld⟩
                · rw [← hku]; show World.cell? _ _ = _; go_simp
                · rw [← hkl]; show World.cell? _ _ = _; go_simp
              · skip
                go_simp
                refine hK.out _ _ ?_ (fun hHeld2 => ?_)
                · (try dsimp only); first | (with_reducible exact hHeld) | (repeat (first | (with_reducible exact hHeld) | (with_reducible refine Below.alloc ?_ ?zs _; case zs => first | omega | exact hHeld.size | (simp <;> omega)) | (with_reducible refine Below.setCell ?_ ?zs _; case zs => first | omega | (simp <;> omega))))
                have hge5 : W3.heap.size ≤ y5.heap.size := hHeld.size
                try (have hlt4 := HZ4.out.lt)
                try replace HZ4 := Lib.hid (HZ4.out.on (below_new _ (.cells #[.int .i64 0, .string ⟨#[]⟩, .string ⟨#[]⟩, .bool false] 57)))
                have HZ5 := Lib.hid (CutZ.new y5)
                generalize y5.alloc (.cells #[.int .i64 0, .string ⟨#[]⟩, .string ⟨#[]⟩, .bool false] 57) = z7 at *
                generalize y5.heap.size = b5 at *
                clear hK K hHeld; have hHeld := hHeld2; clear hHeld2; (try simp only [Act.put, zn1, zn2, zn3])
                refine ready_one (i := 6) rfl (by kernel_rfl) (fun K hK => ?_)
                go_simp
                refine hK.out _ _ ?_ (fun hHeld2 => ?_)
                · (try dsimp only); first | (with_reducible exact hHeld) | (repeat (first | (with_reducible exact hHeld) | (with_reducible refine Below.alloc ?_ ?zs _; case zs => first | omega | exact hHeld.size | (simp <;> omega)) | (with_reducible refine Below.setCell ?_ ?zs _; case zs => first | omega | (simp <;> omega))))
                have hge4 : W3.heap.size ≤ z7.heap.size := hHeld.size
                try (have hlt5 := HZ5.out.lt)
                try replace HZ5 := Lib.hid (HZ5.out.on (below_new _ (.cells #[.int .i64 0, .string ⟨#[]⟩, .string ⟨#[]⟩, .bool false] 57)))
                have HZ4 := Lib.hid (CutZ.new z7)
                generalize z7.alloc (.cells #[.int .i64 0, .string ⟨#[]⟩, .string ⟨#[]⟩, .bool false] 57) = z6 at *
                generalize z7.heap.size = b4 at *
                clear hK K hHeld; have hHeld := hHeld2; clear hHeld2; (try simp only [Act.put, zn1, zn2, zn3])
                have k0 := HZ4.out.c0
                have k1 := HZ4.out.c1
                have k2 := HZ4.out.c2
                have k3 := HZ4.out.c3
                have g0 := HZ4.out.f0
                have g1 := HZ4.out.f1
                have g2 := HZ4.out.f2
                have g3 := HZ4.out.f3
                have m0 := HZ5.out.c0
                have m1 := HZ5.out.c1
                have m2 := HZ5.out.c2
                have m3 := HZ5.out.c3
                have q0 := HZ5.out.f0
                have q1 := HZ5.out.f1
                have q2 := HZ5.out.f2
                have q3 := HZ5.out.f3
                have hn45 : ¬ b4 = b5 := by omega
                have hn54 : ¬ b5 = b4 := by omega
                refine ready_one (i := 8) rfl (by kernel_rfl) (fun K hK => ?_)
                go_simp
                refine hK.out _ _ ?_ (fun hHeld2 => ?_)
                · (try dsimp only); first | (with_reducible exact hHeld) | (repeat (first | (with_reducible exact hHeld) | (with_reducible refine Below.alloc ?_ ?zs _; case zs => first | omega | exact hHeld.size | (simp <;> omega)) | (with_reducible refine Below.setCell ?_ ?zs _; case zs => first | omega | (simp <;> omega))))
                clear hK K hHeld; have hHeld := hHeld2; clear hHeld2; (try simp only [Act.put, zn1, zn2, zn3])
                refine ready_one (i := 9) rfl (by kernel_rfl) (fun K hK => ?_)
                go_simp
                refine hK.out _ _ ?_ (fun hHeld2 => ?_)
                · (try dsimp only); first | (with_reducible exact hHeld) | (repeat (first | (with_reducible exact hHeld) | (with_reducible refine Below.alloc ?_ ?zs _; case zs => first | omega | exact hHeld.size | (simp <;> omega)) | (with_reducible refine Below.setCell ?_ ?zs _; case zs => first | omega | (simp <;> omega))))
                clear hK K hHeld; have hHeld := hHeld2; clear hHeld2; (try simp only [Act.put, zn1, zn2, zn3])
                refine wpAnyH_done (by kernel_rfl) ?_ _
                go_wp2_with fail
                go_meet
                refine ⟨b4, b5, rfl, rfl, ?_, ?_, hHeld⟩
                · rw [← hku]; show World.cell? _ _ = _; go_simp
                · rw [← hkl]; show World.cell? _ _ = _; go_simp
            · skip
              go_simp
              refine hK.out _ _ ?_ (fun hHeld2 => ?_)
              · (try dsimp only); first | (with_reducible exact hHeld) | (repeat (first | (with_reducible exact hHeld) | (with_reducible refine Below.alloc ?_ ?zs _; case zs => first | omega | exact hHeld.size | (simp <;> omega)) | (with_reducible refine Below.setCell ?_ ?zs _; case zs => first | omega | (simp <;> omega))))
              have hge4 : W3.heap.size ≤ y2.heap.size := hHeld.size
              try (have hlt5 := HZ5.out.lt)
              try replace HZ5 := Lib.hid (HZ5.out.on (below_new _ (.cells #[.int .i64 0, .string ⟨#[]⟩, .string ⟨#[]⟩, .bool false] 57)))
              have HZ4 := Lib.hid (CutZ.new y2)
              generalize y2.alloc (.cells #[.int .i64 0, .string ⟨#[]⟩, .string ⟨#[]⟩, .bool false] 57) = z6 at *
              generalize y2.heap.size = b4 at *
              clear hK K hHeld; have hHeld := hHeld2; clear hHeld2; (try simp only [Act.put, zn1, zn2, zn3])
              refine ready_twoD (i := 5) (j := 7) rfl rfl (by kernel_rfl) (fun K hK => ?_) (fun K hK => ?_) 
              · skip
                go_simp
                refine (HOl.out _).mono ?_
                rintro e y5 ⟨rfl, hb⟩
                try replace HZ4 := Lib.hid (HZ4.out.on hb)
                try replace HZ5 := Lib.hid (HZ5.out.on hb)
                refine hK.out _ _ ?_ (fun hHeld2 => ?_)
                · (try dsimp only); exact Below.trans hHeld (Below.mono hb hHeld.size)
                clear hK K hHeld hb; have hHeld := hHeld2; clear hHeld2; (try simp only [Act.put, zn1, zn2, zn3])
                refine ready_one (i := 7) rfl (by kernel_rfl) (fun K hK => ?_)
                go_simp
                refine hK.out _ _ ?_ (fun hHeld2 => ?_)
                · (try dsimp only); first | (with_reducible exact hHeld) | (repeat (first | (with_reducible exact hHeld) | (with_reducible refine Below.alloc ?_ ?zs _; case zs => first | omega | exact hHeld.size | (simp <;> omega)) | (with_reducible refine Below.setCell ?_ ?zs _; case zs => first | omega | (simp <;> omega))))
                have hge5 : W3.heap.size ≤ y5.heap.size := hHeld.size
                try (have hlt4 := HZ4.out.lt)
                try replace HZ4 := Lib.hid (HZ4.out.on (below_new _ (.cells #[.int .i64 0, .string ⟨#[]⟩, .string ⟨#[]⟩, .bool false] 57)))
                have HZ5 := Lib.hid (CutZ.new y5)
                generalize y5.alloc (.cells #[.int .i64 0, .string ⟨#[]⟩, .string ⟨#[]⟩, .bool false] 57) = z7 at *
                generalize y5.heap.size = b5 at *
                clear hK K hHeld; have hHeld := hHeld2; clear hHeld2; (try simp only [Act.put, zn1, zn2, zn3])
                have k0 := HZ4.out.c0
                have k1 := HZ4.out.c1
                have k2 := HZ4.out.c2
                have k3 := HZ4.out.c3
                have g0 := HZ4.out.f0
                have g1 := HZ4.out.f1
                have g2 := HZ4.out.f2
                have g3 := HZ4.out.f3
                have m0 := HZ5.out.c0
                have m1 := HZ5.out.c1
                have m2 := HZ5.out.c2
                have m3 := HZ5.out.c3
                have q0 := HZ5.out.f0
                have q1 := HZ5.out.f1
                have q2 := HZ5.out.f2
                have q3 := HZ5.out.f3
                have hn45 : ¬ b4 = b5 := by omega
                have hn54 : ¬ b5 = b4 := by omega
                refine ready_one (i := 8) rfl (by kernel_rfl) (fun K hK => ?_)
                go_simp
                refine hK.out _ _ ?_ (fun hHeld2 => ?_)
                · (try dsimp only); first | (with_reducible exact hHeld) | (repeat (first | (with_reducible exact hHeld) | (with_reducible refine Below.alloc ?_ ?zs _; case zs => first | omega | exact hHeld.size | (simp <;> omega)) | (with_reducible refine Below.setCell ?_ ?zs _; case zs => first | omega | (simp <;> omega))))
                clear hK K hHeld; have hHeld := hHeld2; clear hHeld2; (try simp only [Act.put, zn1, zn2, zn3])
                refine ready_one (i := 9) rfl (by kernel_rfl) (fun K hK => ?_)
                go_simp
                refine hK.out _ _ ?_ (fun hHeld2 => ?_)
                · (try dsimp only); first | (with_reducible exact hHeld) | (repeat (first | (with_reducible exact hHeld) | (with_reducible refine Below.alloc ?_ ?zs _; case zs => first | omega | exact hHeld.size | (simp <;> omega)) | (with_reducible refine Below.setCell ?_ ?zs _; case zs => first | omega | (simp <;> omega))))
                clear hK K hHeld; have hHeld := hHeld2; clear hHeld2; (try simp only [Act.put, zn1, zn2, zn3])
                refine wpAnyH_done (by kernel_rfl) ?_ _
                go_wp2_with fail
                go_meet
                refine ⟨b4, b5, rfl, rfl, ?_, ?_, hHeld⟩
                · rw [← hku]; show World.cell? _ _ = _; go_simp
                · rw [← hkl]; show World.cell? _ _ = _; go_simp
              · skip
                go_simp
                refine hK.out _ _ ?_ (fun hHeld2 => ?_)
                · (try dsimp only); first | (with_reducible exact hHeld) | (repeat (first | (with_reducible exact hHeld) | (with_reducible refine Below.alloc ?_ ?zs _; case zs => first | omega | exact hHeld.size | (simp <;> omega)) | (with_reducible refine Below.setCell ?_ ?zs _; case zs => first | omega | (simp <;> omega))))
                have hge5 : W3.heap.size ≤ z6.heap.size := hHeld.size
                try (have hlt4 := HZ4.out.lt)
                try replace HZ4 := Lib.hid (HZ4.out.on (below_new _ (.cells #[.int .i64 0, .string ⟨#[]⟩, .string ⟨#[]⟩, .bool false] 57)))
                have HZ5 := Lib.hid (CutZ.new z6)
                generalize z6.alloc (.cells #[.int .i64 0, .string ⟨#[]⟩, .string ⟨#[]⟩, .bool false] 57) = z7 at *
                generalize z6.heap.size = b5 at *
                clear hK K hHeld; have hHeld := hHeld2; clear hHeld2; (try simp only [Act.put, zn1, zn2, zn3])
                refine ready_one (i := 5) rfl (by kernel_rfl) (fun K hK => ?_)
                go_simp
                refine (HOl.out _).mono ?_
                rintro e y5 ⟨rfl, hb⟩
                try replace HZ4 := Lib.hid (HZ4.out.on hb)
                try replace HZ5 := Lib.hid (HZ5.out.on hb)
                refine hK.out _ _ ?_ (fun hHeld2 => ?_)
                · (try dsimp only); exact Below.trans hHeld (Below.mono hb hHeld.size)
                clear hK K hHeld hb; have hHeld := hHeld2; clear hHeld2; (try simp only [Act.put, zn1, zn2, zn3])
                have k0 := HZ4.out.c0
                have k1 := HZ4.out.c1
                have k2 := HZ4.out.c2
                have k3 := HZ4.out.c3
                have g0 := HZ4.out.f0
                have g1 := HZ4.out.f1
                have g2 := HZ4.out.f2
                have g3 := HZ4.out.f3
                have m0 := HZ5.out.c0
                have m1 := HZ5.out.c1
                have m2 := HZ5.out.c2
                have m3 := HZ5.out.c3
                have q0 := HZ5.out.f0
                have q1 := HZ5.out.f1
                have q2 := HZ5.out.f2
                have q3 := HZ5.out.f3
                have hn45 : ¬ b4 = b5 := by omega
                have hn54 : ¬ b5 = b4 := by omega
                refine ready_one (i := 8) rfl (by kernel_rfl) (fun K hK => ?_)
                go_simp
                refine hK.out _ _ ?_ (fun hHeld2 => ?_)
                · (try dsimp only); first | (with_reducible exact hHeld) | (repeat (first | (with_reducible exact hHeld) | (with_reducible refine Below.alloc ?_ ?zs _; case zs => first | omega | exact hHeld.size | (simp <;> omega)) | (with_reducible refine Below.setCell ?_ ?zs _; case zs => first | omega | (simp <;> omega))))
                clear hK K hHeld; have hHeld := hHeld2; clear hHeld2; (try simp only [Act.put, zn1, zn2, zn3])
                refine ready_one (i := 9) rfl (by kernel_rfl) (fun K hK => ?_)
                go_simp
                refine hK.out _ _ ?_ (fun hHeld2 => ?_)
                · (try dsimp only); first | (with_reducible exact hHeld) | (repeat (first | (with_reducible exact hHeld) | (with_reducible refine Below.alloc ?_ ?zs _; case zs => first | omega | exact hHeld.size | (simp <;> omega)) | (with_reducible refine Below.setCell ?_ ?zs _; case zs => first | omega | (simp <;> omega))))
                clear hK K hHeld; have hHeld := hHeld2; clear hHeld2; (try simp only [Act.put, zn1, zn2, zn3])
                refine wpAnyH_done (by kernel_rfl) ?_ _
                go_wp2_with fail
                go_meet
                refine ⟨b4, b5, rfl, rfl, ?_, ?_, hHeld⟩
                · rw [← hku]; show World.cell? _ _ = _; go_simp
                · rw [← hkl]; show World.cell? _ _ = _; go_simp
            · skip
              go_simp
              refine hK.out _ _ ?_ (fun hHeld2 => ?_)
              · (try dsimp only); first | (with_reducible exact hHeld) | (repeat (first | (with_reducible exact hHeld) | (with_reducible refine Below.alloc ?_ ?zs _; case zs => first | omega | exact hHeld.size | (simp <;> omega)) | (with_reducible refine Below.setCell ?_ ?zs _; case zs => first | omega | (simp <;> omega))))
              have hge5 : W3.heap.size ≤ y2.heap.size := hHeld.size
              try (have hlt4 := HZ4.out.lt)
              try replace HZ4 := Lib.hid (HZ4.out.on (below_new _ (.cells #[.int .i64 0, .string ⟨#[]⟩, .string ⟨#[]⟩, .bool false] 57)))
              have HZ5 := Lib.hid (CutZ.new y2)
              generalize y2.alloc (.cells #[.int .i64 0, .string ⟨#[]⟩, .string ⟨#[]⟩, .bool false] 57) = z7 at *
              generalize y2.heap.size = b5 at *
              clear hK K hHeld; have hHeld := hHeld2; clear hHeld2; (try simp only [Act.put, zn1, zn2, zn3])
              refine ready_twoD (i := 5) (j := 6) rfl rfl (by kernel_rfl) (fun K hK => ?_) (fun K hK => ?_) 
              · skip
                go_simp
                refine (HOl.out _).mono ?_
                rintro e y5 ⟨rfl, hb⟩
                try replace HZ4 := Lib.hid (HZ4.out.on hb)
                try replace HZ5 := Lib.hid (HZ5.out.on hb)
                refine hK.out _ _ ?_ (fun hHeld2 => ?_)
                · (try dsimp only); exact Below.trans hHeld (Below.mono hb hHeld.size)
                clear hK K hHeld hb; have hHeld := hHeld2; clear hHeld2; (try simp only [Act.put, zn1, zn2, zn3])
                refine ready_one (i := 6) rfl (by kernel_rfl) (fun K hK => ?_)
                go_simp
                refine hK.out _ _ ?_ (fun hHeld2 => ?_)
                · (try dsimp only); first | (with_reducible exact hHeld) | (repeat (first | (with_reducible exact hHeld) | (with_reducible refine Below.alloc ?_ ?zs _; case zs => first | omega | exact hHeld.size | (simp <;> omega)) | (with_reducible refine Below.setCell ?_ ?zs _; case zs => first | omega | (simp <;> omega))))
                have hge4 : W3.heap.size ≤ y5.heap.size := hHeld.size
                try (have hlt5 := HZ5.out.lt)
                try replace HZ5 := Lib.hid (HZ5.out.on (below_new _ (.cells #[.int .i64 0, .string ⟨#[]⟩, .string ⟨#[]⟩, .bool false] 57)))
                have HZ4 := Lib.hid (CutZ.new y5)
                generalize y5.alloc (.cells #[.int .i64 0, .string ⟨#[]⟩, .string ⟨#[]⟩, .bool false] 57) = z6 at *
                generalize y5.heap.size = b4 at *
                clear hK K hHeld; have hHeld := hHeld2; clear hHeld2; (try simp only [Act.put, zn1, zn2, zn3])
                have k0 := HZ4.out.c0
                have k1 := HZ4.out.c1
                have k2 := HZ4.out.c2
                have k3 := HZ4.out.c3
                have g0 := HZ4.out.f0
                have g1 := HZ4.out.f1
                have g2 := HZ4.out.f2
                have g3 := HZ4.out.f3
                have m0 := HZ5.out.c0
                have m1 := HZ5.out.c1
                have m2 := HZ5.out.c2
                have m3 := HZ5.out.c3
                have q0 := HZ5.out.f0
                have q1 := HZ5.out.f1
                have q2 := HZ5.out.f2
                have q3 := HZ5.out.f3
                have hn45 : ¬ b4 = b5 := by omega
                have hn54 : ¬ b5 = b4 := by omega
                refine ready_one (i := 8) rfl (by kernel_rfl) (fun K hK => ?_)
                go_simp
                refine hK.out _ _ ?_ (fun hHeld2 => ?_)
                · (try dsimp only); first | (with_reducible exact hHeld) | (repeat (first | (with_reducible exact hHeld) | (with_reducible refine Below.alloc ?_ ?zs _; case zs => first | omega | exact hHeld.size | (simp <;> omega)) | (with_reducible refine Below.setCell ?_ ?zs _; case zs => first | omega | (simp <;> omega))))
                clear hK K hHeld; have hHeld := hHeld2; clear hHeld2; (try simp only [Act.put, zn1, zn2, zn3])
                refine ready_one (i := 9) rfl (by kernel_rfl) (fun K hK => ?_)
                go_simp
                refine hK.out _ _ ?_ (fun hHeld2 => ?_)
                · (try dsimp only); first | (with_reducible exact hHeld) | (repeat (first | (with_reducible exact hHeld) | (with_reducible refine Below.alloc ?_ ?zs _; case zs => first | omega | exact hHeld.size | (simp <;> omega)) | (with_reducible refine Below.setCell ?_ ?zs _; case zs => first | omega | (simp <;> omega))))
                clear hK K hHeld; have hHeld := hHeld2; clear hHeld2; (try simp only [Act.put, zn1, zn2, zn3])
                refine wpAnyH_done (by kernel_rfl) ?_ _
                go_wp2_with fail
                go_meet
                refine ⟨b4, b5, rfl, rfl, ?_, ?_, hHeld⟩
                · rw [← hku]; show World.cell? _ _ = _; go_simp
                · rw [← hkl]; show World.cell? _ _ = _; go_simp
              · skip
                go_simp
                refine hK.out _ _ ?_ (fun hHeld2 => ?_)
                · (try dsimp only); first | (with_reducible exact hHeld) | (repeat (first | (with_reducible exact hHeld) | (with_reducible refine Below.alloc ?_ ?zs _; case zs => first | omega | exact hHeld.size | (simp <;> omega)) | (with_reducible refine Below.setCell ?_ ?zs _; case zs => first | omega | (simp <;> omega))))
                have hge4 : W3.heap.size ≤ z7.heap.size := hHeld.size
                try (have hlt5 := HZ5.out.lt)
                try replace HZ5 := Lib.hid (HZ5.out.on (below_new _ (.cells #[.int .i64 0, .string ⟨#[]⟩, .string ⟨#[]⟩, .bool false] 57)))
                have HZ4 := Lib.hid (CutZ.new z7)
                generalize z7.alloc (.cells #[.int .i64 0, .string ⟨#[]⟩, .string ⟨#[]⟩, .bool false] 57) = z6 at *
                generalize z7.heap.size = b4 at *
                clear hK K hHeld; have hHeld := hHeld2; clear hHeld2; (try simp only [Act.put, zn1, zn2, zn3])
                refine ready_one (i := 5) rfl (by kernel_rfl) (fun K hK => ?_)
                go_simp
                refine (HOl.out _).mono ?_
                rintro e y5 ⟨rfl, hb⟩
                try replace HZ4 := Lib.hid (HZ4.out.on hb)
                try replace HZ5 := Lib.hid (HZ5.out.on hb)
                refine hK.out _ _ ?_ (fun hHeld2 => ?_)
                · (try dsimp only); exact Below.trans hHeld (Below.mono hb hHeld.size)
                clear hK K hHeld hb; have hHeld := hHeld2; clear hHeld2; (try simp only [Act.put, zn1, zn2, zn3])
                have k0 := HZ4.out.c0
                have k1 := HZ4.out.c1
                have k2 := HZ4.out.c2
                have k3 := HZ4.out.c3
                have g0 := HZ4.out.f0
                have g1 := HZ4.out.f1
                have g2 := HZ4.out.f2
                have g3 := HZ4.out.f3
                have m0 := HZ5.out.c0
                have m1 := HZ5.out.c1
                have m2 := HZ5.out.c2
                have m3 := HZ5.out.c3
                have q0 := HZ5.out.f0
                have q1 := HZ5.out.f1
                have q2 := HZ5.out.f2
                have q3 := HZ5.out.f3
                have hn45 : ¬ b4 = b5 := by omega
                have hn54 : ¬ b5 = b4 := by omega
                refine ready_one (i := 8) rfl (by kernel_rfl) (fun K hK => ?_)
                go_simp
                refine hK.out _ _ ?_ (fun hHeld2 => ?_)
                · (try dsimp only); first | (with_reducible exact hHeld) | (repeat (first | (with_reducible exact hHeld) | (with_reducible refine Below.alloc ?_ ?zs _; case zs => first | omega | exact hHeld.size | (simp <;> omega)) | (with_reducible refine Below.setCell ?_ ?zs _; case zs => first | omega | (simp <;> omega))))
                clear hK K hHeld; have hHeld := hHeld2; clear hHeld2; (try simp only [Act.put, zn1, zn2, zn3])
                refine ready_one (i := 9) rfl (by kernel_rfl) (fun K hK => ?_)
                go_simp
                refine hK.out _ _ ?_ (fun hHeld2 => ?_)
                · (try dsimp only); first | (with_reducible exact hHeld) | (repeat (first | (with_reducible exact hHeld) | (with_reducible refine Below.alloc ?_ ?zs _; case zs => first | omega | exact hHeld.size | (simp <;> omega)) | (with_reducible refine Below.setCell ?_ ?zs _; case zs => first | omega | (simp <;> omega))))
                clear hK K hHeld; have hHeld := hHeld2; clear hHeld2; (try simp only [Act.put, zn1, zn2, zn3])
                refine wpAnyH_done (by kernel_rfl) ?_ _
                go_wp2_with fail
                go_meet
                refine ⟨b4, b5, rfl, rfl, ?_, ?_, hHeld⟩
                · rw [← hku]; show World.cell? _ _ = _; go_simp
                · rw [← hkl]; show World.cell? _ _ = _; go_simp
          · skip
            go_simp
            refine hK.out _ _ ?_ (fun hHeld2 => ?_)
            · (try dsimp only); first | (with_reducible exact hHeld) | (repeat (first | (with_reducible exact hHeld) | (with_reducible refine Below.alloc ?_ ?zs _; case zs => first | omega | exact hHeld.size | (simp <;> omega)) | (with_reducible refine Below.setCell ?_ ?zs _; case zs => first | omega | (simp <;> omega))))
            have hge4 : W3.heap.size ≤ v0.heap.size := hHeld.size
            try (have hlt5 := HZ5.out.lt)
            try replace HZ5 := Lib.hid (HZ5.out.on (below_new _ (.cells #[.int .i64 0, .string ⟨#[]⟩, .string ⟨#[]⟩, .bool false] 57)))
            have HZ4 := Lib.hid (CutZ.new v0)
            generalize v0.alloc (.cells #[.int .i64 0, .string ⟨#[]⟩, .string ⟨#[]⟩, .bool false] 57) = z6 at *
            generalize v0.heap.size = b4 at *
            clear hK K hHeld; have hHeld := hHeld2; clear hHeld2; (try simp only [Act.put, zn1, zn2, zn3])
            refine ready_twoD (i := 2) (j := 7) rfl rfl (by kernel_rfl) (fun K hK => ?_) (fun K hK => ?_) 
            · skip
              go_simp
              refine (HOu.out _).mono ?_
              rintro e y2 ⟨rfl, hb⟩
              try replace HZ4 := Lib.hid (HZ4.out.on hb)
              try replace HZ5 := Lib.hid (HZ5.out.on hb)
              refine hK.out _ _ ?_ (fun hHeld2 => ?_)
              · (try dsimp only); exact Below.trans hHeld (Below.mono hb hHeld.size)
              clear hK K hHeld hb; have hHeld := hHeld2; clear hHeld2; (try simp only [Act.put, zn1, zn2, zn3])
              refine ready_twoD (i := 5) (j := 7) rfl rfl (by kernel_rfl) (fun K hK => ?_) (fun K hK => ?_) 
              · skip
                go_simp
                refine (HOl.out _).mono ?_
                rintro e y5 ⟨rfl, hb⟩
                try replace HZ4 := Lib.hid (HZ4.out.on hb)
                try replace HZ5 := Lib.hid (HZ5.out.on hb)
                refine hK.out _ _ ?_ (fun hHeld2 => ?_)
                · (try dsimp only); exact Below.trans hHeld (Below.mono hb hHeld.size)
                clear hK K hHeld hb; have hHeld := hHeld2; clear hHeld2; (try simp only [Act.put, zn1, zn2, zn3])
                refine ready_one (i := 7) rfl (by kernel_rfl) (fun K hK => ?_)
                go_simp
                refine hK.out _ _ ?_ (fun hHeld2 => ?_)
                · (try dsimp only); first | (with_reducible exact hHeld) | (repeat (first | (with_reducible exact hHeld) | (with_reducible refine Below.alloc ?_ ?zs _; case zs => first | omega | exact hHeld.size | (simp <;> omega)) | (with_reducible refine Below.setCell ?_ ?zs _; case zs => first | omega | (simp <;> omega))))
                have hge5 : W3.heap.size ≤ y5.heap.size := hHeld.size
                try (have hlt4 := HZ4.out.lt)
                try replace HZ4 := Lib.hid (HZ4.out.on (below_new _ (.cells #[.int .i64 0, .string ⟨#[]⟩, .string ⟨#[]⟩, .bool false] 57)))
                have HZ5 := Lib.hid (CutZ.new y5)
                generalize y5.alloc (.cells #[.int .i64 0, .string ⟨#[]⟩, .string ⟨#[]⟩, .bool false] 57) = z7 at *
                generalize y5.heap.size = b5 at *
                clear hK K hHeld; have hHeld := hHeld2; clear hHeld2; (try simp only [Act.put, zn1, zn2, zn3])
                have k0 := HZ4.out.c0
                have k1 := HZ4.out.c1
                have k2 := HZ4.out.c2
                have k3 := HZ4.out.c3
                have g0 := HZ4.out.f0
                have g1 := HZ4.out.f1
                have g2 := HZ4.out.f2
                have g3 := HZ4.out.f3
                have m0 := HZ5.out.c0
                have m1 := HZ5.out.c1
                have m2 := HZ5.out.c2
                have m3 := HZ5.out.c3
                have q0 := HZ5.out.f0
                have q1 := HZ5.out.f1
                have q2 := HZ5.out.f2
                have q3 := HZ5.out.f3
                have hn45 : ¬ b4 = b5 := by omega
                have hn54 : ¬ b5 = b4 := by omega
                refine ready_one (i := 8) rfl (by kernel_rfl) (fun K hK => ?_)
                go_simp
                refine hK.out _ _ ?_ (fun hHeld2 => ?_)
                · (try dsimp only); first | (with_reducible exact hHeld) | (repeat (first | (with_reducible exact hHeld) | (with_reducible refine Below.alloc ?_ ?zs _; case zs => first | omega | exact hHeld.size | (simp <;> omega)) | (with_reducible refine Below.setCell ?_ ?zs _; case zs => first | omega | (simp <;> omega))))
                clear hK K hHeld; have hHeld := hHeld2; clear hHeld2; (try simp only [Act.put, zn1, zn2, zn3])
                refine ready_one (i := 9) rfl (by kernel_rfl) (fun K hK => ?_)
                go_simp
                refine hK.out _ _ ?_ (fun hHeld2 => ?_)
                · (try dsimp only); first | (with_reducible exact hHeld) | (repeat (first | (with_reducible exact hHeld) | (with_reducible refine Below.alloc ?_ ?zs _; case zs => first | omega | exact hHeld.size | (simp <;> omega)) | (with_reducible refine Below.setCell ?_ ?zs _; case zs => first | omega | (simp <;> omega))))
                clear hK K hHeld; have hHeld := hHeld2; clear hHeld2; (try simp only [Act.put, zn1, zn2, zn3])
                refine wpAnyH_done (by kernel_rfl) ?_ _
                go_wp2_with fail
                go_meet
                refine ⟨b4, b5, rfl, rfl, ?_, ?_, hHeld⟩
                · rw [← hku]; show World.cell? _ _ = _; go_simp
                · rw [← hkl]; show World.cell? _ _ = _; go_simp
              · skip
                go_simp
                refine hK.out _ _ ?_ (fun hHeld2 => ?_)
                · (try dsimp only); first | (with_reducible exact hHeld) | (repeat (first | (with_reducible exact hHeld) | (with_reducible refine Below.alloc ?_ ?zs _; case zs => first | omega | exact hHeld.size | (simp <;> omega)) | (with_reducible refine Below.setCell ?_ ?zs _; case zs => first | omega | (simp <;> omega))))
                have hge5 : W3.heap.size ≤ y2.heap.size := hHeld.size
                try (have hlt4 := HZ4.out.lt)
                try replace HZ4 := Lib.hid (HZ4.out.on (below_new _ (.cells #[.int .i64 0, .string ⟨#[]⟩, .string ⟨#[]⟩, .bool false] 57)))
                have HZ5 := Lib.hid (CutZ.new y2)
                generalize y2.alloc (.cells #[.int .i64 0, .string ⟨#[]⟩, .string ⟨#[]⟩, .bool false] 57) = z7 at *
                generalize y2.heap.size = b5 at *
                clear hK K hHeld; have hHeld := hHeld2; clear hHeld2; (try simp only [Act.put, zn1, zn2, zn3])
                refine ready_one (i := 5) rfl (by kernel_rfl) (fun K hK => ?_)
                go_simp
                refine (HOl.out _).mono ?_
                rintro e y5 ⟨rfl, hb⟩
                try replace HZ4 := Lib.hid (HZ4.out.on hb)
                try replace HZ5 := Lib.hid (HZ5.out.on hb)
                refine hK.out _ _ ?_ (fun hHeld2 => ?_)
                · (try dsimp only); exact Below.trans hHeld (Below.mono hb hHeld.size)
                clear hK K hHeld hb; have hHeld := hHeld2; clear hHeld2; (try simp only [Act.put, zn1, zn2, zn3])
                have k0 := HZ4.out.c0
                have k1 := HZ4.out.c1
                have k2 := HZ4.out.c2
                have k3 := HZ4.out.c3
                have g0 := HZ4.out.f0
                have g1 := HZ4.out.f1
                have g2 := HZ4.out.f2
                have g3 := HZ4.out.f3
                have m0 := HZ5.out.c0
                have m1 := HZ5.out.c1
                have m2 := HZ5.out.c2
                have m3 := HZ5.out.c3
                have q0 := HZ5.out.f0
                have q1 := HZ5.out.f1
                have q2 := HZ5.out.f2
                have q3 := HZ5.out.f3
                have hn45 : ¬ b4 = b5 := by omega
                have hn54 : ¬ b5 = b4 := by omega
                refine ready_one (i := 8) rfl (by kernel_rfl) (fun K hK => ?_)
                go_simp
                refine hK.out _ _ ?_ (fun hHeld2 => ?_)
                · (try dsimp only); first | (with_reducible exact hHeld) | (repeat (first | (with_reducible exact hHeld) | (with_reducible refine Below.alloc ?_ ?zs _; case zs => first | omega | exact hHeld.size | (simp <;> omega)) | (with_reducible refine Below.setCell ?_ ?zs _; case zs => first | omega | (simp <;> omega))))
                clear hK K hHeld; have hHeld := hHeld2; clear hHeld2; (try simp only [Act.put, zn1, zn2, zn3])
                refine ready_one (i := 9) rfl (by kernel_rfl) (fun K hK => ?_)
                go_simp
                refine hK.out _ _ ?_ (fun hHeld2 => ?_)
                · (try dsimp only); first | (with_reducible exact hHeld) | (repeat (first | (with_reducible exact hHeld) | (with_reducible refine Below.alloc ?_ ?zs _; case zs => first | omega | exact hHeld.size | (simp <;> omega)) | (with_reducible refine Below.setCell ?_ ?zs _; case zs => first | omega | (simp <;> omega))))
                clear hK K hHeld; have hHeld := hHeld2; clear hHeld2; (try simp only [Act.put, zn1, zn2, zn3])
                refine wpAnyH_done (by kernel_rfl) ?_ _
                go_wp2_with fail
                go_meet
                refine ⟨b4, b5, rfl, rfl, ?_, ?_, hHeld⟩
                · rw [← hku]; show World.cell? _ _ = _; go_simp
                · rw [← hkl]; show World.cell? _ _ = _; go_simp
            · skip
              go_simp
              refine hK.out _ _ ?_ (fun hHeld2 => ?_)
              · (try dsimp only); first | (with_reducible exact hHeld) | (repeat (first | (with_reducible exact hHeld) | (with_reducible refine Below.alloc ?_ ?zs _; case zs => first | omega | exact hHeld.size | (simp <;> omega)) | (with_reducible refine Below.setCell ?_ ?zs _; case zs => first | omega | (simp <;> omega))))
              have hge5 : W3.heap.size ≤ z6.heap.size := hHeld.size
              try (have hlt4 := HZ4.out.lt)
              try replace HZ4 := Lib.hid (HZ4.out.on (below_new _ (.cells #[.int .i64 0, .string ⟨#[]⟩, .string ⟨#[]⟩, .bool false] 57)))
              have HZ5 := Lib.hid (CutZ.new z6)
              generalize z6.alloc (.cells #[.int .i64 0, .string ⟨#[]⟩, .string ⟨#[]⟩, .bool false] 57) = z7 at *
              generalize z6.heap.size = b5 at *
              clear hK K hHeld; have hHeld := hHeld2; clear hHeld2; (try simp only [Act.put, zn1, zn2, zn3])
              refine ready_one (i := 2) rfl (by kernel_rfl) (fun K hK => ?_)
              go_simp
              refine (HOu.out _).mono ?_
              rintro e y2 ⟨rfl, hb⟩
              try replace HZ4 := Lib.hid (HZ4.out.on hb)
              try replace HZ5 := Lib.hid (HZ5.out.on hb)
              refine hK.out _ _ ?_ (fun hHeld2 => ?_)
              · (try dsimp only); exact Below.trans hHeld (Below.mono hb hHeld.size)
              clear hK K hHeld hb; have hHeld := hHeld2; clear hHeld2; (try simp only [Act.put, zn1, zn2, zn3])
              refine ready_one (i := 5) rfl (by kernel_rfl) (fun K hK => ?_)
              go_simp
              refine (HOl.out _).mono ?_
              rintro e y5 ⟨rfl, hb⟩
              try replace HZ4 := Lib.hid (HZ4.out.on hb)
              try replace HZ5 := Lib.hid (HZ5.out.on hb)
              refine hK.out _ _ ?_ (fun hHeld2 => ?_)
              · (try dsimp only); exact Below.trans hHeld (Below.mono hb hHeld.size)
              clear hK K hHeld hb; have hHeld := hHeld2; clear hHeld2; (try simp only [Act.put, zn1, zn2, zn3])
              have k0 := HZ4.out.c0
              have k1 := HZ4.out.c1
              have k2 := HZ4.out.c2
              have k3 := HZ4.out.c3
              have g0 := HZ4.out.f0
              have g1 := HZ4.out.f1
              have g2 := HZ4.out.f2
              have g3 := HZ4.out.f3
              have m0 := HZ5.out.c0
              have m1 := HZ5.out.c1
              have m2 := HZ5.out.c2
              have m3 := HZ5.out.c3
              have q0 := HZ5.out.f0
              have q1 := HZ5.out.f1
              have q2 := HZ5.out.f2
              have q3 := HZ5.out.f3
              have hn45 : ¬ b4 = b5 := by omega
              have hn54 : ¬ b5 = b4 := by omega
              refine ready_one (i := 8) rfl (by kernel_rfl) (fun K hK => ?_)
              go_simp
              refine hK.out _ _ ?_ (fun hHeld2 => ?_)
              · (try dsimp only); first | (with_reducible exact hHeld) | (repeat (first | (with_reducible exact hHeld) | (with_reducible refine Below.alloc ?_ ?zs _; case zs => first | omega | exact hHeld.size | (simp <;> omega)) | (with_reducible refine Below.setCell ?_ ?zs _; case zs => first | omega | (simp <;> omega))))
              clear hK K hHeld; have hHeld := hHeld2; clear hHeld2; (try simp only [Act.put, zn1, zn2, zn3])
              refine ready_one (i := 9) rfl (by kernel_rfl) (fun K hK => ?_)
              go_simp
              refine hK.out _ _ ?_ (fun hHeld2 => ?_)
              · (try dsimp only); first | (with_reducible exact hHeld) | (repeat (first | (with_reducible exact hHeld) | (with_reducible refine Below.alloc ?_ ?zs _; case zs => first | omega | exact hHeld.size | (simp <;> omega)) | (with_reducible refine Below.setCell ?_ ?zs _; case zs => first | omega | (simp <;> omega))))
              clear hK K hHeld; have hHeld := hHeld2; clear hHeld2; (try simp only [Act.put, zn1, zn2, zn3])
              refine wpAnyH_done (by kernel_rfl) ?_ _
              go_wp2_with fail
              go_meet
              refine ⟨b4, b5, rfl, rfl, ?_, ?_, hHeld⟩
              · rw [← hku]; show World.cell? _ _ = _; go_simp
              · rw [← hkl]; show World.cell? _ _ = _; go_simp
          · skip
            go_simp
            refine hK.out _ _ ?_ (fun hHeld2 => ?_)
            · (try dsimp only); first | (with_reducible exact hHeld) | (repeat (first | (with_reducible exact hHeld) | (with_reducible refine Below.alloc ?_ ?zs _; case zs => first | omega | exact hHeld.size | (simp <;> omega)) | (with_reducible refine Below.setCell ?_ ?zs _; case zs => first | omega | (simp <;> omega))))
            have hge5 : W3.heap.size ≤ v0.heap.size := hHeld.size
            try (have hlt4 := HZ4.out.lt)
            try replace HZ4 := Lib.hid (HZ4.out.on (below_new _ (.cells #[.int .i64 0, .string ⟨#[]⟩, .string ⟨#[]⟩, .bool false] 57)))
            have HZ5 := Lib.hid (CutZ.new v0)
            generalize v0.alloc (.cells #[.int .i64 0, .string ⟨#[]⟩, .string ⟨#[]⟩, .bool false] 57) = z7 at *
            generalize v0.heap.size = b5 at *
            clear hK K hHeld; have hHeld := hHeld2; clear hHeld2; (try simp only [Act.put, zn1, zn2, zn3])
            refine ready_twoD (i := 2) (j := 6) rfl rfl (by kernel_rfl) (fun K hK => ?_) (fun K hK => ?_) 
            · skip
              go_simp
              refine (HOu.out _).mono ?_
              rintro e y2 ⟨rfl, hb⟩
              try replace HZ4 := Lib.hid (HZ4.out.on hb)
              try replace HZ5 := Lib.hid (HZ5.out.on hb)
              refine hK.out _ _ ?_ (fun hHeld2 => ?_)
              · (try dsimp only); exact Below.trans hHeld (Below.mono hb hHeld.size)
              clear hK K hHeld hb; have hHeld := hHeld2; clear hHeld2; (try simp only [Act.put, zn1, zn2, zn3])
              refine ready_twoD (i := 5) (j := 6) rfl rfl (by kernel_rfl) (fun K hK => ?_) (fun K hK => ?_) 
              · skip
                go_simp
                refine (HOl.out _).mono ?_
                rintro e y5 ⟨rfl, hb⟩
                try replace HZ4 := Lib.hid (HZ4.out.on hb)
                try replace HZ5 := Lib.hid (HZ5.out.on hb)
                refine hK.out _ _ ?_ (fun hHeld2 => ?_)
                · (try dsimp only); exact Below.trans hHeld (Below.mono hb hHeld.size)
                clear hK K hHeld hb; have hHeld := hHeld2; clear hHeld2; (try simp only [Act.put, zn1, zn2, zn3])
                refine ready_one (i := 6) rfl (by kernel_rfl) (fun K hK => ?_)
                go_simp
                refine hK.out _ _ ?_ (fun hHeld2 => ?_)
                · (try dsimp only); first | (with_reducible exact hHeld) | (repeat (first | (with_reducible exact hHeld) | (with_reducible refine Below.alloc ?_ ?zs _; case zs => first | omega | exact hHeld.size | (simp <;> omega)) | (with_reducible refine Below.setCell ?_ ?zs _; case zs => first | omega | (simp <;> omega))))
                have hge4 : W3.heap.size ≤ y5.heap.size := hHeld.size
                try (have hlt5 := HZ5.out.lt)
                try replace HZ5 := Lib.hid (HZ5.out.on (below_new _ (.cells #[.int .i64 0, .string ⟨#[]⟩, .string ⟨#[]⟩, .bool false] 57)))
                have HZ4 := Lib.hid (CutZ.new y5)
                generalize y5.alloc (.cells #[.int .i64 0, .string ⟨#[]⟩, .string ⟨#[]⟩, .bool false] 57) = z6 at *
                generalize y5.heap.size = b4 at *
                clear hK K hHeld; have hHeld := hHeld2; clear hHeld2; (try simp only [Act.put, zn1, zn2, zn3])
                have k0 := HZ4.out.c0
                have k1 := HZ4.out.c1
                have k2 := HZ4.out.c2
                have k3 := HZ4.out.c3
                have g0 := HZ4.out.f0
                have g1 := HZ4.out.f1
                have g2 := HZ4.out.f2
                have g3 := HZ4.out.f3
                have m0 := HZ5.out.c0
                have m1 := HZ5.out.c1
                have m2 := HZ5.out.c2
                have m3 := HZ5.out.c3
                have q0 := HZ5.out.f0
                have q1 := HZ5.out.f1
                have q2 := HZ5.out.f2
                have q3 := HZ5.out.f3
                have hn45 : ¬ b4 = b5 := by omega
                have hn54 : ¬ b5 = b4 := by omega
                refine ready_one (i := 8) rfl (by kernel_rfl) (fun K hK => ?_)
                go_simp
                refine hK.out _ _ ?_ (fun hHeld2 => ?_)
                · (try dsimp only); first | (with_reducible exact hHeld) | (repeat (first | (with_reducible exact hHeld) | (with_reducible refine Below.alloc ?_ ?zs _; case zs => first | omega | exact hHeld.size | (simp <;> omega)) | (with_reducible refine Below.setCell ?_ ?zs _; case zs => first | omega | (simp <;> omega))))
                clear hK K hHeld; have hHeld := hHeld2; clear hHeld2; (try simp only [Act.put, zn1, zn2, zn3])
                refine ready_one (i := 9) rfl (by kernel_rfl) (fun K hK => ?_)
                go_simp
                refine hK.out _ _ ?_ (fun hHeld2 => ?_)
                · (try dsimp only); first | (with_reducible exact hHeld) | (repeat (first | (with_reducible exact hHeld) | (with_reducible refine Below.alloc ?_ ?zs _; case zs => first | omega | exact hHeld.size | (simp <;> omega)) | (with_reducible refine Below.setCell ?_ ?zs _; case zs => first | omega | (simp <;> omega))))
                clear hK K hHeld; have hHeld := hHeld2; clear hHeld2; (try simp only [Act.put, zn1, zn2, zn3])
                refine wpAnyH_done (by kernel_rfl) ?_ _
                go_wp2_with fail
                go_meet
                refine ⟨b4, b5, rfl, rfl, ?_, ?_, hHeld⟩
                · rw [← hku]; show World.cell? _ _ = _; go_simp
                · rw [← hkl]; show World.cell? _ _ = _; go_simp
              · skip
                go_simp
                refine hK.out _ _ ?_ (fun hHeld2 => ?_)
                · (try dsimp only); first | (with_reducible exact hHeld) | (repeat (first | (with_reducible exact hHeld) | (with_reducible refine Below.alloc ?_ ?zs _; case zs => first | omega | exact hHeld.size | (simp <;> omega)) | (with_reducible refine Below.setCell ?_ ?zs _; case zs => first | omega | (simp <;> omega))))
                have hge4 : W3.heap.size ≤ y2.heap.size := hHeld.size
                try (have hlt5 := HZ5.out.lt)
                try replace HZ5 := Lib.hid (HZ5.out.on (below_new _ (.cells #[.int .i64 0, .string ⟨#[]⟩, .string ⟨#[]⟩, .bool false] 57)))
                have HZ4 := Lib.hid (CutZ.new y2)
                generalize y2.alloc (.cells #[.int .i64 0, .string ⟨#[]⟩, .string ⟨#[]⟩, .bool false] 57) = z6 at *
                generalize y2.heap.size = b4 at *
                clear hK K hHeld; have hHeld := hHeld2; clear hHeld2; (try simp only [Act.put, zn1, zn2, zn3])
                refine ready_one (i := 5) rfl (by kernel_rfl) (fun K hK => ?_)
                go_simp
                refine (HOl.out _).mono ?_
                rintro e y5 ⟨rfl, hb⟩
                try replace HZ4 := Lib.hid (HZ4.out.on hb)
                try replace HZ5 := Lib.hid (HZ5.out.on hb)
                refine hK.out _ _ ?_ (fun hHeld2 => ?_)
                · (try dsimp only); exact Below.trans hHeld (Below.mono hb hHeld.size)
                clear hK K hHeld hb; have hHeld := hHeld2; clear hHeld2; (try simp only [Act.put, zn1, zn2, zn3])
                have k0 := HZ4.out.c0
                have k1 := HZ4.out.c1
                have k2 := HZ4.out.c2
                have k3 := HZ4.out.c3
                have g0 := HZ4.out.f0
                have g1 := HZ4.out.f1
                have g2 := HZ4.out.f2
                have g3 := HZ4.out.f3
                have m0 := HZ5.out.c0
                have m1 := HZ5.out.c1
                have m2 := HZ5.out.c2
                have m3 := HZ5.out.c3
                have q0 := HZ5.out.f0
                have q1 := HZ5.out.f1
                have q2 := HZ5.out.f2
                have q3 := HZ5.out.f3
                have hn45 : ¬ b4 = b5 := by omega
                have hn54 : ¬ b5 = b4 := by omega
                refine ready_one (i := 8) rfl (by kernel_rfl) (fun K hK => ?_)
                go_simp
                refine hK.out _ _ ?_ (fun hHeld2 => ?_)
                · (try dsimp only); first | (with_reducible exact hHeld) | (repeat (first | (with_reducible exact hHeld) | (with_reducible refine Below.alloc ?_ ?zs _; case zs => first | omega | exact hHeld.size | (simp <;> omega)) | (with_reducible refine Below.setCell ?_ ?zs _; case zs => first | omega | (simp <;> omega))))
                clear hK K hHeld; have hHeld := hHeld2; clear hHeld2; (try simp only [Act.put, zn1, zn2, zn3])
                refine ready_one (i := 9) rfl (by kernel_rfl) (fun K hK => ?_)
                go_simp
                refine hK.out _ _ ?_ (fun hHeld2 => ?_)
                · (try dsimp only); first | (with_reducible exact hHeld) | (repeat (first | (with_reducible exact hHeld) | (with_reducible refine Below.alloc ?_ ?zs _; case zs => first | omega | exact hHeld.size | (simp <;> omega)) | (with_reducible refine Below.setCell ?_ ?zs _; case zs => first | omega | (simp <;> omega))))
                clear hK K hHeld; have hHeld := hHeld2; clear hHeld2; (try simp only [Act.put, zn1, zn2, zn3])
                refine wpAnyH_done (by kernel_rfl) ?_ _
                go_wp2_with fail
                go_meet
                refine ⟨b4, b5, rfl, rfl, ?_, ?_, hHeld⟩
                · rw [← hku]; show World.cell? _ _ = _; go_simp
                · rw [← hkl]; show World.cell? _ _ = _; go_simp
            · skip
              go_simp
              refine hK.out _ _ ?_ (fun hHeld2 => ?_)
              · (try dsimp only); first | (with_reducible exact hHeld) | (repeat (first | (with_reducible exact hHeld) | (with_reducible refine Below.alloc ?_ ?zs _; case zs => first | omega | exact hHeld.size | (simp <;> omega)) | (with_reducible refine Below.setCell ?_ ?zs _; case zs => first | omega | (simp <;> omega))))
              have hge4 : W3.heap.size ≤ z7.heap.size := hHeld.size
              try (have hlt5 := HZ5.out.lt)
              try replace HZ5 := Lib.hid (HZ5.out.on (below_new _ (.cells #[.int .i64 0, .string ⟨#[]⟩, .string ⟨#[]⟩, .bool false] 57)))
              have HZ4 := Lib.hid (CutZ.new z7)
              generalize z7.alloc (.cells #[.int .i64 0, .string ⟨#[]⟩, .string ⟨#[]⟩, .bool false] 57) = z6 at *
              generalize z7.heap.size = b4 at *
              clear hK K hHeld; have hHeld := hHeld2; clear hHeld2; (try simp only [Act.put, zn1, zn2, zn3])
              refine ready_one (i := 2) rfl (by kernel_rfl) (fun K hK => ?_)
              go_simp
              refine (HOu.out _).mono ?_
              rintro e y2 ⟨rfl, hb⟩
              try replace HZ4 := Lib.hid (HZ4.out.on hb)
              try replace HZ5 := Lib.hid (HZ5.out.on hb)
              refine hK.out _ _ ?_ (fun hHeld2 => ?_)
              · (try dsimp only); exact Below.trans hHeld (Below.mono hb hHeld.size)
              clear hK K hHeld hb; have hHeld := hHeld2; clear hHeld2; (try simp only [Act.put, zn1, zn2, zn3])
              refine ready_one (i := 5) rfl (by kernel_rfl) (fun K hK => ?_)
              go_simp
              refine (HOl.out _).mono ?_
              rintro e y5 ⟨rfl, hb⟩
              try replace HZ4 := Lib.hid (HZ4.out.on hb)
              try replace HZ5 := Lib.hid (HZ5.out.on hb)
              refine hK.out _ _ ?_ (fun hHeld2 => ?_)
              · (try dsimp only); exact Below.trans hHeld (Below.mono hb hHeld.size)
              clear hK K hHeld hb; have hHeld := hHeld2; clear hHeld2; (try simp only [Act.put, zn1, zn2, zn3])
              have k0 := HZ4.out.c0
              have k1 := HZ4.out.c1
              have k2 := HZ4.out.c2
              have k3 := HZ4.out.c3
              have g0 := HZ4.out.f0
              have g1 := HZ4.out.f1
              have g2 := HZ4.out.f2
              have g3 := HZ4.out.f3
              have m0 := HZ5.out.c0
              have m1 := HZ5.out.c1
              have m2 := HZ5.out.c2
              have m3 := HZ5.out.c3
              have q0 := HZ5.out.f0
              have q1 := HZ5.out.f1
              have q2 := HZ5.out.f2
              have q3 := HZ5.out.f3
              have hn45 : ¬ b4 = b5 := by omega
              have hn54 : ¬ b5 = b4 := by omega
              refine ready_one (i := 8) rfl (by kernel_rfl) (fun K hK => ?_)
              go_simp
              refine hK.out _ _ ?_ (fun hHeld2 => ?_)
              · (try dsimp only); first | (with_reducible exact hHeld) | (repeat (first | (with_reducible exact hHeld) | (with_reducible refine Below.alloc ?_ ?zs _; case zs => first | omega | exact hHeld.size | (simp <;> omega)) | (with_reducible refine Below.setCell ?_ ?zs _; case zs => first | omega | (simp <;> omega))))
              clear hK K hHeld; have hHeld := hHeld2; clear hHeld2; (try simp only [Act.put, zn1, zn2, zn3])
              refine ready_one (i := 9) rfl (by kernel_rfl) (fun K hK => ?_)
              go_simp
              refine hK.out _ _ ?_ (fun hHeld2 => ?_)
              · (try dsimp only); first | (with_reducible exact hHeld) | (repeat (first | (with_reducible exact hHeld) | (with_reducible refine Below.alloc ?_ ?zs _; case zs => first | omega | exact hHeld.size | (simp <;> omega)) | (with_reducible refine Below.setCell ?_ ?zs _; case zs => first | omega | (simp <;> omega))))
              clear hK K hHeld; have hHeld := hHeld2; clear hHeld2; (try simp only [Act.put, zn1, zn2, zn3])
              refine wpAnyH_done (by kernel_rfl) ?_ _
              go_wp2_with fail
              go_meet
              refine ⟨b4, b5, rfl, rfl, ?_, ?_, hHeld⟩
              · rw [← hku]; show World.cell? _ _ = _; go_simp
              · rw [← hkl]; show World.cell? _ _ = _; go_simp
        case rest =>
          obtain ⟨b4, b5, rfl, rfl, HK4, HK5, HBc⟩ := hcut
          have hbc := HBc.out
          replace c0 := cellAt c0 hbc (by omega)
          replace c1 := cellAt c1 hbc (by omega)
          replace c2 := cellAt c2 hbc (by omega)
          replace y0 := cellAt y0 hbc (by omega)
          replace y2 := cellAt y2 hbc (by omega)
          replace n0 : w.heap.size < wc.heap.size := ltAt n0 hbc
          replace n2 : w2.heap.size < wc.heap.size := ltAt n2 hbc
          obtain ⟨W6, rfl⟩ : ∃ wo : World, wo = wc := ⟨_, rfl⟩
          have z4 := HK4.out
          have z5 := HK5.out
          have l4 := cell_blk z4
          have l5 := cell_blk z5
          have HB6 := Lib.hid (lift HB3.out HBc.out)
          have hkpos : decide ((0 : Int) < kindS l) = (kindS l != 0) := by
            by_cases h : kindS l = 0
            · simp [h]
            · have h2 := (kind_parts h).2.2.2.1
              have e : (kindS l != 0) = true := by simpa using h
              rw [e, decide_eq_true_eq]
              omega
          simp only at l4 l5
          clear hbc HBc HK4 HK5 hku hkl HOu HOl
          have hIu := Lib.hid (fun W => IsTemplate_any u W (by omega))
          have hIl := Lib.hid (fun W => IsTemplate_any l W hl)
          have hk5 : k = 0 ∨ k = 1 ∨ k = 2 ∨ k = 3 ∨ k = 4 := by omega
          rcases hk5 with rfl | rfl | rfl | rfl | rfl
          · have HM := Lib.hid (show mayF (s, t, l) = false by rw [hm]; rfl)
            replace y0 : W6.cell? ⟨w2.heap.size, 0, none⟩ = some (.int .i64 0) := y0
            clear hm
            go_wp2_with fail
            have hB0 := HB6.out
            go_ret
            refine ⟨ret_bool (by rw [HM.out]; skip), ?_⟩
            repeat (first | (with_reducible exact hB0) | (with_reducible refine Below.drew ?_) | (with_reducible refine Below.alloc ?_ ?zs _; case zs => first | omega | (simp <;> omega)) | (with_reducible refine Below.setCell ?_ ?zs _; case zs => first | omega | (simp <;> omega)))
          · have HM := Lib.hid (show mayF (s, t, l) = (l == ([] : Str) || (l == nullS || (kindS l == kindS u && tmplS u == tmplS l))) by rw [hm, hlb]; rfl)
            replace y0 : W6.cell? ⟨w2.heap.size, 0, none⟩ = some (.int .i64 1) := y0
            clear hm
            have hnull : nullS = [110, 117, 108, 108] := rfl
            rw [hnull] at HM
            clear hnull
            go_upto_region 7 with fail
            try go_wp2_with fail
            refine wp_region_held_drew (S := fun w' => Below W6.heap.size W6 w') (by kernel_rfl) (Below.drew (Below.refl _ _)) (fun hHeld => ?_)
            refine tY (i := 0) (v := ?_) rfl ?_ hHeld ?_; rotate_left 1; focus (intro w' hSw; clear hSw; go_simp; try with_reducible rfl)
            (try simp only [Act.put, zn1, zn2, zn3])
            refine tY (i := 1) (v := ?_) rfl ?_ hHeld ?_; rotate_left 1; focus (intro w' hSw; have hCell := fun (b o : Nat) (h : b < W6.heap.size) => hSw.cell (p := ⟨b, o, none⟩) h; clear hSw; go_simp; try with_reducible rfl)
            (try simp only [Act.put, zn1, zn2, zn3])
            refine tY (i := 2) (v := ?_) rfl ?_ hHeld ?_; rotate_left 1; focus (intro w' hSw; clear hSw; go_simp; try with_reducible rfl)
            (try simp only [Act.put, zn1, zn2, zn3])
            refine tY (i := 3) (v := ?_) rfl ?_ hHeld ?_; rotate_left 1; focus (intro w' hSw; clear hSw; go_simp; try with_reducible rfl)
            (try simp only [Act.put, zn1, zn2, zn3])
            refine tS (i := 4) rfl hHeld ?_; (try simp only [Act.put, zn1, zn2, zn3])
            refine tS (i := 5) rfl hHeld ?_; (try simp only [Act.put, zn1, zn2, zn3])
            refine tS (i := 6) rfl hHeld ?_; (try simp only [Act.put, zn1, zn2, zn3])
            refine tY (i := 7) (v := ?_) rfl ?_ hHeld ?_; rotate_left 1; focus (intro w' hSw; clear hSw; go_simp; try with_reducible rfl)
            (try simp only [Act.put, zn1, zn2, zn3])
            refine tY (i := 8) (v := ?_) rfl ?_ hHeld ?_; rotate_left 1; focus (intro w' hSw; clear hSw; go_simp; try with_reducible rfl)
            (try simp only [Act.put, zn1, zn2, zn3])
            refine tS (i := 9) rfl hHeld ?_; (try simp only [Act.put, zn1, zn2, zn3])
            refine tS (i := 10) rfl hHeld ?_; (try simp only [Act.put, zn1, zn2, zn3])
            refine tS (i := 11) rfl hHeld ?_; (try simp only [Act.put, zn1, zn2, zn3])
            refine tS (i := 12) rfl hHeld ?_; (try simp only [Act.put, zn1, zn2, zn3])
            refine tS (i := 13) rfl hHeld ?_; (try simp only [Act.put, zn1, zn2, zn3])
            refine tS (i := 14) rfl hHeld ?_; (try simp only [Act.put, zn1, zn2, zn3])
            refine tS (i := 15) rfl hHeld ?_; (try simp only [Act.put, zn1, zn2, zn3])
            refine tS (i := 16) rfl hHeld ?_; (try simp only [Act.put, zn1, zn2, zn3])
            refine tS (i := 17) rfl hHeld ?_; (try simp only [Act.put, zn1, zn2, zn3])
            refine tS (i := 18) rfl hHeld ?_; (try simp only [Act.put, zn1, zn2, zn3])
            refine tS (i := 19) rfl hHeld ?_; (try simp only [Act.put, zn1, zn2, zn3])
            refine tS (i := 20) rfl hHeld ?_; (try simp only [Act.put, zn1, zn2, zn3])
            refine tS (i := 21) rfl hHeld ?_; (try simp only [Act.put, zn1, zn2, zn3])
            refine tS (i := 22) rfl hHeld ?_; (try simp only [Act.put, zn1, zn2, zn3])
            refine tY (i := 23) (v := ?_) rfl ?_ hHeld ?_; rotate_left 1; focus (intro w' hSw; clear hSw; go_simp; try with_reducible rfl)
            (try simp only [Act.put, zn1, zn2, zn3])
            refine tY (i := 24) (v := ?_) rfl ?_ hHeld ?_; rotate_left 1; focus (intro w' hSw; clear hSw; go_simp; try with_reducible rfl)
            (try simp only [Act.put, zn1, zn2, zn3])
            refine wpAnyH_done (by kernel_rfl) ?_ _
            go_wp2_with fail
            have hB0 := lift HB6.out hHeld
            go_ret
            refine ⟨ret_bool (by rw [HM.out]; simp [*]), ?_⟩
            repeat (first | (with_reducible exact hB0) | (with_reducible refine Below.drew ?_) | (with_reducible refine Below.alloc ?_ ?zs _; case zs => first | omega | (simp <;> omega)) | (with_reducible refine Below.setCell ?_ ?zs _; case zs => first | omega | (simp <;> omega)))
          · have HM := Lib.hid (show mayF (s, t, l) = (l == ([] : Str)) by rw [hm, hlb]; rfl)
            replace y0 : W6.cell? ⟨w2.heap.size, 0, none⟩ = some (.int .i64 2) := y0
            clear hm
            go_wp2_with fail
            have hB0 := HB6.out
            go_ret
            refine ⟨ret_bool (by rw [HM.out]; simp [*]), ?_⟩
            repeat (first | (with_reducible exact hB0) | (with_reducible refine Below.drew ?_) | (with_reducible refine Below.alloc ?_ ?zs _; case zs => first | omega | (simp <;> omega)) | (with_reducible refine Below.setCell ?_ ?zs _; case zs => first | omega | (simp <;> omega)))
          · have HM := Lib.hid (show mayF (s, t, l) = (kindS l != 0) by rw [hm]; rfl)
            replace y0 : W6.cell? ⟨w2.heap.size, 0, none⟩ = some (.int .i64 3) := y0
            clear hm
            go_wp2_with fail
            have hB0 := HB6.out
            go_ret
            refine ⟨ret_bool (by rw [HM.out]; all_goals rw [hkpos]), ?_⟩
            repeat (first | (with_reducible exact hB0) | (with_reducible refine Below.drew ?_) | (with_reducible refine Below.alloc ?_ ?zs _; case zs => first | omega | (simp <;> omega)) | (with_reducible refine Below.setCell ?_ ?zs _; case zs => first | omega | (simp <;> omega)))
          · have HM := Lib.hid (show mayF (s, t, l) = (kindS l != 0) by rw [hm]; rfl)
            replace y0 : W6.cell? ⟨w2.heap.size, 0, none⟩ = some (.int .i64 4) := y0
            clear hm
            go_wp2_with fail
            have hB0 := HB6.out
            go_ret
            refine ⟨ret_bool (by rw [HM.out]; all_goals rw [hkpos]), ?_⟩
            repeat (first | (with_reducible exact hB0) | (with_reducible refine Below.drew ?_) | (with_reducible refine Below.alloc ?_ ?zs _; case zs => first | omega | (simp <;> omega)) | (with_reducible refine Below.setCell ?_ ?zs _; case zs => first | omega | (simp <;> omega)))
    · rw [htb] at hm
      simp only [Bool.not_true, Bool.false_and, Bool.not_false, Bool.true_and] at hm
      go_enter Tryz.func35, Tryz.ntmps35
      go_wp2_with fail
      first | (refine wp_named ?_; intro W1 hW) | (refine calls_named ?_; intro W1 hW) | (refine exit_named ?_; intro W1 hW)
      have B1 : Below w.heap.size w W1 := by rw [hW]; exact (by repeat (first | exact Below.refl _ _ | assumption | refine Below.alloc ?_ (by first | omega | (simp <;> omega)) _ | refine Below.setCell ?_ (by first | omega | (simp <;> omega)) _ | refine Below.drew ?_))
      have n0 : w.heap.size < W1.heap.size := by rw [hW]; simp <;> omega
      have c0 : W1.cell? ⟨w.heap.size, 0, none⟩ = some (sv s) := by rw [hW]; go_simp
      have c1 : W1.cell? ⟨w.heap.size, 1, none⟩ = some (sv t) := by rw [hW]; go_simp
      have c2 : W1.cell? ⟨w.heap.size, 2, none⟩ = some (sv l) := by rw [hW]; go_simp
      clear hW
      have HB1 := Lib.hid B1
      clear B1
      refine (HP.out W1).mono ?_
      rintro e w2 ⟨rfl, hb⟩
      have HB2 := Lib.hid (lift HB1.out hb)
      replace c0 := cellAt c0 hb (by omega)
      replace c1 := cellAt c1 hb (by omega)
      replace c2 := cellAt c2 hb (by omega)
      replace n0 : w.heap.size < w2.heap.size := ltAt n0 hb
      clear hb HP
      go_wp2_with fail
      first | (refine wp_named ?_; intro W3 hW) | (refine calls_named ?_; intro W3 hW) | (refine exit_named ?_; intro W3 hW)
      have B3 : Below w2.heap.size w2 W3 := by rw [hW]; exact (by repeat (first | exact Below.refl _ _ | assumption | refine Below.alloc ?_ (by first | omega | (simp <;> omega)) _ | refine Below.setCell ?_ (by first | omega | (simp <;> omega)) _ | refine Below.drew ?_))
      replace c0 := cellAt c0 B3 (by omega)
      replace c1 := cellAt c1 B3 (by omega)
      replace c2 := cellAt c2 B3 (by omega)
      replace n0 : w.heap.size < W3.heap.size := ltAt n0 B3
      have n2 : w2.heap.size < W3.heap.size := by rw [hW]; simp <;> omega
      have y0 : W3.cell? ⟨w2.heap.size, 0, none⟩ = some (.int .i64 k) := by rw [hW]; go_simp
      have y2 : W3.cell? ⟨w2.heap.size, 2, none⟩ = some (sv u) := by rw [hW]; go_simp
      clear hW
      have HB3 := Lib.hid (lift HB2.out B3)
      clear B3
      have HOu := Lib.hid (fun W => Of_any u W (by omega))
      have HOl := Lib.hid (fun W => Of_any l W hl)
      have hku := ofS_kind u
      have hkl := ofS_kind l
      generalize ofS u = ru at *
      generalize ofS l = rl at *
      go_cut [4, 5] (fun v u' wx => ∃ b4 b5 : Nat, v = .pointer (some ⟨b4, 0, none⟩) ∧ u' = .pointer (some ⟨b5, 0, none⟩) ∧ Hid (wx.cell? ⟨b4, 0, none⟩ = some (.int .i64 (kindS u))) ∧ Hid (wx.cell? ⟨b5, 0, none⟩ = some (.int .i64 (kindS l))) ∧ Hid (Below W3.heap.size W3 wx))
      case first =>
        try go_wp2_with fail
        refine wp_region_held_drew (S := fun w' => Below W3.heap.size W3 w') (by kernel_rfl) (Below.drew (Below.refl _ _)) (fun hHeld => ?_)
        generalize W3.drew = v0 at hHeld ⊢
        refine tY (i := 0) (v := ?_) rfl ?_ hHeld ?_; rotate_left 1; focus (intro w' hSw; clear hSw; go_simp; try with_reducible rfl)
        (try simp only [Act.put, zn1, zn2, zn3])
        refine tY (i := 1) (v := ?_) rfl ?_ hHeld ?_; rotate_left 1; focus (intro w' hSw; have hCell := fun (b o : Nat) (h : b < W3.heap.size) => hSw.cell (p := ⟨b, o, none⟩) h; clear hSw; go_simp; try with_reducible rfl)
        (try simp only [Act.put, zn1, zn2, zn3])
        refine tY (i := 3) (v := ?_) rfl ?_ hHeld ?_; rotate_left 1; focus (intro w' hSw; clear hSw; go_simp; try with_reducible rfl)
        (try simp only [Act.put, zn1, zn2, zn3])
        refine tY (i := 4) (v := ?_) rfl ?_ hHeld ?_; rotate_left 1; focus (intro w' hSw; have hCell := fun (b o : Nat) (h : b < W3.heap.size) => hSw.cell (p := ⟨b, o, none⟩) h; clear hSw; go_simp; try with_reducible rfl)
        (try simp only [Act.put, zn1, zn2, zn3])
        refine ready_threeD (i := 2) (j := 6) (k := 7) rfl rfl rfl (by kernel_rfl) (fun K hK => ?_) (fun K hK => ?_) (fun K hK => ?_) 
        · skip
          go_simp
          refine (HOu.out _).mono ?_
          rintro e y2 ⟨rfl, hb⟩
          try replace HZ4 := Lib.hid (HZ4.out.on hb)
          try replace HZ5 := Lib.hid (HZ5.out.on hb)
          refine hK.out _ _ ?_ (fun hHeld2 => ?_)
          · (try dsimp only); exact Below.trans hHeld (Below.mono hb hHeld.size)
          clear hK K hHeld hb; have hHeld := hHeld2; clear hHeld2; (try simp only [Act.put, zn1, zn2, zn3])
          refine ready_threeD (i := 5) (j := 6) (k := 7) rfl rfl rfl (by kernel_rfl) (fun K hK => ?_) (fun K hK => ?_) (fun K hK => ?_) 
          · skip
            go_simp
            refine (HOl.out _).mono ?_
            rintro e y5 ⟨rfl, hb⟩
            try replace HZ4 := Lib.hid (HZ4.out.on hb)
            try replace HZ5 := Lib.hid (HZ5.out.on hb)
            refine hK.out _ _ ?_ (fun hHeld2 => ?_)
            · (try dsimp only); exact Below.trans hHeld (Below.mono hb hHeld.size)
            clear hK K hHeld hb; have hHeld := hHeld2; clear hHeld2; (try simp only [Act.put, zn1, zn2, zn3])
            refine ready_twoD (i := 6) (j := 7) rfl rfl (by kernel_rfl) (fun K hK => ?_) (fun K hK => ?_) 
            · skip
              go_simp
              refine hK.out _ _ ?_ (fun hHeld2 => ?_)
              · (try dsimp only); first | (with_reducible exact hHeld) | (repeat (first | (with_reducible exact hHeld) | (with_reducible refine Below.alloc ?_ ?zs _; case zs => first | omega | exact hHeld.size | (simp <;> omega)) | (with_reducible refine Below.setCell ?_ ?zs _; case zs => first | omega | (simp <;> omega))))
              have hge4 : W3.heap.size ≤ y5.heap.size := hHeld.size
              try (have hlt5 := HZ5.out.lt)
              try replace HZ5 := Lib.hid (HZ5.out.on (below_new _ (.cells #[.int .i64 0, .string ⟨#[]⟩, .string ⟨#[]⟩, .bool false] 57)))
              have HZ4 := Lib.hid (CutZ.new y5)
              generalize y5.alloc (.cells #[.int .i64 0, .string ⟨#[]⟩, .string ⟨#[]⟩, .bool false] 57) = z6 at *
              generalize y5.heap.size = b4 at *
              clear hK K hHeld; have hHeld := hHeld2; clear hHeld2; (try simp only [Act.put, zn1, zn2, zn3])
              refine ready_one (i := 7) rfl (by kernel_rfl) (fun K hK => ?_)
              go_simp
              refine hK.out _ _ ?_ (fun hHeld2 => ?_)
              · (try dsimp only); first | (with_reducible exact hHeld) | (repeat (first | (with_reducible exact hHeld) | (with_reducible refine Below.alloc ?_ ?zs _; case zs => first | omega | exact hHeld.size | (simp <;> omega)) | (with_reducible refine Below.setCell ?_ ?zs _; case zs => first | omega | (simp <;> omega))))
              have hge5 : W3.heap.size ≤ z6.heap.size := hHeld.size
              try (have hlt4 := HZ4.out.lt)
              try replace HZ4 := Lib.hid (HZ4.out.on (below_new _ (.cells #[.int .i64 0, .string ⟨#[]⟩, .string ⟨#[]⟩, .bool false] 57)))
              have HZ5 := Lib.hid (CutZ.new z6)
              generalize z6.alloc (.cells #[.int .i64 0, .string ⟨#[]⟩, .string ⟨#[]⟩, .bool false] 57) = z7 at *
              generalize z6.heap.size = b5 at *
              clear hK K hHeld; have hHeld := hHeld2; clear hHeld2; (try simp only [Act.put, zn1, zn2, zn3])
              have k0 := HZ4.out.c0
              have k1 := HZ4.out.c1
              have k2 := HZ4.out.c2
              have k3 := HZ4.out.c3
              have g0 := HZ4.out.f0
              have g1 := HZ4.out.f1
              have g2 := HZ4.out.f2
              have g3 := HZ4.out.f3
              have m0 := HZ5.out.c0
              have m1 := HZ5.out.c1
              have m2 := HZ5.out.c2
              have m3 := HZ5.out.c3
              have q0 := HZ5.out.f0
              have q1 := HZ5.out.f1
              have q2 := HZ5.out.f2
              have q3 := HZ5.out.f3
              have hn45 : ¬ b4 = b5 := by omega
              have hn54 : ¬ b5 = b4 := by omega
              refine ready_one (i := 8) rfl (by kernel_rfl) (fun K hK => ?_)
              go_simp
              refine hK.out _ _ ?_ (fun hHeld2 => ?_)
              · (try dsimp only); first | (with_reducible exact hHeld) | (repeat (first | (with_reducible exact hHeld) | (with_reducible refine Below.alloc ?_ ?zs _; case zs => first | omega | exact hHeld.size | (simp <;> omega)) | (with_reducible refine Below.setCell ?_ ?zs _; case zs => first | omega | (simp <;> omega))))
              clear hK K hHeld; have hHeld := hHeld2; clear hHeld2; (try simp only [Act.put, zn1, zn2, zn3])
              refine ready_one (i := 9) rfl (by kernel_rfl) (fun K hK => ?_)
              go_simp
              refine hK.out _ _ ?_ (fun hHeld2 => ?_)
              · (try dsimp only); first | (with_reducible exact hHeld) | (repeat (first | (with_reducible exact hHeld) | (with_reducible refine Below.alloc ?_ ?zs _; case zs => first | omega | exact hHeld.size | (simp <;> omega)) | (with_reducible refine Below.setCell ?_ ?zs _; case zs => first | omega | (simp <;> omega))))
              clear hK K hHeld; have hHeld := hHeld2; clear hHeld2; (try simp only [Act.put, zn1, zn2, zn3])
              refine wpAnyH_done (by kernel_rfl) ?_ _
              go_wp2_with fail
              go_meet
              refine ⟨b4, b5, rfl, rfl, ?_, ?_, hHeld⟩
              · rw [← hku]; show World.cell? _ _ = _; go_simp
              · rw [← hkl]; show World.cell? _ _ = _; go_simp
            · skip
              go_simp
              refine hK.out _ _ ?_ (fun hHeld2 => ?_)
              · (try dsimp only); first | (with_reducible exact hHeld) | (repeat (first | (with_reducible exact hHeld) | (with_reducible refine Below.alloc ?_ ?zs _; case zs => first | omega | exact hHeld.size | (simp <;> omega)) | (with_reducible refine Below.setCell ?_ ?zs _; case zs => first | omega | (simp <;> omega))))
              have hge5 : W3.heap.size ≤ y5.heap.size := hHeld.size
              try (have hlt4 := HZ4.out.lt)
              try replace HZ4 := Lib.hid (HZ4.out.on (below_new _ (.cells #[.int .i64 0, .string ⟨#[]⟩, .string ⟨#[]⟩, .bool false] 57)))
              have HZ5 := Lib.hid (CutZ.new y5)
              generalize y5.alloc (.cells #[.int .i64 0, .string ⟨#[]⟩, .string ⟨#[]⟩, .bool false] 57) = z7 at *
              generalize y5.heap.size = b5 at *
              clear hK K hHeld; have hHeld := hHeld2; clear hHeld2; (try simp only [Act.put, zn1, zn2, zn3])
              refine ready_one (i := 6) rfl (by kernel_rfl) (fun K hK => ?_)
              go_simp
              refine hK.out _ _ ?_ (fun hHeld2 => ?_)
              · (try dsimp only); first | (with_reducible exact hHeld) | (repeat (first | (with_reducible exact hHeld) | (with_reducible refine Below.alloc ?_ ?zs _; case zs => first | omega | exact hHeld.size | (simp <;> omega)) | (with_reducible refine Below.setCell ?_ ?zs _; case zs => first | omega | (simp <;> omega))))
              have hge4 : W3.heap.size ≤ z7.heap.size := hHeld.size
              try (have hlt5 := HZ5.out.lt)
              try replace HZ5 := Lib.hid (HZ5.out.on (below_new _ (.cells #[.int .i64 0, .string ⟨#[]⟩, .string ⟨#[]⟩, .bool false] 57)))
              have HZ4 := Lib.hid (CutZ.new z7)
              generalize z7.alloc (.cells #[.int .i64 0, .string ⟨#[]⟩, .string ⟨#[]⟩, .bool false] 57) = z6 at *
              generalize z7.heap.size = b4 at *
              clear hK K hHeld; have hHeld := hHeld2; clear hHeld2; (try simp only [Act.put, zn1, zn2, zn3])
              have k0 := HZ4.out.c0
              have k1 := HZ4.out.c1
              have k2 := HZ4.out.c2
              have k3 := HZ4.out.c3
              have g0 := HZ4.out.f0
              have g1 := HZ4.out.f1
              have g2 := HZ4.out.f2
              have g3 := HZ4.out.f3
              have m0 := HZ5.out.c0
              have m1 := HZ5.out.c1
              have m2 := HZ5.out.c2
              have m3 := HZ5.out.c3
              have q0 := HZ5.out.f0
              have q1 := HZ5.out.f1
              have q2 := HZ5.out.f2
              have q3 := HZ5.out.f3
              have hn45 : ¬ b4 = b5 := by omega
              have hn54 : ¬ b5 = b4 := by omega
              refine ready_one (i := 8) rfl (by kernel_rfl) (fun K hK => ?_)
              go_simp
              refine hK.out _ _ ?_ (fun hHeld2 => ?_)
              · (try dsimp only); first | (with_reducible exact hHeld) | (repeat (first | (with_reducible exact hHeld) | (with_reducible refine Below.alloc ?_ ?zs _; case zs => first | omega | exact hHeld.size | (simp <;> omega)) | (with_reducible refine Below.setCell ?_ ?zs _; case zs => first | omega | (simp <;> omega))))
              clear hK K hHeld; have hHeld := hHeld2; clear hHeld2; (try simp only [Act.put, zn1, zn2, zn3])
              refine ready_one (i := 9) rfl (by kernel_rfl) (fun K hK => ?_)
              go_simp
              refine hK.out _ _ ?_ (fun hHeld2 => ?_)
              · (try dsimp only); first | (with_reducible exact hHeld) | (repeat (first | (with_reducible exact hHeld) | (with_reducible refine Below.alloc ?_ ?zs _; case zs => first | omega | exact hHeld.size | (simp <;> omega)) | (with_reducible refine Below.setCell ?_ ?zs _; case zs => first | omega | (simp <;> omega))))
              clear hK K hHeld; have hHeld := hHeld2; clear hHeld2; (try simp only [Act.put, zn1, zn2, zn3])
              refine wpAnyH_done (by kernel_rfl) ?_ _
              go_wp2_with fail
              go_meet
              refine ⟨b4, b5, rfl, rfl, ?_, ?_, hHeld⟩
              · rw [← hku]; show World.cell? _ _ = _; go_simp
              · rw [← hkl]; show World.cell? _ _ = _; go_simp
          · skip
            go_simp
            refine hK.out _ _ ?_ (fun hHeld2 => ?_)
            · (try dsimp only); first | (with_reducible exact hHeld) | (repeat (first | (with_reducible exact hHeld) | (with_reducible refine Below.alloc ?_ ?zs _; case zs => first | omega | exact hHeld.size | (simp <;> omega)) | (with_reducible refine Below.setCell ?_ ?zs _; case zs => first | omega | (simp <;> omega))))
            have hge4 : W3.heap.size ≤ y2.heap.size := hHeld.size
            try (have hlt5 := HZ5.out.lt)
            try replace HZ5 := Lib.hid (HZ5.out.on (below_new _ (.cells #[.int .i64 0, .string ⟨#[]⟩, .string ⟨#[]⟩, .bool false] 57)))
            have HZ4 := Lib.hid (CutZ.new y2)
            generalize y2.alloc (.cells #[.int .i64 0, .string ⟨#[]⟩, .string ⟨#[]⟩, .bool false] 57) = z6 at *
            generalize y2.heap.size = b4 at *
            clear hK K hHeld; have hHeld := hHeld2; clear hHeld2; (try simp only [Act.put, zn1, zn2, zn3])
            refine ready_twoD (i := 5) (j := 7) rfl rfl (by kernel_rfl) (fun K hK => ?_) (fun K hK => ?_) 
            · skip
              go_simp
              refine (HOl.out _).mono ?_
              rintro e y5 ⟨rfl, hb⟩
              try replace HZ4 := Lib.hid (HZ4.out.on hb)
              try replace HZ5 := Lib.hid (HZ5.out.on hb)
              refine hK.out _ _ ?_ (fun hHeld2 => ?_)
              · (try dsimp only); exact Below.trans hHeld (Below.mono hb hHeld.size)
              clear hK K hHeld hb; have hHeld := hHeld2; clear hHeld2; (try simp only [Act.put, zn1, zn2, zn3])
              refine ready_one (i := 7) rfl (by kernel_rfl) (fun K hK => ?_)
              go_simp
              refine hK.out _ _ ?_ (fun hHeld2 => ?_)
              · (try dsimp only); first | (with_reducible exact hHeld) | (repeat (first | (with_reducible exact hHeld) | (with_reducible refine Below.alloc ?_ ?zs _; case zs => first | omega | exact hHeld.size | (simp <;> omega)) | (with_reducible refine Below.setCell ?_ ?zs _; case zs => first | omega | (simp <;> omega))))
              have hge5 : W3.heap.size ≤ y5.heap.size := hHeld.size
              try (have hlt4 := HZ4.out.lt)
              try replace HZ4 := Lib.hid (HZ4.out.on (below_new _ (.cells #[.int .i64 0, .string ⟨#[]⟩, .string ⟨#[]⟩, .bool false] 57)))
              have HZ5 := Lib.hid (CutZ.new y5)
              generalize y5.alloc (.cells #[.int .i64 0, .string ⟨#[]⟩, .string ⟨#[]⟩, .bool false] 57) = z7 at *
              generalize y5.heap.size = b5 at *
              clear hK K hHeld; have hHeld := hHeld2; clear hHeld2; (try simp only [Act.put, zn1, zn2, zn3])
              have k0 := HZ4.out.c0
              have k1 := HZ4.out.c1
              have k2 := HZ4.out.c2
              have k3 := HZ4.out.c3
              have g0 := HZ4.out.f0
              have g1 := HZ4.out.f1
              have g2 := HZ4.out.f2
              have g3 := HZ4.out.f3
              have m0 := HZ5.out.c0
              have m1 := HZ5.out.c1
              have m2 := HZ5.out.c2
              have m3 := HZ5.out.c3
              have q0 := HZ5.out.f0
              have q1 := HZ5.out.f1
              have q2 := HZ5.out.f2
              have q3 := HZ5.out.f3
              have hn45 : ¬ b4 = b5 := by omega
              have hn54 : ¬ b5 = b4 := by omega
              refine ready_one (i := 8) rfl (by kernel_rfl) (fun K hK => ?_)
              go_simp
              refine hK.out _ _ ?_ (fun hHeld2 => ?_)
              · (try dsimp only); first | (with_reducible exact hHeld) | (repeat (first | (with_reducible exact hHeld) | (with_reducible refine Below.alloc ?_ ?zs _; case zs => first | omega | exact hHeld.size | (simp <;> omega)) | (with_reducible refine Below.setCell ?_ ?zs _; case zs => first | omega | (simp <;> omega))))
              clear hK K hHeld; have hHeld := hHeld2; clear hHeld2; (try simp only [Act.put, zn1, zn2, zn3])
              refine ready_one (i := 9) rfl (by kernel_rfl) (fun K hK => ?_)
              go_simp
              refine hK.out _ _ ?_ (fun hHeld2 => ?_)
              · (try dsimp only); first | (with_reducible exact hHeld) | (repeat (first | (with_reducible exact hHeld) | (with_reducible refine Below.alloc ?_ ?zs _; case zs => first | omega | exact hHeld.size | (simp <;> omega)) | (with_reducible refine Below.setCell ?_ ?zs _; case zs => first | omega | (simp <;> omega))))
              clear hK K hHeld; have hHeld := hHeld2; clear hHeld2; (try simp only [Act.put, zn1, zn2, zn3])
              refine wpAnyH_done (by kernel_rfl) ?_ _
              go_wp2_with fail
              go_meet
              refine ⟨b4, b5, rfl, rfl, ?_, ?_, hHeld⟩
              · rw [← hku]; show World.cell? _ _ = _; go_simp
              · rw [← hkl]; show World.cell? _ _ = _; go_simp
            · skip
              go_simp
              refine hK.out _ _ ?_ (fun hHeld2 => ?_)
              · (try dsimp only); first | (with_reducible exact hHeld) | (repeat (first | (with_reducible exact hHeld) | (with_reducible refine Below.alloc ?_ ?zs _; case zs => first | omega | exact hHeld.size | (simp <;> omega)) | (with_reducible refine Below.setCell ?_ ?zs _; case zs => first | omega | (simp <;> omega))))
              have hge5 : W3.heap.size ≤ z6.heap.size := hHeld.size
              try (have hlt4 := HZ4.out.lt)
              try replace HZ4 := Lib.hid (HZ4.out.on (below_new _ (.cells #[.int .i64 0, .string ⟨#[]⟩, .string ⟨#[]⟩, .bool false] 57)))
              have HZ5 := Lib.hid (CutZ.new z6)
              generalize z6.alloc (.cells #[.int .i64 0, .string ⟨#[]⟩, .string ⟨#[]⟩, .bool false] 57) = z7 at *
              generalize z6.heap.size = b5 at *
              clear hK K hHeld; have hHeld := hHeld2; clear hHeld2; (try simp only [Act.put, zn1, zn2, zn3])
              refine ready_one (i := 5) rfl (by kernel_rfl) (fun K hK => ?_)
              go_simp
              refine (HOl.out _).mono ?_
              rintro e y5 ⟨rfl, hb⟩
              try replace HZ4 := Lib.hid (HZ4.out.on hb)
              try replace HZ5 := Lib.hid (HZ5.out.on hb)
              refine hK.out _ _ ?_ (fun hHeld2 => ?_)
              · (try dsimp only); exact Below.trans hHeld (Below.mono hb hHeld.size)
              clear hK K hHeld hb; have hHeld := hHeld2; clear hHeld2; (try simp only [Act.put, zn1, zn2, zn3])
              have k0 := HZ4.out.c0
              have k1 := HZ4.out.c1
              have k2 := HZ4.out.c2
              have k3 := HZ4.out.c3
              have g0 := HZ4.out.f0
              have g1 := HZ4.out.f1
              have g2 := HZ4.out.f2
              have g3 := HZ4.out.f3
              have m0 := HZ5.out.c0
              have m1 := HZ5.out.c1
              have m2 := HZ5.out.c2
              have m3 := HZ5.out.c3
              have q0 := HZ5.out.f0
              have q1 := HZ5.out.f1
              have q2 := HZ5.out.f2
              have q3 := HZ5.out.f3
              have hn45 : ¬ b4 = b5 := by omega
              have hn54 : ¬ b5 = b4 := by omega
              refine ready_one (i := 8) rfl (by kernel_rfl) (fun K hK => ?_)
              go_simp
              refine hK.out _ _ ?_ (fun hHeld2 => ?_)
              · (try dsimp only); first | (with_reducible exact hHeld) | (repeat (first | (with_reducible exact hHeld) | (with_reducible refine Below.alloc ?_ ?zs _; case zs => first | omega | exact hHeld.size | (simp <;> omega)) | (with_reducible refine Below.setCell ?_ ?zs _; case zs => first | omega | (simp <;> omega))))
              clear hK K hHeld; have hHeld := hHeld2; clear hHeld2; (try simp only [Act.put, zn1, zn2, zn3])
              refine ready_one (i := 9) rfl (by kernel_rfl) (fun K hK => ?_)
              go_simp
              refine hK.out _ _ ?_ (fun hHeld2 => ?_)
              · (try dsimp only); first | (with_reducible exact hHeld) | (repeat (first | (with_reducible exact hHeld) | (with_reducible refine Below.alloc ?_ ?zs _; case zs => first | omega | exact hHeld.size | (simp <;> omega)) | (with_reducible refine Below.setCell ?_ ?zs _; case zs => first | omega | (simp <;> omega))))
              clear hK K hHeld; have hHeld := hHeld2; clear hHeld2; (try simp only [Act.put, zn1, zn2, zn3])
              refine wpAnyH_done (by kernel_rfl) ?_ _
              go_wp2_with fail
              go_meet
              refine ⟨b4, b5, rfl, rfl, ?_, ?_, hHeld⟩
              · rw [← hku]; show World.cell? _ _ = _; go_simp
              · rw [← hkl]; show World.cell? _ _ = _; go_simp
          · skip
            go_simp
            refine hK.out _ _ ?_ (fun hHeld2 => ?_)
            · (try dsimp only); first | (with_reducible exact hHeld) | (repeat (first | (with_reducible exact hHeld) | (with_reducible refine Below.alloc ?_ ?zs _; case zs => first | omega | exact hHeld.size | (simp <;> omega)) | (with_reducible refine Below.setCell ?_ ?zs _; case zs => first | omega | (simp <;> omega))))
            have hge5 : W3.heap.size ≤ y2.heap.size := hHeld.size
            try (have hlt4 := HZ4.out.lt)
            try replace HZ4 := Lib.hid (HZ4.out.on (below_new _ (.cells #[.int .i64 0, .string ⟨#[]⟩, .string ⟨#[]⟩, .bool false] 57)))
            have HZ5 := Lib.hid (CutZ.new y2)
            generalize y2.alloc (.cells #[.int .i64 0, .string ⟨#[]⟩, .string ⟨#[]⟩, .bool false] 57) = z7 at *
            generalize y2.heap.size = b5 at *
            clear hK K hHeld; have hHeld := hHeld2; clear hHeld2; (try simp only [Act.put, zn1, zn2, zn3])
            refine ready_twoD (i := 5) (j := 6) rfl rfl (by kernel_rfl) (fun K hK => ?_) (fun K hK => ?_) 
            · skip
              go_simp
              refine (HOl.out _).mono ?_
              rintro e y5 ⟨rfl, hb⟩
              try replace HZ4 := Lib.hid (HZ4.out.on hb)
              try replace HZ5 := Lib.hid (HZ5.out.on hb)
              refine hK.out _ _ ?_ (fun hHeld2 => ?_)
              · (try dsimp only); exact Below.trans hHeld (Below.mono hb hHeld.size)
              clear hK K hHeld hb; have hHeld := hHeld2; clear hHeld2; (try simp only [Act.put, zn1, zn2, zn3])
              refine ready_one (i := 6) rfl (by kernel_rfl) (fun K hK => ?_)
              go_simp
              refine hK.out _ _ ?_ (fun hHeld2 => ?_)
              · (try dsimp only); first | (with_reducible exact hHeld) | (repeat (first | (with_reducible exact hHeld) | (with_reducible refine Below.alloc ?_ ?zs _; case zs => first | omega | exact hHeld.size | (simp <;> omega)) | (with_reducible refine Below.setCell ?_ ?zs _; case zs => first | omega | (simp <;> omega))))
              have hge4 : W3.heap.size ≤ y5.heap.size := hHeld.size
              try (have hlt5 := HZ5.out.lt)
              try replace HZ5 := Lib.hid (HZ5.out.on (below_new _ (.cells #[.int .i64 0, .string ⟨#[]⟩, .string ⟨#[]⟩, .bool false] 57)))
              have HZ4 := Lib.hid (CutZ.new y5)
              generalize y5.alloc (.cells #[.int .i64 0, .string ⟨#[]⟩, .string ⟨#[]⟩, .bool false] 57) = z6 at *
              generalize y5.heap.size = b4 at *
              clear hK K hHeld; have hHeld := hHeld2; clear hHeld2; (try simp only [Act.put, zn1, zn2, zn3])
              have k0 := HZ4.out.c0
              have k1 := HZ4.out.c1
              have k2 := HZ4.out.c2
              have k3 := HZ4.out.c3
              have g0 := HZ4.out.f0
              have g1 := HZ4.out.f1
              have g2 := HZ4.out.f2
              have g3 := HZ4.out.f3
              have m0 := HZ5.out.c0
              have m1 := HZ5.out.c1
              have m2 := HZ5.out.c2
              have m3 := HZ5.out.c3
              have q0 := HZ5.out.f0
              have q1 := HZ5.out.f1
              have q2 := HZ5.out.f2
              have q3 := HZ5.out.f3
              have hn45 : ¬ b4 = b5 := by omega
              have hn54 : ¬ b5 = b4 := by omega
              refine ready_one (i := 8) rfl (by kernel_rfl) (fun K hK => ?_)
              go_simp
              refine hK.out _ _ ?_ (fun hHeld2 => ?_)
              · (try dsimp only); first | (with_reducible exact hHeld) | (repeat (first | (with_reducible exact hHeld) | (with_reducible refine Below.alloc ?_ ?zs _; case zs => first | omega | exact hHeld.size | (simp <;> omega)) | (with_reducible refine Below.setCell ?_ ?zs _; case zs => first | omega | (simp <;> omega))))
              clear hK K hHeld; have hHeld := hHeld2; clear hHeld2; (try simp only [Act.put, zn1, zn2, zn3])
              refine ready_one (i := 9) rfl (by kernel_rfl) (fun K hK => ?_)
              go_simp
              refine hK.out _ _ ?_ (fun hHeld2 => ?_)
              · (try dsimp only); first | (with_reducible exact hHeld) | (repeat (first | (with_reducible exact hHeld) | (with_reducible refine Below.alloc ?_ ?zs _; case zs => first | omega | exact hHeld.size | (simp <;> omega)) | (with_reducible refine Below.setCell ?_ ?zs _; case zs => first | omega | (simp <;> omega))))
              clear hK K hHeld; have hHeld := hHeld2; clear hHeld2; (try simp only [Act.put, zn1, zn2, zn3])
              refine wpAnyH_done (by kernel_rfl) ?_ _
              go_wp2_with fail
              go_meet
              refine ⟨b4, b5, rfl, rfl, ?_, ?_, hHeld⟩
              · rw [← hku]; show World.cell? _ _ = _; go_simp
              · rw [← hkl]; show World.cell? _ _ = _; go_simp
            · skip
              go_simp
              refine hK.out _ _ ?_ (fun hHeld2 => ?_)
              · (try dsimp only); first | (with_reducible exact hHeld) | (repeat (first | (with_reducible exact hHeld) | (with_reducible refine Below.alloc ?_ ?zs _; case zs => first | omega | exact hHeld.size | (simp <;> omega)) | (with_reducible refine Below.setCell ?_ ?zs _; case zs => first | omega | (simp <;> omega))))
              have hge4 : W3.heap.size ≤ z7.heap.size := hHeld.size
              try (have hlt5 := HZ5.out.lt)
              try replace HZ5 := Lib.hid (HZ5.out.on (below_new _ (.cells #[.int .i64 0, .string ⟨#[]⟩, .string ⟨#[]⟩, .bool false] 57)))
              have HZ4 := Lib.hid (CutZ.new z7)
              generalize z7.alloc (.cells #[.int .i64 0, .string ⟨#[]⟩, .string ⟨#[]⟩, .bool false] 57) = z6 at *
              generalize z7.heap.size = b4 at *
              clear hK K hHeld; have hHeld := hHeld2; clear hHeld2; (try simp only [Act.put, zn1, zn2, zn3])
              refine ready_one (i := 5) rfl (by kernel_rfl) (fun K hK => ?_)
              go_simp
              refine (HOl.out _).mono ?_
              rintro e y5 ⟨rfl, hb⟩
              try replace HZ4 := Lib.hid (HZ4.out.on hb)
              try replace HZ5 := Lib.hid (HZ5.out.on hb)
              refine hK.out _ _ ?_ (fun hHeld2 => ?_)
              · (try dsimp only); exact Below.trans hHeld (Below.mono hb hHeld.size)
              clear hK K hHeld hb; have hHeld := hHeld2; clear hHeld2; (try simp only [Act.put, zn1, zn2, zn3])
              have k0 := HZ4.out.c0
              have k1 := HZ4.out.c1
              have k2 := HZ4.out.c2
              have k3 := HZ4.out.c3
              have g0 := HZ4.out.f0
              have g1 := HZ4.out.f1
              have g2 := HZ4.out.f2
              have g3 := HZ4.out.f3
              have m0 := HZ5.out.c0
              have m1 := HZ5.out.c1
              have m2 := HZ5.out.c2
              have m3 := HZ5.out.c3
              have q0 := HZ5.out.f0
              have q1 := HZ5.out.f1
              have q2 := HZ5.out.f2
              have q3 := HZ5.out.f3
              have hn45 : ¬ b4 = b5 := by omega
              have hn54 : ¬ b5 = b4 := by omega
              refine ready_one (i := 8) rfl (by kernel_rfl) (fun K hK => ?_)
              go_simp
              refine hK.out _ _ ?_ (fun hHeld2 => ?_)
              · (try dsimp only); first | (with_reducible exact hHeld) | (repeat (first | (with_reducible exact hHeld) | (with_reducible refine Below.alloc ?_ ?zs _; case zs => first | omega | exact hHeld.size | (simp <;> omega)) | (with_reducible refine Below.setCell ?_ ?zs _; case zs => first | omega | (simp <;> omega))))
              clear hK K hHeld; have hHeld := hHeld2; clear hHeld2; (try simp only [Act.put, zn1, zn2, zn3])
              refine ready_one (i := 9) rfl (by kernel_rfl) (fun K hK => ?_)
              go_simp
              refine hK.out _ _ ?_ (fun hHeld2 => ?_)
              · (try dsimp only); first | (with_reducible exact hHeld) | (repeat (first | (with_reducible exact hHeld) | (with_reducible refine Below.alloc ?_ ?zs _; case zs => first | omega | exact hHeld.size | (simp <;> omega)) | (with_reducible refine Below.setCell ?_ ?zs _; case zs => first | omega | (simp <;> omega))))
              clear hK K hHeld; have hHeld := hHeld2; clear hHeld2; (try simp only [Act.put, zn1, zn2, zn3])
              refine wpAnyH_done (by kernel_rfl) ?_ _
              go_wp2_with fail
              go_meet
              refine ⟨b4, b5, rfl, rfl, ?_, ?_, hHeld⟩
              · rw [← hku]; show World.cell? _ _ = _; go_simp
              · rw [← hkl]; show World.cell? _ _ = _; go_simp
        · skip
          go_simp
          refine hK.out _ _ ?_ (fun hHeld2 => ?_)
          · (try dsimp only); first | (with_reducible exact hHeld) | (repeat (first | (with_reducible exact hHeld) | (with_reducible refine Below.alloc ?_ ?zs _; case zs => first | omega | exact hHeld.size | (simp <;> omega)) | (with_reducible refine Below.setCell ?_ ?zs _; case zs => first | omega | (simp <;> omega))))
          have hge4 : W3.heap.size ≤ v0.heap.size := hHeld.size
          try (have hlt5 := HZ5.out.lt)
          try replace HZ5 := Lib.hid (HZ5.out.on (below_new _ (.cells #[.int .i64 0, .string ⟨#[]⟩, .string ⟨#[]⟩, .bool false] 57)))
          have HZ4 := Lib.hid (CutZ.new v0)
          generalize v0.alloc (.cells #[.int .i64 0, .string ⟨#[]⟩, .string ⟨#[]⟩, .bool false] 57) = z6 at *
          generalize v0.heap.size = b4 at *
          clear hK K hHeld; have hHeld := hHeld2; clear hHeld2; (try simp only [Act.put, zn1, zn2, zn3])
          refine ready_twoD (i := 2) (j := 7) rfl rfl (by kernel_rfl) (fun K hK => ?_) (fun K hK => ?_) 
          · skip
            go_simp
            refine (HOu.out _).mono ?_
            rintro e y2 ⟨rfl, hb⟩
            try replace HZ4 := Lib.hid (HZ4.out.on hb)
            try replace HZ5 := Lib.hid (HZ5.out.on hb)
            refine hK.out _ _ ?_ (fun hHeld2 => ?_)
            · (try dsimp only); exact Below.trans hHeld (Below.mono hb hHeld.size)
            clear hK K hHeld hb; have hHeld := hHeld2; clear hHeld2; (try simp only [Act.put, zn1, zn2, zn3])
            refine ready_twoD (i := 5) (j := 7) rfl rfl (by kernel_rfl) (fun K hK => ?_) (fun K hK => ?_) 
            · skip
              go_simp
              refine (HOl.out _).mono ?_
              rintro e y5 ⟨rfl, hb⟩
              try replace HZ4 := Lib.hid (HZ4.out.on hb)
              try replace HZ5 := Lib.hid (HZ5.out.on hb)
              refine hK.out _ _ ?_ (fun hHeld2 => ?_)
              · (try dsimp only); exact Below.trans hHeld (Below.mono hb hHeld.size)
              clear hK K hHeld hb; have hHeld := hHeld2; clear hHeld2; (try simp only [Act.put, zn1, zn2, zn3])
              refine ready_one (i := 7) rfl (by kernel_rfl) (fun K hK => ?_)
              go_simp
              refine hK.out _ _ ?_ (fun hHeld2 => ?_)
              · (try dsimp only); first | (with_reducible exact hHeld) | (repeat (first | (with_reducible exact hHeld) | (with_reducible refine Below.alloc ?_ ?zs _; case zs => first | omega | exact hHeld.size | (simp <;> omega)) | (with_reducible refine Below.setCell ?_ ?zs _; case zs => first | omega | (simp <;> omega))))
              have hge5 : W3.heap.size ≤ y5.heap.size := hHeld.size
              try (have hlt4 := HZ4.out.lt)
              try replace HZ4 := Lib.hid (HZ4.out.on (below_new _ (.cells #[.int .i64 0, .string ⟨#[]⟩, .string ⟨#[]⟩, .bool false] 57)))
              have HZ5 := Lib.hid (CutZ.new y5)
              generalize y5.alloc (.cells #[.int .i64 0, .string ⟨#[]⟩, .string ⟨#[]⟩, .bool false] 57) = z7 at *
              generalize y5.heap.size = b5 at *
              clear hK K hHeld; have hHeld := hHeld2; clear hHeld2; (try simp only [Act.put, zn1, zn2, zn3])
              have k0 := HZ4.out.c0
              have k1 := HZ4.out.c1
              have k2 := HZ4.out.c2
              have k3 := HZ4.out.c3
              have g0 := HZ4.out.f0
              have g1 := HZ4.out.f1
              have g2 := HZ4.out.f2
              have g3 := HZ4.out.f3
              have m0 := HZ5.out.c0
              have m1 := HZ5.out.c1
              have m2 := HZ5.out.c2
              have m3 := HZ5.out.c3
              have q0 := HZ5.out.f0
              have q1 := HZ5.out.f1
              have q2 := HZ5.out.f2
              have q3 := HZ5.out.f3
              have hn45 : ¬ b4 = b5 := by omega
              have hn54 : ¬ b5 = b4 := by omega
              refine ready_one (i := 8) rfl (by kernel_rfl) (fun K hK => ?_)
              go_simp
              refine hK.out _ _ ?_ (fun hHeld2 => ?_)
              · (try dsimp only); first | (with_reducible exact hHeld) | (repeat (first | (with_reducible exact hHeld) | (with_reducible refine Below.alloc ?_ ?zs _; case zs => first | omega | exact hHeld.size | (simp <;> omega)) | (with_reducible refine Below.setCell ?_ ?zs _; case zs => first | omega | (simp <;> omega))))
              clear hK K hHeld; have hHeld := hHeld2; clear hHeld2; (try simp only [Act.put, zn1, zn2, zn3])
              refine ready_one (i := 9) rfl (by kernel_rfl) (fun K hK => ?_)
              go_simp
              refine hK.out _ _ ?_ (fun hHeld2 => ?_)
              · (try dsimp only); first | (with_reducible exact hHeld) | (repeat (first | (with_reducible exact hHeld) | (with_reducible refine Below.alloc ?_ ?zs _; case zs => first | omega | exact hHeld.size | (simp <;> omega)) | (with_reducible refine Below.setCell ?_ ?zs _; case zs => first | omega | (simp <;> omega))))
              clear hK K hHeld; have hHeld := hHeld2; clear hHeld2; (try simp only [Act.put, zn1, zn2, zn3])
              refine wpAnyH_done (by kernel_rfl) ?_ _
              go_wp2_with fail
              go_meet
              refine ⟨b4, b5, rfl, rfl, ?_, ?_, hHeld⟩
              · rw [← hku]; show World.cell? _ _ = _; go_simp
              · rw [← hkl]; show World.cell? _ _ = _; go_simp
            · skip
              go_simp
              refine hK.out _ _ ?_ (fun hHeld2 => ?_)
              · (try dsimp only); first | (with_reducible exact hHeld) | (repeat (first | (with_reducible exact hHeld) | (with_reducible refine Below.alloc ?_ ?zs _; case zs => first | omega | exact hHeld.size | (simp <;> omega)) | (with_reducible refine Below.setCell ?_ ?zs _; case zs => first | omega | (simp <;> omega))))
              have hge5 : W3.heap.size ≤ y2.heap.size := hHeld.size
              try (have hlt4 := HZ4.out.lt)
              try replace HZ4 := Lib.hid (HZ4.out.on (below_new _ (.cells #[.int .i64 0, .string ⟨#[]⟩, .string ⟨#[]⟩, .bool false] 57)))
              have HZ5 := Lib.hid (CutZ.new y2)
              generalize y2.alloc (.cells #[.int .i64 0, .string ⟨#[]⟩, .string ⟨#[]⟩, .bool false] 57) = z7 at *
              generalize y2.heap.size = b5 at *
              clear hK K hHeld; have hHeld := hHeld2; clear hHeld2; (try simp only [Act.put, zn1, zn2, zn3])
              refine ready_one (i := 5) rfl (by kernel_rfl) (fun K hK => ?_)
              go_simp
              refine (HOl.out _).mono ?_
              rintro e y5 ⟨rfl, hb⟩
              try replace HZ4 := Lib.hid (HZ4.out.on hb)
              try replace HZ5 := Lib.hid (HZ5.out.on hb)
              refine hK.out _ _ ?_ (fun hHeld2 => ?_)
              · (try dsimp only); exact Below.trans hHeld (Below.mono hb hHeld.size)
              clear hK K hHeld hb; have hHeld := hHeld2; clear hHeld2; (try simp only [Act.put, zn1, zn2, zn3])
              have k0 := HZ4.out.c0
              have k1 := HZ4.out.c1
              have k2 := HZ4.out.c2
              have k3 := HZ4.out.c3
              have g0 := HZ4.out.f0
              have g1 := HZ4.out.f1
              have g2 := HZ4.out.f2
              have g3 := HZ4.out.f3
              have m0 := HZ5.out.c0
              have m1 := HZ5.out.c1
              have m2 := HZ5.out.c2
              have m3 := HZ5.out.c3
              have q0 := HZ5.out.f0
              have q1 := HZ5.out.f1
              have q2 := HZ5.out.f2
              have q3 := HZ5.out.f3
              have hn45 : ¬ b4 = b5 := by omega
              have hn54 : ¬ b5 = b4 := by omega
              refine ready_one (i := 8) rfl (by kernel_rfl) (fun K hK => ?_)
              go_simp
              refine hK.out _ _ ?_ (fun hHeld2 => ?_)
              · (try dsimp only); first | (with_reducible exact hHeld) | (repeat (first | (with_reducible exact hHeld) | (with_reducible refine Below.alloc ?_ ?zs _; case zs => first | omega | exact hHeld.size | (simp <;> omega)) | (with_reducible refine Below.setCell ?_ ?zs _; case zs => first | omega | (simp <;> omega))))
              clear hK K hHeld; have hHeld := hHeld2; clear hHeld2; (try simp only [Act.put, zn1, zn2, zn3])
              refine ready_one (i := 9) rfl (by kernel_rfl) (fun K hK => ?_)
              go_simp
              refine hK.out _ _ ?_ (fun hHeld2 => ?_)
              · (try dsimp only); first | (with_reducible exact hHeld) | (repeat (first | (with_reducible exact hHeld) | (with_reducible refine Below.alloc ?_ ?zs _; case zs => first | omega | exact hHeld.size | (simp <;> omega)) | (with_reducible refine Below.setCell ?_ ?zs _; case zs => first | omega | (simp <;> omega))))
              clear hK K hHeld; have hHeld := hHeld2; clear hHeld2; (try simp only [Act.put, zn1, zn2, zn3])
              refine wpAnyH_done (by kernel_rfl) ?_ _
              go_wp2_with fail
              go_meet
              refine ⟨b4, b5, rfl, rfl, ?_, ?_, hHeld⟩
              · rw [← hku]; show World.cell? _ _ = _; go_simp
              · rw [← hkl]; show World.cell? _ _ = _; go_simp
          · skip
            go_simp
            refine hK.out _ _ ?_ (fun hHeld2 => ?_)
            · (try dsimp only); first | (with_reducible exact hHeld) | (repeat (first | (with_reducible exact hHeld) | (with_reducible refine Below.alloc ?_ ?zs _; case zs => first | omega | exact hHeld.size | (simp <;> omega)) | (with_reducible refine Below.setCell ?_ ?zs _; case zs => first | omega | (simp <;> omega))))
            have hge5 : W3.heap.size ≤ z6.heap.size := hHeld.size
            try (have hlt4 := HZ4.out.lt)
            try replace HZ4 := Lib.hid (HZ4.out.on (below_new _ (.cells #[.int .i64 0, .string ⟨#[]⟩, .string ⟨#[]⟩, .bool false] 57)))
            have HZ5 := Lib.hid (CutZ.new z6)
            generalize z6.alloc (.cells #[.int .i64 0, .string ⟨#[]⟩, .string ⟨#[]⟩, .bool false] 57) = z7 at *
            generalize z6.heap.size = b5 at *
            clear hK K hHeld; have hHeld := hHeld2; clear hHeld2; (try simp only [Act.put, zn1, zn2, zn3])
            refine ready_one (i := 2) rfl (by kernel_rfl) (fun K hK => ?_)
            go_simp
            refine (HOu.out _).mono ?_
            rintro e y2 ⟨rfl, hb⟩
            try replace HZ4 := Lib.hid (HZ4.out.on hb)
            try replace HZ5 := Lib.hid (HZ5.out.on hb)
            refine hK.out _ _ ?_ (fun hHeld2 => ?_)
            · (try dsimp only); exact Below.trans hHeld (Below.mono hb hHeld.size)
            clear hK K hHeld hb; have hHeld := hHeld2; clear hHeld2; (try simp only [Act.put, zn1, zn2, zn3])
            refine ready_one (i := 5) rfl (by kernel_rfl) (fun K hK => ?_)
            go_simp
            refine (HOl.out _).mono ?_
            rintro e y5 ⟨rfl, hb⟩
            try replace HZ4 := Lib.hid (HZ4.out.on hb)
            try replace HZ5 := Lib.hid (HZ5.out.on hb)
            refine hK.out _ _ ?_ (fun hHeld2 => ?_)
            · (try dsimp only); exact Below.trans hHeld (Below.mono hb hHeld.size)
            clear hK K hHeld hb; have hHeld := hHeld2; clear hHeld2; (try simp only [Act.put, zn1, zn2, zn3])
            have k0 := HZ4.out.c0
            have k1 := HZ4.out.c1
            have k2 := HZ4.out.c2
            have k3 := HZ4.out.c3
            have g0 := HZ4.out.f0
            have g1 := HZ4.out.f1
            have g2 := HZ4.out.f2
            have g3 := HZ4.out.f3
            have m0 := HZ5.out.c0
            have m1 := HZ5.out.c1
            have m2 := HZ5.out.c2
            have m3 := HZ5.out.c3
            have q0 := HZ5.out.f0
            have q1 := HZ5.out.f1
            have q2 := HZ5.out.f2
            have q3 := HZ5.out.f3
            have hn45 : ¬ b4 = b5 := by omega
            have hn54 : ¬ b5 = b4 := by omega
            refine ready_one (i := 8) rfl (by kernel_rfl) (fun K hK => ?_)
            go_simp
            refine hK.out _ _ ?_ (fun hHeld2 => ?_)
            · (try dsimp only); first | (with_reducible exact hHeld) | (repeat (first | (with_reducible exact hHeld) | (with_reducible refine Below.alloc ?_ ?zs _; case zs => first | omega | exact hHeld.size | (simp <;> omega)) | (with_reducible refine Below.setCell ?_ ?zs _; case zs => first | omega | (simp <;> omega))))
            clear hK K hHeld; have hHeld := hHeld2; clear hHeld2; (try simp only [Act.put, zn1, zn2, zn3])
            refine ready_one (i := 9) rfl (by kernel_rfl) (fun K hK => ?_)
            go_simp
            refine hK.out _ _ ?_ (fun hHeld2 => ?_)
            · (try dsimp only); first | (with_reducible exact hHeld) | (repeat (first | (with_reducible exact hHeld) | (with_reducible refine Below.alloc ?_ ?zs _; case zs => first | omega | exact hHeld.size | (simp <;> omega)) | (with_reducible refine Below.setCell ?_ ?zs _; case zs => first | omega | (simp <;> omega))))
            clear hK K hHeld; have hHeld := hHeld2; clear hHeld2; (try simp only [Act.put, zn1, zn2, zn3])
            refine wpAnyH_done (by kernel_rfl) ?_ _
            go_wp2_with fail
            go_meet
            refine ⟨b4, b5, rfl, rfl, ?_, ?_, hHeld⟩
            · rw [← hku]; show World.cell? _ _ = _; go_simp
            · rw [← hkl]; show World.cell? _ _ = _; go_simp
        · skip
          go_simp
          refine hK.out _ _ ?_ (fun hHeld2 => ?_)
          · (try dsimp only); first | (with_reducible exact hHeld) | (repeat (first | (with_reducible exact hHeld) | (with_reducible refine Below.alloc ?_ ?zs _; case zs => first | omega | exact hHeld.size | (simp <;> omega)) | (with_reducible refine Below.setCell ?_ ?zs _; case zs => first | omega | (simp <;> omega))))
          have hge5 : W3.heap.size ≤ v0.heap.size := hHeld.size
          try (have hlt4 := HZ4.out.lt)
          try replace HZ4 := Lib.hid (HZ4.out.on (below_new _ (.cells #[.int .i64 0, .string ⟨#[]⟩, .string ⟨#[]⟩, .bool false] 57)))
          have HZ5 := Lib.hid (CutZ.new v0)
          generalize v0.alloc (.cells #[.int .i64 0, .string ⟨#[]⟩, .string ⟨#[]⟩, .bool false] 57) = z7 at *
          generalize v0.heap.size = b5 at *
          clear hK K hHeld; have hHeld := hHeld2; clear hHeld2; (try simp only [Act.put, zn1, zn2, zn3])
          refine ready_twoD (i := 2) (j := 6) rfl rfl (by kernel_rfl) (fun K hK => ?_) (fun K hK => ?_) 
          · skip
            go_simp
            refine (HOu.out _).mono ?_
            rintro e y2 ⟨rfl, hb⟩
            try replace HZ4 := Lib.hid (HZ4.out.on hb)
            try replace HZ5 := Lib.hid (HZ5.out.on hb)
            refine hK.out _ _ ?_ (fun hHeld2 => ?_)
            · (try dsimp only); exact Below.trans hHeld (Below.mono hb hHeld.size)
            clear hK K hHeld hb; have hHeld := hHeld2; clear hHeld2; (try simp only [Act.put, zn1, zn2, zn3])
            refine ready_twoD (i := 5) (j := 6) rfl rfl (by kernel_rfl) (fun K hK => ?_) (fun K hK => ?_) 
            · skip
              go_simp
              refine (HOl.out _).mono ?_
              rintro e y5 ⟨rfl, hb⟩
              try replace HZ4 := Lib.hid (HZ4.out.on hb)
              try replace HZ5 := Lib.hid (HZ5.out.on hb)
              refine hK.out _ _ ?_ (fun hHeld2 => ?_)
              · (try dsimp only); exact Below.trans hHeld (Below.mono hb hHeld.size)
              clear hK K hHeld hb; have hHeld := hHeld2; clear hHeld2; (try simp only [Act.put, zn1, zn2, zn3])
              refine ready_one (i := 6) rfl (by kernel_rfl) (fun K hK => ?_)
              go_simp
              refine hK.out _ _ ?_ (fun hHeld2 => ?_)
              · (try dsimp only); first | (with_reducible exact hHeld) | (repeat (first | (with_reducible exact hHeld) | (with_reducible refine Below.alloc ?_ ?zs _; case zs => first | omega | exact hHeld.size | (simp <;> omega)) | (with_reducible refine Below.setCell ?_ ?zs _; case zs => first | omega | (simp <;> omega))))
              have hge4 : W3.heap.size ≤ y5.heap.size := hHeld.size
              try (have hlt5 := HZ5.out.lt)
              try replace HZ5 := Lib.hid (HZ5.out.on (below_new _ (.cells #[.int .i64 0, .string ⟨#[]⟩, .string ⟨#[]⟩, .bool false] 57)))
              have HZ4 := Lib.hid (CutZ.new y5)
              generalize y5.alloc (.cells #[.int .i64 0, .string ⟨#[]⟩, .string ⟨#[]⟩, .bool false] 57) = z6 at *
              generalize y5.heap.size = b4 at *
              clear hK K hHeld; have hHeld := hHeld2; clear hHeld2; (try simp only [Act.put, zn1, zn2, zn3])
              have k0 := HZ4.out.c0
              have k1 := HZ4.out.c1
              have k2 := HZ4.out.c2
              have k3 := HZ4.out.c3
              have g0 := HZ4.out.f0
              have g1 := HZ4.out.f1
              have g2 := HZ4.out.f2
              have g3 := HZ4.out.f3
              have m0 := HZ5.out.c0
              have m1 := HZ5.out.c1
              have m2 := HZ5.out.c2
              have m3 := HZ5.out.c3
              have q0 := HZ5.out.f0
              have q1 := HZ5.out.f1
              have q2 := HZ5.out.f2
              have q3 := HZ5.out.f3
              have hn45 : ¬ b4 = b5 := by omega
              have hn54 : ¬ b5 = b4 := by omega
              refine ready_one (i := 8) rfl (by kernel_rfl) (fun K hK => ?_)
              go_simp
              refine hK.out _ _ ?_ (fun hHeld2 => ?_)
              · (try dsimp only); first | (with_reducible exact hHeld) | (repeat (first | (with_reducible exact hHeld) | (with_reducible refine Below.alloc ?_ ?zs _; case zs => first | omega | exact hHeld.size | (simp <;> omega)) | (with_reducible refine Below.setCell ?_ ?zs _; case zs => first | omega | (simp <;> omega))))
              clear hK K hHeld; have hHeld := hHeld2; clear hHeld2; (try simp only [Act.put, zn1, zn2, zn3])
              refine ready_one (i := 9) rfl (by kernel_rfl) (fun K hK => ?_)
              go_simp
              refine hK.out _ _ ?_ (fun hHeld2 => ?_)
              · (try dsimp only); first | (with_reducible exact hHeld) | (repeat (first | (with_reducible exact hHeld) | (with_reducible refine Below.alloc ?_ ?zs _; case zs => first | omega | exact hHeld.size | (simp <;> omega)) | (with_reducible refine Below.setCell ?_ ?zs _; case zs => first | omega | (simp <;> omega))))
              clear hK K hHeld; have hHeld := hHeld2; clear hHeld2; (try simp only [Act.put, zn1, zn2, zn3])
              refine wpAnyH_done (by kernel_rfl) ?_ _
              go_wp2_with fail
              go_meet
              refine ⟨b4, b5, rfl, rfl, ?_, ?_, hHeld⟩
              · rw [← hku]; show World.cell? _ _ = _; go_simp
              · rw [← hkl]; show World.cell? _ _ = _; go_simp
            · skip
              go_simp
              refine hK.out _ _ ?_ (fun hHeld2 => ?_)
              · (try dsimp only); first | (with_reducible exact hHeld) | (repeat (first | (with_reducible exact hHeld) | (with_reducible refine Below.alloc ?_ ?zs _; case zs => first | omega | exact hHeld.size | (simp <;> omega)) | (with_reducible refine Below.setCell ?_ ?zs _; case zs => first | omega | (simp <;> omega))))
              have hge4 : W3.heap.size ≤ y2.heap.size := hHeld.size
              try (have hlt5 := HZ5.out.lt)
              try replace HZ5 := Lib.hid (HZ5.out.on (below_new _ (.cells #[.int .i64 0, .string ⟨#[]⟩, .string ⟨#[]⟩, .bool false] 57)))
              have HZ4 := Lib.hid (CutZ.new y2)
              generalize y2.alloc (.cells #[.int .i64 0, .string ⟨#[]⟩, .string ⟨#[]⟩, .bool false] 57) = z6 at *
              generalize y2.heap.size = b4 at *
              clear hK K hHeld; have hHeld := hHeld2; clear hHeld2; (try simp only [Act.put, zn1, zn2, zn3])
              refine ready_one (i := 5) rfl (by kernel_rfl) (fun K hK => ?_)
              go_simp
              refine (HOl.out _).mono ?_
              rintro e y5 ⟨rfl, hb⟩
              try replace HZ4 := Lib.hid (HZ4.out.on hb)
              try replace HZ5 := Lib.hid (HZ5.out.on hb)
              refine hK.out _ _ ?_ (fun hHeld2 => ?_)
              · (try dsimp only); exact Below.trans hHeld (Below.mono hb hHeld.size)
              clear hK K hHeld hb; have hHeld := hHeld2; clear hHeld2; (try simp only [Act.put, zn1, zn2, zn3])
              have k0 := HZ4.out.c0
              have k1 := HZ4.out.c1
              have k2 := HZ4.out.c2
              have k3 := HZ4.out.c3
              have g0 := HZ4.out.f0
              have g1 := HZ4.out.f1
              have g2 := HZ4.out.f2
              have g3 := HZ4.out.f3
              have m0 := HZ5.out.c0
              have m1 := HZ5.out.c1
              have m2 := HZ5.out.c2
              have m3 := HZ5.out.c3
              have q0 := HZ5.out.f0
              have q1 := HZ5.out.f1
              have q2 := HZ5.out.f2
              have q3 := HZ5.out.f3
              have hn45 : ¬ b4 = b5 := by omega
              have hn54 : ¬ b5 = b4 := by omega
              refine ready_one (i := 8) rfl (by kernel_rfl) (fun K hK => ?_)
              go_simp
              refine hK.out _ _ ?_ (fun hHeld2 => ?_)
              · (try dsimp only); first | (with_reducible exact hHeld) | (repeat (first | (with_reducible exact hHeld) | (with_reducible refine Below.alloc ?_ ?zs _; case zs => first | omega | exact hHeld.size | (simp <;> omega)) | (with_reducible refine Below.setCell ?_ ?zs _; case zs => first | omega | (simp <;> omega))))
              clear hK K hHeld; have hHeld := hHeld2; clear hHeld2; (try simp only [Act.put, zn1, zn2, zn3])
              refine ready_one (i := 9) rfl (by kernel_rfl) (fun K hK => ?_)
              go_simp
              refine hK.out _ _ ?_ (fun hHeld2 => ?_)
              · (try dsimp only); first | (with_reducible exact hHeld) | (repeat (first | (with_reducible exact hHeld) | (with_reducible refine Below.alloc ?_ ?zs _; case zs => first | omega | exact hHeld.size | (simp <;> omega)) | (with_reducible refine Below.setCell ?_ ?zs _; case zs => first | omega | (simp <;> omega))))
              clear hK K hHeld; have hHeld := hHeld2; clear hHeld2; (try simp only [Act.put, zn1, zn2, zn3])
              refine wpAnyH_done (by kernel_rfl) ?_ _
              go_wp2_with fail
              go_meet
              refine ⟨b4, b5, rfl, rfl, ?_, ?_, hHeld⟩
              · rw [← hku]; show World.cell? _ _ = _; go_simp
              · rw [← hkl]; show World.cell? _ _ = _; go_simp
          · skip
            go_simp
            refine hK.out _ _ ?_ (fun hHeld2 => ?_)
            · (try dsimp only); first | (with_reducible exact hHeld) | (repeat (first | (with_reducible exact hHeld) | (with_reducible refine Below.alloc ?_ ?zs _; case zs => first | omega | exact hHeld.size | (simp <;> omega)) | (with_reducible refine Below.setCell ?_ ?zs _; case zs => first | omega | (simp <;> omega))))
            have hge4 : W3.heap.size ≤ z7.heap.size := hHeld.size
            try (have hlt5 := HZ5.out.lt)
            try replace HZ5 := Lib.hid (HZ5.out.on (below_new _ (.cells #[.int .i64 0, .string ⟨#[]⟩, .string ⟨#[]⟩, .bool false] 57)))
            have HZ4 := Lib.hid (CutZ.new z7)
            generalize z7.alloc (.cells #[.int .i64 0, .string ⟨#[]⟩, .string ⟨#[]⟩, .bool false] 57) = z6 at *
            generalize z7.heap.size = b4 at *
            clear hK K hHeld; have hHeld := hHeld2; clear hHeld2; (try simp only [Act.put, zn1, zn2, zn3])
            refine ready_one (i := 2) rfl (by kernel_rfl) (fun K hK => ?_)
            go_simp
            refine (HOu.out _).mono ?_
            rintro e y2 ⟨rfl, hb⟩
            try replace HZ4 := Lib.hid (HZ4.out.on hb)
            try replace HZ5 := Lib.hid (HZ5.out.on hb)
            refine hK.out _ _ ?_ (fun hHeld2 => ?_)
            · (try dsimp only); exact Below.trans hHeld (Below.mono hb hHeld.size)
            clear hK K hHeld hb; have hHeld := hHeld2; clear hHeld2; (try simp only [Act.put, zn1, zn2, zn3])
            refine ready_one (i := 5) rfl (by kernel_rfl) (fun K hK => ?_)
            go_simp
            refine (HOl.out _).mono ?_
            rintro e y5 ⟨rfl, hb⟩
            try replace HZ4 := Lib.hid (HZ4.out.on hb)
            try replace HZ5 := Lib.hid (HZ5.out.on hb)
            refine hK.out _ _ ?_ (fun hHeld2 => ?_)
            · (try dsimp only); exact Below.trans hHeld (Below.mono hb hHeld.size)
            clear hK K hHeld hb; have hHeld := hHeld2; clear hHeld2; (try simp only [Act.put, zn1, zn2, zn3])
            have k0 := HZ4.out.c0
            have k1 := HZ4.out.c1
            have k2 := HZ4.out.c2
            have k3 := HZ4.out.c3
            have g0 := HZ4.out.f0
            have g1 := HZ4.out.f1
            have g2 := HZ4.out.f2
            have g3 := HZ4.out.f3
            have m0 := HZ5.out.c0
            have m1 := HZ5.out.c1
            have m2 := HZ5.out.c2
            have m3 := HZ5.out.c3
            have q0 := HZ5.out.f0
            have q1 := HZ5.out.f1
            have q2 := HZ5.out.f2
            have q3 := HZ5.out.f3
            have hn45 : ¬ b4 = b5 := by omega
            have hn54 : ¬ b5 = b4 := by omega
            refine ready_one (i := 8) rfl (by kernel_rfl) (fun K hK => ?_)
            go_simp
            refine hK.out _ _ ?_ (fun hHeld2 => ?_)
            · (try dsimp only); first | (with_reducible exact hHeld) | (repeat (first | (with_reducible exact hHeld) | (with_reducible refine Below.alloc ?_ ?zs _; case zs => first | omega | exact hHeld.size | (simp <;> omega)) | (with_reducible refine Below.setCell ?_ ?zs _; case zs => first | omega | (simp <;> omega))))
            clear hK K hHeld; have hHeld := hHeld2; clear hHeld2; (try simp only [Act.put, zn1, zn2, zn3])
            refine ready_one (i := 9) rfl (by kernel_rfl) (fun K hK => ?_)
            go_simp
            refine hK.out _ _ ?_ (fun hHeld2 => ?_)
            · (try dsimp only); first | (with_reducible exact hHeld) | (repeat (first | (with_reducible exact hHeld) | (with_reducible refine Below.alloc ?_ ?zs _; case zs => first | omega | exact hHeld.size | (simp <;> omega)) | (with_reducible refine Below.setCell ?_ ?zs _; case zs => first | omega | (simp <;> omega))))
            clear hK K hHeld; have hHeld := hHeld2; clear hHeld2; (try simp only [Act.put, zn1, zn2, zn3])
            refine wpAnyH_done (by kernel_rfl) ?_ _
            go_wp2_with fail
            go_meet
            refine ⟨b4, b5, rfl, rfl, ?_, ?_, hHeld⟩
            · rw [← hku]; show World.cell? _ _ = _; go_simp
            · rw [← hkl]; show World.cell? _ _ = _; go_simp
      case rest =>
        obtain ⟨b4, b5, rfl, rfl, HK4, HK5, HBc⟩ := hcut
        have hbc := HBc.out
        replace c0 := cellAt c0 hbc (by omega)
        replace c1 := cellAt c1 hbc (by omega)
        replace c2 := cellAt c2 hbc (by omega)
        replace y0 := cellAt y0 hbc (by omega)
        replace y2 := cellAt y2 hbc (by omega)
        replace n0 : w.heap.size < wc.heap.size := ltAt n0 hbc
        replace n2 : w2.heap.size < wc.heap.size := ltAt n2 hbc
        obtain ⟨W6, rfl⟩ : ∃ wo : World, wo = wc := ⟨_, rfl⟩
        have z4 := HK4.out
        have z5 := HK5.out
        have l4 := cell_blk z4
        have l5 := cell_blk z5
        have HB6 := Lib.hid (lift HB3.out HBc.out)
        have hkpos : decide ((0 : Int) < kindS l) = (kindS l != 0) := by
          by_cases h : kindS l = 0
          · simp [h]
          · have h2 := (kind_parts h).2.2.2.1
            have e : (kindS l != 0) = true := by simpa using h
            rw [e, decide_eq_true_eq]
            omega
        simp only at l4 l5
        clear hbc HBc HK4 HK5 hku hkl HOu HOl
        have hIu := Lib.hid (fun W => IsTemplate_any u W (by omega))
        have hIl := Lib.hid (fun W => IsTemplate_any l W hl)
        have hk5 : k = 0 ∨ k = 1 ∨ k = 2 ∨ k = 3 ∨ k = 4 := by omega
        rcases hk5 with rfl | rfl | rfl | rfl | rfl
        · have HM := Lib.hid (show mayF (s, t, l) = false by rw [hm]; rfl)
          replace y0 : W6.cell? ⟨w2.heap.size, 0, none⟩ = some (.int .i64 0) := y0
          clear hm
          go_wp2_with fail
          have hB0 := HB6.out
          go_ret
          refine ⟨ret_bool (by rw [HM.out]; skip), ?_⟩
          repeat (first | (with_reducible exact hB0) | (with_reducible refine Below.drew ?_) | (with_reducible refine Below.alloc ?_ ?zs _; case zs => first | omega | (simp <;> omega)) | (with_reducible refine Below.setCell ?_ ?zs _; case zs => first | omega | (simp <;> omega)))
        · have HM := Lib.hid (show mayF (s, t, l) = (l == ([] : Str) || (l == nullS || (kindS l == kindS u && tmplS u == tmplS l))) by rw [hm]; rfl)
          replace y0 : W6.cell? ⟨w2.heap.size, 0, none⟩ = some (.int .i64 1) := y0
          clear hm
          have hnull : nullS = [110, 117, 108, 108] := rfl
          rw [hnull] at HM
          clear hnull
          cases hle : (l == ([] : Str))
          · cases hln : (l == ([110, 117, 108, 108] : Str))
            · cases hkk : (kindS l == kindS u)
              · go_upto_region 7 with fail
                try go_wp2_with fail
                refine wp_region_held_drew (S := fun w' => Below W6.heap.size W6 w') (by kernel_rfl) (Below.drew (Below.refl _ _)) (fun hHeld => ?_)
                refine tY (i := 0) (v := ?_) rfl ?_ hHeld ?_; rotate_left 1; focus (intro w' hSw; clear hSw; go_simp; try with_reducible rfl)
                (try simp only [Act.put, zn1, zn2, zn3])
                refine tY (i := 1) (v := ?_) rfl ?_ hHeld ?_; rotate_left 1; focus (intro w' hSw; have hCell := fun (b o : Nat) (h : b < W6.heap.size) => hSw.cell (p := ⟨b, o, none⟩) h; clear hSw; go_simp; try with_reducible rfl)
                (try simp only [Act.put, zn1, zn2, zn3])
                refine tY (i := 2) (v := ?_) rfl ?_ hHeld ?_; rotate_left 1; focus (intro w' hSw; clear hSw; go_simp; try with_reducible rfl)
                (try simp only [Act.put, zn1, zn2, zn3])
                refine tY (i := 3) (v := ?_) rfl ?_ hHeld ?_; rotate_left 1; focus (intro w' hSw; clear hSw; go_simp; try with_reducible rfl)
                (try simp only [Act.put, zn1, zn2, zn3])
                refine tY (i := 4) (v := ?_) rfl ?_ hHeld ?_; rotate_left 1; focus (intro w' hSw; clear hSw; go_simp; try with_reducible rfl)
                (try simp only [Act.put, zn1, zn2, zn3])
                refine tY (i := 5) (v := ?_) rfl ?_ hHeld ?_; rotate_left 1; focus (intro w' hSw; have hCell := fun (b o : Nat) (h : b < W6.heap.size) => hSw.cell (p := ⟨b, o, none⟩) h; clear hSw; go_simp; try with_reducible rfl)
                (try simp only [Act.put, zn1, zn2, zn3])
                refine tY (i := 6) (v := ?_) rfl ?_ hHeld ?_; rotate_left 1; focus (intro w' hSw; clear hSw; go_simp; try with_reducible rfl)
                (try simp only [Act.put, zn1, zn2, zn3])
                refine tY (i := 7) (v := ?_) rfl ?_ hHeld ?_; rotate_left 1; focus (intro w' hSw; clear hSw; go_simp; try with_reducible rfl)
                (try simp only [Act.put, zn1, zn2, zn3])
                refine tY (i := 8) (v := ?_) rfl ?_ hHeld ?_; rotate_left 1; focus (intro w' hSw; clear hSw; go_simp; try with_reducible rfl)
                (try simp only [Act.put, zn1, zn2, zn3])
                refine tY (i := 9) (v := ?_) rfl ?_ hHeld ?_; rotate_left 1; focus (intro w' hSw; clear hSw; go_simp; try with_reducible rfl)
                (try simp only [Act.put, zn1, zn2, zn3])
                refine tY (i := 10) (v := ?_) rfl ?_ hHeld ?_; rotate_left 1; focus (intro w' hSw; have hCell := fun (b o : Nat) (h : b < W6.heap.size) => hSw.cell (p := ⟨b, o, none⟩) h; clear hSw; go_simp; try with_reducible rfl)
                (try simp only [Act.put, zn1, zn2, zn3])
                refine tY (i := 11) (v := ?_) rfl ?_ hHeld ?_; rotate_left 1; focus (intro w' hSw; clear hSw; go_simp; try with_reducible rfl)
                (try simp only [Act.put, zn1, zn2, zn3])
                refine tY (i := 12) (v := ?_) rfl ?_ hHeld ?_; rotate_left 1; focus (intro w' hSw; have hCell := fun (b o : Nat) (h : b < W6.heap.size) => hSw.cell (p := ⟨b, o, none⟩) h; clear hSw; go_simp; try with_reducible rfl)
                (try simp only [Act.put, zn1, zn2, zn3])
                refine tY (i := 13) (v := ?_) rfl ?_ hHeld ?_; rotate_left 1; focus (intro w' hSw; clear hSw; go_simp; try with_reducible rfl)
                (try simp only [Act.put, zn1, zn2, zn3])
                refine tY (i := 14) (v := ?_) rfl ?_ hHeld ?_; rotate_left 1; focus (intro w' hSw; clear hSw; go_simp; try with_reducible rfl)
                (try simp only [Act.put, zn1, zn2, zn3])
                refine tS (i := 15) rfl hHeld ?_; (try simp only [Act.put, zn1, zn2, zn3])
                refine tS (i := 16) rfl hHeld ?_; (try simp only [Act.put, zn1, zn2, zn3])
                refine tS (i := 17) rfl hHeld ?_; (try simp only [Act.put, zn1, zn2, zn3])
                refine tS (i := 18) rfl hHeld ?_; (try simp only [Act.put, zn1, zn2, zn3])
                refine tS (i := 19) rfl hHeld ?_; (try simp only [Act.put, zn1, zn2, zn3])
                refine tS (i := 20) rfl hHeld ?_; (try simp only [Act.put, zn1, zn2, zn3])
                refine tS (i := 21) rfl hHeld ?_; (try simp only [Act.put, zn1, zn2, zn3])
                refine tY (i := 22) (v := ?_) rfl ?_ hHeld ?_; rotate_left 1; focus (intro w' hSw; clear hSw; go_simp; try with_reducible rfl)
                (try simp only [Act.put, zn1, zn2, zn3])
                refine tY (i := 23) (v := ?_) rfl ?_ hHeld ?_; rotate_left 1; focus (intro w' hSw; clear hSw; go_simp; try with_reducible rfl)
                (try simp only [Act.put, zn1, zn2, zn3])
                refine tY (i := 24) (v := ?_) rfl ?_ hHeld ?_; rotate_left 1; focus (intro w' hSw; clear hSw; go_simp; try with_reducible rfl)
                (try simp only [Act.put, zn1, zn2, zn3])
                refine wpAnyH_done (by kernel_rfl) ?_ _
                go_wp2_with fail
                have hB0 := lift HB6.out hHeld
                go_ret
                refine ⟨ret_bool (by rw [HM.out]; simp [*]), ?_⟩
                repeat (first | (with_reducible exact hB0) | (with_reducible refine Below.drew ?_) | (with_reducible refine Below.alloc ?_ ?zs _; case zs => first | omega | (simp <;> omega)) | (with_reducible refine Below.setCell ?_ ?zs _; case zs => first | omega | (simp <;> omega)))
              · cases htt : (tmplS u == tmplS l)
                · go_upto_region 7 with fail
                  try go_wp2_with fail
                  refine wp_region_held_drew (S := fun w' => Below W6.heap.size W6 w') (by kernel_rfl) (Below.drew (Below.refl _ _)) (fun hHeld => ?_)
                  refine tY (i := 0) (v := ?_) rfl ?_ hHeld ?_; rotate_left 1; focus (intro w' hSw; clear hSw; go_simp; try with_reducible rfl)
                  (try simp only [Act.put, zn1, zn2, zn3])
                  refine tY (i := 1) (v := ?_) rfl ?_ hHeld ?_; rotate_left 1; focus (intro w' hSw; have hCell := fun (b o : Nat) (h : b < W6.heap.size) => hSw.cell (p := ⟨b, o, none⟩) h; clear hSw; go_simp; try with_reducible rfl)
                  (try simp only [Act.put, zn1, zn2, zn3])
                  refine tY (i := 2) (v := ?_) rfl ?_ hHeld ?_; rotate_left 1; focus (intro w' hSw; clear hSw; go_simp; try with_reducible rfl)
                  (try simp only [Act.put, zn1, zn2, zn3])
                  refine tY (i := 3) (v := ?_) rfl ?_ hHeld ?_; rotate_left 1; focus (intro w' hSw; clear hSw; go_simp; try with_reducible rfl)
                  (try simp only [Act.put, zn1, zn2, zn3])
                  refine tY (i := 4) (v := ?_) rfl ?_ hHeld ?_; rotate_left 1; focus (intro w' hSw; clear hSw; go_simp; try with_reducible rfl)
                  (try simp only [Act.put, zn1, zn2, zn3])
                  refine tY (i := 5) (v := ?_) rfl ?_ hHeld ?_; rotate_left 1; focus (intro w' hSw; have hCell := fun (b o : Nat) (h : b < W6.heap.size) => hSw.cell (p := ⟨b, o, none⟩) h; clear hSw; go_simp; try with_reducible rfl)
                  (try simp only [Act.put, zn1, zn2, zn3])
                  refine tY (i := 6) (v := ?_) rfl ?_ hHeld ?_; rotate_left 1; focus (intro w' hSw; clear hSw; go_simp; try with_reducible rfl)
                  (try simp only [Act.put, zn1, zn2, zn3])
                  refine tY (i := 7) (v := ?_) rfl ?_ hHeld ?_; rotate_left 1; focus (intro w' hSw; clear hSw; go_simp; try with_reducible rfl)
                  (try simp only [Act.put, zn1, zn2, zn3])
                  refine tY (i := 8) (v := ?_) rfl ?_ hHeld ?_; rotate_left 1; focus (intro w' hSw; clear hSw; go_simp; try with_reducible rfl)
                  (try simp only [Act.put, zn1, zn2, zn3])
                  refine tY (i := 9) (v := ?_) rfl ?_ hHeld ?_; rotate_left 1; focus (intro w' hSw; clear hSw; go_simp; try with_reducible rfl)
                  (try simp only [Act.put, zn1, zn2, zn3])
                  refine tY (i := 10) (v := ?_) rfl ?_ hHeld ?_; rotate_left 1; focus (intro w' hSw; have hCell := fun (b o : Nat) (h : b < W6.heap.size) => hSw.cell (p := ⟨b, o, none⟩) h; clear hSw; go_simp; try with_reducible rfl)
                  (try simp only [Act.put, zn1, zn2, zn3])
                  refine tY (i := 11) (v := ?_) rfl ?_ hHeld ?_; rotate_left 1; focus (intro w' hSw; clear hSw; go_simp; try with_reducible rfl)
                  (try simp only [Act.put, zn1, zn2, zn3])
                  refine tY (i := 12) (v := ?_) rfl ?_ hHeld ?_; rotate_left 1; focus (intro w' hSw; have hCell := fun (b o : Nat) (h : b < W6.heap.size) => hSw.cell (p := ⟨b, o, none⟩) h; clear hSw; go_simp; try with_reducible rfl)
                  (try simp only [Act.put, zn1, zn2, zn3])
                  refine tY (i := 13) (v := ?_) rfl ?_ hHeld ?_; rotate_left 1; focus (intro w' hSw; clear hSw; go_simp; try with_reducible rfl)
                  (try simp only [Act.put, zn1, zn2, zn3])
                  refine tY (i := 14) (v := ?_) rfl ?_ hHeld ?_; rotate_left 1; focus (intro w' hSw; clear hSw; go_simp; try with_reducible rfl)
                  (try simp only [Act.put, zn1, zn2, zn3])
                  refine tY (i := 15) (v := ?_) rfl ?_ hHeld ?_; rotate_left 1; focus (intro w' hSw; clear hSw; go_simp; try with_reducible rfl)
                  (try simp only [Act.put, zn1, zn2, zn3])
                  refine tY (i := 16) (v := ?_) rfl ?_ hHeld ?_; rotate_left 1; focus (intro w' hSw; have hCell := fun (b o : Nat) (h : b < W6.heap.size) => hSw.cell (p := ⟨b, o, none⟩) h; clear hSw; go_simp; try with_reducible rfl)
                  (try simp only [Act.put, zn1, zn2, zn3])
                  refine tY (i := 18) (v := ?_) rfl ?_ hHeld ?_; rotate_left 1; focus (intro w' hSw; clear hSw; go_simp; try with_reducible rfl)
                  (try simp only [Act.put, zn1, zn2, zn3])
                  refine tY (i := 19) (v := ?_) rfl ?_ hHeld ?_; rotate_left 1; focus (intro w' hSw; have hCell := fun (b o : Nat) (h : b < W6.heap.size) => hSw.cell (p := ⟨b, o, none⟩) h; clear hSw; go_simp; try with_reducible rfl)
                  (try simp only [Act.put, zn1, zn2, zn3])
                  refine ready_one (i := 17) rfl (by kernel_rfl) (fun K hK => ?_)
                  go_simp
                  refine (hIu.out _).mono ?_
                  rintro e y2 ⟨rfl, hb⟩
                  refine hK.out _ _ ?_ (fun hHeld2 => ?_)
                  · (try dsimp only); first | exact Below.trans hHeld (Below.mono hb hHeld.size) | exact hHeld | exact Below.drew hHeld | exact (by repeat (first | exact Below.refl _ _ | assumption | refine Below.alloc ?_ (by first | omega | (simp <;> omega)) _ | refine Below.setCell ?_ (by first | omega | (simp <;> omega)) _ | refine Below.drew ?_))
                  clear hK K hHeld; have hHeld := hHeld2; clear hHeld2; (try simp only [Act.put, zn1, zn2, zn3])
                  refine ready_one (i := 20) rfl (by kernel_rfl) (fun K hK => ?_)
                  go_simp
                  refine (hIl.out _).mono ?_
                  rintro e y3 ⟨rfl, hb⟩
                  refine hK.out _ _ ?_ (fun hHeld2 => ?_)
                  · (try dsimp only); first | exact Below.trans hHeld (Below.mono hb hHeld.size) | exact hHeld | exact Below.drew hHeld | exact (by repeat (first | exact Below.refl _ _ | assumption | refine Below.alloc ?_ (by first | omega | (simp <;> omega)) _ | refine Below.setCell ?_ (by first | omega | (simp <;> omega)) _ | refine Below.drew ?_))
                  clear hK K hHeld; have hHeld := hHeld2; clear hHeld2; (try simp only [Act.put, zn1, zn2, zn3])
                  refine tY (i := 21) (v := ?_) rfl ?_ hHeld ?_; rotate_left 1; focus (intro w' hSw; clear hSw; go_simp; try with_reducible rfl)
                  (try simp only [Act.put, zn1, zn2, zn3])
                  refine tY (i := 22) (v := ?_) rfl ?_ hHeld ?_; rotate_left 1; focus (intro w' hSw; clear hSw; go_simp; try with_reducible rfl)
                  (try simp only [Act.put, zn1, zn2, zn3])
                  refine tY (i := 23) (v := ?_) rfl ?_ hHeld ?_; rotate_left 1; focus (intro w' hSw; clear hSw; go_simp; try with_reducible rfl)
                  (try simp only [Act.put, zn1, zn2, zn3])
                  refine tY (i := 24) (v := ?_) rfl ?_ hHeld ?_; rotate_left 1; focus (intro w' hSw; clear hSw; go_simp; try with_reducible rfl)
                  (try simp only [Act.put, zn1, zn2, zn3])
                  refine wpAnyH_done (by kernel_rfl) ?_ _
                  go_wp2_with fail
                  have hB0 := lift HB6.out hHeld
                  go_ret
                  refine ⟨ret_bool (by rw [HM.out]; simp [*]), ?_⟩
                  repeat (first | (with_reducible exact hB0) | (with_reducible refine Below.drew ?_) | (with_reducible refine Below.alloc ?_ ?zs _; case zs => first | omega | (simp <;> omega)) | (with_reducible refine Below.setCell ?_ ?zs _; case zs => first | omega | (simp <;> omega)))
                · go_upto_region 7 with fail
                  try go_wp2_with fail
                  refine wp_region_held_drew (S := fun w' => Below W6.heap.size W6 w') (by kernel_rfl) (Below.drew (Below.refl _ _)) (fun hHeld => ?_)
                  refine tY (i := 0) (v := ?_) rfl ?_ hHeld ?_; rotate_left 1; focus (intro w' hSw; clear hSw; go_simp; try with_reducible rfl)
                  (try simp only [Act.put, zn1, zn2, zn3])
                  refine tY (i := 1) (v := ?_) rfl ?_ hHeld ?_; rotate_left 1; focus (intro w' hSw; have hCell := fun (b o : Nat) (h : b < W6.heap.size) => hSw.cell (p := ⟨b, o, none⟩) h; clear hSw; go_simp; try with_reducible rfl)
                  (try simp only [Act.put, zn1, zn2, zn3])
                  refine tY (i := 2) (v := ?_) rfl ?_ hHeld ?_; rotate_left 1; focus (intro w' hSw; clear hSw; go_simp; try with_reducible rfl)
                  (try simp only [Act.put, zn1, zn2, zn3])
                  refine tY (i := 3) (v := ?_) rfl ?_ hHeld ?_; rotate_left 1; focus (intro w' hSw; clear hSw; go_simp; try with_reducible rfl)
                  (try simp only [Act.put, zn1, zn2, zn3])
                  refine tY (i := 4) (v := ?_) rfl ?_ hHeld ?_; rotate_left 1; focus (intro w' hSw; clear hSw; go_simp; try with_reducible rfl)
                  (try simp only [Act.put, zn1, zn2, zn3])
                  refine tY (i := 5) (v := ?_) rfl ?_ hHeld ?_; rotate_left 1; focus (intro w' hSw; have hCell := fun (b o : Nat) (h : b < W6.heap.size) => hSw.cell (p := ⟨b, o, none⟩) h; clear hSw; go_simp; try with_reducible rfl)
                  (try simp only [Act.put, zn1, zn2, zn3])
                  refine tY (i := 6) (v := ?_) rfl ?_ hHeld ?_; rotate_left 1; focus (intro w' hSw; clear hSw; go_simp; try with_reducible rfl)
                  (try simp only [Act.put, zn1, zn2, zn3])
                  refine tY (i := 7) (v := ?_) rfl ?_ hHeld ?_; rotate_left 1; focus (intro w' hSw; clear hSw; go_simp; try with_reducible rfl)
                  (try simp only [Act.put, zn1, zn2, zn3])
                  refine tY (i := 8) (v := ?_) rfl ?_ hHeld ?_; rotate_left 1; focus (intro w' hSw; clear hSw; go_simp; try with_reducible rfl)
                  (try simp only [Act.put, zn1, zn2, zn3])
                  refine tY (i := 9) (v := ?_) rfl ?_ hHeld ?_; rotate_left 1; focus (intro w' hSw; clear hSw; go_simp; try with_reducible rfl)
                  (try simp only [Act.put, zn1, zn2, zn3])
                  refine tY (i := 10) (v := ?_) rfl ?_ hHeld ?_; rotate_left 1; focus (intro w' hSw; have hCell := fun (b o : Nat) (h : b < W6.heap.size) => hSw.cell (p := ⟨b, o, none⟩) h; clear hSw; go_simp; try with_reducible rfl)
                  (try simp only [Act.put, zn1, zn2, zn3])
                  refine tY (i := 11) (v := ?_) rfl ?_ hHeld ?_; rotate_left 1; focus (intro w' hSw; clear hSw; go_simp; try with_reducible rfl)
                  (try simp only [Act.put, zn1, zn2, zn3])
                  refine tY (i := 12) (v := ?_) rfl ?_ hHeld ?_; rotate_left 1; focus (intro w' hSw; have hCell := fun (b o : Nat) (h : b < W6.heap.size) => hSw.cell (p := ⟨b, o, none⟩) h; clear hSw; go_simp; try with_reducible rfl)
                  (try simp only [Act.put, zn1, zn2, zn3])
                  refine tY (i := 13) (v := ?_) rfl ?_ hHeld ?_; rotate_left 1; focus (intro w' hSw; clear hSw; go_simp; try with_reducible rfl)
                  (try simp only [Act.put, zn1, zn2, zn3])
                  refine tY (i := 14) (v := ?_) rfl ?_ hHeld ?_; rotate_left 1; focus (intro w' hSw; clear hSw; go_simp; try with_reducible rfl)
                  (try simp only [Act.put, zn1, zn2, zn3])
                  refine tY (i := 15) (v := ?_) rfl ?_ hHeld ?_; rotate_left 1; focus (intro w' hSw; clear hSw; go_simp; try with_reducible rfl)
                  (try simp only [Act.put, zn1, zn2, zn3])
                  refine tY (i := 16) (v := ?_) rfl ?_ hHeld ?_; rotate_left 1; focus (intro w' hSw; have hCell := fun (b o : Nat) (h : b < W6.heap.size) => hSw.cell (p := ⟨b, o, none⟩) h; clear hSw; go_simp; try with_reducible rfl)
                  (try simp only [Act.put, zn1, zn2, zn3])
                  refine tY (i := 18) (v := ?_) rfl ?_ hHeld ?_; rotate_left 1; focus (intro w' hSw; clear hSw; go_simp; try with_reducible rfl)
                  (try simp only [Act.put, zn1, zn2, zn3])
                  refine tY (i := 19) (v := ?_) rfl ?_ hHeld ?_; rotate_left 1; focus (intro w' hSw; have hCell := fun (b o : Nat) (h : b < W6.heap.size) => hSw.cell (p := ⟨b, o, none⟩) h; clear hSw; go_simp; try with_reducible rfl)
                  (try simp only [Act.put, zn1, zn2, zn3])
                  refine ready_one (i := 17) rfl (by kernel_rfl) (fun K hK => ?_)
                  go_simp
                  refine (hIu.out _).mono ?_
                  rintro e y2 ⟨rfl, hb⟩
                  refine hK.out _ _ ?_ (fun hHeld2 => ?_)
                  · (try dsimp only); first | exact Below.trans hHeld (Below.mono hb hHeld.size) | exact hHeld | exact Below.drew hHeld | exact (by repeat (first | exact Below.refl _ _ | assumption | refine Below.alloc ?_ (by first | omega | (simp <;> omega)) _ | refine Below.setCell ?_ (by first | omega | (simp <;> omega)) _ | refine Below.drew ?_))
                  clear hK K hHeld; have hHeld := hHeld2; clear hHeld2; (try simp only [Act.put, zn1, zn2, zn3])
                  refine ready_one (i := 20) rfl (by kernel_rfl) (fun K hK => ?_)
                  go_simp
                  refine (hIl.out _).mono ?_
                  rintro e y3 ⟨rfl, hb⟩
                  refine hK.out _ _ ?_ (fun hHeld2 => ?_)
                  · (try dsimp only); first | exact Below.trans hHeld (Below.mono hb hHeld.size) | exact hHeld | exact Below.drew hHeld | exact (by repeat (first | exact Below.refl _ _ | assumption | refine Below.alloc ?_ (by first | omega | (simp <;> omega)) _ | refine Below.setCell ?_ (by first | omega | (simp <;> omega)) _ | refine Below.drew ?_))
                  clear hK K hHeld; have hHeld := hHeld2; clear hHeld2; (try simp only [Act.put, zn1, zn2, zn3])
                  refine tY (i := 21) (v := ?_) rfl ?_ hHeld ?_; rotate_left 1; focus (intro w' hSw; clear hSw; go_simp; try with_reducible rfl)
                  (try simp only [Act.put, zn1, zn2, zn3])
                  refine tY (i := 22) (v := ?_) rfl ?_ hHeld ?_; rotate_left 1; focus (intro w' hSw; clear hSw; go_simp; try with_reducible rfl)
                  (try simp only [Act.put, zn1, zn2, zn3])
                  refine tY (i := 23) (v := ?_) rfl ?_ hHeld ?_; rotate_left 1; focus (intro w' hSw; clear hSw; go_simp; try with_reducible rfl)
                  (try simp only [Act.put, zn1, zn2, zn3])
                  refine tY (i := 24) (v := ?_) rfl ?_ hHeld ?_; rotate_left 1; focus (intro w' hSw; clear hSw; go_simp; try with_reducible rfl)
                  (try simp only [Act.put, zn1, zn2, zn3])
                  refine wpAnyH_done (by kernel_rfl) ?_ _
                  go_wp2_with fail
                  have hB0 := lift HB6.out hHeld
                  go_ret
                  refine ⟨ret_bool (by rw [HM.out]; simp [*]), ?_⟩
                  repeat (first | (with_reducible exact hB0) | (with_reducible refine Below.drew ?_) | (with_reducible refine Below.alloc ?_ ?zs _; case zs => first | omega | (simp <;> omega)) | (with_reducible refine Below.setCell ?_ ?zs _; case zs => first | omega | (simp <;> omega)))
            · go_upto_region 7 with fail
              try go_wp2_with fail
              refine wp_region_held_drew (S := fun w' => Below W6.heap.size W6 w') (by kernel_rfl) (Below.drew (Below.refl _ _)) (fun hHeld => ?_)
              refine tY (i := 0) (v := ?_) rfl ?_ hHeld ?_; rotate_left 1; focus (intro w' hSw; clear hSw; go_simp; try with_reducible rfl)
              (try simp only [Act.put, zn1, zn2, zn3])
              refine tY (i := 1) (v := ?_) rfl ?_ hHeld ?_; rotate_left 1; focus (intro w' hSw; have hCell := fun (b o : Nat) (h : b < W6.heap.size) => hSw.cell (p := ⟨b, o, none⟩) h; clear hSw; go_simp; try with_reducible rfl)
              (try simp only [Act.put, zn1, zn2, zn3])
              refine tY (i := 2) (v := ?_) rfl ?_ hHeld ?_; rotate_left 1; focus (intro w' hSw; clear hSw; go_simp; try with_reducible rfl)
              (try simp only [Act.put, zn1, zn2, zn3])
              refine tY (i := 3) (v := ?_) rfl ?_ hHeld ?_; rotate_left 1; focus (intro w' hSw; clear hSw; go_simp; try with_reducible rfl)
              (try simp only [Act.put, zn1, zn2, zn3])
              refine tY (i := 4) (v := ?_) rfl ?_ hHeld ?_; rotate_left 1; focus (intro w' hSw; clear hSw; go_simp; try with_reducible rfl)
              (try simp only [Act.put, zn1, zn2, zn3])
              refine tY (i := 5) (v := ?_) rfl ?_ hHeld ?_; rotate_left 1; focus (intro w' hSw; have hCell := fun (b o : Nat) (h : b < W6.heap.size) => hSw.cell (p := ⟨b, o, none⟩) h; clear hSw; go_simp; try with_reducible rfl)
              (try simp only [Act.put, zn1, zn2, zn3])
              refine tY (i := 6) (v := ?_) rfl ?_ hHeld ?_; rotate_left 1; focus (intro w' hSw; clear hSw; go_simp; try with_reducible rfl)
              (try simp only [Act.put, zn1, zn2, zn3])
              refine tY (i := 7) (v := ?_) rfl ?_ hHeld ?_; rotate_left 1; focus (intro w' hSw; clear hSw; go_simp; try with_reducible rfl)
              (try simp only [Act.put, zn1, zn2, zn3])
              refine tY (i := 8) (v := ?_) rfl ?_ hHeld ?_; rotate_left 1; focus (intro w' hSw; clear hSw; go_simp; try with_reducible rfl)
              (try simp only [Act.put, zn1, zn2, zn3])
              refine tS (i := 9) rfl hHeld ?_; (try simp only [Act.put, zn1, zn2, zn3])
              refine tS (i := 10) rfl hHeld ?_; (try simp only [Act.put, zn1, zn2, zn3])
              refine tS (i := 11) rfl hHeld ?_; (try simp only [Act.put, zn1, zn2, zn3])
              refine tS (i := 12) rfl hHeld ?_; (try simp only [Act.put, zn1, zn2, zn3])
              refine tS (i := 13) rfl hHeld ?_; (try simp only [Act.put, zn1, zn2, zn3])
              refine tS (i := 14) rfl hHeld ?_; (try simp only [Act.put, zn1, zn2, zn3])
              refine tS (i := 15) rfl hHeld ?_; (try simp only [Act.put, zn1, zn2, zn3])
              refine tS (i := 16) rfl hHeld ?_; (try simp only [Act.put, zn1, zn2, zn3])
              refine tS (i := 17) rfl hHeld ?_; (try simp only [Act.put, zn1, zn2, zn3])
              refine tS (i := 18) rfl hHeld ?_; (try simp only [Act.put, zn1, zn2, zn3])
              refine tS (i := 19) rfl hHeld ?_; (try simp only [Act.put, zn1, zn2, zn3])
              refine tS (i := 20) rfl hHeld ?_; (try simp only [Act.put, zn1, zn2, zn3])
              refine tS (i := 21) rfl hHeld ?_; (try simp only [Act.put, zn1, zn2, zn3])
              refine tS (i := 22) rfl hHeld ?_; (try simp only [Act.put, zn1, zn2, zn3])
              refine tY (i := 23) (v := ?_) rfl ?_ hHeld ?_; rotate_left 1; focus (intro w' hSw; clear hSw; go_simp; try with_reducible rfl)
              (try simp only [Act.put, zn1, zn2, zn3])
              refine tY (i := 24) (v := ?_) rfl ?_ hHeld ?_; rotate_left 1; focus (intro w' hSw; clear hSw; go_simp; try with_reducible rfl)
              (try simp only [Act.put, zn1, zn2, zn3])
              refine wpAnyH_done (by kernel_rfl) ?_ _
              go_wp2_with fail
              have hB0 := lift HB6.out hHeld
              go_ret
              refine ⟨ret_bool (by rw [HM.out]; simp [*]), ?_⟩
              repeat (first | (with_reducible exact hB0) | (with_reducible refine Below.drew ?_) | (with_reducible refine Below.alloc ?_ ?zs _; case zs => first | omega | (simp <;> omega)) | (with_reducible refine Below.setCell ?_ ?zs _; case zs => first | omega | (simp <;> omega)))
          · go_upto_region 7 with fail
            try go_wp2_with fail
            refine wp_region_held_drew (S := fun w' => Below W6.heap.size W6 w') (by kernel_rfl) (Below.drew (Below.refl _ _)) (fun hHeld => ?_)
            refine tY (i := 0) (v := ?_) rfl ?_ hHeld ?_; rotate_left 1; focus (intro w' hSw; clear hSw; go_simp; try with_reducible rfl)
            (try simp only [Act.put, zn1, zn2, zn3])
            refine tY (i := 1) (v := ?_) rfl ?_ hHeld ?_; rotate_left 1; focus (intro w' hSw; have hCell := fun (b o : Nat) (h : b < W6.heap.size) => hSw.cell (p := ⟨b, o, none⟩) h; clear hSw; go_simp; try with_reducible rfl)
            (try simp only [Act.put, zn1, zn2, zn3])
            refine tY (i := 2) (v := ?_) rfl ?_ hHeld ?_; rotate_left 1; focus (intro w' hSw; clear hSw; go_simp; try with_reducible rfl)
            (try simp only [Act.put, zn1, zn2, zn3])
            refine tY (i := 3) (v := ?_) rfl ?_ hHeld ?_; rotate_left 1; focus (intro w' hSw; clear hSw; go_simp; try with_reducible rfl)
            (try simp only [Act.put, zn1, zn2, zn3])
            refine tS (i := 4) rfl hHeld ?_; (try simp only [Act.put, zn1, zn2, zn3])
            refine tS (i := 5) rfl hHeld ?_; (try simp only [Act.put, zn1, zn2, zn3])
            refine tS (i := 6) rfl hHeld ?_; (try simp only [Act.put, zn1, zn2, zn3])
            refine tY (i := 7) (v := ?_) rfl ?_ hHeld ?_; rotate_left 1; focus (intro w' hSw; clear hSw; go_simp; try with_reducible rfl)
            (try simp only [Act.put, zn1, zn2, zn3])
            refine tY (i := 8) (v := ?_) rfl ?_ hHeld ?_; rotate_left 1; focus (intro w' hSw; clear hSw; go_simp; try with_reducible rfl)
            (try simp only [Act.put, zn1, zn2, zn3])
            refine tS (i := 9) rfl hHeld ?_; (try simp only [Act.put, zn1, zn2, zn3])
            refine tS (i := 10) rfl hHeld ?_; (try simp only [Act.put, zn1, zn2, zn3])
            refine tS (i := 11) rfl hHeld ?_; (try simp only [Act.put, zn1, zn2, zn3])
            refine tS (i := 12) rfl hHeld ?_; (try simp only [Act.put, zn1, zn2, zn3])
            refine tS (i := 13) rfl hHeld ?_; (try simp only [Act.put, zn1, zn2, zn3])
            refine tS (i := 14) rfl hHeld ?_; (try simp only [Act.put, zn1, zn2, zn3])
            refine tS (i := 15) rfl hHeld ?_; (try simp only [Act.put, zn1, zn2, zn3])
            refine tS (i := 16) rfl hHeld ?_; (try simp only [Act.put, zn1, zn2, zn3])
            refine tS (i := 17) rfl hHeld ?_; (try simp only [Act.put, zn1, zn2, zn3])
            refine tS (i := 18) rfl hHeld ?_; (try simp only [Act.put, zn1, zn2, zn3])
            refine tS (i := 19) rfl hHeld ?_; (try simp only [Act.put, zn1, zn2, zn3])
            refine tS (i := 20) rfl hHeld ?_; (try simp only [Act.put, zn1, zn2, zn3])
            refine tS (i := 21) rfl hHeld ?_; (try simp only [Act.put, zn1, zn2, zn3])
            refine tS (i := 22) rfl hHeld ?_; (try simp only [Act.put, zn1, zn2, zn3])
            refine tY (i := 23) (v := ?_) rfl ?_ hHeld ?_; rotate_left 1; focus (intro w' hSw; clear hSw; go_simp; try with_reducible rfl)
            (try simp only [Act.put, zn1, zn2, zn3])
            refine tY (i := 24) (v := ?_) rfl ?_ hHeld ?_; rotate_left 1; focus (intro w' hSw; clear hSw; go_simp; try with_reducible rfl)
            (try simp only [Act.put, zn1, zn2, zn3])
            refine wpAnyH_done (by kernel_rfl) ?_ _
            go_wp2_with fail
            have hB0 := lift HB6.out hHeld
            go_ret
            refine ⟨ret_bool (by rw [HM.out]; simp [*]), ?_⟩
            repeat (first | (with_reducible exact hB0) | (with_reducible refine Below.drew ?_) | (with_reducible refine Below.alloc ?_ ?zs _; case zs => first | omega | (simp <;> omega)) | (with_reducible refine Below.setCell ?_ ?zs _; case zs => first | omega | (simp <;> omega)))
        · have HM := Lib.hid (show mayF (s, t, l) = (l == ([] : Str)) by rw [hm]; rfl)
          replace y0 : W6.cell? ⟨w2.heap.size, 0, none⟩ = some (.int .i64 2) := y0
          clear hm
          cases hle : (l == ([] : Str))
          · skip
            go_wp2_with fail
            have hB0 := HB6.out
            go_ret
            refine ⟨ret_bool (by rw [HM.out]; simp [*]), ?_⟩
            repeat (first | (with_reducible exact hB0) | (with_reducible refine Below.drew ?_) | (with_reducible refine Below.alloc ?_ ?zs _; case zs => first | omega | (simp <;> omega)) | (with_reducible refine Below.setCell ?_ ?zs _; case zs => first | omega | (simp <;> omega)))
          · skip
            go_wp2_with fail
            have hB0 := HB6.out
            go_ret
            refine ⟨ret_bool (by rw [HM.out]; simp [*]), ?_⟩
            repeat (first | (with_reducible exact hB0) | (with_reducible refine Below.drew ?_) | (with_reducible refine Below.alloc ?_ ?zs _; case zs => first | omega | (simp <;> omega)) | (with_reducible refine Below.setCell ?_ ?zs _; case zs => first | omega | (simp <;> omega)))
        · have HM := Lib.hid (show mayF (s, t, l) = (kindS l != 0) by rw [hm]; rfl)
          replace y0 : W6.cell? ⟨w2.heap.size, 0, none⟩ = some (.int .i64 3) := y0
          clear hm
          go_wp2_with fail
          have hB0 := HB6.out
          go_ret
          refine ⟨ret_bool (by rw [HM.out]; all_goals rw [hkpos]), ?_⟩
          repeat (first | (with_reducible exact hB0) | (with_reducible refine Below.drew ?_) | (with_reducible refine Below.alloc ?_ ?zs _; case zs => first | omega | (simp <;> omega)) | (with_reducible refine Below.setCell ?_ ?zs _; case zs => first | omega | (simp <;> omega)))
        · have HM := Lib.hid (show mayF (s, t, l) = (kindS l != 0) by rw [hm]; rfl)
          replace y0 : W6.cell? ⟨w2.heap.size, 0, none⟩ = some (.int .i64 4) := y0
          clear hm
          go_wp2_with fail
          have hB0 := HB6.out
          go_ret
          refine ⟨ret_bool (by rw [HM.out]; all_goals rw [hkpos]), ?_⟩
          repeat (first | (with_reducible exact hB0) | (with_reducible refine Below.drew ?_) | (with_reducible refine Below.alloc ?_ ?zs _; case zs => first | omega | (simp <;> omega)) | (with_reducible refine Below.setCell ?_ ?zs _; case zs => first | omega | (simp <;> omega)))
end Od
end Go.Proofs.YtgfdcmlmgeoimaaGreat
end
