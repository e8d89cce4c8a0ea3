/- My texts, joined for the claim: DSplitW. -/
import Derived.Test.YtgfdcmlmgeoimaaZB7
import Derived.Test.YtgfdcmlmgeoimaaZB6

section
/- The walk of disk.split. (bel2) -/
namespace Go.Proofs.Ytgfdcmlmgeoimaa
open Go.RowKit Go.Sort
set_option linter.unusedSimpArgs false
namespace Od
set_option maxRecDepth 100000 in
set_option maxHeartbeats 16000000 in
theorem split_any (s : Str) (w : World) (hl : s.length ≤ 140737488355328) : Calls Try.prog 24 #[sv s] w fun e w' => e = .returned (phB (splP s)) ∧ Below w.heap.size w w' := by
  have hsp : splP s = match cutR 47 s with
    | none => (ph0, false)
    | some (p, r) => if idxP p < 0 then (ph0, false) else
        match cutR 47 r with
        | none => ((idxP p, r, [], []), kindS r != 0)
        | some (h, f) => match foldS h with
          | none => (ph0, false)
          | some (k, u) => ((idxP p, u, foldE k, f), true) := rfl
  cases h1 : cutR 47 s with
  | none =>
    rw [h1] at hsp
    have HW := Lib.hid (show splP s = (ph0, false) from hsp)
    have hcut := slCut_none h1
    clear hsp
    go_enter Try.func24, Try.ntmps24
    go_wp2_with fail
    first | (refine wp_named ?_; intro W1 hW) | (refine calls_named ?_; intro W1 hW) | (refine exit_named ?_; intro W1 hW)
    have B1 : Below w.heap.size w W1 := by rw [hW]; exact (by repeat (first | exact Below.refl _ _ | assumption | refine Below.alloc ?_ (by first | omega | (simp <;> omega)) _ | refine Below.setCell ?_ (by first | omega | (simp <;> omega)) _ | refine Below.drew ?_))
    have n0 : w.heap.size < W1.heap.size := by rw [hW]; simp <;> omega
    have r0 : W1.cell? ⟨w.heap.size, 0, none⟩ = some (.int .i64 0) := by rw [hW]; go_simp
    have r1 : W1.cell? ⟨w.heap.size, 1, none⟩ = some (.string ⟨#[]⟩) := by rw [hW]; go_simp
    have r2 : W1.cell? ⟨w.heap.size, 2, none⟩ = some (.string ⟨#[]⟩) := by rw [hW]; go_simp
    have r3 : W1.cell? ⟨w.heap.size, 3, none⟩ = some (.string ⟨#[]⟩) := by rw [hW]; go_simp
    have z0 : W1.frozen? ⟨w.heap.size, 0, none⟩ = false := by rw [hW]; go_simp
    have z1 : W1.frozen? ⟨w.heap.size, 1, none⟩ = false := by rw [hW]; go_simp
    have z2 : W1.frozen? ⟨w.heap.size, 2, none⟩ = false := by rw [hW]; go_simp
    have z3 : W1.frozen? ⟨w.heap.size, 3, none⟩ = false := by rw [hW]; go_simp
    clear hW
    have HB1 := Lib.hid B1
    clear B1
    refine (Cut_sl s W1 hl).mono ?_
    rintro e w2 ⟨rfl, hb⟩
    rw [hcut]
    have HB2 := Lib.hid (lift HB1.out hb)
    replace r0 := cellAt r0 hb (by omega)
    replace r1 := cellAt r1 hb (by omega)
    replace r2 := cellAt r2 hb (by omega)
    replace r3 := cellAt r3 hb (by omega)
    replace z0 := froAt z0 hb (by omega)
    replace z1 := froAt z1 hb (by omega)
    replace z2 := froAt z2 hb (by omega)
    replace z3 := froAt z3 hb (by omega)
    replace n0 : w.heap.size < w2.heap.size := ltAt n0 hb
    clear hb
    go_wp2_with fail
    refine (Places_any w2).mono ?_
    rintro e w3 ⟨A, c, rfl, hcc, hrd, hb⟩
    have HB3 := Lib.hid (lift HB2.out hb)
    replace r0 := cellAt r0 hb (by omega)
    replace r1 := cellAt r1 hb (by omega)
    replace r2 := cellAt r2 hb (by omega)
    replace r3 := cellAt r3 hb (by omega)
    replace z0 := froAt z0 hb (by omega)
    replace z1 := froAt z1 hb (by omega)
    replace z2 := froAt z2 hb (by omega)
    replace z3 := froAt z3 hb (by omega)
    replace n0 : w.heap.size < w3.heap.size := ltAt n0 hb
    clear hb
    go_wp2_with fail
    refine (Index_places A c s w3 hrd).mono ?_
    rintro e w4 ⟨rfl, rfl⟩
    clear hrd
    have hn3 : w.heap.size < w3.heap.size := n0
    go_wp2_with fail
    have hB0 := HB3.out
    refine bodyPost_ret (v := .tuple #[.agg #[.int .i64 0, sv [], sv [], sv []], .bool false]) (by simp only [results, Try.results24]; go_simp) rfl ⟨by rw [HW.out] <;> rfl, ?_⟩
    repeat (first | (with_reducible exact hB0) | (with_reducible refine Below.drew ?_) | (with_reducible refine Below.alloc ?_ ?zs _; case zs => first | omega | (simp <;> omega)) | (with_reducible refine Below.setCell ?_ ?zs _; case zs => first | omega | (simp <;> omega)))
  | some q =>
    obtain ⟨p, r⟩ := q
    rw [h1] at hsp
    simp only at hsp
    have hcut := slCut_some h1
    have hrl : r.length ≤ 140737488355328 := by
      have h2 := congrArg List.length (cutR_some.1 h1).1
      rw [List.length_append, List.length_cons] at h2
      omega
    by_cases hp : idxP p < 0
    · have HW := Lib.hid (show splP s = (ph0, false) by rw [hsp, if_pos hp])
      have hd : decide (idxP p < 0) = true := decide_eq_true hp
      clear hp
      go_enter Try.func24, Try.ntmps24
      go_wp2_with fail
      first | (refine wp_named ?_; intro W1 hW) | (refine calls_named ?_; intro W1 hW) | (refine exit_named ?_; intro W1 hW)
      have B1 : Below w.heap.size w W1 := by rw [hW]; exact (by repeat (first | exact Below.refl _ _ | assumption | refine Below.alloc ?_ (by first | omega | (simp <;> omega)) _ | refine Below.setCell ?_ (by first | omega | (simp <;> omega)) _ | refine Below.drew ?_))
      have n0 : w.heap.size < W1.heap.size := by rw [hW]; simp <;> omega
      have r0 : W1.cell? ⟨w.heap.size, 0, none⟩ = some (.int .i64 0) := by rw [hW]; go_simp
      have r1 : W1.cell? ⟨w.heap.size, 1, none⟩ = some (.string ⟨#[]⟩) := by rw [hW]; go_simp
      have r2 : W1.cell? ⟨w.heap.size, 2, none⟩ = some (.string ⟨#[]⟩) := by rw [hW]; go_simp
      have r3 : W1.cell? ⟨w.heap.size, 3, none⟩ = some (.string ⟨#[]⟩) := by rw [hW]; go_simp
      have z0 : W1.frozen? ⟨w.heap.size, 0, none⟩ = false := by rw [hW]; go_simp
      have z1 : W1.frozen? ⟨w.heap.size, 1, none⟩ = false := by rw [hW]; go_simp
      have z2 : W1.frozen? ⟨w.heap.size, 2, none⟩ = false := by rw [hW]; go_simp
      have z3 : W1.frozen? ⟨w.heap.size, 3, none⟩ = false := by rw [hW]; go_simp
      clear hW
      have HB1 := Lib.hid B1
      clear B1
      refine (Cut_sl s W1 hl).mono ?_
      rintro e w2 ⟨rfl, hb⟩
      rw [hcut]
      have HB2 := Lib.hid (lift HB1.out hb)
      replace r0 := cellAt r0 hb (by omega)
      replace r1 := cellAt r1 hb (by omega)
      replace r2 := cellAt r2 hb (by omega)
      replace r3 := cellAt r3 hb (by omega)
      replace z0 := froAt z0 hb (by omega)
      replace z1 := froAt z1 hb (by omega)
      replace z2 := froAt z2 hb (by omega)
      replace z3 := froAt z3 hb (by omega)
      replace n0 : w.heap.size < w2.heap.size := ltAt n0 hb
      clear hb
      go_wp2_with fail
      refine (Places_any w2).mono ?_
      rintro e w3 ⟨A, c, rfl, hcc, hrd, hb⟩
      have HB3 := Lib.hid (lift HB2.out hb)
      replace r0 := cellAt r0 hb (by omega)
      replace r1 := cellAt r1 hb (by omega)
      replace r2 := cellAt r2 hb (by omega)
      replace r3 := cellAt r3 hb (by omega)
      replace z0 := froAt z0 hb (by omega)
      replace z1 := froAt z1 hb (by omega)
      replace z2 := froAt z2 hb (by omega)
      replace z3 := froAt z3 hb (by omega)
      replace n0 : w.heap.size < w3.heap.size := ltAt n0 hb
      clear hb
      go_wp2_with fail
      refine (Index_places A c p w3 hrd).mono ?_
      rintro e w4 ⟨rfl, rfl⟩
      clear hrd
      have hn3 : w.heap.size < w3.heap.size := n0
      go_wp2_with fail
      have hB0 := HB3.out
      refine bodyPost_ret (v := .tuple #[.agg #[.int .i64 0, sv [], sv [], sv []], .bool false]) (by simp only [results, Try.results24]; go_simp) rfl ⟨by rw [HW.out] <;> rfl, ?_⟩
      repeat (first | (with_reducible exact hB0) | (with_reducible refine Below.drew ?_) | (with_reducible refine Below.alloc ?_ ?zs _; case zs => first | omega | (simp <;> omega)) | (with_reducible refine Below.setCell ?_ ?zs _; case zs => first | omega | (simp <;> omega)))
    · have hd : decide (idxP p < 0) = false := decide_eq_false hp
      rw [if_neg hp] at hsp
      clear hp
      cases h2 : cutR 47 r with
      | none =>
        rw [h2] at hsp
        simp only at hsp
        have HW0 := Lib.hid hsp
        have hcut2 := slCut_none h2
        clear hsp
        go_enter Try.func24, Try.ntmps24
        go_wp2_with fail
        first | (refine wp_named ?_; intro W1 hW) | (refine calls_named ?_; intro W1 hW) | (refine exit_named ?_; intro W1 hW)
        have B1 : Below w.heap.size w W1 := by rw [hW]; exact (by repeat (first | exact Below.refl _ _ | assumption | refine Below.alloc ?_ (by first | omega | (simp <;> omega)) _ | refine Below.setCell ?_ (by first | omega | (simp <;> omega)) _ | refine Below.drew ?_))
        have n0 : w.heap.size < W1.heap.size := by rw [hW]; simp <;> omega
        have r0 : W1.cell? ⟨w.heap.size, 0, none⟩ = some (.int .i64 0) := by rw [hW]; go_simp
        have r1 : W1.cell? ⟨w.heap.size, 1, none⟩ = some (.string ⟨#[]⟩) := by rw [hW]; go_simp
        have r2 : W1.cell? ⟨w.heap.size, 2, none⟩ = some (.string ⟨#[]⟩) := by rw [hW]; go_simp
        have r3 : W1.cell? ⟨w.heap.size, 3, none⟩ = some (.string ⟨#[]⟩) := by rw [hW]; go_simp
        have z0 : W1.frozen? ⟨w.heap.size, 0, none⟩ = false := by rw [hW]; go_simp
        have z1 : W1.frozen? ⟨w.heap.size, 1, none⟩ = false := by rw [hW]; go_simp
        have z2 : W1.frozen? ⟨w.heap.size, 2, none⟩ = false := by rw [hW]; go_simp
        have z3 : W1.frozen? ⟨w.heap.size, 3, none⟩ = false := by rw [hW]; go_simp
        clear hW
        have HB1 := Lib.hid B1
        clear B1
        refine (Cut_sl s W1 hl).mono ?_
        rintro e w2 ⟨rfl, hb⟩
        rw [hcut]
        have HB2 := Lib.hid (lift HB1.out hb)
        replace r0 := cellAt r0 hb (by omega)
        replace r1 := cellAt r1 hb (by omega)
        replace r2 := cellAt r2 hb (by omega)
        replace r3 := cellAt r3 hb (by omega)
        replace z0 := froAt z0 hb (by omega)
        replace z1 := froAt z1 hb (by omega)
        replace z2 := froAt z2 hb (by omega)
        replace z3 := froAt z3 hb (by omega)
        replace n0 : w.heap.size < w2.heap.size := ltAt n0 hb
        clear hb
        go_wp2_with fail
        refine (Places_any w2).mono ?_
        rintro e w3 ⟨A, c, rfl, hcc, hrd, hb⟩
        have HB3 := Lib.hid (lift HB2.out hb)
        replace r0 := cellAt r0 hb (by omega)
        replace r1 := cellAt r1 hb (by omega)
        replace r2 := cellAt r2 hb (by omega)
        replace r3 := cellAt r3 hb (by omega)
        replace z0 := froAt z0 hb (by omega)
        replace z1 := froAt z1 hb (by omega)
        replace z2 := froAt z2 hb (by omega)
        replace z3 := froAt z3 hb (by omega)
        replace n0 : w.heap.size < w3.heap.size := ltAt n0 hb
        clear hb
        go_wp2_with fail
        refine (Index_places A c p w3 hrd).mono ?_
        rintro e w4 ⟨rfl, rfl⟩
        clear hrd
        have hn3 : w.heap.size < w3.heap.size := n0
        generalize idxP p = ip at *
        go_wp2_with fail
        first | (refine wp_named ?_; intro W5 hW) | (refine calls_named ?_; intro W5 hW) | (refine exit_named ?_; intro W5 hW)
        have B5 : Below w3.heap.size w3 W5 := by rw [hW]; exact (by repeat (first | exact Below.refl _ _ | assumption | refine Below.alloc ?_ (by first | omega | (simp <;> omega)) _ | refine Below.setCell ?_ (by first | omega | (simp <;> omega)) _ | refine Below.drew ?_))
        replace r0 := cellAt r0 B5 (by omega)
        replace r1 := cellAt r1 B5 (by omega)
        replace r2 := cellAt r2 B5 (by omega)
        replace r3 := cellAt r3 B5 (by omega)
        replace z0 := froAt z0 B5 (by omega)
        replace z1 := froAt z1 B5 (by omega)
        replace z2 := froAt z2 B5 (by omega)
        replace z3 := froAt z3 B5 (by omega)
        replace n0 : w.heap.size < W5.heap.size := ltAt n0 B5
        have m0 : w3.heap.size < W5.heap.size := by rw [hW]; simp <;> omega
        have y0 : W5.cell? ⟨w3.heap.size, 0, none⟩ = some (.int .i64 ip) := by rw [hW]; go_simp
        have y1 : W5.cell? ⟨w3.heap.size, 1, none⟩ = some (.string ⟨#[]⟩) := by rw [hW]; go_simp
        have y2 : W5.cell? ⟨w3.heap.size, 2, none⟩ = some (.string ⟨#[]⟩) := by rw [hW]; go_simp
        have y3 : W5.cell? ⟨w3.heap.size, 3, none⟩ = some (.string ⟨#[]⟩) := by rw [hW]; go_simp
        have q0 : W5.frozen? ⟨w3.heap.size, 0, none⟩ = false := by rw [hW]; go_simp
        have q1 : W5.frozen? ⟨w3.heap.size, 1, none⟩ = false := by rw [hW]; go_simp
        have q2 : W5.frozen? ⟨w3.heap.size, 2, none⟩ = false := by rw [hW]; go_simp
        have q3 : W5.frozen? ⟨w3.heap.size, 3, none⟩ = false := by rw [hW]; go_simp
        clear hW
        have HB5 := Lib.hid (lift HB3.out B5)
        have hqw : ¬ w.heap.size = w3.heap.size := by omega
        have hwq : ¬ w3.heap.size = w.heap.size := fun e => hqw e.symm
        have hlw : w.heap.size ≤ w3.heap.size := HB3.out.size
        clear B5
        refine (Cut_sl r W5 hrl).mono ?_
        rintro e w6 ⟨rfl, hb⟩
        rw [hcut2]
        replace r0 := cellAt r0 hb (by omega)
        replace r1 := cellAt r1 hb (by omega)
        replace r2 := cellAt r2 hb (by omega)
        replace r3 := cellAt r3 hb (by omega)
        replace z0 := froAt z0 hb (by omega)
        replace z1 := froAt z1 hb (by omega)
        replace z2 := froAt z2 hb (by omega)
        replace z3 := froAt z3 hb (by omega)
        replace y0 := cellAt y0 hb (by omega)
        replace y1 := cellAt y1 hb (by omega)
        replace y2 := cellAt y2 hb (by omega)
        replace y3 := cellAt y3 hb (by omega)
        replace q0 := froAt q0 hb (by omega)
        replace q1 := froAt q1 hb (by omega)
        replace q2 := froAt q2 hb (by omega)
        replace q3 := froAt q3 hb (by omega)
        replace n0 : w.heap.size < w6.heap.size := ltAt n0 hb
        replace m0 : w3.heap.size < w6.heap.size := ltAt m0 hb
        have HB6 := Lib.hid (lift HB5.out hb)
        have HWy6 := Lib.hid (show WyC w6 w3.heap.size ip [] [] [] from ⟨y0, y1, y2, y3, q0, q1, q2, q3⟩)
        clear hb
        go_upto_region 7 with fail
        obtain ⟨w7, hw7⟩ : ∃ x, x = (w6.setCell ⟨w3.heap.size, 1, none⟩ (sv r)).setCell ⟨w3.heap.size, 3, none⟩ (sv []) := ⟨_, rfl⟩
        rw [← hw7]
        have HWy7 := Lib.hid (show WyC w7 w3.heap.size ip r [] [] by rw [hw7]; exact (HWy6.out.set1 _).set3 _)
        have hk7 : Keeps (But w6 w3.heap.size) w6 w7 := by rw [hw7]; exact But.trans (But.set w6 w3.heap.size 1 _) (But.set _ w3.heap.size 3 _)
        have HB7 := Lib.hid (But.low HB6.out hk7 hlw)
        replace r0 := cellK r0 hk7 (by omega) hqw
        replace r1 := cellK r1 hk7 (by omega) hqw
        replace r2 := cellK r2 hk7 (by omega) hqw
        replace r3 := cellK r3 hk7 (by omega) hqw
        replace z0 := froK z0 hk7 (by omega) hqw
        replace z1 := froK z1 hk7 (by omega) hqw
        replace z2 := froK z2 hk7 (by omega) hqw
        replace z3 := froK z3 hk7 (by omega) hqw
        replace n0 := Nat.lt_of_lt_of_le n0 hk7.size
        replace m0 := Nat.lt_of_lt_of_le m0 hk7.size
        clear hk7 hw7 y0 y1 y2 y3 q0 q1 q2 q3 HWy6
        have HW := Lib.hid (show splP s = ((ip, r, [], []), kindS r != 0) from HW0.out)
        have y0 := HWy7.out.c0
        have y1 := HWy7.out.c1
        have y2 := HWy7.out.c2
        have y3 := HWy7.out.c3
        have hmr := fun W => May_any r W hrl
        generalize (kindS r != 0) = kb at *
        go_upto_region 8 with fail
        try go_wp2_with fail
        refine wp_region_held_drew (S := fun w' => Keeps (But w7 w.heap.size) w7 w') (by kernel_rfl) (But.below (Below.drew (Below.refl _ _))) (fun hHeld => ?_)
        have r0 : (w7.drew).cell? ⟨w.heap.size, 0, none⟩ = _ := r0
        have r1 : (w7.drew).cell? ⟨w.heap.size, 1, none⟩ = _ := r1
        have r2 : (w7.drew).cell? ⟨w.heap.size, 2, none⟩ = _ := r2
        have r3 : (w7.drew).cell? ⟨w.heap.size, 3, none⟩ = _ := r3
        have z0 : (w7.drew).frozen? ⟨w.heap.size, 0, none⟩ = _ := z0
        have z1 : (w7.drew).frozen? ⟨w.heap.size, 1, none⟩ = _ := z1
        have z2 : (w7.drew).frozen? ⟨w.heap.size, 2, none⟩ = _ := z2
        have z3 : (w7.drew).frozen? ⟨w.heap.size, 3, none⟩ = _ := z3
        have nv : w.heap.size < (w7.drew).heap.size := n0
        have HBv : Below w.heap.size w (w7.drew) := Below.drew HB7.out
        generalize w7.drew = v0 at *
        refine tY (i := 0) (v := ?_) rfl ?_ hHeld ?_; rotate_left 1; focus (intro w' hSw; have hCell := fun (b o : Nat) (h : b < w7.heap.size) (h2 : ¬ b = w.heap.size) => World.cell?_of_block (a := ⟨b, o, none⟩) (hSw.block b ⟨h, h2⟩); clear hSw; go_simp; try with_reducible rfl)
        (try simp only [Act.put, zn1, zn2, zn3])
        refine tY (i := 1) (v := ?_) rfl ?_ hHeld ?_; rotate_left 1; focus (intro w' hSw; clear hSw; go_simp; try with_reducible rfl)
        (try simp only [Act.put, zn1, zn2, zn3])
        refine ready_one (i := 2) rfl (by kernel_rfl) (fun K hK => ?_)
        go_simp
        refine (hmr _).mono ?_
        rintro e y2' ⟨rfl, hb⟩
        replace r0 := cellAt r0 hb nv
        replace r1 := cellAt r1 hb nv
        replace r2 := cellAt r2 hb nv
        replace r3 := cellAt r3 hb nv
        replace z0 := froAt z0 hb nv
        replace z1 := froAt z1 hb nv
        replace z2 := froAt z2 hb nv
        replace z3 := froAt z3 hb nv
        replace nv := Nat.lt_of_lt_of_le nv hb.size
        replace HBv := lift HBv hb
        refine hK.out _ _ ?_ (fun hHeld2 => ?_)
        · (try dsimp only); exact But.two hHeld hb
        clear hK K hHeld hb; have hHeld := hHeld2; clear hHeld2; (try simp only [Act.put, zn1, zn2, zn3])
        refine ready_one (i := 3) rfl (by kernel_rfl) (fun K hK => ?_)
        go_simp
        refine hK.out _ _ ?_ (fun hHeld2 => ?_)
        · (try dsimp only); repeat (first | (with_reducible exact hHeld) | (with_reducible refine But.trans ?_ (But.set _ _ _ _)) | (with_reducible refine But.two ?_ (below_new _ _)))
        clear hK K hHeld; have hHeld := hHeld2; clear hHeld2; (try simp only [Act.put, zn1, zn2, zn3])
        refine tY (i := 4) (v := ?_) rfl ?_ hHeld ?_; rotate_left 1; focus (intro w' hSw; clear hSw; go_simp; try with_reducible rfl)
        (try simp only [Act.put, zn1, zn2, zn3])
        refine wpAnyH_done (by kernel_rfl) ?_ _
        go_wp2_with fail
        have hB0 := HBv
        refine bodyPost_ret (v := phB ((ip, r, [], []), kb)) (by simp only [results, Try.results24]; go_simp) rfl ⟨by rw [HW.out] <;> rfl, ?_⟩
        repeat (first | (with_reducible exact hB0) | (with_reducible refine Below.drew ?_) | (with_reducible refine Below.alloc ?_ ?zs _; case zs => first | omega | (simp <;> omega)) | (with_reducible refine Below.setCell ?_ ?zs _; case zs => first | omega | (simp <;> omega)))
      | some q2 =>
        obtain ⟨h, f⟩ := q2
        rw [h2] at hsp
        simp only at hsp
        have HW0 := Lib.hid hsp
        have hcut2 := slCut_some h2
        have hhl : h.length ≤ 140737488355328 := by
          have h3 := congrArg List.length (cutR_some.1 h2).1
          rw [List.length_append, List.length_cons] at h3
          omega
        clear hsp
        go_enter Try.func24, Try.ntmps24
        go_wp2_with fail
        first | (refine wp_named ?_; intro W1 hW) | (refine calls_named ?_; intro W1 hW) | (refine exit_named ?_; intro W1 hW)
        have B1 : Below w.heap.size w W1 := by rw [hW]; exact (by repeat (first | exact Below.refl _ _ | assumption | refine Below.alloc ?_ (by first | omega | (simp <;> omega)) _ | refine Below.setCell ?_ (by first | omega | (simp <;> omega)) _ | refine Below.drew ?_))
        have n0 : w.heap.size < W1.heap.size := by rw [hW]; simp <;> omega
        have r0 : W1.cell? ⟨w.heap.size, 0, none⟩ = some (.int .i64 0) := by rw [hW]; go_simp
        have r1 : W1.cell? ⟨w.heap.size, 1, none⟩ = some (.string ⟨#[]⟩) := by rw [hW]; go_simp
        have r2 : W1.cell? ⟨w.heap.size, 2, none⟩ = some (.string ⟨#[]⟩) := by rw [hW]; go_simp
        have r3 : W1.cell? ⟨w.heap.size, 3, none⟩ = some (.string ⟨#[]⟩) := by rw [hW]; go_simp
        have z0 : W1.frozen? ⟨w.heap.size, 0, none⟩ = false := by rw [hW]; go_simp
        have z1 : W1.frozen? ⟨w.heap.size, 1, none⟩ = false := by rw [hW]; go_simp
        have z2 : W1.frozen? ⟨w.heap.size, 2, none⟩ = false := by rw [hW]; go_simp
        have z3 : W1.frozen? ⟨w.heap.size, 3, none⟩ = false := by rw [hW]; go_simp
        clear hW
        have HB1 := Lib.hid B1
        clear B1
        refine (Cut_sl s W1 hl).mono ?_
        rintro e w2 ⟨rfl, hb⟩
        rw [hcut]
        have HB2 := Lib.hid (lift HB1.out hb)
        replace r0 := cellAt r0 hb (by omega)
        replace r1 := cellAt r1 hb (by omega)
        replace r2 := cellAt r2 hb (by omega)
        replace r3 := cellAt r3 hb (by omega)
        replace z0 := froAt z0 hb (by omega)
        replace z1 := froAt z1 hb (by omega)
        replace z2 := froAt z2 hb (by omega)
        replace z3 := froAt z3 hb (by omega)
        replace n0 : w.heap.size < w2.heap.size := ltAt n0 hb
        clear hb
        go_wp2_with fail
        refine (Places_any w2).mono ?_
        rintro e w3 ⟨A, c, rfl, hcc, hrd, hb⟩
        have HB3 := Lib.hid (lift HB2.out hb)
        replace r0 := cellAt r0 hb (by omega)
        replace r1 := cellAt r1 hb (by omega)
        replace r2 := cellAt r2 hb (by omega)
        replace r3 := cellAt r3 hb (by omega)
        replace z0 := froAt z0 hb (by omega)
        replace z1 := froAt z1 hb (by omega)
        replace z2 := froAt z2 hb (by omega)
        replace z3 := froAt z3 hb (by omega)
        replace n0 : w.heap.size < w3.heap.size := ltAt n0 hb
        clear hb
        go_wp2_with fail
        refine (Index_places A c p w3 hrd).mono ?_
        rintro e w4 ⟨rfl, rfl⟩
        clear hrd
        have hn3 : w.heap.size < w3.heap.size := n0
        generalize idxP p = ip at *
        go_wp2_with fail
        first | (refine wp_named ?_; intro W5 hW) | (refine calls_named ?_; intro W5 hW) | (refine exit_named ?_; intro W5 hW)
        have B5 : Below w3.heap.size w3 W5 := by rw [hW]; exact (by repeat (first | exact Below.refl _ _ | assumption | refine Below.alloc ?_ (by first | omega | (simp <;> omega)) _ | refine Below.setCell ?_ (by first | omega | (simp <;> omega)) _ | refine Below.drew ?_))
        replace r0 := cellAt r0 B5 (by omega)
        replace r1 := cellAt r1 B5 (by omega)
        replace r2 := cellAt r2 B5 (by omega)
        replace r3 := cellAt r3 B5 (by omega)
        replace z0 := froAt z0 B5 (by omega)
        replace z1 := froAt z1 B5 (by omega)
        replace z2 := froAt z2 B5 (by omega)
        replace z3 := froAt z3 B5 (by omega)
        replace n0 : w.heap.size < W5.heap.size := ltAt n0 B5
        have m0 : w3.heap.size < W5.heap.size := by rw [hW]; simp <;> omega
        have y0 : W5.cell? ⟨w3.heap.size, 0, none⟩ = some (.int .i64 ip) := by rw [hW]; go_simp
        have y1 : W5.cell? ⟨w3.heap.size, 1, none⟩ = some (.string ⟨#[]⟩) := by rw [hW]; go_simp
        have y2 : W5.cell? ⟨w3.heap.size, 2, none⟩ = some (.string ⟨#[]⟩) := by rw [hW]; go_simp
        have y3 : W5.cell? ⟨w3.heap.size, 3, none⟩ = some (.string ⟨#[]⟩) := by rw [hW]; go_simp
        have q0 : W5.frozen? ⟨w3.heap.size, 0, none⟩ = false := by rw [hW]; go_simp
        have q1 : W5.frozen? ⟨w3.heap.size, 1, none⟩ = false := by rw [hW]; go_simp
        have q2 : W5.frozen? ⟨w3.heap.size, 2, none⟩ = false := by rw [hW]; go_simp
        have q3 : W5.frozen? ⟨w3.heap.size, 3, none⟩ = false := by rw [hW]; go_simp
        clear hW
        have HB5 := Lib.hid (lift HB3.out B5)
        have hqw : ¬ w.heap.size = w3.heap.size := by omega
        have hwq : ¬ w3.heap.size = w.heap.size := fun e => hqw e.symm
        have hlw : w.heap.size ≤ w3.heap.size := HB3.out.size
        clear B5
        refine (Cut_sl r W5 hrl).mono ?_
        rintro e w6 ⟨rfl, hb⟩
        rw [hcut2]
        replace r0 := cellAt r0 hb (by omega)
        replace r1 := cellAt r1 hb (by omega)
        replace r2 := cellAt r2 hb (by omega)
        replace r3 := cellAt r3 hb (by omega)
        replace z0 := froAt z0 hb (by omega)
        replace z1 := froAt z1 hb (by omega)
        replace z2 := froAt z2 hb (by omega)
        replace z3 := froAt z3 hb (by omega)
        replace y0 := cellAt y0 hb (by omega)
        replace y1 := cellAt y1 hb (by omega)
        replace y2 := cellAt y2 hb (by omega)
        replace y3 := cellAt y3 hb (by omega)
        replace q0 := froAt q0 hb (by omega)
        replace q1 := froAt q1 hb (by omega)
        replace q2 := froAt q2 hb (by omega)
        replace q3 := froAt q3 hb (by omega)
        replace n0 : w.heap.size < w6.heap.size := ltAt n0 hb
        replace m0 : w3.heap.size < w6.heap.size := ltAt m0 hb
        have HB6 := Lib.hid (lift HB5.out hb)
        have HWy6 := Lib.hid (show WyC w6 w3.heap.size ip [] [] [] from ⟨y0, y1, y2, y3, q0, q1, q2, q3⟩)
        clear hb
        go_upto_region 7 with fail
        obtain ⟨w7, hw7⟩ : ∃ x, x = (w6.setCell ⟨w3.heap.size, 1, none⟩ (sv h)).setCell ⟨w3.heap.size, 3, none⟩ (sv f) := ⟨_, rfl⟩
        rw [← hw7]
        have HWy7 := Lib.hid (show WyC w7 w3.heap.size ip h [] f by rw [hw7]; exact (HWy6.out.set1 _).set3 _)
        have hk7 : Keeps (But w6 w3.heap.size) w6 w7 := by rw [hw7]; exact But.trans (But.set w6 w3.heap.size 1 _) (But.set _ w3.heap.size 3 _)
        have HB7 := Lib.hid (But.low HB6.out hk7 hlw)
        replace r0 := cellK r0 hk7 (by omega) hqw
        replace r1 := cellK r1 hk7 (by omega) hqw
        replace r2 := cellK r2 hk7 (by omega) hqw
        replace r3 := cellK r3 hk7 (by omega) hqw
        replace z0 := froK z0 hk7 (by omega) hqw
        replace z1 := froK z1 hk7 (by omega) hqw
        replace z2 := froK z2 hk7 (by omega) hqw
        replace z3 := froK z3 hk7 (by omega) hqw
        replace n0 := Nat.lt_of_lt_of_le n0 hk7.size
        replace m0 := Nat.lt_of_lt_of_le m0 hk7.size
        clear hk7 hw7 y0 y1 y2 y3 q0 q1 q2 q3 HWy6
        go_wp2_with fail
        first | (refine wp_named ?_; intro W8 hW) | (refine calls_named ?_; intro W8 hW) | (refine exit_named ?_; intro W8 hW)
        have B8 : Below w7.heap.size w7 W8 := by rw [hW]; exact (by repeat (first | exact Below.refl _ _ | assumption | refine Below.alloc ?_ (by first | omega | (simp <;> omega)) _ | refine Below.setCell ?_ (by first | omega | (simp <;> omega)) _ | refine Below.drew ?_))
        replace r0 := cellAt r0 B8 (by omega)
        replace r1 := cellAt r1 B8 (by omega)
        replace r2 := cellAt r2 B8 (by omega)
        replace r3 := cellAt r3 B8 (by omega)
        replace z0 := froAt z0 B8 (by omega)
        replace z1 := froAt z1 B8 (by omega)
        replace z2 := froAt z2 B8 (by omega)
        replace z3 := froAt z3 B8 (by omega)
        replace HWy7 := Lib.hid (HWy7.out.on B8)
        replace n0 : w.heap.size < W8.heap.size := ltAt n0 B8
        replace m0 : w3.heap.size < W8.heap.size := ltAt m0 B8
        have m8 : w7.heap.size < W8.heap.size := by rw [hW]; simp <;> omega
        have e0 : W8.cell? ⟨w7.heap.size, 0, none⟩ = some (sv dropsS) := by rw [hW]; go_simp; rfl
        have e1 : W8.cell? ⟨w7.heap.size, 1, none⟩ = some (sv wantsS) := by rw [hW]; go_simp; rfl
        have e2 : W8.cell? ⟨w7.heap.size, 2, none⟩ = some (sv reqsS) := by rw [hW]; go_simp; rfl
        clear hW
        have HE : Hid (∀ j, j < 3 → W8.cell? ⟨w7.heap.size, j, none⟩ = some (sv (endE j))) := Lib.hid fun j hj => by
          have : j = 0 ∨ j = 1 ∨ j = 2 := by omega
          rcases this with rfl | rfl | rfl
          · exact e0
          · exact e1
          · exact e2
        have HB8 := Lib.hid (lift HB7.out B8)
        have hm88 : w7.heap.size < W8.heap.size := m8
        clear B8 e0 e1 e2
        go_loopw [50] (fun i wr => ∃ k : Nat, k ≤ 3 ∧ i = .int .i64 k ∧ Hid (∀ j, j < k → okU (endsW h (endE j)) = none) ∧ Hid (Below W8.heap.size W8 wr)) (fun i _ => 3 - (intOf i).toNat)
        case atStart => exact ⟨0, by omega, rfl, fun j h => absurd h (by omega), Below.refl _ _⟩
        case round =>
          obtain ⟨k, hk, rfl, HNo, HB⟩ := hrel
          obtain ⟨w9, rfl⟩ : ∃ wo : World, wo = wr := ⟨_, rfl⟩
          have hb9 := HB.out
          replace r0 := cellAt r0 hb9 (by omega)
          replace r1 := cellAt r1 hb9 (by omega)
          replace r2 := cellAt r2 hb9 (by omega)
          replace r3 := cellAt r3 hb9 (by omega)
          replace z0 := froAt z0 hb9 (by omega)
          replace z1 := froAt z1 hb9 (by omega)
          replace z2 := froAt z2 hb9 (by omega)
          replace z3 := froAt z3 hb9 (by omega)
          replace HWy7 := Lib.hid (HWy7.out.on hb9)
          replace n0 : w.heap.size < w9.heap.size := ltAt n0 hb9
          replace m0 : w3.heap.size < w9.heap.size := ltAt m0 hb9
          replace m8 : w7.heap.size < w9.heap.size := ltAt m8 hb9
          have HB9 := Lib.hid (lift HB8.out HB.out)
          by_cases hlt : k < 3
          · have eC := cellAt (HE.out k hlt) hb9 hm88
            have hz9 : w7.heap.size < w9.heap.size := m8
            have hel : (endE k).length ≤ 9 := by
              have : k = 0 ∨ k = 1 ∨ k = 2 := by omega
              rcases this with rfl | rfl | rfl <;> decide
            have i1 : (0 : Int) ≤ (k : Int) := by omega
            have i2 : (k : Int) < 3 := by omega
            have hdk : decide ((k : Int) < 3) = true := by rw [decide_eq_true_eq]; omega
            have hok := cutSx_ok h (endE k)
            have hle := cutSx_le h (endE k)
            have hcs := fun W => CutSuffix_any h (endE k) W hhl
            clear hb9
            cases he : okU (endsW h (endE k)) with
            | none =>
              rw [he] at hok
              have HNo2 : Hid (∀ j, j < k + 1 → okU (endsW h (endE j)) = none) := Lib.hid fun j hj => by
                rcases Nat.lt_or_eq_of_le (Nat.le_of_lt_succ hj) with h9 | h9
                · exact HNo.out j h9
                · rw [h9]; exact he
              generalize cutSx h (endE k) = q at *
              obtain ⟨u', b'⟩ := q
              simp only at hok hle
              generalize hEk : endE k = E at *
              clear he hEk
              go_wp2_with fail
              refine (hcs w9).mono ?_
              rintro e w10 ⟨rfl, rfl⟩
              unfold pairV
              simp only
              cases b'
              · go_wp2_with fail
                go_roundw
                case rel => exact ⟨k + 1, by omega, by go_num, HNo2, HB⟩
                case measure => simp [intOf]; omega
              · rw [Bool.true_and] at hok
                go_wp2_with fail
                refine (May_any u' w9 (by omega)).mono ?_
                rintro e w10 ⟨rfl, hb⟩
                rw [hok]
                have HBn := Lib.hid (lift HB.out hb)
                go_wp2_with fail
                go_roundw
                case rel => exact ⟨k + 1, by omega, by go_num, HNo2, HBn⟩
                case measure => simp [intOf]; omega
            | some u =>
              obtain ⟨hcu, hku⟩ := cutSx_some he
              have hkb : (kindS u != 0) = true := by simpa using hku
              have HW := Lib.hid (show splP s = ((ip, u, endE k, f), true) by rw [HW0.out, foldS_at hlt HNo.out he]; rfl)
              rw [hcu] at hcs hle
              simp only at hle
              generalize hEk : endE k = E at *
              clear he hEk hok hcu
              have y0 := HWy7.out.c0
              have y1 := HWy7.out.c1
              have y2 := HWy7.out.c2
              have y3 := HWy7.out.c3
              have q1 := HWy7.out.f1
              have q2 := HWy7.out.f2
              go_wp2_with fail
              refine (hcs w9).mono ?_
              rintro e w10 ⟨rfl, rfl⟩
              unfold pairV
              simp only
              go_wp2_with fail
              refine (May_any u w9 (by omega)).mono ?_
              rintro e w10 ⟨rfl, hb⟩
              rw [hkb]
              replace r0 := cellAt r0 hb (by omega)
              replace r1 := cellAt r1 hb (by omega)
              replace r2 := cellAt r2 hb (by omega)
              replace r3 := cellAt r3 hb (by omega)
              replace z0 := froAt z0 hb (by omega)
              replace z1 := froAt z1 hb (by omega)
              replace z2 := froAt z2 hb (by omega)
              replace z3 := froAt z3 hb (by omega)
              replace y0 := cellAt y0 hb (by omega)
              replace y1 := cellAt y1 hb (by omega)
              replace y2 := cellAt y2 hb (by omega)
              replace y3 := cellAt y3 hb (by omega)
              replace q1 := froAt q1 hb (by omega)
              replace q2 := froAt q2 hb (by omega)
              replace HWy7 := Lib.hid (HWy7.out.on hb)
              replace n0 : w.heap.size < w10.heap.size := ltAt n0 hb
              replace m0 : w3.heap.size < w10.heap.size := ltAt m0 hb
              replace m8 : w7.heap.size < w10.heap.size := ltAt m8 hb
              have HB10 := Lib.hid (lift HB9.out hb)
              clear hb HWy7 eC
              go_wp2_with fail
              have hB0 := HB10.out
              refine bodyPost_ret (v := phB ((ip, u, E, f), true)) (by simp only [results, Try.results24]; go_simp) rfl ⟨by rw [HW.out] <;> rfl, ?_⟩
              repeat (first | (with_reducible exact hB0) | (with_reducible refine Below.drew ?_) | (with_reducible refine Below.alloc ?_ ?zs _; case zs => first | omega | (simp <;> omega)) | (with_reducible refine Below.setCell ?_ ?zs _; case zs => first | omega | (simp <;> omega)))
          · obtain rfl : k = 3 := by omega
            have HW := Lib.hid (show splP s = (ph0, false) by rw [HW0.out, foldS_no HNo.out])
            go_wp2_with fail
            have hB0 := HB9.out
            refine bodyPost_ret (v := .tuple #[.agg #[.int .i64 0, sv [], sv [], sv []], .bool false]) (by simp only [results, Try.results24]; go_simp) rfl ⟨by rw [HW.out] <;> rfl, ?_⟩
            repeat (first | (with_reducible exact hB0) | (with_reducible refine Below.drew ?_) | (with_reducible refine Below.alloc ?_ ?zs _; case zs => first | omega | (simp <;> omega)) | (with_reducible refine Below.setCell ?_ ?zs _; case zs => first | omega | (simp <;> omega)))
end Od
end Go.Proofs.Ytgfdcmlmgeoimaa
end
