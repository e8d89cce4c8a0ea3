/- My texts, joined for the claim: DKeep DPath3 DFl DTree. -/
import Derived.Test.YtgfdcmlmgeoimaaGreatZB1
import Derived.Test.YtgfdcmlmgeoimaaGreatZB0
import Derived.Test.YtgfdcmlmgeoimaaGreatZB4
import Derived.Deep.RegionWith
import Derived.Deep.DeepCutAuto

section
/- One block turned, the others kept (parts of older texts). No program. -/
namespace Go.Proofs.YtgfdcmlmgeoimaaGreat
open Go.RowKit
set_option linter.unusedSimpArgs false
namespace Od
/-- What a call leaves as it was: the blocks of X. -/
structure Keeps (X : Nat → Prop) (w w' : World) : Prop where
  os : w'.os = w.os
  tape : w'.tape = w.tape
  output : w'.output = w.output
  size : w.heap.size ≤ w'.heap.size
  block : ∀ j, X j → w'.heap[j]? = w.heap[j]?
theorem Keeps.below {X : Nat → Prop} {w w' : World} (h : Keeps X w w') {B : Nat} (hB : ∀ j, j < B → X j) : Below B w w' := ⟨h.os, h.tape, h.output, h.size, fun j hj => h.block j (hB j hj)⟩
end Od
theorem grownBy_setCell (w : World) (p : Addr) (u : Value) : w.grownBy (w.setCell p u) (some p.block) :=
  ⟨rfl, rfl, rfl, by simp [World.setCell], fun k _ hne => Below.heap_setCell _ _ _ _ (fun e => hne (by rw [e]))⟩
theorem cell_kept {w w' : World} {b o : Nat} {v : Value} {row : Option Nat} (c : w.cell? ⟨b, o, none⟩ = some v) (hg : w.grownBy w' row) (hb : b < w.heap.size) (hne : row ≠ some b) : w'.cell? ⟨b, o, none⟩ = some v :=
  (World.cell?_of_block (a := ⟨b, o, none⟩) (hg.block b hb (fun e => hne e.symm))).trans c
theorem fro_kept {w w' : World} {b o : Nat} {row : Option Nat} (c : w.frozen? ⟨b, o, none⟩ = false) (hg : w.grownBy w' row) (hb : b < w.heap.size) (hne : row ≠ some b) : w'.frozen? ⟨b, o, none⟩ = false :=
  (World.frozen?_of_block (a := ⟨b, o, none⟩) (hg.block b hb (fun e => hne e.symm))).trans c
namespace Od
/-- All blocks but one. -/
def But (w : World) (md : Nat) (b : Nat) : Prop := b < w.heap.size ∧ b ≠ md
section
variable {w w' : World} {md : Nat}
theorem But.below (hb : Below w.heap.size w w') : Keeps (But w md) w w' := ⟨hb.os, hb.tape, hb.output, hb.size, fun j hj => hb.block j hj.1⟩
theorem But.trans {w'' : World} (h : Keeps (But w md) w w') (h' : Keeps (But w' md) w' w'') : Keeps (But w md) w w'' :=
  ⟨h'.os.trans h.os, h'.tape.trans h.tape, h'.output.trans h.output, Nat.le_trans h.size h'.size, fun j hj => (h'.block j ⟨Nat.lt_of_lt_of_le hj.1 h.size, hj.2⟩).trans (h.block j hj)⟩
theorem cellK {b o : Nat} {v : Value} (c : w.cell? ⟨b, o, none⟩ = some v) (hk : Keeps (But w md) w w') (h : b < w.heap.size) (hne : ¬ b = md) : w'.cell? ⟨b, o, none⟩ = some v := (World.cell?_of_block (a := ⟨b, o, none⟩) (hk.block b ⟨h, hne⟩)).trans c
theorem froK {b o : Nat} (c : w.frozen? ⟨b, o, none⟩ = false) (hk : Keeps (But w md) w w') (h : b < w.heap.size) (hne : ¬ b = md) : w'.frozen? ⟨b, o, none⟩ = false := (World.frozen?_of_block (a := ⟨b, o, none⟩) (hk.block b ⟨h, hne⟩)).trans c
theorem But.grown (hg : w.grownBy w' (some md)) : Keeps (But w md) w w' := ⟨hg.os, hg.tape, hg.output, hg.size, fun j hj => hg.block j hj.1 (fun e => hj.2 (by injection e))⟩
theorem But.two {w1 w2 : World} {mj : Nat} (h : Keeps (But w mj) w w1) (hb : Below w1.heap.size w1 w2) : Keeps (But w mj) w w2 := But.trans h (But.below hb)
theorem But.low {w0 w1 : World} (hb : Below w0.heap.size w0 w) (h : Keeps (But w md) w w1) (hm : w0.heap.size ≤ md) : Below w0.heap.size w0 w1 :=
  ⟨h.os.trans hb.os, h.tape.trans hb.tape, h.output.trans hb.output, Nat.le_trans hb.size h.size, fun j hj => (h.block j ⟨Nat.lt_of_lt_of_le hj hb.size, by omega⟩).trans (hb.block j hj)⟩
end
theorem But.set (w : World) (b o : Nat) (u : Value) : Keeps (But w b) w (w.setCell ⟨b, o, none⟩ u) := But.grown (grownBy_setCell w ⟨b, o, none⟩ u)
end Od
end Go.Proofs.YtgfdcmlmgeoimaaGreat
end

section
/- The walk of the reference's Path where there are three pieces; Path. (bel2) -/
namespace Go.Proofs.YtgfdcmlmgeoimaaGreat
open Go.RowKit Go.Sort
set_option linter.unusedSimpArgs false
namespace Od

set_option maxRecDepth 100000 in
set_option maxHeartbeats 16000000 in
theorem Path_three (s p h f : Str) (w : World) (hl : s.length ≤ 1099511627776) (hL : splitL 47 s = [p, h, f]) (hw : wayS s = if hasB placesL p = true then foldW p h f else way0) : Calls Tryz.prog 19 #[sv s] w fun e w' => e = .returned (wyV (wayS s)) ∧ Below w.heap.size w w' := by
  have hhl : h.length ≤ 140737488355328 := Nat.le_trans (splitL_le (c := 47) (s := s) (by rw [hL]; simp)) (by omega)
  have hfl : f.length ≤ 140737488355328 := Nat.le_trans (splitL_le (c := 47) (s := s) (by rw [hL]; simp)) (by omega)
  have HSp : Hid (∀ W, Calls Tryz.prog 39 #[sv s, .int .u8 47] W fun e w' => ∃ A c, e = .returned (.slice A 3 c) ∧ 3 ≤ c ∧ Rd w' w'.heap.size 1 A 3 [sv p, sv h, sv f] ∧ Below W.heap.size W w') := Lib.hid fun W => by
    have h := Split_any s W hl
    rw [hL] at h
    exact h.mono fun _ _ h => read_own h
  clear hL
  cases hp : hasB placesL p
  · have HW := Lib.hid (show wayS s = way0 by rw [hw, hp]; rfl)
    clear hw
    go_enter Tryz.func19, Tryz.ntmps19
    go_wp2_with fail
    first | (refine wp_named ?_; intro W1 hW) | (refine calls_named ?_; intro W1 hW) | (refine exit_named ?_; intro W1 hW)
    have B1 : Below w.heap.size w W1 := by rw [hW]; exact (by repeat (first | exact Below.refl _ _ | assumption | refine Below.alloc ?_ (by first | omega | (simp <;> omega)) _ | refine Below.setCell ?_ (by first | omega | (simp <;> omega)) _ | refine Below.drew ?_))
    have n0 : w.heap.size < W1.heap.size := by rw [hW]; simp <;> omega
    have r0 : W1.cell? ⟨w.heap.size, 0, none⟩ = some (.int .i64 0) := by rw [hW]; go_simp
    have r1 : W1.cell? ⟨w.heap.size, 1, none⟩ = some (.string ⟨#[]⟩) := by rw [hW]; go_simp
    have r2 : W1.cell? ⟨w.heap.size, 2, none⟩ = some (.string ⟨#[]⟩) := by rw [hW]; go_simp
    have r3 : W1.cell? ⟨w.heap.size, 3, none⟩ = some (.string ⟨#[]⟩) := by rw [hW]; go_simp
    have z0 : W1.frozen? ⟨w.heap.size, 0, none⟩ = false := by rw [hW]; go_simp
    have z1 : W1.frozen? ⟨w.heap.size, 1, none⟩ = false := by rw [hW]; go_simp
    have z2 : W1.frozen? ⟨w.heap.size, 2, none⟩ = false := by rw [hW]; go_simp
    have z3 : W1.frozen? ⟨w.heap.size, 3, none⟩ = false := by rw [hW]; go_simp
    clear hW
    have HB1 := Lib.hid B1
    clear B1
    refine (HSp.out W1).mono ?_
    rintro e w2 ⟨A, c, rfl, hcc, hrd, hb⟩
    have HB2 := Lib.hid (lift HB1.out hb)
    replace r0 := cellAt r0 hb (by omega)
    replace r1 := cellAt r1 hb (by omega)
    replace r2 := cellAt r2 hb (by omega)
    replace r3 := cellAt r3 hb (by omega)
    replace z0 := froAt z0 hb (by omega)
    replace z1 := froAt z1 hb (by omega)
    replace z2 := froAt z2 hb (by omega)
    replace z3 := froAt z3 hb (by omega)
    replace n0 : w.heap.size < w2.heap.size := ltAt n0 hb
    clear hb HSp
    obtain ⟨b, o, rfl, hB, hc⟩ := hrd.open (by decide)
    have x0 : w2.cell? ⟨b, o, none⟩ = some (sv p) := hc 0 (by decide)
    have x1 : w2.cell? ⟨b, o + 1, none⟩ = some (sv h) := hc 1 (by decide)
    have x2 : w2.cell? ⟨b, o + 2, none⟩ = some (sv f) := hc 2 (by decide)
    clear hc hrd
    go_upto_region 2 with fail
    try go_wp2_with fail
    refine wp_region_held_drew (S := fun w' => Below w2.heap.size w2 w') (by kernel_rfl) (Below.drew (Below.refl _ _)) (fun hHeld => ?_)
    refine tY (i := 0) (v := ?_) rfl ?_ hHeld ?_; rotate_left 1; focus (intro w' hSw; clear hSw; go_simp; try with_reducible rfl)
    (try simp only [Act.put, zn1, zn2, zn3])
    refine tY (i := 1) (v := ?_) rfl ?_ hHeld ?_; rotate_left 1; focus (intro w' hSw; clear hSw; go_simp; try with_reducible rfl)
    (try simp only [Act.put, zn1, zn2, zn3])
    refine tY (i := 2) (v := ?_) rfl ?_ hHeld ?_; rotate_left 1; focus (intro w' hSw; clear hSw; go_simp; try with_reducible rfl)
    (try simp only [Act.put, zn1, zn2, zn3])
    refine tY (i := 3) (v := ?_) rfl ?_ hHeld ?_; rotate_left 1; focus (intro w' hSw; clear hSw; go_simp; try with_reducible rfl)
    (try simp only [Act.put, zn1, zn2, zn3])
    refine tY (i := 4) (v := ?_) rfl ?_ hHeld ?_; rotate_left 1; focus (intro w' hSw; clear hSw; go_simp; try with_reducible rfl)
    (try simp only [Act.put, zn1, zn2, zn3])
    refine tY (i := 5) (v := ?_) rfl ?_ hHeld ?_; rotate_left 1; focus (intro w' hSw; clear hSw; go_simp; try with_reducible rfl)
    (try simp only [Act.put, zn1, zn2, zn3])
    refine tY (i := 6) (v := ?_) rfl ?_ hHeld ?_; rotate_left 1; focus (intro w' hSw; clear hSw; go_simp; try with_reducible rfl)
    (try simp only [Act.put, zn1, zn2, zn3])
    refine tY (i := 7) (v := ?_) rfl ?_ hHeld ?_; rotate_left 1; focus (intro w' hSw; clear hSw; go_simp; try with_reducible rfl)
    (try simp only [Act.put, zn1, zn2, zn3])
    refine tY (i := 8) (v := ?_) rfl ?_ hHeld ?_; rotate_left 1; focus (intro w' hSw; clear hSw; go_simp; try with_reducible rfl)
    (try simp only [Act.put, zn1, zn2, zn3])
    refine tY (i := 10) (v := ?_) rfl ?_ hHeld ?_; rotate_left 1; focus (intro w' hSw; clear hSw; go_simp; try with_reducible rfl)
    (try simp only [Act.put, zn1, zn2, zn3])
    refine tY (i := 11) (v := ?_) rfl ?_ hHeld ?_; rotate_left 1; focus (intro w' hSw; clear hSw; go_simp; try with_reducible rfl)
    (try simp only [Act.put, zn1, zn2, zn3])
    refine tY (i := 12) (v := ?_) rfl ?_ hHeld ?_; rotate_left 1; focus (intro w' hSw; have hCell := fun (b o : Nat) (h : b < w2.heap.size) => hSw.cell (p := ⟨b, o, none⟩) h; clear hSw; go_simp; try with_reducible rfl)
    (try simp only [Act.put, zn1, zn2, zn3])
    refine ready_one (i := 9) rfl (by kernel_rfl) (fun K hK => ?_)
    go_simp
    refine (places_any _).mono ?_
    rintro e y1 ⟨A1, c1, rfl, hc1, hr1, hb⟩
    have HR1 := Lib.hid hr1
    clear hr1
    refine hK.out _ _ ?_ (fun hHeld2 => ?_)
    · (try dsimp only); first | exact Below.trans hHeld (Below.mono hb hHeld.size) | exact hHeld | exact Below.drew hHeld | exact (by repeat (first | exact Below.refl _ _ | assumption | refine Below.alloc ?_ (by first | omega | (simp <;> omega)) _ | refine Below.setCell ?_ (by first | omega | (simp <;> omega)) _ | refine Below.drew ?_))
    clear hK K hHeld; have hHeld := hHeld2; clear hHeld2; (try simp only [Act.put, zn1, zn2, zn3])
    refine ready_one (i := 13) rfl (by kernel_rfl) (fun K hK => ?_)
    go_simp
    refine (HasS_any A1 c1 placesL p _ HR1.out (by decide)).mono ?_
    rintro e y2 ⟨rfl, rfl⟩
    rw [hp]
    clear HR1
    refine hK.out _ _ ?_ (fun hHeld2 => ?_)
    · (try dsimp only); first | exact Below.trans hHeld (Below.mono hb hHeld.size) | exact hHeld | exact Below.drew hHeld | exact (by repeat (first | exact Below.refl _ _ | assumption | refine Below.alloc ?_ (by first | omega | (simp <;> omega)) _ | refine Below.setCell ?_ (by first | omega | (simp <;> omega)) _ | refine Below.drew ?_))
    clear hK K hHeld; have hHeld := hHeld2; clear hHeld2; (try simp only [Act.put, zn1, zn2, zn3])
    refine tY (i := 14) (v := ?_) rfl ?_ hHeld ?_; rotate_left 1; focus (intro w' hSw; clear hSw; go_simp; try with_reducible rfl)
    (try simp only [Act.put, zn1, zn2, zn3])
    refine tY (i := 15) (v := ?_) rfl ?_ hHeld ?_; rotate_left 1; focus (intro w' hSw; clear hSw; go_simp; try with_reducible rfl)
    (try simp only [Act.put, zn1, zn2, zn3])
    refine wpAnyH_done (by kernel_rfl) ?_ _
    first | (refine wp_named ?_; intro W3 hW) | (refine calls_named ?_; intro W3 hW) | (refine exit_named ?_; intro W3 hW)
    have B3 : Below w2.heap.size w2 W3 := by rw [hW]; exact (by repeat (first | exact Below.refl _ _ | assumption | refine Below.alloc ?_ (by first | omega | (simp <;> omega)) _ | refine Below.setCell ?_ (by first | omega | (simp <;> omega)) _ | refine Below.drew ?_))
    replace r0 := cellAt r0 B3 (by omega)
    replace r1 := cellAt r1 B3 (by omega)
    replace r2 := cellAt r2 B3 (by omega)
    replace r3 := cellAt r3 B3 (by omega)
    replace z0 := froAt z0 B3 (by omega)
    replace z1 := froAt z1 B3 (by omega)
    replace z2 := froAt z2 B3 (by omega)
    replace z3 := froAt z3 B3 (by omega)
    replace x0 := cellAt x0 B3 (by omega)
    replace x1 := cellAt x1 B3 (by omega)
    replace x2 := cellAt x2 B3 (by omega)
    replace n0 : w.heap.size < W3.heap.size := ltAt n0 B3
    replace hB : b < W3.heap.size := ltAt hB B3
    clear hW
    have HB3 := Lib.hid (lift HB2.out B3)
    have hbw : ¬ b = W3.heap.size := by omega
    have hqw : ¬ w.heap.size = W3.heap.size := by omega
    have hwq : ¬ W3.heap.size = w.heap.size := by omega
    have hlw : w.heap.size ≤ W3.heap.size := by omega
    clear hHeld B3
    go_wp2_with fail
    have hB0 := HB3.out
    refine bodyPost_ret (v := .agg #[.int .i64 0, sv [], sv [], sv []]) (by simp only [results, Tryz.results19]; go_simp) rfl ⟨by rw [HW.out]; rfl, ?_⟩
    repeat (first | (with_reducible exact hB0) | (with_reducible refine Below.drew ?_) | (with_reducible refine Below.alloc ?_ ?zs _; case zs => first | omega | (simp <;> omega)) | (with_reducible refine Below.setCell ?_ ?zs _; case zs => first | omega | (simp <;> omega)))
  · rw [hp, if_pos rfl, ← stW_way p h f] at hw
    have HW0 := Lib.hid hw
    clear hw
    go_enter Tryz.func19, Tryz.ntmps19
    go_wp2_with fail
    first | (refine wp_named ?_; intro W1 hW) | (refine calls_named ?_; intro W1 hW) | (refine exit_named ?_; intro W1 hW)
    have B1 : Below w.heap.size w W1 := by rw [hW]; exact (by repeat (first | exact Below.refl _ _ | assumption | refine Below.alloc ?_ (by first | omega | (simp <;> omega)) _ | refine Below.setCell ?_ (by first | omega | (simp <;> omega)) _ | refine Below.drew ?_))
    have n0 : w.heap.size < W1.heap.size := by rw [hW]; simp <;> omega
    have r0 : W1.cell? ⟨w.heap.size, 0, none⟩ = some (.int .i64 0) := by rw [hW]; go_simp
    have r1 : W1.cell? ⟨w.heap.size, 1, none⟩ = some (.string ⟨#[]⟩) := by rw [hW]; go_simp
    have r2 : W1.cell? ⟨w.heap.size, 2, none⟩ = some (.string ⟨#[]⟩) := by rw [hW]; go_simp
    have r3 : W1.cell? ⟨w.heap.size, 3, none⟩ = some (.string ⟨#[]⟩) := by rw [hW]; go_simp
    have z0 : W1.frozen? ⟨w.heap.size, 0, none⟩ = false := by rw [hW]; go_simp
    have z1 : W1.frozen? ⟨w.heap.size, 1, none⟩ = false := by rw [hW]; go_simp
    have z2 : W1.frozen? ⟨w.heap.size, 2, none⟩ = false := by rw [hW]; go_simp
    have z3 : W1.frozen? ⟨w.heap.size, 3, none⟩ = false := by rw [hW]; go_simp
    clear hW
    have HB1 := Lib.hid B1
    clear B1
    refine (HSp.out W1).mono ?_
    rintro e w2 ⟨A, c, rfl, hcc, hrd, hb⟩
    have HB2 := Lib.hid (lift HB1.out hb)
    replace r0 := cellAt r0 hb (by omega)
    replace r1 := cellAt r1 hb (by omega)
    replace r2 := cellAt r2 hb (by omega)
    replace r3 := cellAt r3 hb (by omega)
    replace z0 := froAt z0 hb (by omega)
    replace z1 := froAt z1 hb (by omega)
    replace z2 := froAt z2 hb (by omega)
    replace z3 := froAt z3 hb (by omega)
    replace n0 : w.heap.size < w2.heap.size := ltAt n0 hb
    clear hb HSp
    obtain ⟨b, o, rfl, hB, hc⟩ := hrd.open (by decide)
    have x0 : w2.cell? ⟨b, o, none⟩ = some (sv p) := hc 0 (by decide)
    have x1 : w2.cell? ⟨b, o + 1, none⟩ = some (sv h) := hc 1 (by decide)
    have x2 : w2.cell? ⟨b, o + 2, none⟩ = some (sv f) := hc 2 (by decide)
    clear hc hrd
    go_upto_region 2 with fail
    try go_wp2_with fail
    refine wp_region_held_drew (S := fun w' => Below w2.heap.size w2 w') (by kernel_rfl) (Below.drew (Below.refl _ _)) (fun hHeld => ?_)
    refine tY (i := 0) (v := ?_) rfl ?_ hHeld ?_; rotate_left 1; focus (intro w' hSw; clear hSw; go_simp; try with_reducible rfl)
    (try simp only [Act.put, zn1, zn2, zn3])
    refine tY (i := 1) (v := ?_) rfl ?_ hHeld ?_; rotate_left 1; focus (intro w' hSw; clear hSw; go_simp; try with_reducible rfl)
    (try simp only [Act.put, zn1, zn2, zn3])
    refine tY (i := 2) (v := ?_) rfl ?_ hHeld ?_; rotate_left 1; focus (intro w' hSw; clear hSw; go_simp; try with_reducible rfl)
    (try simp only [Act.put, zn1, zn2, zn3])
    refine tY (i := 3) (v := ?_) rfl ?_ hHeld ?_; rotate_left 1; focus (intro w' hSw; clear hSw; go_simp; try with_reducible rfl)
    (try simp only [Act.put, zn1, zn2, zn3])
    refine tY (i := 4) (v := ?_) rfl ?_ hHeld ?_; rotate_left 1; focus (intro w' hSw; clear hSw; go_simp; try with_reducible rfl)
    (try simp only [Act.put, zn1, zn2, zn3])
    refine tY (i := 5) (v := ?_) rfl ?_ hHeld ?_; rotate_left 1; focus (intro w' hSw; clear hSw; go_simp; try with_reducible rfl)
    (try simp only [Act.put, zn1, zn2, zn3])
    refine tY (i := 6) (v := ?_) rfl ?_ hHeld ?_; rotate_left 1; focus (intro w' hSw; clear hSw; go_simp; try with_reducible rfl)
    (try simp only [Act.put, zn1, zn2, zn3])
    refine tY (i := 7) (v := ?_) rfl ?_ hHeld ?_; rotate_left 1; focus (intro w' hSw; clear hSw; go_simp; try with_reducible rfl)
    (try simp only [Act.put, zn1, zn2, zn3])
    refine tY (i := 8) (v := ?_) rfl ?_ hHeld ?_; rotate_left 1; focus (intro w' hSw; clear hSw; go_simp; try with_reducible rfl)
    (try simp only [Act.put, zn1, zn2, zn3])
    refine tY (i := 10) (v := ?_) rfl ?_ hHeld ?_; rotate_left 1; focus (intro w' hSw; clear hSw; go_simp; try with_reducible rfl)
    (try simp only [Act.put, zn1, zn2, zn3])
    refine tY (i := 11) (v := ?_) rfl ?_ hHeld ?_; rotate_left 1; focus (intro w' hSw; clear hSw; go_simp; try with_reducible rfl)
    (try simp only [Act.put, zn1, zn2, zn3])
    refine tY (i := 12) (v := ?_) rfl ?_ hHeld ?_; rotate_left 1; focus (intro w' hSw; have hCell := fun (b o : Nat) (h : b < w2.heap.size) => hSw.cell (p := ⟨b, o, none⟩) h; clear hSw; go_simp; try with_reducible rfl)
    (try simp only [Act.put, zn1, zn2, zn3])
    refine ready_one (i := 9) rfl (by kernel_rfl) (fun K hK => ?_)
    go_simp
    refine (places_any _).mono ?_
    rintro e y1 ⟨A1, c1, rfl, hc1, hr1, hb⟩
    have HR1 := Lib.hid hr1
    clear hr1
    refine hK.out _ _ ?_ (fun hHeld2 => ?_)
    · (try dsimp only); first | exact Below.trans hHeld (Below.mono hb hHeld.size) | exact hHeld | exact Below.drew hHeld | exact (by repeat (first | exact Below.refl _ _ | assumption | refine Below.alloc ?_ (by first | omega | (simp <;> omega)) _ | refine Below.setCell ?_ (by first | omega | (simp <;> omega)) _ | refine Below.drew ?_))
    clear hK K hHeld; have hHeld := hHeld2; clear hHeld2; (try simp only [Act.put, zn1, zn2, zn3])
    refine ready_one (i := 13) rfl (by kernel_rfl) (fun K hK => ?_)
    go_simp
    refine (HasS_any A1 c1 placesL p _ HR1.out (by decide)).mono ?_
    rintro e y2 ⟨rfl, rfl⟩
    rw [hp]
    clear HR1
    refine hK.out _ _ ?_ (fun hHeld2 => ?_)
    · (try dsimp only); first | exact Below.trans hHeld (Below.mono hb hHeld.size) | exact hHeld | exact Below.drew hHeld | exact (by repeat (first | exact Below.refl _ _ | assumption | refine Below.alloc ?_ (by first | omega | (simp <;> omega)) _ | refine Below.setCell ?_ (by first | omega | (simp <;> omega)) _ | refine Below.drew ?_))
    clear hK K hHeld; have hHeld := hHeld2; clear hHeld2; (try simp only [Act.put, zn1, zn2, zn3])
    refine tY (i := 14) (v := ?_) rfl ?_ hHeld ?_; rotate_left 1; focus (intro w' hSw; clear hSw; go_simp; try with_reducible rfl)
    (try simp only [Act.put, zn1, zn2, zn3])
    refine tY (i := 15) (v := ?_) rfl ?_ hHeld ?_; rotate_left 1; focus (intro w' hSw; clear hSw; go_simp; try with_reducible rfl)
    (try simp only [Act.put, zn1, zn2, zn3])
    refine wpAnyH_done (by kernel_rfl) ?_ _
    first | (refine wp_named ?_; intro W3 hW) | (refine calls_named ?_; intro W3 hW) | (refine exit_named ?_; intro W3 hW)
    have B3 : Below w2.heap.size w2 W3 := by rw [hW]; exact (by repeat (first | exact Below.refl _ _ | assumption | refine Below.alloc ?_ (by first | omega | (simp <;> omega)) _ | refine Below.setCell ?_ (by first | omega | (simp <;> omega)) _ | refine Below.drew ?_))
    replace r0 := cellAt r0 B3 (by omega)
    replace r1 := cellAt r1 B3 (by omega)
    replace r2 := cellAt r2 B3 (by omega)
    replace r3 := cellAt r3 B3 (by omega)
    replace z0 := froAt z0 B3 (by omega)
    replace z1 := froAt z1 B3 (by omega)
    replace z2 := froAt z2 B3 (by omega)
    replace z3 := froAt z3 B3 (by omega)
    replace x0 := cellAt x0 B3 (by omega)
    replace x1 := cellAt x1 B3 (by omega)
    replace x2 := cellAt x2 B3 (by omega)
    replace n0 : w.heap.size < W3.heap.size := ltAt n0 B3
    replace hB : b < W3.heap.size := ltAt hB B3
    clear hW
    have HB3 := Lib.hid (lift HB2.out B3)
    have hbw : ¬ b = W3.heap.size := by omega
    have hqw : ¬ w.heap.size = W3.heap.size := by omega
    have hwq : ¬ W3.heap.size = w.heap.size := by omega
    have hlw : w.heap.size ≤ W3.heap.size := by omega
    clear hHeld B3
    go_wp2_with fail
    first | (refine wp_named ?_; intro W5 hW) | (refine calls_named ?_; intro W5 hW) | (refine exit_named ?_; intro W5 hW)
    have B5 : Below W3.heap.size W3 W5 := by rw [hW]; exact (by repeat (first | exact Below.refl _ _ | assumption | refine Below.alloc ?_ (by first | omega | (simp <;> omega)) _ | refine Below.setCell ?_ (by first | omega | (simp <;> omega)) _ | refine Below.drew ?_))
    replace r0 := cellAt r0 B5 (by omega)
    replace r1 := cellAt r1 B5 (by omega)
    replace r2 := cellAt r2 B5 (by omega)
    replace r3 := cellAt r3 B5 (by omega)
    replace z0 := froAt z0 B5 (by omega)
    replace z1 := froAt z1 B5 (by omega)
    replace z2 := froAt z2 B5 (by omega)
    replace z3 := froAt z3 B5 (by omega)
    replace x0 := cellAt x0 B5 (by omega)
    replace x1 := cellAt x1 B5 (by omega)
    replace x2 := cellAt x2 B5 (by omega)
    replace n0 : w.heap.size < W5.heap.size := ltAt n0 B5
    replace hB : b < W5.heap.size := ltAt hB B5
    have m1 : (W3.heap.size + 1) < W5.heap.size := by rw [hW]; simp <;> omega
    have y0 : W5.cell? ⟨W3.heap.size, 0, none⟩ = some (.int .i64 0) := by rw [hW]; go_simp
    have y1 : W5.cell? ⟨W3.heap.size, 1, none⟩ = some (sv p) := by rw [hW]; go_simp
    have y2 : W5.cell? ⟨W3.heap.size, 2, none⟩ = some (.string ⟨#[]⟩) := by rw [hW]; go_simp
    have y3 : W5.cell? ⟨W3.heap.size, 3, none⟩ = some (.string ⟨#[]⟩) := by rw [hW]; go_simp
    have q0 : W5.frozen? ⟨W3.heap.size, 0, none⟩ = false := by rw [hW]; go_simp
    have q1 : W5.frozen? ⟨W3.heap.size, 1, none⟩ = false := by rw [hW]; go_simp
    have q2 : W5.frozen? ⟨W3.heap.size, 2, none⟩ = false := by rw [hW]; go_simp
    have q3 : W5.frozen? ⟨W3.heap.size, 3, none⟩ = false := by rw [hW]; go_simp
    have e0 : W5.cell? ⟨W3.heap.size + 1, 0, none⟩ = some (sv dropsS) := by rw [hW]; go_simp; rfl
    have e1 : W5.cell? ⟨W3.heap.size + 1, 1, none⟩ = some (sv wantsS) := by rw [hW]; go_simp; rfl
    have e2 : W5.cell? ⟨W3.heap.size + 1, 2, none⟩ = some (sv reqsS) := by rw [hW]; go_simp; rfl
    clear hW
    have HWy := Lib.hid (show WyC W5 W3.heap.size 0 p [] [] from ⟨y0, y1, y2, y3, q0, q1, q2, q3⟩)
    have HE : Hid (∀ j, j < 3 → W5.cell? ⟨W3.heap.size + 1, j, none⟩ = some (sv (endE j))) := Lib.hid fun j hj => by
      have : j = 0 ∨ j = 1 ∨ j = 2 := by omega
      rcases this with rfl | rfl | rfl
      · exact e0
      · exact e1
      · exact e2
    have HB5 := Lib.hid (lift HB3.out B5)
    clear B5 y0 y1 y2 y3 q0 q1 q2 q3 e0 e1 e2
    go_loopw [51] (fun i wr => ∃ k : Nat, k ≤ 3 ∧ i = .int .i64 k ∧ Hid (WyC wr W3.heap.size (stW h f k).1 p (stW h f k).2.1 (stW h f k).2.2) ∧ Hid (Keeps (But W5 W3.heap.size) W5 wr)) (fun i _ => 3 - (intOf i).toNat)
    case atStart => exact ⟨0, by omega, rfl, HWy, But.below (Below.refl _ _)⟩
    case round =>
      obtain ⟨k, hk, rfl, HWy, HK⟩ := hrel
      obtain ⟨w6, rfl⟩ : ∃ wo : World, wo = wr := ⟨_, rfl⟩
      have hlw5 : w.heap.size ≤ W3.heap.size := hlw
      by_cases hlt : k < 3
      · have eC := cellK (HE.out k hlt) HK.out (by omega) (by omega)
        have xC1 := cellK x1 HK.out (by omega) (by omega)
        have xC2 := cellK x2 HK.out (by omega) (by omega)
        have hm6 := Nat.lt_of_lt_of_le m1 HK.out.size
        have hb66 := Nat.lt_of_lt_of_le hB HK.out.size
        have hel : (endE k).length ≤ 9 := by
          have : k = 0 ∨ k = 1 ∨ k = 2 := by omega
          rcases this with rfl | rfl | rfl <;> decide
        have hst : stW h f (k + 1) = stepW h f k (stW h f k) := rfl
        generalize stW h f k = st at *
        obtain ⟨ka, ua, oa⟩ := st
        simp only at HWy
        have i1 : (0 : Int) ≤ (k : Int) := by omega
        have i2 : (k : Int) < 3 := by omega
        have hdk : decide ((k : Int) < 3) = true := by rw [decide_eq_true_eq]; omega
        have hew := endsV_eq h (endE k)
        clear r0 r1 r2 r3 z0 z1 z2 z3 x0 x1 x2
        generalize hEk : endE k = E at *
        go_wp2_with fail
        refine (ends12_any h E w6 hhl (by omega)).mono ?_
        rintro e w7 ⟨rfl, hb7⟩
        rw [hew]
        clear hew
        cases he : endsW h E with
        | none =>
          simp only [Option.getD_none, Option.isSome_none]
          have HSt := Lib.hid (show stW h f (k + 1) = (ka, ua, oa) by rw [hst]; exact stepW_none (by rw [hEk, he]; rfl))
          clear hst
          go_wp2_with fail
          go_roundw
          case rel => exact ⟨k + 1, by omega, by go_num, by rw [HSt.out]; exact HWy.out.on hb7, But.two HK.out hb7⟩
          case measure => simp [intOf]; omega
        | some u =>
          simp only [Option.getD_some, Option.isSome_some]
          have hul : u.length ≤ 140737488355328 := by
            have h1 := congrArg List.length (endsW_some.1 he).1
            rw [List.length_append] at h1
            omega
          by_cases hk0 : kindS u = 0
          · have hkb : (kindS u != 0) = false := by simp [hk0]
            go_wp2_with fail
            refine (May1_any u w7 hul).mono ?_
            rintro e w8 ⟨rfl, hb8⟩
            rw [hkb]
            replace hb7 := lift hb7 hb8
            clear hkb
            have HSt := Lib.hid (show stW h f (k + 1) = (ka, ua, oa) by rw [hst]; exact stepW_none (by rw [hEk, he]; unfold okU; simp [hk0]))
            clear hst
            go_wp2_with fail
            go_roundw
            case rel => exact ⟨k + 1, by omega, by go_num, by rw [HSt.out]; exact HWy.out.on hb7, But.two HK.out hb7⟩
            case measure => simp [intOf]; omega
          · have hkb : (kindS u != 0) = true := by simpa using hk0
            have hok : okU (endsW h (endE k)) = some u := by rw [hEk, he]; unfold okU; simp [hk0]
            clear he hEk
            go_wp2_with fail
            refine (May1_any u w7 hul).mono ?_
            rintro e w8 ⟨rfl, hb8⟩
            rw [hkb]
            replace hb7 := lift hb7 hb8
            have HWy8 := Lib.hid (HWy.out.on hb7)
            have HK8 := Lib.hid (But.two HK.out hb7)
            have y2 := HWy8.out.c2
            have q2 := HWy8.out.f2
            have xD2 := cellAt xC2 hb7 hb66
            have hm8 := HWy8.out.lt
            have hb88 := Nat.lt_of_lt_of_le hb66 hb7.size
            clear hb8 hb7 hkb eC xC1 xC2 HWy HK
            go_wp2_with fail
            obtain ⟨w9, hw9⟩ : ∃ x, x = w8.setCell ⟨W3.heap.size, 2, none⟩ (sv u) := ⟨_, rfl⟩
            rw [← hw9]
            have HWy9 := Lib.hid (show WyC w9 W3.heap.size ka p u oa by rw [hw9]; exact HWy8.out.set2 u)
            have HK9 := Lib.hid (show Keeps (But W5 W3.heap.size) W5 w9 by rw [hw9]; exact But.trans HK8.out (But.set w8 W3.heap.size 2 _))
            have xE2 : w9.cell? ⟨b, o + 2, none⟩ = some (sv f) := by rw [hw9]; exact cellK xD2 (But.set w8 W3.heap.size 2 _) hb88 hbw
            have hb99 : b < w9.heap.size := by rw [hw9]; simpa using hb88
            clear y2 q2 xD2 hw9 HWy8 HK8 hm8 hb88
            refine (ends12_any f confS w9 hfl (by decide)).mono ?_
            rintro e w10 ⟨rfl, hb10⟩
            rw [endsV_eq]
            have HWy10 := Lib.hid (HWy9.out.on hb10)
            have HK10 := Lib.hid (But.two HK9.out hb10)
            have xF2 := cellAt xE2 hb10 hb99
            have hb100 := Nat.lt_of_lt_of_le hb99 hb10.size
            have y0 := HWy10.out.c0
            have y3 := HWy10.out.c3
            have q0 := HWy10.out.f0
            have q3 := HWy10.out.f3
            have hm10 := HWy10.out.lt
            clear hb10 xE2 HWy9 HK9 hb99
            by_cases hk1 : k = 0
            · have hke : ((k : Int) == 0) = true := by rw [beq_iff_eq]; omega
              have hke2 : (k == 0) = true := by rw [beq_iff_eq]; exact hk1
              have hkp : decide ((0 : Int) < (k : Int)) = false := by rw [decide_eq_false_iff_not]; omega
              have hkp2 : decide (0 < k) = false := by rw [decide_eq_false_iff_not]; omega
              have HK1 := Lib.hid hk1
              clear hk1
              cases hx : endsW f confS with
              | none =>
                simp only [Option.getD_none, Option.isSome_none]
                have HSt := Lib.hid (show stW h f (k + 1) = (ka, u, oa) by rw [hst]; unfold stepW; rw [hok]; simp [HK1.out, hx])
                clear hst
                go_wp2_with fail
                go_roundw
                case rel => exact ⟨k + 1, by omega, by go_num, by rw [HSt.out]; exact HWy10.out, HK10.out⟩
                case measure => simp [intOf]; omega
              | some x =>
                simp only [Option.getD_some, Option.isSome_some]
                have hxl : x.length ≤ 140737488355328 := by
                  have h1 := congrArg List.length (endsW_some.1 hx).1
                  rw [List.length_append] at h1
                  omega
                cases hd : dropN x
                · go_wp2_with fail
                  refine (dropName_any x w10 hxl).mono ?_
                  rintro e w11 ⟨rfl, rfl⟩
                  rw [hd]
                  have HSt := Lib.hid (show stW h f (k + 1) = (ka, u, oa) by rw [hst]; unfold stepW; rw [hok]; simp [HK1.out, hx, hd])
                  clear hst
                  go_wp2_with fail
                  go_roundw
                  case rel => exact ⟨k + 1, by omega, by go_num, by rw [HSt.out]; exact HWy10.out, HK10.out⟩
                  case measure => simp [intOf]; omega
                · go_wp2_with fail
                  refine (dropName_any x w10 hxl).mono ?_
                  rintro e w11 ⟨rfl, rfl⟩
                  rw [hd]
                  have HSt := Lib.hid (show stW h f (k + 1) = (2, u, x) by rw [hst]; unfold stepW; rw [hok]; simp [HK1.out, hx, hd])
                  clear hst
                  go_wp2_with fail
                  go_roundw
                  case rel => exact ⟨k + 1, by omega, by go_num, by rw [HSt.out]; exact (HWy10.out.set0 2).set3 x, But.trans (But.trans HK10.out (But.set w10 W3.heap.size 0 _)) (But.set _ W3.heap.size 3 _)⟩
                  case measure => simp [intOf]; omega
            · have hke : ((k : Int) == 0) = false := by rw [beq_eq_false_iff_ne]; omega
              have hke2 : (k == 0) = false := by rw [beq_eq_false_iff_ne]; exact hk1
              have hkp : decide ((0 : Int) < (k : Int)) = true := by rw [decide_eq_true_eq]; omega
              have hkp2 : decide (0 < k) = true := by rw [decide_eq_true_eq]; omega
              have hw2 : IntKind.i64.wrap ((k : Int) + 2) = (k : Int) + 2 := IntWalk.i64_in _ (by omega)
              generalize (endsW f confS).getD [] = x0
              generalize (endsW f confS).isSome = is0
              cases hkf : (kindS f != 0)
              · go_wp2_with fail
                refine (May1_any f w10 hfl).mono ?_
                rintro e w11 ⟨rfl, hb11⟩
                rw [hkf]
                have HSt := Lib.hid (show stW h f (k + 1) = (ka, u, oa) by rw [hst]; unfold stepW; rw [hok]; simp [hk1, hkf])
                clear hst
                go_wp2_with fail
                go_roundw
                case rel => exact ⟨k + 1, by omega, by go_num, by rw [HSt.out]; exact HWy10.out.on hb11, But.two HK10.out hb11⟩
                case measure => simp [intOf]; omega
              · cases htf : tmplS f
                · go_wp2_with fail
                  refine (May1_any f w10 hfl).mono ?_
                  rintro e w11 ⟨rfl, hb11⟩
                  rw [hkf]
                  have xG2 := cellAt xF2 hb11 hb100
                  have hb110 := Nat.lt_of_lt_of_le hb100 hb11.size
                  go_wp2_with fail
                  refine (IsTemplate_any f w11 hfl).mono ?_
                  rintro e w12 ⟨rfl, hb12⟩
                  rw [htf]
                  replace hb12 := lift hb11 hb12
                  have HWy12 := Lib.hid (HWy10.out.on hb12)
                  have HK12 := Lib.hid (But.two HK10.out hb12)
                  replace xF2 := cellAt xF2 hb12 hb100
                  replace hb100 := Nat.lt_of_lt_of_le hb100 hb12.size
                  clear y0 y3 q0 q3 hm10 xG2 hb110 hb11 hb12
                  have y0 := HWy12.out.c0
                  have y3 := HWy12.out.c3
                  have q0 := HWy12.out.f0
                  have q3 := HWy12.out.f3
                  have hm10 := HWy12.out.lt
                  have HSt := Lib.hid (show stW h f (k + 1) = (k + 2, u, f) by rw [hst]; unfold stepW; rw [hok]; simp only [hk1, if_false, hkf, htf]; rfl)
                  clear hst
                  go_wp2_with fail
                  go_region
                  go_wp2_with fail
                  go_roundw
                  case rel => exact ⟨k + 1, by omega, by go_num, by rw [HSt.out]; show WyC _ _ ((k + 2 : Nat) : Int) p u f; rw [show ((k + 2 : Nat) : Int) = (k : Int) + 2 by omega]; exact ((HWy12.out.set0 _).set3 f).on (Below.drew (Below.refl _ _)), But.two (But.trans (But.trans HK12.out (But.set w12 W3.heap.size 0 _)) (But.set _ W3.heap.size 3 _)) (Below.drew (Below.refl _ _))⟩
                  case measure => simp [intOf]; omega
                · go_wp2_with fail
                  refine (May1_any f w10 hfl).mono ?_
                  rintro e w11 ⟨rfl, hb11⟩
                  rw [hkf]
                  have xG2 := cellAt xF2 hb11 hb100
                  have hb110 := Nat.lt_of_lt_of_le hb100 hb11.size
                  go_wp2_with fail
                  refine (IsTemplate_any f w11 hfl).mono ?_
                  rintro e w12 ⟨rfl, hb12⟩
                  rw [htf]
                  have HSt := Lib.hid (show stW h f (k + 1) = (ka, u, oa) by rw [hst]; unfold stepW; rw [hok]; simp [hk1, htf])
                  clear hst
                  go_wp2_with fail
                  go_roundw
                  case rel => exact ⟨k + 1, by omega, by go_num, by rw [HSt.out]; exact HWy10.out.on (lift hb11 hb12), But.two HK10.out (lift hb11 hb12)⟩
                  case measure => simp [intOf]; omega
      · obtain rfl : k = 3 := by omega
        have HB6 := Lib.hid (But.low HB5.out HK.out hlw)
        replace r0 := cellK r0 HK.out (by omega) (by omega)
        replace r1 := cellK r1 HK.out (by omega) (by omega)
        replace r2 := cellK r2 HK.out (by omega) (by omega)
        replace r3 := cellK r3 HK.out (by omega) (by omega)
        replace z0 := froK z0 HK.out (by omega) (by omega)
        replace z1 := froK z1 HK.out (by omega) (by omega)
        replace z2 := froK z2 HK.out (by omega) (by omega)
        replace z3 := froK z3 HK.out (by omega) (by omega)
        replace n0 := Nat.lt_of_lt_of_le n0 HK.out.size
        clear x0 x1 x2
        generalize stW h f 3 = st at *
        obtain ⟨ka, ua, oa⟩ := st
        simp only at HWy HW0
        have y0 := HWy.out.c0
        have y1 := HWy.out.c1
        have y2 := HWy.out.c2
        have y3 := HWy.out.c3
        have hm6 := HWy.out.lt
        by_cases hka : ka = 0
        · subst hka
          have HW := Lib.hid (show wayS s = way0 by rw [HW0.out, if_pos rfl])
          go_wp2_with fail
          have hB0 := HB6.out
          refine bodyPost_ret (v := .agg #[.int .i64 0, sv [], sv [], sv []]) (by simp only [results, Tryz.results19]; go_simp) rfl ⟨by rw [HW.out]; rfl, ?_⟩
          repeat (first | (with_reducible exact hB0) | (with_reducible refine Below.drew ?_) | (with_reducible refine Below.alloc ?_ ?zs _; case zs => first | omega | (simp <;> omega)) | (with_reducible refine Below.setCell ?_ ?zs _; case zs => first | omega | (simp <;> omega)))
        · have hk0 : ((ka : Int) == 0) = false := by rw [beq_eq_false_iff_ne]; omega
          have hk02 : (ka == 0) = false := by rw [beq_eq_false_iff_ne]; exact hka
          have HW := Lib.hid (show wayS s = (ka, p, ua, oa) by rw [HW0.out, if_neg hka])
          clear hka
          go_wp2_with fail
          have hB0 := HB6.out
          refine bodyPost_ret (v := wyV (ka, p, ua, oa)) (by simp only [results, Tryz.results19]; go_simp) rfl ⟨by rw [HW.out], ?_⟩
          repeat (first | (with_reducible exact hB0) | (with_reducible refine Below.drew ?_) | (with_reducible refine Below.alloc ?_ ?zs _; case zs => first | omega | (simp <;> omega)) | (with_reducible refine Below.setCell ?_ ?zs _; case zs => first | omega | (simp <;> omega)))
theorem Path_any (s : Str) (w : World) (hl : s.length ≤ 1099511627776) : Calls Tryz.prog 19 #[sv s] w fun e w' => e = .returned (wyV (wayS s)) ∧ Below w.heap.size w w' := by
  rcases split_shape s with ⟨hn, hw⟩ | ⟨p, r, hL, hw⟩ | ⟨p, h, f, hL, hw⟩
  · exact Path_none s w hl hn hw
  · exact Path_two s p r w hl hL hw
  · exact Path_three s p h f w hl hL hw
end Od
end Go.Proofs.YtgfdcmlmgeoimaaGreat
end

section
/- Files as data: how they lie in cells. (bel2) -/
namespace Go.Proofs.YtgfdcmlmgeoimaaGreat
open Go.RowKit Go.Sort
set_option linter.unusedSimpArgs false
def flC (f : Od.Fl) : List Value := [sv f.1, sv f.2.1, sv f.2.2]
def flsC (l : List Od.Fl) : List Value := l.flatMap flC
theorem flC_len (f : Od.Fl) : (flC f).length = 3 := rfl
theorem Rd.fl {w : World} {B : Nat} {A : Option Addr} {fs : List Od.Fl} (h : Rd w B 3 A fs.length (flsC fs)) {i : Nat} (hi : i < fs.length) :
    ∃ b o : Nat, A = some ⟨b, o, none⟩ ∧ b < B ∧ w.cell? ⟨b, o + i * 3, none⟩ = some (sv fs[i].1) ∧ w.cell? ⟨b, o + i * 3 + 1, none⟩ = some (sv fs[i].2.1) ∧ w.cell? ⟨b, o + i * 3 + 2, none⟩ = some (sv fs[i].2.2) := by
  obtain ⟨b, o, e, hb, hc⟩ := h.open (by omega)
  have h0 := flat_at flC 3 flC_len fs i 0 hi (by omega)
  have h1 := flat_at flC 3 flC_len fs i 1 hi (by omega)
  have h2 := flat_at flC 3 flC_len fs i 2 hi (by omega)
  refine ⟨b, o, e, hb, ?_, ?_, ?_⟩
  · exact (hc (i * 3) (by omega)).trans h0
  · exact (hc (i * 3 + 1) (by omega)).trans h1
  · exact (hc (i * 3 + 2) (by omega)).trans h2
theorem flsC_app (a b : List Od.Fl) : flsC (a ++ b) = flsC a ++ flsC b := by simp [flsC]
theorem flsC_one (f : Od.Fl) : flsC [f] = flC f := by simp [flsC]
namespace Od
abbrev flV (f : Fl) : Value := .agg #[sv f.1, sv f.2.1, sv f.2.2]
/-- Texts that are not too long for the reading. -/
def okFl (f : Fl) : Prop := f.1.length ≤ 140737488351232 ∧ f.2.1.length ≤ 140737488351232 ∧ f.2.2.length ≤ 140737488351232
/-- Files that came in. -/
structure FlIn (w : World) (A : Option Addr) (fs : List Fl) : Prop where
  rd : Rd w w.heap.size 3 A fs.length (flsC fs)
  ok : ∀ f ∈ fs, okFl f
theorem FlIn.at {w w' : World} {A : Option Addr} {fs : List Fl} (h : FlIn w A fs) (hb : Below w.heap.size w w') : FlIn w' A fs := ⟨h.rd.at hb, h.ok⟩
/-- Paths that the reference's Split takes. -/
def Short (fs : List Fl) : Prop := ∀ f ∈ fs, f.1.length ≤ 1099511627776
theorem one_flC (f : Fl) : ∀ u ∈ flC f, u.oneCell' = true := fun u hu => by
  unfold flC at hu
  simp only [List.mem_cons, List.not_mem_nil, or_false] at hu
  rcases hu with rfl | rfl | rfl <;> rfl
theorem way_le (s : Str) : (wayS s).2.2.1.length ≤ 60 ∧ (wayS s).1 ≤ 4 := by
  rcases spl_cases s with ⟨_, e⟩ | ⟨p, u, _, e, hu, _⟩ | ⟨p, u, g, k, _, e, hk, hu, _⟩
  · rw [e]; exact ⟨by decide, by decide⟩
  · rw [e]; exact ⟨(kind_parts hu).1, by simp⟩
  · rw [e]
    unfold wayF
    split
    · split
      · split
        · exact ⟨(kind_parts hu).1, by simp⟩
        · exact ⟨by decide, by decide⟩
      · exact ⟨by decide, by decide⟩
    · split
      · exact ⟨(kind_parts hu).1, by simp only; omega⟩
      · exact ⟨by decide, by decide⟩
end Od
end Go.Proofs.YtgfdcmlmgeoimaaGreat
end

section
/- Regions in which several calls and allocs may come up at once: each order. (bel2) -/
namespace Go.Proofs.YtgfdcmlmgeoimaaGreat
open Go.RowKit Go.Sort
set_option linter.unusedSimpArgs false
section
variable {P : Program} {ops : Array Oper} {Q : Exit → Act → World → Prop} {md : Region.Mode} {S : World → Prop}
variable {i j k : Nat} {dst dst2 dst3 : Option Tmp} {op op2 op3 : Op} {ty ty2 ty3 : TypeId} {pos pos2 pos3 : String} {aft aft2 aft3 : Array Edge} {grd grd2 grd3 : Option (Nat × Bool)} {fuel : Nat} {listed : Array Bool} {a : Act} {w : World}
theorem ready_twoD (hi : ops[i]? = some ⟨dst, op, ty, pos, aft, grd⟩) (hj : ops[j]? = some ⟨dst2, op2, ty2, pos2, aft2, grd2⟩) (hr : Region.ready md ops listed = [i, j])
    (h : ∀ K' : Act → World → Prop, Shut (∀ a w, S w → (S w → wpAnyH P md ops Q S fuel (listed.setIfInBounds i true) a w) → K' a w) → if Region.wanted ⟨dst, op, ty, pos, aft, grd⟩ (yielded ops a.tmps) = true then Oper.wp P ⟨dst, op, ty, pos, aft, grd⟩ a w K' Q else K' (a.put dst undef) w)
    (h2 : ∀ K' : Act → World → Prop, Shut (∀ a w, S w → (S w → wpAnyH P md ops Q S fuel (listed.setIfInBounds j true) a w) → K' a w) → if Region.wanted ⟨dst2, op2, ty2, pos2, aft2, grd2⟩ (yielded ops a.tmps) = true then Oper.wp P ⟨dst2, op2, ty2, pos2, aft2, grd2⟩ a w K' Q else K' (a.put dst2 undef) w) :
    wpAnyH P md ops Q S (fuel + 1) listed a w :=
  wpAnyH_ready hr (by simp) (AllReadyH.cons hi h (AllReadyH.cons hj h2 AllReadyH.nil))
theorem ready_threeD (hi : ops[i]? = some ⟨dst, op, ty, pos, aft, grd⟩) (hj : ops[j]? = some ⟨dst2, op2, ty2, pos2, aft2, grd2⟩) (hk : ops[k]? = some ⟨dst3, op3, ty3, pos3, aft3, grd3⟩) (hr : Region.ready md ops listed = [i, j, k])
    (h : ∀ K' : Act → World → Prop, Shut (∀ a w, S w → (S w → wpAnyH P md ops Q S fuel (listed.setIfInBounds i true) a w) → K' a w) → if Region.wanted ⟨dst, op, ty, pos, aft, grd⟩ (yielded ops a.tmps) = true then Oper.wp P ⟨dst, op, ty, pos, aft, grd⟩ a w K' Q else K' (a.put dst undef) w)
    (h2 : ∀ K' : Act → World → Prop, Shut (∀ a w, S w → (S w → wpAnyH P md ops Q S fuel (listed.setIfInBounds j true) a w) → K' a w) → if Region.wanted ⟨dst2, op2, ty2, pos2, aft2, grd2⟩ (yielded ops a.tmps) = true then Oper.wp P ⟨dst2, op2, ty2, pos2, aft2, grd2⟩ a w K' Q else K' (a.put dst2 undef) w)
    (h3 : ∀ K' : Act → World → Prop, Shut (∀ a w, S w → (S w → wpAnyH P md ops Q S fuel (listed.setIfInBounds k true) a w) → K' a w) → if Region.wanted ⟨dst3, op3, ty3, pos3, aft3, grd3⟩ (yielded ops a.tmps) = true then Oper.wp P ⟨dst3, op3, ty3, pos3, aft3, grd3⟩ a w K' Q else K' (a.put dst3 undef) w) :
    wpAnyH P md ops Q S (fuel + 1) listed a w :=
  wpAnyH_ready hr (by simp) (AllReadyH.cons hi h (AllReadyH.cons hj h2 (AllReadyH.cons hk h3 AllReadyH.nil)))
end
namespace Od
/-- A block that holds a name's pieces, all nothing. -/
structure CutZ (w : World) (b : Nat) : Prop where
  c0 : w.cell? ⟨b, 0, none⟩ = some (.int .i64 0)
  c1 : w.cell? ⟨b, 1, none⟩ = some (.string ⟨#[]⟩)
  c2 : w.cell? ⟨b, 2, none⟩ = some (.string ⟨#[]⟩)
  c3 : w.cell? ⟨b, 3, none⟩ = some (.bool false)
  f0 : w.frozen? ⟨b, 0, none⟩ = false
  f1 : w.frozen? ⟨b, 1, none⟩ = false
  f2 : w.frozen? ⟨b, 2, none⟩ = false
  f3 : w.frozen? ⟨b, 3, none⟩ = false
theorem CutZ.lt {w : World} {b : Nat} (h : CutZ w b) : b < w.heap.size := cell_blk h.c0
theorem CutZ.on {w w' : World} {b : Nat} (h : CutZ w b) (hb : Below w.heap.size w w') : CutZ w' b :=
  ⟨cellAt h.c0 hb h.lt, cellAt h.c1 hb h.lt, cellAt h.c2 hb h.lt, cellAt h.c3 hb h.lt, froAt h.f0 hb h.lt, froAt h.f1 hb h.lt, froAt h.f2 hb h.lt, froAt h.f3 hb h.lt⟩
theorem CutZ.new (w : World) : CutZ (w.alloc (.cells #[.int .i64 0, .string ⟨#[]⟩, .string ⟨#[]⟩, .bool false] 57)) w.heap.size :=
  ⟨by go_simp, by go_simp, by go_simp, by go_simp, by go_simp, by go_simp, by go_simp, by go_simp⟩
theorem below_new (w : World) (o : Obj) : Below w.heap.size w (w.alloc o) := (Below.refl _ _).alloc (Nat.le_refl _) o
end Od
end Go.Proofs.YtgfdcmlmgeoimaaGreat
end
