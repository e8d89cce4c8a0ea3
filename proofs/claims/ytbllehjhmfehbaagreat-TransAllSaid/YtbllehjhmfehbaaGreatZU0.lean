/- My texts, joined for the claim: PairWalks. -/
import Derived.Test.YtbllehjhmfehbaaGreatRows
import Derived.WalkKit
import Derived.WalkSpells
import Derived.WalkLawsBesides

section
/- The walks of package pair and of its reference: Join and Settle give what the plain functions below give. -/
namespace Go.Proofs.YtbllehjhmfehbaaGreat
open Go.RowKit

namespace Pr
def isB (t : Int) : Bool := decide (1 ≤ t) && decide (t ≤ 4)

set_option maxHeartbeats 400000 in
theorem is_any (t : Int) (w : World) :
  Calls Tryz.prog 75 #[.int .i64 t] w fun e w' => e = .returned (.bool (isB t)) ∧ w = w' := by
 go_enter Tryz.func75, Tryz.ntmps75
 go_wp2
 all_goals go_ret
 all_goals exact ⟨by unfold isB; simp [*] <;> omega, rfl⟩

def jn (a b : Int) (up : Bool) : Int × Bool :=
 if isB a = false ∨ isB b = false then (0, false)
 else if a = b then (a, true)
 else if a = 2 ∨ b = 2 then (0, false)
 else if a = 3 ∨ b = 3 then (3, true)
 else if up then (4, true) else (1, true)

theorem ret2 {k : IntKind} {r : Int × Bool} {x : Int} {y : Bool} (h : r = (x, y)) : Ending.returned (.tuple #[.int k x, .bool y]) = .returned (.tuple #[.int k r.1, .bool r.2]) := by rw [h]

set_option maxHeartbeats 1000000 in
theorem join_lt (a b : Int) (up : Bool) (w : World) (h : a < b) :
  Calls Tryz.prog 33 #[.int .i64 a, .int .i64 b, .bool up] w fun e w' => e = .returned (.tuple #[.int .i64 (jn a b up).1, .bool (jn a b up).2]) ∧ w = w' := by
 have h1 : a ≤ b := by omega
 have h2 : ¬ b < a := by omega
 go_enter Tryz.func33, Tryz.ntmps33
 go_wp2_with (go_at_call 75; refine (is_any _ _).mono ?_; rintro e w' ⟨rfl, rfl⟩)
 all_goals go_ret2
 all_goals refine ⟨ret2 ?_, rfl⟩
 all_goals (unfold jn; simp_all <;> omega)
set_option maxHeartbeats 1000000 in
theorem join_gt (a b : Int) (up : Bool) (w : World) (h : b < a) :
  Calls Tryz.prog 33 #[.int .i64 a, .int .i64 b, .bool up] w fun e w' => e = .returned (.tuple #[.int .i64 (jn a b up).1, .bool (jn a b up).2]) ∧ w = w' := by
 have h1 : ¬ a ≤ b := by omega
 have h2 : ¬ a < b := by omega
 go_enter Tryz.func33, Tryz.ntmps33
 go_wp2_with (go_at_call 75; refine (is_any _ _).mono ?_; rintro e w' ⟨rfl, rfl⟩)
 all_goals go_ret2
 all_goals refine ⟨ret2 ?_, rfl⟩
 all_goals (unfold jn; simp_all <;> omega)
set_option maxHeartbeats 1000000 in
theorem join_eq (a b : Int) (up : Bool) (w : World) (h : a = b) :
  Calls Tryz.prog 33 #[.int .i64 a, .int .i64 b, .bool up] w fun e w' => e = .returned (.tuple #[.int .i64 (jn a b up).1, .bool (jn a b up).2]) ∧ w = w' := by
 subst h
 have h1 : a ≤ a := by omega
 have h2 : ¬ a < a := by omega
 go_enter Tryz.func33, Tryz.ntmps33
 go_wp2_with (go_at_call 75; refine (is_any _ _).mono ?_; rintro e w' ⟨rfl, rfl⟩)
 all_goals go_ret2
 all_goals refine ⟨ret2 ?_, rfl⟩
 all_goals (unfold jn; simp_all <;> omega)

theorem join_any (a b : Int) (up : Bool) (w : World) :
  Calls Tryz.prog 33 #[.int .i64 a, .int .i64 b, .bool up] w fun e w' => e = .returned (.tuple #[.int .i64 (jn a b up).1, .bool (jn a b up).2]) ∧ w = w' := by
 rcases Int.lt_trichotomy a b with h | h | h
 ·exact join_lt a b up w h
 ·exact join_eq a b up w h
 ·exact join_gt a b up w h

set_option maxHeartbeats 1000000 in
theorem refJoin_any (a b : Int) (up : Bool) (w : World) :
  Calls Tryz.prog 69 #[.int .i64 a, .int .i64 b, .bool up] w fun e w' => e = .returned (.tuple #[.int .i64 (jn a b up).1, .bool (jn a b up).2]) ∧ w = w' := by
 go_enter Tryz.func69, Tryz.ntmps69
 go_wp2
 all_goals go_ret2
 all_goals refine ⟨ret2 ?_, rfl⟩
 all_goals (unfold jn isB; simp_all <;> omega)

def st (t state : Int) : Int :=
 if isB t = false ∨ state < 0 ∨ 2 < state then 0
 else if (t = 1 ∧ state = 1) ∨ (t = 2 ∧ state = 0) ∨ (t = 4 ∧ ¬ state = 1) then 0
 else if t = 3 ∧ state = 0 then 1
 else t

theorem ret1 {k : IntKind} {a b : Int} (h : b = a) : Ending.returned (.int k a) = .returned (.int k b) := by rw [h]

set_option maxHeartbeats 1000000 in
theorem settle_any (t state : Int) (w : World) :
  Calls Tryz.prog 32 #[.int .i64 t, .int .i64 state] w fun e w' => e = .returned (.int .i64 (st t state)) ∧ w = w' := by
 go_enter Tryz.func32, Tryz.ntmps32
 go_wp2_with (go_at_call 75; refine (is_any _ _).mono ?_; rintro e w' ⟨rfl, rfl⟩)
 all_goals go_ret
 all_goals refine ⟨ret1 ?_, rfl⟩
 all_goals (unfold st; simp_all <;> omega)

set_option maxHeartbeats 1000000 in
theorem refSettle_any (t state : Int) (w : World) :
  Calls Tryz.prog 70 #[.int .i64 t, .int .i64 state] w fun e w' => e = .returned (.int .i64 (st t state)) ∧ w = w' := by
 go_enter Tryz.func70, Tryz.ntmps70
 go_wp2
 all_goals go_ret
 all_goals refine ⟨ret1 ?_, rfl⟩
 all_goals (unfold st isB; simp_all <;> omega)
end Pr
end Go.Proofs.YtbllehjhmfehbaaGreat
end
