/- The walks of the three laws on package pair: each returns true. -/
import Derived.Test.YtdcbapheoagelaaPairWalks
import Derived.Lib.Hide
namespace Go.Proofs.Ytdcbapheoagelaa
open Go.RowKit

namespace Pr
set_option maxHeartbeats 1000000 in
theorem shown_any (w : World) :
    Calls Try.prog 10 #[] w fun e w' => e = .returned (.bool true) ∧ w = w' := by
  have e1 : jn 1 3 true = (3, true) := by decide
  have e2 : jn 2 1 false = (0, false) := by decide
  have e3 : st 1 1 = 0 := by decide
  have e4 : st 3 0 = 1 := by decide
  have e5 : st 2 2 = 2 := by decide
  go_enter Try.func10, Try.ntmps10
  go_wp2_with (first | (go_at_call 11; refine (join_any _ _ _ _).mono ?_; rintro e w' ⟨rfl, rfl⟩) | (go_at_call 13; refine (settle_any _ _ _).mono ?_; rintro e w' ⟨rfl, rfl⟩))
  go_ret
  exact ⟨rfl, rfl⟩

set_option maxHeartbeats 1000000 in
theorem all_any (a b : Int) (up : Bool) (t s : Int) (w : World) :
    Calls Try.prog 3 #[.int .i64 a, .int .i64 b, .bool up, .int .i64 t, .int .i64 s] w fun e w' => e = .returned (.bool true) ∧ w = w' := by
  go_enter Try.func3, Try.ntmps3
  go_wp2_with (first | (go_at_call 10; refine (shown_any _).mono ?_; rintro e w' ⟨rfl, rfl⟩) | (go_at_call 11; refine (join_any _ _ _ _).mono ?_; rintro e w' ⟨rfl, rfl⟩) | (go_at_call 13; refine (settle_any _ _ _).mono ?_; rintro e w' ⟨rfl, rfl⟩) | (go_at_call 12; refine (refJoin_any _ _ _ _).mono ?_; rintro e w' ⟨rfl, rfl⟩) | (go_at_call 14; refine (refSettle_any _ _ _).mono ?_; rintro e w' ⟨rfl, rfl⟩))
  go_ret
  exact ⟨rfl, rfl⟩

theorem st_cases (t s : Int) : st t s = 0 ∨ (1 ≤ st t s ∧ st t s ≤ 4 ∧ 0 ≤ s ∧ s ≤ 2 ∧ (st t s = 1 → s ≠ 1) ∧ (st t s = 2 → s ≠ 0) ∧ (st t s = 3 → s ≠ 0) ∧ (st t s = 4 → s = 1)) := by
  unfold st
  by_cases h1 : isB t = false ∨ s < 0 ∨ 2 < s
  · rw [if_pos h1]; exact .inl rfl
  · rw [if_neg h1]
    have hb : isB t = true := by cases e : isB t <;> simp_all
    unfold isB at hb
    simp only [Bool.and_eq_true, decide_eq_true_eq] at hb
    simp only [not_or] at h1
    split
    · exact .inl rfl
    · split
      · exact .inr (by omega)
      · exact .inr (by omega)

theorem st_idem (t s : Int) (h : st t s ≠ 0) : st (st t s) s = st t s := by
  rcases st_cases t s with h0 | ⟨h1, h2, h3, h4, h5, h6, h7, h8⟩
  · exact absurd h0 h
  · generalize st t s = u at *
    have hb : isB u = true := by unfold isB; simp; omega
    unfold st
    rw [if_neg (by simp [hb]; omega), if_neg (by omega), if_neg (by omega)]

set_option maxHeartbeats 1000000 in
theorem settle_law (t s : Int) (w : World) :
    Calls Try.prog 5 #[.int .i64 t, .int .i64 s] w fun e w' => e = .returned (.bool true) ∧ w = w' := by
  have hc := st_cases t s
  have hi := st_idem t s
  generalize hu : st t s = u at *
  have Hc := Lib.hid hc
  have Hi := Lib.hid hi
  clear hc hi
  go_enter Try.func5, Try.ntmps5
  go_wp2_with (first | (go_at_call 10; refine (shown_any _).mono ?_; rintro e w' ⟨rfl, rfl⟩) | (go_at_call 11; refine (join_any _ _ _ _).mono ?_; rintro e w' ⟨rfl, rfl⟩) | (go_at_call 13; refine (settle_any _ _ _).mono ?_; rintro e w' ⟨rfl, rfl⟩) | (go_at_call 12; refine (refJoin_any _ _ _ _).mono ?_; rintro e w' ⟨rfl, rfl⟩) | (go_at_call 14; refine (refSettle_any _ _ _).mono ?_; rintro e w' ⟨rfl, rfl⟩))
  all_goals go_ret
  all_goals refine ⟨?_, rfl⟩
  all_goals (have hc := Hc.out; have hi := Hi.out; simp_all <;> omega)

theorem jn_self (a : Int) (up : Bool) : jn a a up = if isB a then (a, true) else (0, false) := by
  unfold jn
  cases h : isB a <;> simp

/-- What two make: a number from 1 to 4, or nothing. -/
theorem jn_snd (a b : Int) (up : Bool) : (jn a b up).2 = (isB a && isB b && (decide (a = b) || (!decide (a = 2) && !decide (b = 2)))) := by
  unfold jn
  cases ha : isB a <;> cases hb : isB b <;> simp
  by_cases h1 : a = b
  · simp [h1]
  · by_cases h2 : a = 2 ∨ b = 2
    · simp only [h1, h2, if_true, if_false]
      rcases h2 with h2 | h2 <;> simp [h2]
    · simp only [h1, h2, if_false]
      simp only [not_or] at h2
      by_cases h3 : a = 3 ∨ b = 3
      · simp [h3, h2]
      · cases up <;> simp [h3, h2]

theorem isB_iff (t : Int) : isB t = true ↔ 1 ≤ t ∧ t ≤ 4 := by unfold isB; simp

theorem four (t : Int) (h : 1 ≤ t ∧ t ≤ 4) : t = 1 ∨ t = 2 ∨ t = 3 ∨ t = 4 := by omega

theorem jn_assoc (a b c : Int) (up : Bool) (h1 : (jn a b up).2 = true) (h2 : (jn b c up).2 = true) : jn (jn a b up).1 c up = jn a (jn b c up).1 up := by
  have ha := jn_snd a b up
  have hc := jn_snd b c up
  rw [h1] at ha
  rw [h2] at hc
  have ha' := ha.symm
  have hc' := hc.symm
  simp only [Bool.and_eq_true] at ha' hc'
  have k1 := four a ((isB_iff a).1 ha'.1.1)
  have k2 := four b ((isB_iff b).1 ha'.1.2)
  have k3 := four c ((isB_iff c).1 hc'.1.2)
  clear ha hc ha' hc'
  rcases k1 with rfl | rfl | rfl | rfl <;> rcases k2 with rfl | rfl | rfl | rfl <;> rcases k3 with rfl | rfl | rfl | rfl <;> cases up <;> revert h1 h2 <;> decide

set_option maxHeartbeats 2000000 in
theorem laws_law (a b c : Int) (up : Bool) (w : World) :
    Calls Try.prog 4 #[.int .i64 a, .int .i64 b, .int .i64 c, .bool up] w fun e w' => e = .returned (.bool true) ∧ w = w' := by
  have h1 := jn_comm b a up
  have h2 := jn_self a up
  have h3 := jn_assoc a b c up
  have H3 := Lib.hid h3
  clear h3
  go_enter Try.func4, Try.ntmps4
  go_wp2_with (first | (go_at_call 10; refine (shown_any _).mono ?_; rintro e w' ⟨rfl, rfl⟩) | (go_at_call 11; refine (join_any _ _ _ _).mono ?_; rintro e w' ⟨rfl, rfl⟩) | (go_at_call 13; refine (settle_any _ _ _).mono ?_; rintro e w' ⟨rfl, rfl⟩) | (go_at_call 12; refine (refJoin_any _ _ _ _).mono ?_; rintro e w' ⟨rfl, rfl⟩) | (go_at_call 14; refine (refSettle_any _ _ _).mono ?_; rintro e w' ⟨rfl, rfl⟩))
  all_goals go_ret
  all_goals refine ⟨?_, rfl⟩
  all_goals (have h3 := H3.out; have hb := isB_iff a; simp_all <;> omega)
end Pr
end Go.Proofs.Ytdcbapheoagelaa
