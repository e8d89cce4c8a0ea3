/- The walks of package limit and of what it calls. -/
import Derived.Test.YtdcbapheoagelaaRows
import Derived.Test.YtdcbapheoagelaaKit
namespace Go.Proofs.Ytdcbapheoagelaa
open Go.RowKit

namespace Lm
def timeB (n : Int) : Bool := decide (0 ≤ n) && decide (n < 6311433600)
def spanB (n : Int) : Bool := (decide (0 ≤ n) && decide (n ≤ 6311433600)) || decide (n = 1099511627776)
theorem timeB_iff (n : Int) : timeB n = true ↔ 0 ≤ n ∧ n < 6311433600 := by unfold timeB; simp
theorem spanB_iff (n : Int) : spanB n = true ↔ (0 ≤ n ∧ n ≤ 6311433600) ∨ n = 1099511627776 := by unfold spanB; simp

set_option maxHeartbeats 400000 in
theorem time_any (n : Int) (w : World) :
    Calls Try.prog 31 #[.int .i64 n] w fun e w' => e = .returned (.bool (timeB n)) ∧ w = w' := by
  go_enter Try.func31, Try.ntmps31
  go_wp2
  all_goals go_ret
  all_goals exact ⟨ret_bool (by unfold timeB; simp [*] <;> omega), rfl⟩

set_option maxHeartbeats 400000 in
theorem refTime_any (n : Int) (w : World) :
    Calls Try.prog 23 #[.int .i64 n] w fun e w' => e = .returned (.bool (timeB n)) ∧ w = w' := by
  go_enter Try.func23, Try.ntmps23
  go_wp2
  all_goals go_ret
  all_goals exact ⟨ret_bool (by unfold timeB; simp [*] <;> omega), rfl⟩

set_option maxHeartbeats 400000 in
theorem span_any (n : Int) (w : World) :
    Calls Try.prog 32 #[.int .i64 n] w fun e w' => e = .returned (.bool (spanB n)) ∧ w = w' := by
  go_enter Try.func32, Try.ntmps32
  go_wp2
  all_goals go_ret
  all_goals exact ⟨ret_bool (by rw [Bool.eq_iff_iff]; simp [spanB] <;> omega), rfl⟩

set_option maxHeartbeats 400000 in
theorem refSpan_any (n : Int) (w : World) :
    Calls Try.prog 24 #[.int .i64 n] w fun e w' => e = .returned (.bool (spanB n)) ∧ w = w' := by
  go_enter Try.func24, Try.ntmps24
  go_wp2
  all_goals go_ret
  all_goals exact ⟨ret_bool (by rw [Bool.eq_iff_iff]; simp [spanB] <;> omega), rfl⟩

set_option maxHeartbeats 400000 in
theorem not_any (n : Int) (w : World) :
    Calls Try.prog 34 #[.int .i64 n] w fun e w' => e = .returned (.bool (!timeB n)) ∧ w = w' := by
  go_enter Try.func34, Try.ntmps34
  go_wp2_with ((go_at_call 31; refine (time_any _ _).mono ?_; rintro e w' ⟨rfl, rfl⟩))
  go_ret
  exact ⟨rfl, rfl⟩

def SomeIdx (bad : Bool) (w : World) (e : Ending) (w' : World) : Prop := ∃ r : Int, e = .returned (.int .i64 r) ∧ (bad = true ↔ 0 ≤ r) ∧ -1 ≤ r ∧ w = w'

theorem allTake_succ {p : Int → Bool} {xs : List Int} {k : Nat} (hk : k < xs.length) (h : (xs.take k).all p = true) (hp : p xs[k] = true) : (xs.take (k + 1)).all p = true := by
  rw [List.take_succ_eq_append_getElem hk]; simp only [List.all_append, List.all_cons, List.all_nil, h, hp, Bool.and_self]

theorem anyBad {p : Int → Bool} {xs : List Int} {k : Nat} (hk : k < xs.length) (hp : p xs[k] = false) : (!xs.all p) = true := by
  have : xs.all p = false := by
    rw [List.all_eq_false]
    exact ⟨xs[k], List.getElem_mem hk, by simp [hp]⟩
  simp [this]

set_option maxHeartbeats 400000 in
theorem index_any (A : Option Addr) (c : Nat) (xs : List Int) (w : World) (hr : Rd w w.heap.size 1 A xs.length (ints xs)) (hb : xs.length * 8 ≤ 140737488351232) :
    Calls Try.prog 38 #[.slice A xs.length c, .func (.func 34) #[] #[]] w (SomeIdx (!xs.all timeB) w) := by
  go_enter Try.func38, Try.ntmps38
  go_wp2_with fail
  go_loop [8] (fun i => ∃ k : Nat, k ≤ xs.length ∧ i = .int .i64 k ∧ (xs.take k).all timeB = true) (fun i => xs.length - (intOf i).toNat)
  case atStart => exact ⟨0, Nat.zero_le _, rfl, by simp⟩
  case round =>
    obtain ⟨k, hk, rfl, hall⟩ := hrel
    have Hall := Lib.hid hall
    clear hall
    by_cases hlt : k < xs.length
    · obtain ⟨b, o, rfl, hB, hc⟩ := hr.open (by omega)
      have hcell : w.cell? ⟨b, o + k, none⟩ = some (.int .i64 xs[k]) := by rw [hc k (by omega), ints_at hlt]
      have Hc := Lib.hid hc
      clear hc
      cases ht : timeB xs[k]
      · have Ht := Lib.hid ht
        go_wp2_with ((go_at_call 34; refine (not_any _ _).mono ?_; rintro e w' ⟨rfl, rfl⟩))
        go_ret
        exact ⟨k, rfl, by simp [anyBad hlt Ht.out], by omega, rfl⟩
      · have Ht := Lib.hid ht
        go_wp2_with ((go_at_call 34; refine (not_any _ _).mono ?_; rintro e w' ⟨rfl, rfl⟩))
        go_round
        case rel => exact ⟨k + 1, by omega, by go_num, allTake_succ hlt Hall.out Ht.out⟩
        case measure => simp [intOf]; omega
    · go_wp2
      go_ret
      have hkl : k = xs.length := by omega
      have := Hall.out
      rw [List.take_of_length_le (by omega)] at this
      exact ⟨-1, rfl, by simp [this], by omega, rfl⟩

set_option maxHeartbeats 400000 in
theorem containsBad_any (A : Option Addr) (c : Nat) (xs : List Int) (w : World) (hr : Rd w w.heap.size 1 A xs.length (ints xs)) (hb : xs.length * 8 ≤ 140737488351232) :
    Calls Try.prog 33 #[.slice A xs.length c, .func (.func 34) #[] #[]] w fun e w' => e = .returned (.bool (!xs.all timeB)) ∧ w = w' := by
  go_enter Try.func33, Try.ntmps33
  go_wp2_with ((go_at_call 38; refine (index_any A c xs _ hr hb).mono ?_; rintro e w' ⟨r, rfl, hiff, hr1, rfl⟩))
  go_ret
  refine ⟨ret_bool ?_, rfl⟩
  rw [Bool.eq_iff_iff, hiff]; simp

def rightB (xs : List Int) (now every : Int) : Bool := timeB now && spanB every && xs.all timeB

set_option maxHeartbeats 400000 in
theorem right_any (A : Option Addr) (c : Nat) (xs : List Int) (now every : Int) (w : World) (hr : Rd w w.heap.size 1 A xs.length (ints xs)) (hb : xs.length * 8 ≤ 140737488351232) :
    Calls Try.prog 26 #[.slice A xs.length c, .int .i64 now, .int .i64 every] w fun e w' => e = .returned (.bool (rightB xs now every)) ∧ w = w' := by
  have Hr := Lib.hid hr
  clear hr
  cases h1 : timeB now
  · go_enter Try.func26, Try.ntmps26
    go_wp2_with ((go_at_call 31; refine (time_any _ _).mono ?_; rintro e w' ⟨rfl, rfl⟩))
    go_ret
    exact ⟨ret_bool (by simp [rightB, h1]), rfl⟩
  · cases h2 : spanB every
    · go_enter Try.func26, Try.ntmps26
      go_wp2_with (first | (go_at_call 31; refine (time_any _ _).mono ?_; rintro e w' ⟨rfl, rfl⟩) | (go_at_call 32; refine (span_any _ _).mono ?_; rintro e w' ⟨rfl, rfl⟩))
      go_ret
      exact ⟨ret_bool (by simp [rightB, h2]), rfl⟩
    · go_enter Try.func26, Try.ntmps26
      go_wp2_with (first | (go_at_call 31; refine (time_any _ _).mono ?_; rintro e w' ⟨rfl, rfl⟩) | (go_at_call 32; refine (span_any _ _).mono ?_; rintro e w' ⟨rfl, rfl⟩) | (go_at_call 33; refine (containsBad_any A c xs _ Hr.out hb).mono ?_; rintro e w' ⟨rfl, rfl⟩))
      go_ret
      exact ⟨ret_bool (by simp [rightB, h1, h2]), rfl⟩

end Lm
end Go.Proofs.Ytdcbapheoagelaa
