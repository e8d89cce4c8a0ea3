/- The walks of package limit and its reference: one more may be; the least time. -/
import Derived.Test.YtdcbapheoagelaaLimRef
import Derived.Test.YtdcbapheoagelaaShelf
import Derived.Deep.QuietTactic
import Derived.BigQuiet
import Derived.Sort.OwnSortedInts
namespace Go.Proofs.Ytdcbapheoagelaa
open Go.RowKit

namespace Lm
def SomeBool (b : Bool) (w : World) (e : Ending) (w' : World) : Prop := e = .returned (.bool b) ∧ Below w.heap.size w w'

set_option maxHeartbeats 400000 in
theorem may_any (A : Option Addr) (c : Nat) (xs : List Int) (now every burst : Int) (w : World) (hr : Rd w w.heap.size 1 A xs.length (ints xs)) (hb : xs.length * 8 ≤ 140737488351232) :
    Calls Try.prog 21 #[.slice A xs.length c, .int .i64 now, .int .i64 every, .int .i64 burst] w (SomeBool (mayB xs now every burst) w) := by
  have Hr := Lib.hid hr
  clear hr
  cases hR : rightB xs now every
  · go_enter Try.func21, Try.ntmps21
    go_wp2_with ((go_at_call 26; refine (right_any A c xs _ _ _ Hr.out hb).mono ?_; rintro e w' ⟨rfl, rfl⟩))
    go_ret
    exact ⟨ret_bool (by simp [mayB, hR]), Below.refl _ _⟩
  · go_enter Try.func21, Try.ntmps21
    go_wp2_with (first | (go_at_call 26; refine (right_any A c xs _ _ _ Hr.out hb).mono ?_; rintro e w' ⟨rfl, rfl⟩) | (go_at_call 19; refine (keep_any A c xs _ _ _ Hr.out hb).mono ?_; rintro e w1 ⟨v, rfl, hown, hbel⟩; obtain ⟨A1, c1, rfl, hr1⟩ := own_rd hown))
    go_ret
    exact ⟨ret_bool (by rw [Bool.eq_iff_iff]; simp [mayB, hR]), hbel⟩

set_option maxHeartbeats 400000 in
theorem allowed_any (A : Option Addr) (c : Nat) (xs : List Int) (now every burst : Int) (w : World) (hr : Rd w w.heap.size 1 A xs.length (ints xs)) (hb : xs.length * 8 ≤ 140737488351232) :
    Calls Try.prog 22 #[.slice A xs.length c, .int .i64 now, .int .i64 every, .int .i64 burst] w (SomeBool (mayB xs now every burst) w) := by
  have Hr := Lib.hid hr
  clear hr
  cases hR : rightB xs now every
  · go_enter Try.func22, Try.ntmps22
    go_wp2_with ((go_at_call 29; refine (refRight_any A c xs _ _ _ Hr.out hb).mono ?_; rintro e w' ⟨rfl, rfl⟩))
    go_ret
    exact ⟨ret_bool (by simp [mayB, hR]), Below.refl _ _⟩
  · go_enter Try.func22, Try.ntmps22
    go_wp2_with (first | (go_at_call 29; refine (refRight_any A c xs _ _ _ Hr.out hb).mono ?_; rintro e w' ⟨rfl, rfl⟩) | (go_at_call 20; refine (refKeep_any A c xs _ _ _ Hr.out hb).mono ?_; rintro e w1 ⟨v, rfl, hown, hbel⟩; obtain ⟨A1, c1, rfl, hr1⟩ := own_rd hown))
    go_ret
    exact ⟨ret_bool (by rw [Bool.eq_iff_iff]; simp [mayB, hR]), hbel⟩

theorem take_ne {xs ys : List Int} {k : Nat} (hx : k < xs.length) (hy : k < ys.length) (h : xs[k] ≠ ys[k]) : xs ≠ ys := fun e => by subst e; exact h rfl

theorem eq_of_takes {xs ys : List Int} (hl : xs.length = ys.length) (h : ∀ j (h1 : j < xs.length) (h2 : j < ys.length), xs[j] = ys[j]) : xs = ys := List.ext_getElem hl h

set_option maxHeartbeats 1000000 in
theorem same_any (A A' : Option Addr) (c c' : Nat) (xs ys : List Int) (w : World) (hr : Rd w w.heap.size 1 A xs.length (ints xs)) (hr' : Rd w w.heap.size 1 A' ys.length (ints ys)) (hb : xs.length * 8 ≤ 140737488351232) (hb' : ys.length * 8 ≤ 140737488351232) :
    Calls Try.prog 18 #[.slice A xs.length c, .slice A' ys.length c'] w (SomeBool (decide (xs = ys)) w) := by
  have Hr := Lib.hid hr
  have Hr' := Lib.hid hr'
  clear hr hr'
  by_cases hl : xs.length = ys.length
  · have Hl := Lib.hid hl
    have hl1 : ((xs.length : Int) != (ys.length : Int)) = false := by simp [hl]
    clear hl
    go_enter Try.func18, Try.ntmps18
    go_wp2_with fail
    go_loopw [13] (fun i wr => ∃ k : Nat, k ≤ xs.length ∧ i = .int .i64 k ∧ Hid (∀ j (h1 : j < xs.length) (h2 : j < ys.length), j < k → xs[j] = ys[j]) ∧ Below w.heap.size w wr) (fun i _ => xs.length - (intOf i).toNat)
    case atStart => exact ⟨0, Nat.zero_le _, rfl, fun _ _ _ h => absurd h (by omega), Below.refl _ _⟩
    case round =>
      obtain ⟨k, hk, rfl, hall, hbel⟩ := hrel
      have Hbel := Lib.hid hbel
      by_cases hlt : k < xs.length
      · have hlt' : k < ys.length := by have := Hl.out; omega
        obtain ⟨b, o, rfl, hB, hc⟩ := (Hr.out.on (Nat.le_refl _) hbel).open (by omega)
        obtain ⟨b', o', rfl, hB', hc'⟩ := (Hr'.out.on (Nat.le_refl _) hbel).open (by omega)
        have hcell : wr.cell? ⟨b, o + k, none⟩ = some (.int .i64 xs[k]) := by rw [hc k (by omega), ints_at hlt]
        have hcell' : wr.cell? ⟨b', o' + k, none⟩ = some (.int .i64 ys[k]) := by rw [hc' k (by omega), ints_at hlt']
        have hk1 : (k : Int) < (xs.length : Int) := by omega
        have hk2 : (k : Int) < (ys.length : Int) := by omega
        clear hc hc' hbel
        cases hne : (xs[k] != ys[k])
        · go_wp2
          go_quiet (fail)
          go_wp2
          go_roundw
          case rel => exact ⟨k + 1, by omega, by go_num, fun j h1 h2 h3 => by
            rcases Nat.lt_or_ge j k with h | h
            · exact hall.out j h1 h2 h
            · obtain rfl : j = k := by omega
              simpa using hne, below_drewN Hbel.out _⟩
          case measure => simp [intOf]; omega
        · go_wp2
          go_quiet (fail)
          go_wp2
          go_ret
          exact ⟨ret_bool (by
            have hd : xs[k] ≠ ys[k] := by simpa using hne
            simp [take_ne hlt hlt' hd]), below_drewN Hbel.out _⟩
      · go_wp2
        go_ret
        exact ⟨ret_bool (by
          have : xs = ys := eq_of_takes Hl.out fun j h1 h2 => hall.out j h1 h2 (by omega)
          simp [this]), Hbel.out⟩
  · have hl1 : ((xs.length : Int) != (ys.length : Int)) = true := by rw [bne_iff_ne]; omega
    have Hl := Lib.hid hl
    clear hl
    go_enter Try.func18, Try.ntmps18
    go_wp2
    go_ret
    exact ⟨ret_bool (by
      have : ¬ xs = ys := fun e => Hl.out (by rw [e])
      simp [this]), Below.refl _ _⟩

set_option maxHeartbeats 400000 in
theorem held_any (n : Int) (w : World) :
    Calls Try.prog 35 #[.int .i64 n] w fun e w' => e = .returned (.int .i64 (if 6311433600 < n then 1099511627776 else if n < 0 then 0 else n)) ∧ w = w' := by
  by_cases h : 6311433600 < n
  · go_enter Try.func35, Try.ntmps35
    go_wp2
    go_ret
    exact ⟨rfl, rfl⟩
  · rw [if_neg h]
    by_cases h0 : n < 0
    · go_enter Try.func35, Try.ntmps35
      go_wp2
      all_goals go_ret
      all_goals exact ⟨ret_int (by first | rfl | omega), rfl⟩
    · go_enter Try.func35, Try.ntmps35
      go_wp2
      all_goals go_ret
      all_goals exact ⟨ret_int (by first | rfl | omega), rfl⟩

/-- Of a time and a span. -/
def sumS (b every : Int) : Int := if b + every ≤ 6311433600 then b + every else 1099511627776
theorem sumS_le {b every : Int} (h : b + every ≤ 6311433600) : sumS b every = b + every := by unfold sumS; rw [if_pos h]

set_option maxHeartbeats 400000 in
theorem sum_any (b every : Int) (w : World) (h1 : 0 ≤ b) (h2 : b < 6311433600) (h3 : 0 ≤ every) (h4 : every ≤ 6311433600 ∨ every = 1099511627776) :
    Calls Try.prog 27 #[.int .i64 b, .int .i64 every] w fun e w' => e = .returned (.int .i64 (sumS b every)) ∧ w = w' := by
  have e1 : (if 6311433600 < b then (1099511627776 : Int) else if b < 0 then 0 else b) = b := by rw [if_neg (by omega), if_neg (by omega)]
  have e2 : (if 6311433600 < every then (1099511627776 : Int) else if every < 0 then 0 else every) = every := by
    by_cases h : 6311433600 < every
    · rw [if_pos h]; omega
    · rw [if_neg h, if_neg (by omega)]
  have e3 : (if 6311433600 < b + every then (1099511627776 : Int) else if b + every < 0 then 0 else b + every) = sumS b every := by
    unfold sumS
    by_cases h : 6311433600 < b + every
    · rw [if_pos h, if_neg (by omega)]
    · rw [if_neg h, if_neg (by omega), if_pos (by omega)]
  have E1 := Lib.hid e1
  have E2 := Lib.hid e2
  have E3 := Lib.hid e3
  have h5 : every ≤ 1099511627776 := by omega
  clear e1 e2 e3 h4
  go_enter Try.func27, Try.ntmps27
  go_wp2_with fail
  refine (held_any _ _).mono ?_; rintro e w' ⟨rfl, rfl⟩; rw [E1.out]
  go_wp2_with fail
  refine (held_any _ _).mono ?_; rintro e w' ⟨rfl, rfl⟩; rw [E2.out]
  go_wp2_with fail
  refine (held_any _ _).mono ?_; rintro e w' ⟨rfl, rfl⟩; rw [E3.out]
  go_wp2_with fail
  go_ret
  exact ⟨rfl, rfl⟩
end Lm
end Go.Proofs.Ytdcbapheoagelaa
