/- The walks of package limit and of its reference: which begins count, and whether one more may be. -/
import Derived.Test.YtdcbapheoagelaaLimWalks
namespace Go.Proofs.Ytdcbapheoagelaa
open Go.RowKit

namespace Lm
set_option maxHeartbeats 400000 in
theorem refRight_any (A : Option Addr) (c : Nat) (xs : List Int) (now every : Int) (w : World) (hr : Rd w w.heap.size 1 A xs.length (ints xs)) (hb : xs.length * 8 ≤ 140737488351232) :
    Calls Try.prog 29 #[.slice A xs.length c, .int .i64 now, .int .i64 every] w fun e w' => e = .returned (.bool (rightB xs now every)) ∧ w = w' := by
  have Hr := Lib.hid hr
  clear hr
  go_enter Try.func29, Try.ntmps29
  go_wp2_with fail
  go_loop [11] (fun i => ∃ k : Nat, k ≤ xs.length ∧ i = .int .i64 k ∧ (xs.take k).all timeB = true) (fun i => xs.length - (intOf i).toNat)
  case atStart => exact ⟨0, Nat.zero_le _, rfl, by simp⟩
  case round =>
    obtain ⟨k, hk, rfl, hall⟩ := hrel
    have Hall := Lib.hid hall
    clear hall
    by_cases hlt : k < xs.length
    · obtain ⟨b, o, rfl, hB, hc⟩ := Hr.out.open (by omega)
      have hcell : w.cell? ⟨b, o + k, none⟩ = some (.int .i64 xs[k]) := by rw [hc k (by omega), ints_at hlt]
      have Hc := Lib.hid hc
      clear hc
      cases ht : timeB xs[k]
      · have Ht := Lib.hid ht
        go_wp2_with ((go_at_call 23; refine (refTime_any _ _).mono ?_; rintro e w' ⟨rfl, rfl⟩))
        go_ret
        exact ⟨ret_bool (by have := anyBad hlt Ht.out; simp only [Bool.not_eq_true'] at this; simp [rightB, this]), rfl⟩
      · have Ht := Lib.hid ht
        go_wp2_with ((go_at_call 23; refine (refTime_any _ _).mono ?_; rintro e w' ⟨rfl, rfl⟩))
        go_round
        case rel => exact ⟨k + 1, by omega, by go_num, allTake_succ hlt Hall.out Ht.out⟩
        case measure => simp [intOf]; omega
    · have hkl : k = xs.length := by omega
      have ha := Hall.out
      rw [List.take_of_length_le (by omega)] at ha
      have Ha := Lib.hid ha
      have Hkl := Lib.hid hkl
      clear ha hkl
      cases h1 : timeB now
      · go_wp2_with (first | (go_at_call 23; refine (refTime_any _ _).mono ?_; rintro e w' ⟨rfl, rfl⟩) | (go_at_call 24; refine (refSpan_any _ _).mono ?_; rintro e w' ⟨rfl, rfl⟩))
        go_ret
        exact ⟨ret_bool (by simp [rightB, h1]), rfl⟩
      · go_wp2_with (first | (go_at_call 23; refine (refTime_any _ _).mono ?_; rintro e w' ⟨rfl, rfl⟩) | (go_at_call 24; refine (refSpan_any _ _).mono ?_; rintro e w' ⟨rfl, rfl⟩))
        go_ret
        exact ⟨ret_bool (by simp [rightB, h1, Ha.out]), rfl⟩

def inB (now every b : Int) : Bool := decide (b ≤ now) && (decide (every = 1099511627776) || decide (now - every < b))

theorem right_bounds {xs : List Int} {now every : Int} (h : rightB xs now every = true) : (0 ≤ now ∧ now < 6311433600) ∧ ((0 ≤ every ∧ every ≤ 6311433600) ∨ every = 1099511627776) ∧ ∀ x ∈ xs, 0 ≤ x ∧ x < 6311433600 := by
  unfold rightB at h
  simp only [Bool.and_eq_true, List.all_eq_true] at h
  exact ⟨(timeB_iff _).1 h.1.1, (spanB_iff _).1 h.1.2, fun x hx => (timeB_iff _).1 (h.2 x hx)⟩

set_option maxHeartbeats 400000 in
theorem in_any (b now every : Int) (w : World) (h1 : 0 ≤ now) (h2 : now < 6311433600) (h3 : 0 ≤ every) (h4 : every ≤ 1099511627776) :
    Calls Try.prog 30 #[.int .i64 b, .int .i64 now, .int .i64 every] w fun e w' => e = .returned (.bool (inB now every b)) ∧ w = w' := by
  go_enter Try.func30, Try.ntmps30
  go_wp2
  all_goals go_ret
  all_goals exact ⟨ret_bool (by rw [Bool.eq_iff_iff]; simp [inB] <;> omega), rfl⟩

def keepL (xs : List Int) (now every : Int) : List Int := if rightB xs now every then xs.filter (inB now every) else []

theorem Try.info3 : (Try.prog.info? 3).map (fun i => (i.zero, i.size, i.bytes)) = some (some (.int .i64 0), 1, 8) := by kernel_rfl

def SomeOwn (xs : List Int) (w : World) (e : Ending) (w' : World) : Prop :=
  ∃ v, e = .returned v ∧ w'.ownsRow w.heap.size 3 1 v xs.length (ints xs) ∧ Below w.heap.size w w'

theorem filter_take_succ {p : Int → Bool} {xs : List Int} {k : Nat} (hk : k < xs.length) : (xs.take (k + 1)).filter p = (xs.take k).filter p ++ if p xs[k] then [xs[k]] else [] := by
  rw [List.take_succ_eq_append_getElem hk, List.filter_append]
  cases h : p xs[k] <;> simp [h]

theorem filter_take_le {p : Int → Bool} {xs : List Int} {k : Nat} : ((xs.take k).filter p).length ≤ xs.length :=
  Nat.le_trans (List.length_filter_le _ _) (by simp; omega)

set_option maxHeartbeats 1000000 in
theorem keep_any (A : Option Addr) (c : Nat) (xs : List Int) (now every : Int) (w : World) (hr : Rd w w.heap.size 1 A xs.length (ints xs)) (hb : xs.length * 8 ≤ 140737488351232) :
    Calls Try.prog 19 #[.slice A xs.length c, .int .i64 now, .int .i64 every] w (SomeOwn (keepL xs now every) w) := by
  obtain ⟨i0, hi, hz0, hz1, hz2⟩ := info_parts Try.info3
  have Hr := Lib.hid hr
  clear hr
  cases hR : rightB xs now every
  · go_enter Try.func19, Try.ntmps19
    go_wp2_with ((go_at_call 26; refine (right_any A c xs _ _ _ Hr.out hb).mono ?_; rintro e w' ⟨rfl, rfl⟩))
    go_ret
    exact ⟨_, rfl, by simp [keepL, hR]; exact World.ownsRow_nil _ _ _ _, Below.refl _ _⟩
  · have hbd := right_bounds hR
    obtain ⟨hn, he, hx⟩ := hbd
    have Hx := Lib.hid hx
    have He : Hid _ := Lib.hid he
    have HR := Lib.hid hR
    have he1 : 0 ≤ every := by omega
    have he2 : every ≤ 1099511627776 := by omega
    have hn1 := hn.1
    have hn2 := hn.2
    clear hx he hn
    go_enter Try.func19, Try.ntmps19
    go_wp2_with ((go_at_call 26; refine (right_any A c xs _ _ _ Hr.out hb).mono ?_; rintro e w' ⟨rfl, rfl⟩))
    clear hR
    go_loopw [7, 18] (fun v i wr => ∃ k : Nat, k ≤ xs.length ∧ i = .int .i64 k ∧ wr.ownsRow w.heap.size 3 1 v ((xs.take k).filter (inB now every)).length (ints ((xs.take k).filter (inB now every))) ∧ Below w.heap.size w wr) (fun _ i _ => xs.length - (intOf i).toNat)
    case atStart => exact ⟨0, Nat.zero_le _, rfl, World.ownsRow_nil _ _ _ _, Below.refl _ _⟩
    case round =>
      obtain ⟨k, hk, rfl, hown, hbel⟩ := hrel
      have hfl := filter_take_le (p := inB now every) (xs := xs) (k := k)
      by_cases hlt : k < xs.length
      · obtain ⟨b, o, rfl, hB, hc⟩ := (Hr.out.on (Nat.le_refl _) hbel).open (by omega)
        have hcell : wr.cell? ⟨b, o + k, none⟩ = some (.int .i64 xs[k]) := by rw [hc k (by omega), ints_at hlt]
        have Hc := Lib.hid hc
        have Hown := Lib.hid hown
        have Hbel := Lib.hid hbel
        have hsz := hbel.size
        clear hc hown hbel
        have hft := filter_take_succ (p := inB now every) hlt
        cases ht : inB now every xs[k]
        · have hft' : (xs.take (k + 1)).filter (inB now every) = (xs.take k).filter (inB now every) := by rw [hft, ht]; simp
          have Hft := Lib.hid hft'
          clear hft hft'
          go_wp2_with ((go_at_call 30; refine (in_any _ _ _ _ hn1 hn2 he1 he2).mono ?_; rintro e w' ⟨rfl, rfl⟩))
          go_roundw
          case rel => exact ⟨k + 1, by omega, by go_num, by rw [Hft.out]; exact Hown.out, Hbel.out⟩
          case measure => simp [intOf]; omega
        · have hft' : (xs.take (k + 1)).filter (inB now every) = (xs.take k).filter (inB now every) ++ [xs[k]] := by rw [hft, ht]; simp
          have Hft := Lib.hid hft'
          clear hft hft'
          have h63 : ((xs.take k).filter (inB now every)).length + 1 ≤ maxLen := by unfold maxLen; omega
          have hby : (((xs.take k).filter (inB now every)).length + 1) * 8 ≤ 140737488355328 := by omega
          go_wp2_with (first | (go_at_call 30; refine (in_any _ _ _ _ hn1 hn2 he1 he2).mono ?_; rintro e w' ⟨rfl, rfl⟩) | (at_builtin; refine wpList_push w wr (by rfl) _ _ 29 (by rfl) w.heap.size 3 i0 (.int .i64 0) 1 8 Try.underlying29 hi hz0 hz1 hz2 rfl (by decide) _ _ _ (by rfl) Hown.out [.int .i64 xs[k]] (by rfl) rfl (by simp [Value.oneCell']) h63 hby hsz Hbel.out ?_; intro A1 c1 w1 hown1 hbel1 hg1 hat1))
          go_roundw
          case rel => exact ⟨k + 1, by omega, by go_num, by rw [Hft.out]; simpa using hown1, hbel1⟩
          case measure => simp [intOf]; omega
      · have Hown := Lib.hid hown
        have Hbel := Lib.hid hbel
        clear hown hbel
        go_wp2
        go_ret
        have hkl : k = xs.length := by omega
        have ho := Hown.out
        rw [List.take_of_length_le (by omega)] at ho
        exact ⟨_, rfl, by simpa [keepL, HR.out] using ho, Hbel.out⟩
end Lm
end Go.Proofs.Ytdcbapheoagelaa
