/- The walks of package limit's reference: which begins count; may one more be; are two lists alike. -/
import Derived.Test.YtdcbapheoagelaaLimMath
namespace Go.Proofs.Ytdcbapheoagelaa
open Go.RowKit

namespace Lm
set_option maxHeartbeats 2000000 in
theorem refKeep_ever (A : Option Addr) (c : Nat) (xs : List Int) (now : Int) (w : World) (hr : Rd w w.heap.size 1 A xs.length (ints xs)) (hb : xs.length * 8 ≤ 140737488351232) :
    Calls Try.prog 20 #[.slice A xs.length c, .int .i64 now, .int .i64 1099511627776] w (SomeOwn (keepL xs now 1099511627776) w) := by
  obtain ⟨i0, hi, hz0, hz1, hz2⟩ := info_parts Try.info3
  have Hr := Lib.hid hr
  clear hr
  cases hR : rightB xs now 1099511627776
  · go_enter Try.func20, Try.ntmps20
    go_wp2_with ((go_at_call 29; refine (refRight_any A c xs _ _ _ Hr.out hb).mono ?_; rintro e w' ⟨rfl, rfl⟩))
    go_ret
    exact ⟨_, rfl, by simp [keepL, hR]; exact World.ownsRow_nil _ _ _ _, Below.refl _ _⟩
  · have hbd := right_bounds hR
    obtain ⟨hn, he, hx⟩ := hbd
    have Hx := Lib.hid hx
    have HR := Lib.hid hR
    have hn1 := hn.1
    have hn2 := hn.2
    have He := Lib.hid he
    clear hx he hn
    go_enter Try.func20, Try.ntmps20
    go_wp2_with ((go_at_call 29; refine (refRight_any A c xs _ _ _ Hr.out hb).mono ?_; rintro e w' ⟨rfl, rfl⟩))
    clear hR
    go_loopw [7, 17] (fun v i wr => ∃ k : Nat, k ≤ xs.length ∧ i = .int .i64 k ∧ wr.ownsRow w.heap.size 3 1 v ((xs.take k).filter (inB now 1099511627776)).length (ints ((xs.take k).filter (inB now 1099511627776))) ∧ Below w.heap.size w wr) (fun _ i _ => xs.length - (intOf i).toNat)
    case atStart => exact ⟨0, Nat.zero_le _, rfl, World.ownsRow_nil _ _ _ _, Below.refl _ _⟩
    case round =>
      obtain ⟨k, hk, rfl, hown, hbel⟩ := hrel
      have hfl := filter_take_le (p := inB now 1099511627776) (xs := xs) (k := k)
      by_cases hlt : k < xs.length
      · obtain ⟨b, o, rfl, hB, hc⟩ := (Hr.out.on (Nat.le_refl _) hbel).open (by omega)
        have hcell : wr.cell? ⟨b, o + k, none⟩ = some (.int .i64 xs[k]) := by rw [hc k (by omega), ints_at hlt]
        have Hc := Lib.hid hc
        have Hown := Lib.hid hown
        have Hbel := Lib.hid hbel
        have hsz := hbel.size
        have hx := Hx.out xs[k] (List.getElem_mem hlt)
        have hx1 := hx.1
        have hx2 := hx.2
        clear hc hown hbel hx
        have hft := filter_take_succ (p := inB now 1099511627776) hlt
        have h63 : ((xs.take k).filter (inB now 1099511627776)).length + 1 ≤ maxLen := by unfold maxLen; omega
        have hby : (((xs.take k).filter (inB now 1099511627776)).length + 1) * 8 ≤ 140737488355328 := by omega
        have hin := inB_iff now 1099511627776 xs[k]
        rcases (show now < xs[k] ∨ xs[k] ≤ now from by omega) with h1 | h1
        · have ht : inB now 1099511627776 xs[k] = false := by rw [Bool.eq_false_iff, ne_eq, hin]; omega
          have hft' : (xs.take (k + 1)).filter (inB now 1099511627776) = (xs.take k).filter (inB now 1099511627776) := by rw [hft, ht]; simp
          have Hft := Lib.hid hft'
          clear hft hft' ht hin
          go_wp2
          go_roundw
          case rel => exact ⟨k + 1, by omega, by go_num, by rw [Hft.out]; exact Hown.out, Hbel.out⟩
          case measure => simp [intOf]; omega
        · have ht : inB now 1099511627776 xs[k] = true := by rw [hin]; omega
          have hft' : (xs.take (k + 1)).filter (inB now 1099511627776) = (xs.take k).filter (inB now 1099511627776) ++ [xs[k]] := by rw [hft, ht]; simp
          have Hft := Lib.hid hft'
          clear hft hft' ht hin
          go_wp2_with (at_builtin; refine wpList_push w wr (by rfl) _ _ 29 (by rfl) w.heap.size 3 i0 (.int .i64 0) 1 8 Try.underlying29 hi hz0 hz1 hz2 rfl (by decide) _ _ _ (by rfl) Hown.out [.int .i64 xs[k]] (by rfl) rfl (by simp [Value.oneCell']) h63 hby hsz Hbel.out ?_; intro A1 c1 w1 hown1 hbel1 hg1 hat1)
          go_roundw
          case rel => exact ⟨k + 1, by omega, by go_num, by rw [Hft.out]; simpa using hown1, hbel1⟩
          case measure => simp [intOf]; omega
      · have Hown := Lib.hid hown
        have Hbel := Lib.hid hbel
        clear hown hbel
        go_wp2
        go_ret
        have hkl : k = xs.length := by omega
        have ho := Hown.out
        rw [List.take_of_length_le (by omega)] at ho
        exact ⟨_, rfl, by simpa [keepL, HR.out] using ho, Hbel.out⟩

set_option maxHeartbeats 2000000 in
theorem refKeep_else (A : Option Addr) (c : Nat) (xs : List Int) (now every : Int) (w : World) (hr : Rd w w.heap.size 1 A xs.length (ints xs)) (hb : xs.length * 8 ≤ 140737488351232) (hne : Hid (¬ every = 1099511627776)) :
    Calls Try.prog 20 #[.slice A xs.length c, .int .i64 now, .int .i64 every] w (SomeOwn (keepL xs now every) w) := by
  obtain ⟨i0, hi, hz0, hz1, hz2⟩ := info_parts Try.info3
  have Hr := Lib.hid hr
  clear hr
  cases hR : rightB xs now every
  · go_enter Try.func20, Try.ntmps20
    go_wp2_with ((go_at_call 29; refine (refRight_any A c xs _ _ _ Hr.out hb).mono ?_; rintro e w' ⟨rfl, rfl⟩))
    go_ret
    exact ⟨_, rfl, by simp [keepL, hR]; exact World.ownsRow_nil _ _ _ _, Below.refl _ _⟩
  · have hbd := right_bounds hR
    obtain ⟨hn, he, hx⟩ := hbd
    have Hx := Lib.hid hx
    have HR := Lib.hid hR
    have hn1 := hn.1
    have hn2 := hn.2
    have He := Lib.hid he
    clear hx he hn
    go_enter Try.func20, Try.ntmps20
    go_wp2_with ((go_at_call 29; refine (refRight_any A c xs _ _ _ Hr.out hb).mono ?_; rintro e w' ⟨rfl, rfl⟩))
    clear hR
    go_loopw [7, 17] (fun v i wr => ∃ k : Nat, k ≤ xs.length ∧ i = .int .i64 k ∧ wr.ownsRow w.heap.size 3 1 v ((xs.take k).filter (inB now every)).length (ints ((xs.take k).filter (inB now every))) ∧ Below w.heap.size w wr) (fun _ i _ => xs.length - (intOf i).toNat)
    case atStart => exact ⟨0, Nat.zero_le _, rfl, World.ownsRow_nil _ _ _ _, Below.refl _ _⟩
    case round =>
      obtain ⟨k, hk, rfl, hown, hbel⟩ := hrel
      have hfl := filter_take_le (p := inB now every) (xs := xs) (k := k)
      by_cases hlt : k < xs.length
      · obtain ⟨b, o, rfl, hB, hc⟩ := (Hr.out.on (Nat.le_refl _) hbel).open (by omega)
        have hcell : wr.cell? ⟨b, o + k, none⟩ = some (.int .i64 xs[k]) := by rw [hc k (by omega), ints_at hlt]
        have Hc := Lib.hid hc
        have Hown := Lib.hid hown
        have Hbel := Lib.hid hbel
        have hsz := hbel.size
        have hx := Hx.out xs[k] (List.getElem_mem hlt)
        have hx1 := hx.1
        have hx2 := hx.2
        clear hc hown hbel hx
        have hft := filter_take_succ (p := inB now every) hlt
        have h63 : ((xs.take k).filter (inB now every)).length + 1 ≤ maxLen := by unfold maxLen; omega
        have hby : (((xs.take k).filter (inB now every)).length + 1) * 8 ≤ 140737488355328 := by omega
        have hin := inB_iff now every xs[k]
        have hev : (every == 1099511627776) = false := by simp; exact hne.out
        have he1 : 0 ≤ every := by have := He.out; have := hne.out; omega
        have he2 : every ≤ 6311433600 := by have := He.out; have := hne.out; omega
        have hne' := hne.out
        rcases (show now < xs[k] ∨ (xs[k] ≤ now ∧ now - xs[k] < every) ∨ (xs[k] ≤ now ∧ ¬ now - xs[k] < every) from by omega) with h1 | ⟨h1, h2⟩ | ⟨h1, h2⟩
        all_goals clear hne'
        · have ht : inB now every xs[k] = false := by rw [Bool.eq_false_iff, ne_eq, hin]; have := hne.out; omega
          have hft' : (xs.take (k + 1)).filter (inB now every) = (xs.take k).filter (inB now every) := by rw [hft, ht]; simp
          have Hft := Lib.hid hft'
          clear hft hft' ht hin
          go_wp2
          go_roundw
          case rel => exact ⟨k + 1, by omega, by go_num, by rw [Hft.out]; exact Hown.out, Hbel.out⟩
          case measure => simp [intOf]; omega
        · have ht : inB now every xs[k] = true := by have := hne.out; rw [hin]; omega
          have hft' : (xs.take (k + 1)).filter (inB now every) = (xs.take k).filter (inB now every) ++ [xs[k]] := by rw [hft, ht]; simp
          have Hft := Lib.hid hft'
          clear hft hft' ht hin
          go_wp2_with (at_builtin; refine wpList_push w wr (by rfl) _ _ 29 (by rfl) w.heap.size 3 i0 (.int .i64 0) 1 8 Try.underlying29 hi hz0 hz1 hz2 rfl (by decide) _ _ _ (by rfl) Hown.out [.int .i64 xs[k]] (by rfl) rfl (by simp [Value.oneCell']) h63 hby hsz Hbel.out ?_; intro A1 c1 w1 hown1 hbel1 hg1 hat1)
          go_roundw
          case rel => exact ⟨k + 1, by omega, by go_num, by rw [Hft.out]; simpa using hown1, hbel1⟩
          case measure => simp [intOf]; omega
        · have ht : inB now every xs[k] = false := by rw [Bool.eq_false_iff, ne_eq, hin]; have := hne.out; omega
          have hft' : (xs.take (k + 1)).filter (inB now every) = (xs.take k).filter (inB now every) := by rw [hft, ht]; simp
          have Hft := Lib.hid hft'
          clear hft hft' ht hin
          go_wp2
          go_roundw
          case rel => exact ⟨k + 1, by omega, by go_num, by rw [Hft.out]; exact Hown.out, Hbel.out⟩
          case measure => simp [intOf]; omega
      · have Hown := Lib.hid hown
        have Hbel := Lib.hid hbel
        clear hown hbel
        go_wp2
        go_ret
        have hkl : k = xs.length := by omega
        have ho := Hown.out
        rw [List.take_of_length_le (by omega)] at ho
        exact ⟨_, rfl, by simpa [keepL, HR.out] using ho, Hbel.out⟩

theorem refKeep_any (A : Option Addr) (c : Nat) (xs : List Int) (now every : Int) (w : World) (hr : Rd w w.heap.size 1 A xs.length (ints xs)) (hb : xs.length * 8 ≤ 140737488351232) :
    Calls Try.prog 20 #[.slice A xs.length c, .int .i64 now, .int .i64 every] w (SomeOwn (keepL xs now every) w) := by
  by_cases h : every = 1099511627776
  · subst h; exact refKeep_ever A c xs now w hr hb
  · exact refKeep_else A c xs now every w hr hb h

end Lm
end Go.Proofs.Ytdcbapheoagelaa
