/- The walks of the laws LimitAll and LimitFree: each returns true. -/
import Derived.Test.YtdcbapheoagelaaLimLaw1
namespace Go.Proofs.Ytdcbapheoagelaa
open Go.RowKit

namespace Lm
set_option maxHeartbeats 1000000 in
theorem all_any (A : Option Addr) (c : Nat) (xs : List Int) (now every burst : Int) (w : World) (hr : Rd w w.heap.size 1 A xs.length (ints xs)) :
    Calls Try.prog 6 #[.slice A xs.length c, .int .i64 now, .int .i64 every, .int .i64 burst] w fun e w' => e = .returned (.bool true) ∧ Below w.heap.size w w' := by
  have Hr := Lib.hid hr
  clear hr
  by_cases hl : 100 < xs.length
  · go_enter Try.func6, Try.ntmps6
    go_wp2_with ((go_at_call 15; refine (shown_any _).mono ?_; rintro e w1 ⟨rfl, hb1⟩))
    go_ret
    exact ⟨rfl, hb1⟩
  · have hb : xs.length * 8 ≤ 140737488351232 := by omega
    go_enter Try.func6, Try.ntmps6
    go_wp2_with fail
    refine (shown_any _).mono ?_; rintro e w1 ⟨rfl, hb1⟩
    have Hb1 := Lib.hid hb1
    clear hb1
    go_wp2_with fail
    refine (free_any A c xs now every burst _ ((Hr.out.on (Nat.le_refl _) Hb1.out).more Hb1.out.size) (by omega)).mono ?_
    rintro e w2 ⟨r, ok, rfl, hf, hb2⟩
    have Hb2 := Lib.hid (Hb1.out.trans (hb2.mono Hb1.out.size))
    clear hb2
    go_wp2_with fail
    refine (refFree_any A c xs now every burst _ ((Hr.out.on (Nat.le_refl _) Hb2.out).more Hb2.out.size) (by omega)).mono ?_
    rintro e w3 ⟨r', ok', rfl, hf', hb3⟩
    obtain ⟨rfl, rfl⟩ := hf.one hf'
    have Hb3 := Lib.hid (Hb2.out.trans (hb3.mono Hb2.out.size))
    clear hb3 hf hf'
    go_wp2_with fail
    refine (keep_any A c xs now every _ ((Hr.out.on (Nat.le_refl _) Hb3.out).more Hb3.out.size) (by omega)).mono ?_
    rintro e w4 ⟨v4, rfl, hown4, hb4⟩
    obtain ⟨A4, c4, rfl, hr4⟩ := own_rd hown4
    have Hb4 := Lib.hid (Hb3.out.trans (hb4.mono Hb3.out.size))
    have Hr4 := Lib.hid hr4
    have hlk : (keepL xs now every).length ≤ xs.length := by unfold keepL; split; exact List.length_filter_le _ _; simp
    clear hb4 hown4 hr4
    go_wp2_with fail
    refine (refKeep_any A c xs now every _ ((Hr.out.on (Nat.le_refl _) Hb4.out).more Hb4.out.size) (by omega)).mono ?_
    rintro e w5 ⟨v5, rfl, hown5, hb5⟩
    obtain ⟨A5, c5, rfl, hr5⟩ := own_rd hown5
    have Hb5 := Lib.hid (Hb4.out.trans (hb5.mono Hb4.out.size))
    have Hr5 := Lib.hid hr5
    have Hr4' := Lib.hid ((Hr4.out.on (Nat.le_refl _) hb5).more hb5.size)
    clear hb5 hown5 hr5
    go_wp2_with fail
    refine (same_any A4 A5 c4 c5 _ _ _ Hr4'.out Hr5.out (by omega) (by omega)).mono ?_
    rintro e w6 ⟨rfl, hb6⟩
    have Hb6 := Lib.hid (Hb5.out.trans (hb6.mono Hb5.out.size))
    clear hb6
    rw [show decide (keepL xs now every = keepL xs now every) = true from by simp]
    go_wp2_with fail
    refine (may_any A c xs now every burst _ ((Hr.out.on (Nat.le_refl _) Hb6.out).more Hb6.out.size) (by omega)).mono ?_
    rintro e w7 ⟨rfl, hb7⟩
    have Hb7 := Lib.hid (Hb6.out.trans (hb7.mono Hb6.out.size))
    clear hb7
    go_wp2_with fail
    refine (allowed_any A c xs now every burst _ ((Hr.out.on (Nat.le_refl _) Hb7.out).more Hb7.out.size) (by omega)).mono ?_
    rintro e w8 ⟨rfl, hb8⟩
    have Hb8 := Lib.hid (Hb7.out.trans (hb8.mono Hb7.out.size))
    clear hb8
    go_wp2_with fail
    go_ret
    exact ⟨rfl, Hb8.out⟩

theorem FreeIs.says {xs : List Int} {now every burst r : Int} {ok : Bool} (h : FreeIs xs now every burst r ok) (hn : timeB now = true) :
    (ok = true → now ≤ r ∧ r < 6311433600 ∧ mayB xs r every burst = true ∧ ∀ t, now ≤ t → t < r → mayB xs t every burst = false) ∧ (ok = false → ∀ t, now ≤ t → t < 6311433600 → mayB xs t every burst = false) := by
  cases hR : rightB xs now every
  · obtain ⟨rfl, rfl⟩ := h.1 hR
    refine ⟨fun h => (by cases h), fun _ t _ _ => ?_⟩
    unfold rightB at hR
    rw [hn] at hR
    unfold mayB rightB
    rw [Bool.true_and] at hR
    rw [Bool.and_assoc (timeB t), hR]
    simp
  · have h2 := h.2 hR
    exact ⟨h2.1, fun h => (h2.2 h).2⟩

set_option maxHeartbeats 1000000 in
theorem free_law (A : Option Addr) (c : Nat) (xs : List Int) (now every burst at_ : Int) (w : World) (hr : Rd w w.heap.size 1 A xs.length (ints xs)) :
    Calls Try.prog 7 #[.slice A xs.length c, .int .i64 now, .int .i64 every, .int .i64 burst, .int .i64 at_] w fun e w' => e = .returned (.bool true) ∧ Below w.heap.size w w' := by
  have Hr := Lib.hid hr
  clear hr
  by_cases hl : 100 < xs.length
  · go_enter Try.func7, Try.ntmps7
    go_wp2_with ((go_at_call 15; refine (shown_any _).mono ?_; rintro e w1 ⟨rfl, hb1⟩))
    go_ret
    exact ⟨rfl, hb1⟩
  · have hb : xs.length * 8 ≤ 140737488351232 := by omega
    cases hn : timeB now
    · go_enter Try.func7, Try.ntmps7
      go_wp2_with (first | (go_at_call 15; refine (shown_any _).mono ?_; rintro e w1 ⟨rfl, hb1⟩) | (go_at_call 23; refine (refTime_any _ _).mono ?_; rintro e w' ⟨rfl, rfl⟩))
      go_ret
      exact ⟨rfl, hb1⟩
    · have Hn := Lib.hid hn
      go_enter Try.func7, Try.ntmps7
      go_wp2_with fail
      refine (shown_any _).mono ?_; rintro e w1 ⟨rfl, hb1⟩
      have Hb1 := Lib.hid hb1
      clear hb1
      go_wp2_with ((go_at_call 23; refine (refTime_any _ _).mono ?_; rintro e w' ⟨rfl, rfl⟩))
      clear hn
      refine (free_any A c xs now every burst _ ((Hr.out.on (Nat.le_refl _) Hb1.out).more Hb1.out.size) (by omega)).mono ?_
      rintro e w2 ⟨r, ok, rfl, hf, hb2⟩
      have Hb2 := Lib.hid (Hb1.out.trans (hb2.mono Hb1.out.size))
      have hs := hf.says Hn.out
      clear hb2 hf
      cases ok
      · have hs2 := hs.2 rfl
        have Hs2 := Lib.hid hs2
        clear hs hs2
        rcases (show at_ < now ∨ (¬ at_ < now ∧ 6311433600 ≤ at_) ∨ (¬ at_ < now ∧ ¬ 6311433600 ≤ at_) from by omega) with h1 | ⟨h1, h2⟩ | ⟨h1, h2⟩
        · go_wp2_with fail
          go_ret
          exact ⟨rfl, Hb2.out⟩
        · go_wp2_with fail
          go_ret
          exact ⟨rfl, Hb2.out⟩
        · go_wp2_with fail
          refine (may_any A c xs at_ every burst _ ((Hr.out.on (Nat.le_refl _) Hb2.out).more Hb2.out.size) (by omega)).mono ?_
          rintro e w3 ⟨rfl, hb3⟩
          rw [Hs2.out at_ (by omega) (by omega)]
          have Hb3 := Lib.hid (Hb2.out.trans (hb3.mono Hb2.out.size))
          clear hb3
          go_wp2_with fail
          go_ret
          exact ⟨rfl, Hb3.out⟩
      · obtain ⟨h1, h2, h3, h4⟩ := hs.1 rfl
        have H3 := Lib.hid h3
        have H4 := Lib.hid h4
        have h1' : ¬ r < now := by omega
        have h2' : ¬ 6311433600 ≤ r := by omega
        clear hs h3 h4
        go_wp2_with fail
        refine (may_any A c xs r every burst _ ((Hr.out.on (Nat.le_refl _) Hb2.out).more Hb2.out.size) (by omega)).mono ?_
        rintro e w3 ⟨rfl, hb3⟩
        rw [H3.out]
        have Hb3 := Lib.hid (Hb2.out.trans (hb3.mono Hb2.out.size))
        clear hb3
        rcases (show at_ < now ∨ (¬ at_ < now ∧ 6311433600 ≤ at_) ∨ (¬ at_ < now ∧ ¬ 6311433600 ≤ at_ ∧ r ≤ at_) ∨ (¬ at_ < now ∧ ¬ 6311433600 ≤ at_ ∧ ¬ r ≤ at_) from by omega) with g1 | ⟨g1, g2⟩ | ⟨g1, g2, g3⟩ | ⟨g1, g2, g3⟩
        · go_wp2_with fail
          go_ret
          exact ⟨rfl, Hb3.out⟩
        · go_wp2_with fail
          go_ret
          exact ⟨rfl, Hb3.out⟩
        · go_wp2_with fail
          go_ret
          exact ⟨rfl, Hb3.out⟩
        · go_wp2_with fail
          refine (may_any A c xs at_ every burst _ ((Hr.out.on (Nat.le_refl _) Hb3.out).more Hb3.out.size) (by omega)).mono ?_
          rintro e w4 ⟨rfl, hb4⟩
          rw [H4.out at_ (by omega) (by omega)]
          have Hb4 := Lib.hid (Hb3.out.trans (hb4.mono Hb3.out.size))
          clear hb4
          go_wp2_with fail
          go_ret
          exact ⟨rfl, Hb4.out⟩
end Lm
end Go.Proofs.Ytdcbapheoagelaa
