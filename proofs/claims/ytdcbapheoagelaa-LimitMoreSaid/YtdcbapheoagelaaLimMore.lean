/- The walk of the law LimitMore. -/
import Derived.Test.YtdcbapheoagelaaLimLaw2
import Derived.Test.YtdcbapheoagelaaKit2
import Derived.Test.YtdcbapheoagelaaLimMoreM
namespace Go.Proofs.Ytdcbapheoagelaa
open Go.RowKit

namespace Lm
/-- The law's own conditions, as they stand. -/
def moreOk (n : Nat) (every longer burst : Int) : Bool := !(decide (80 < n)) && !(decide (n = 0)) && spanB every && spanB longer && !decide (longer < every) && !decide (burst < 0) && !decide (1000 < burst)

set_option maxHeartbeats 4000000 in
theorem more_early (A : Option Addr) (c : Nat) (xs : List Int) (cut now every longer burst : Int) (w : World) (hno : moreOk xs.length every longer burst = false) :
    Calls Try.prog 9 #[.slice A xs.length c, .int .i64 cut, .int .i64 now, .int .i64 every, .int .i64 longer, .int .i64 burst] w fun e w' => e = .returned (.bool true) ∧ Below w.heap.size w w' := by
  have Hno := Lib.hid hno
  clear hno
  by_cases h1 : 80 < xs.length
  · go_enter Try.func9, Try.ntmps9
    go_wp2_with (first | (go_at_call 15; refine (shown_any _).mono ?_; rintro e w1 ⟨rfl, hb1⟩) | (go_at_call 24; refine (refSpan_any _ _).mono ?_; rintro e w' ⟨rfl, rfl⟩))
    go_ret
    exact ⟨rfl, hb1⟩
  by_cases h2 : xs.length = 0
  · rw [h2]
    go_enter Try.func9, Try.ntmps9
    go_wp2_with (first | (go_at_call 15; refine (shown_any _).mono ?_; rintro e w1 ⟨rfl, hb1⟩) | (go_at_call 24; refine (refSpan_any _ _).mono ?_; rintro e w' ⟨rfl, rfl⟩))
    go_ret
    exact ⟨rfl, hb1⟩
  have h2' : ((xs.length : Int) == 0) = false := by simp; intro h; rw [h] at h2; exact h2 rfl
  have H2 := Lib.hid h2
  clear h2
  cases h3 : spanB every
  · go_enter Try.func9, Try.ntmps9
    go_wp2_with (first | (go_at_call 15; refine (shown_any _).mono ?_; rintro e w1 ⟨rfl, hb1⟩) | (go_at_call 24; refine (refSpan_any _ _).mono ?_; rintro e w' ⟨rfl, rfl⟩))
    go_ret
    exact ⟨rfl, hb1⟩
  cases h4 : spanB longer
  · go_enter Try.func9, Try.ntmps9
    go_wp2_with (first | (go_at_call 15; refine (shown_any _).mono ?_; rintro e w1 ⟨rfl, hb1⟩) | (go_at_call 24; refine (refSpan_any _ _).mono ?_; rintro e w' ⟨rfl, rfl⟩))
    go_ret
    exact ⟨rfl, hb1⟩
  by_cases h5 : longer < every
  · go_enter Try.func9, Try.ntmps9
    go_wp2_with (first | (go_at_call 15; refine (shown_any _).mono ?_; rintro e w1 ⟨rfl, hb1⟩) | (go_at_call 24; refine (refSpan_any _ _).mono ?_; rintro e w' ⟨rfl, rfl⟩))
    go_ret
    exact ⟨rfl, hb1⟩
  by_cases h6 : burst < 0
  · go_enter Try.func9, Try.ntmps9
    go_wp2_with (first | (go_at_call 15; refine (shown_any _).mono ?_; rintro e w1 ⟨rfl, hb1⟩) | (go_at_call 24; refine (refSpan_any _ _).mono ?_; rintro e w' ⟨rfl, rfl⟩))
    go_ret
    exact ⟨rfl, hb1⟩
  by_cases h7 : 1000 < burst
  · go_enter Try.func9, Try.ntmps9
    go_wp2_with (first | (go_at_call 15; refine (shown_any _).mono ?_; rintro e w1 ⟨rfl, hb1⟩) | (go_at_call 24; refine (refSpan_any _ _).mono ?_; rintro e w' ⟨rfl, rfl⟩))
    go_ret
    exact ⟨rfl, hb1⟩
  exfalso
  have := Hno.out
  have h2 := H2.out
  unfold moreOk at this
  simp [h1, h2, h3, h4, h5, h6, h7] at this

theorem and_range (x : Int) : 0 ≤ bits .and .i64 x 65535 ∧ bits .and .i64 x 65535 ≤ 65535 := by
  have e : bits .and .i64 x 65535 = IntKind.i64.wrap ((BitVec.ofInt 64 x &&& BitVec.ofInt 64 65535).toNat : Int) := rfl
  have h : (BitVec.ofInt 64 x &&& BitVec.ofInt 64 65535).toNat ≤ 65535 := by
    rw [BitVec.toNat_and]
    exact Nat.le_trans Nat.and_le_right (by decide)
  rw [e, IntKind.wrap_i64]
  omega

theorem cut_at (x : Int) (n : Nat) (hn : 1 ≤ n) : ∃ k : Nat, k < n ∧ (bits .and .i64 x 65535).tmod (n : Int) = (k : Int) := by
  have h := and_range x
  generalize bits .and .i64 x 65535 = v at h
  have e : v.tmod (n : Int) = v % (n : Int) := Int.tmod_eq_emod_of_nonneg h.1
  have h1 := Int.emod_nonneg v (show (n : Int) ≠ 0 by omega)
  have h2 := Int.emod_lt_of_pos v (show (0 : Int) < (n : Int) by omega)
  exact ⟨(v % (n : Int)).toNat, by omega, by rw [e]; omega⟩

set_option maxHeartbeats 4000000 in
theorem more_any (A : Option Addr) (c : Nat) (xs : List Int) (cut now every longer burst : Int) (w : World) (hr : Rd w w.heap.size 1 A xs.length (ints xs)) (hc : xs.length ≤ c) (hyes : moreOk xs.length every longer burst = true) :
    Calls Try.prog 9 #[.slice A xs.length c, .int .i64 cut, .int .i64 now, .int .i64 every, .int .i64 longer, .int .i64 burst] w fun e w' => e = .returned (.bool true) ∧ Below w.heap.size w w' := by
  unfold moreOk at hyes
  simp only [Bool.and_eq_true, Bool.not_eq_true', decide_eq_false_iff_not] at hyes
  obtain ⟨⟨⟨⟨⟨⟨h1, h2⟩, h3⟩, h4⟩, h5⟩, h6⟩, h7⟩ := hyes
  have h2' : ((xs.length : Int) == 0) = false := by simp; intro h; rw [h] at h2; exact h2 rfl
  have h2p : 1 ≤ xs.length := by omega
  have H2 := Lib.hid h2
  have Hr := Lib.hid hr
  obtain ⟨k, hk, hcut⟩ := cut_at cut xs.length h2p
  have k1 : (0 : Int) ≤ (k : Int) := by omega
  have k2 : (k : Int) ≤ (c : Int) := by omega
  have k3 : (k : Int) + 1 ≤ (xs.length : Int) := by omega
  have k4 : (xs.length : Int) ≤ (c : Int) := by omega
  have k5 : IntKind.i64.wrap ((k : Int) + 1) = (k : Int) + 1 := IntWalk.i64_in _ (by omega)
  have k6 : (0 : Int) ≤ (k : Int) + 1 := by omega
  have k7 : ((k : Int) + 1).toNat = k + 1 := by omega
  clear h2 hr
  go_enter Try.func9, Try.ntmps9
  go_wp2_with (first | (go_at_call 15; refine (shown_any _).mono ?_; rintro e w1 ⟨rfl, hb1⟩) | (go_at_call 24; refine (refSpan_any _ _).mono ?_; rintro e w' ⟨rfl, rfl⟩))
  have Hb1 := Lib.hid hb1
  clear hb1
  obtain ⟨i0, hi, hz0, hz1, hz2⟩ := info_parts Try.info3
  have hsz1 := Hb1.out.size
  have Hr1 := Lib.hid (Hr.out.on (Nat.le_refl _) Hb1.out)
  have Ht := Lib.hid (Hr1.out.take (m := k) (by omega))
  have O1 := Lib.hid (fun (u : Value) (hu : u ∈ (ints xs).take (k * 1)) => ints_oneCell .i64 xs u (List.mem_of_mem_take hu))
  have O2 := Lib.hid (fun (u : Value) (hu : u ∈ (ints xs).drop (k + 1)) => ints_oneCell .i64 xs u (List.mem_of_mem_drop hu))
  have hkl : k ≤ maxLen := by unfold maxLen; omega
  have hby1 : k * 8 ≤ 140737488355328 := by omega
  have hml : k + (xs.length - (k + 1)) ≤ maxLen := by unfold maxLen; omega
  have hby2 : (k + (xs.length - (k + 1))) * 8 ≤ 140737488355328 := by omega
  by_cases hck : c = k + 1
  · subst hck
    have hxl : xs.length - (k + 1) = 0 := by omega
    have Hd := Lib.hid (show Rd w1 w.heap.size 1 A 0 [] from Rd.empty A)
    clear hxl
    have k2' : (k : Int) ≤ (k : Int) + 1 := by omega
    have k4' : (xs.length : Int) ≤ (k : Int) + 1 := by omega
    clear k2 k4
    go_region_held3 (fun _ => True) (trivial) (first
      | (refine step_append_first _ (by rfl) (.const (.slice none 0 0)) (.tmp 56) 29 (by rfl) w.heap.size 3 i0 (.int .i64 0) 1 8 Try.underlying29 hi hz0 hz1 hz2 rfl (by decide) (by rfl) w.heap.size A k (k + 1) _ (by rfl) Ht.out.drew O1.out hkl hby1 hsz1 ?_; intro A2 c2 w2 ho2 hb2; have hsz2 : w.heap.size ≤ w2.heap.size := Nat.le_trans hsz1 hb2.size; have Hd2 := Hd.out.drew.below (hb2.mono hsz1))
      | (refine step_append_rd w2 (by rfl) (.tmp 57) (.tmp 61) 29 (by rfl) w.heap.size 3 i0 (.int .i64 0) 1 8 Try.underlying29 hi hz0 hz1 hz2 rfl (by decide) (.slice A2 k c2) k ((ints xs).take (k * 1)) (by rfl) ho2 w.heap.size A 0 0 [] (by rfl) Hd2 (by simp) hkl hby1 hsz2 ?_; intro A3 c3 w3 ho3 hg3 ha3; have hb3 : Below w.heap.size w w3 := (Hb1.out.drew.trans (hb2.mono hsz1)).grown hg3 hsz2 (fun g hg => (ho2.lt g hg).1); clear hg3 ha3 ho2 hb2 hsz2 Hd2))
    have Hb3 := Lib.hid (hb3)
    have hFk : (fewer xs k).length = k := by rw [fewer_len xs k hk]; omega
    have hFi : (ints xs).take (k * 1) ++ [] = ints (fewer xs k) := by rw [← fewer_ints, List.drop_eq_nil_of_le (by simp; omega)]
    have ho3' : w3.ownsRow w.heap.size 3 1 (.slice A3 (fewer xs k).length c3) (fewer xs k).length (ints (fewer xs k)) := by rw [hFk, ← hFi]; exact ho3
    have HFl := Lib.hid (show Value.slice A3 k c3 = Value.slice A3 (fewer xs k).length c3 from by rw [hFk])
    have HF := Lib.hid (own_rd' ho3')
    have hFle : (fewer xs k).length * 8 ≤ 140737488351232 := by omega
    clear hFk ho3'
    have hFl := trivial
    have hb8 : xs.length * 8 ≤ 140737488351232 := by omega
    have k8 : IntKind.i64.wrap (burst + 1) = burst + 1 := IntWalk.i64_in _ (by omega)
    have Hsub := Lib.hid (fewer_sub xs k)
    clear hFl hFi ho3 hb3 hcut
    cases hm : mayB xs now every burst
    · have hm4 : mayB xs now longer burst = false := by
        cases h : mayB xs now longer burst
        · rfl
        · rw [may_longer h3 h4 (by omega) h] at hm; cases hm
      have Hm := Lib.hid hm
      have Hm4 := Lib.hid hm4
      clear hm hm4
      go_wp2_with fail
      refine (may_any A (k + 1) xs now every burst _ ((Hr.out.on (Nat.le_refl _) Hb3.out).more Hb3.out.size) hb8).mono ?_
      rintro e w4 ⟨rfl, hb4⟩
      rw [Hm.out]
      have Hb4 := Lib.hid (Hb3.out.trans (hb4.mono Hb3.out.size))
      clear hb4
      go_wp2_with fail
      refine (may_any A (k + 1) xs now longer burst _ ((Hr.out.on (Nat.le_refl _) Hb4.out).more Hb4.out.size) hb8).mono ?_
      rintro e w5 ⟨rfl, hb5⟩
      rw [Hm4.out]
      have Hb7 := Lib.hid (Hb4.out.trans (hb5.mono Hb4.out.size))
      clear hb5
      go_wp2_with fail
      refine (keep_any A (k + 1) xs now longer _ ((Hr.out.on (Nat.le_refl _) Hb7.out).more Hb7.out.size) hb8).mono ?_
      rintro e w8 ⟨v8, rfl, hown8, hb8'⟩
      obtain ⟨A8, c8, rfl, hr8⟩ := own_rd hown8
      have Hb8 := Lib.hid (Hb7.out.trans (hb8'.mono Hb7.out.size))
      have Hr8 := Lib.hid hr8
      have hlk := keep_len xs now longer
      have hlk8 : (keepL xs now longer).length * 8 ≤ 140737488351232 := by omega
      have hle8 : (keepL xs now every).length * 8 ≤ 140737488351232 := by have := keep_len xs now every; omega
      have Hkk := Lib.hid (keep_keep (xs := xs) (now := now) h3 h4 (show every ≤ longer by omega))
      have Hks := Lib.hid (keep_same (xs := xs) (now := now) (longer := longer))
      clear hb8' hown8 hr8 hlk
      go_wp2_with fail
      refine (keep_any A8 c8 (keepL xs now longer) now every _ Hr8.out hlk8).mono ?_
      rintro e w9 ⟨v9, rfl, hown9, hb9⟩
      rw [Hkk.out] at hown9
      obtain ⟨A9, c9, rfl, hr9⟩ := own_rd hown9
      have Hb9 := Lib.hid (Hb8.out.trans (hb9.mono Hb8.out.size))
      have Hr9 := Lib.hid hr9
      have Hr8' := Lib.hid ((Hr8.out.on (Nat.le_refl _) hb9).more hb9.size)
      clear hb9 hown9 hr9
      go_wp2_with fail
      refine (keep_any A (k + 1) xs now every _ ((Hr.out.on (Nat.le_refl _) Hb9.out).more Hb9.out.size) hb8).mono ?_
      rintro e w10 ⟨v10, rfl, hown10, hb10⟩
      obtain ⟨A10, c10, rfl, hr10⟩ := own_rd hown10
      have Hb10 := Lib.hid (Hb9.out.trans (hb10.mono Hb9.out.size))
      have Hr10 := Lib.hid hr10
      have Hr9' := Lib.hid ((Hr9.out.on (Nat.le_refl _) hb10).more hb10.size)
      have Hr8'' := Lib.hid ((Hr8'.out.on (Nat.le_refl _) hb10).more hb10.size)
      clear hb10 hown10 hr10
      go_wp2_with fail
      refine (same_any A9 A10 c9 c10 _ _ _ Hr9'.out Hr10.out hle8 hle8).mono ?_
      rintro e w11 ⟨rfl, hb11⟩
      have Hb11 := Lib.hid (Hb10.out.trans (hb11.mono Hb10.out.size))
      have Hr8'3 := Lib.hid ((Hr8''.out.on (Nat.le_refl _) hb11).more hb11.size)
      rw [show decide (keepL xs now every = keepL xs now every) = true from by simp]
      clear hb11
      go_wp2_with fail
      refine (keep_any A8 c8 (keepL xs now longer) now longer _ Hr8'3.out hlk8).mono ?_
      rintro e w12 ⟨v12, rfl, hown12, hb12⟩
      rw [Hks.out] at hown12
      obtain ⟨A12, c12, rfl, hr12⟩ := own_rd hown12
      have Hb12 := Lib.hid (Hb11.out.trans (hb12.mono Hb11.out.size))
      have Hr12 := Lib.hid hr12
      have Hr8'4 := Lib.hid ((Hr8'3.out.on (Nat.le_refl _) hb12).more hb12.size)
      clear hb12 hown12 hr12
      go_wp2_with fail
      refine (same_any A12 A8 c12 c8 _ _ _ Hr12.out Hr8'4.out hlk8 hlk8).mono ?_
      rintro e w13 ⟨rfl, hb13⟩
      have Hb13 := Lib.hid (Hb12.out.trans (hb13.mono Hb12.out.size))
      rw [show decide (keepL xs now longer = keepL xs now longer) = true from by simp]
      clear hb13
      go_wp2_with fail
      go_ret
      exact ⟨rfl, Hb13.out⟩
    · have Hm := Lib.hid hm
      have Hmf := Lib.hid (may_fewer Hsub.out hm)
      have Hmm := Lib.hid (may_more hm)
      clear hm
      go_wp2_with fail
      refine (may_any A (k + 1) xs now every burst _ ((Hr.out.on (Nat.le_refl _) Hb3.out).more Hb3.out.size) hb8).mono ?_
      rintro e w4 ⟨rfl, hb4⟩
      rw [Hm.out]
      have Hb4 := Lib.hid (Hb3.out.trans (hb4.mono Hb3.out.size))
      have HF4 := Lib.hid ((HF.out.on (Nat.le_refl _) hb4).more hb4.size)
      clear hb4
      go_wp2_with fail
      rw [HFl.out]
      refine (may_any A3 c3 (fewer xs k) now every burst _ HF4.out hFle).mono ?_
      rintro e w5 ⟨rfl, hb5⟩
      rw [Hmf.out]
      have Hb5 := Lib.hid (Hb4.out.trans (hb5.mono Hb4.out.size))
      clear hb5
      go_wp2_with fail
      refine (may_any A (k + 1) xs now every (burst + 1) _ ((Hr.out.on (Nat.le_refl _) Hb5.out).more Hb5.out.size) hb8).mono ?_
      rintro e w6 ⟨rfl, hb6⟩
      rw [Hmm.out]
      have Hb6 := Lib.hid (Hb5.out.trans (hb6.mono Hb5.out.size))
      clear hb6
      cases hm4 : mayB xs now longer burst
      · have Hm4 := Lib.hid hm4
        clear hm4
        go_wp2_with fail
        refine (may_any A (k + 1) xs now longer burst _ ((Hr.out.on (Nat.le_refl _) Hb6.out).more Hb6.out.size) hb8).mono ?_
        rintro e w7 ⟨rfl, hb7⟩
        rw [Hm4.out]
        have Hb7 := Lib.hid (Hb6.out.trans (hb7.mono Hb6.out.size))
        clear hb7
        go_wp2_with fail
        refine (keep_any A (k + 1) xs now longer _ ((Hr.out.on (Nat.le_refl _) Hb7.out).more Hb7.out.size) hb8).mono ?_
        rintro e w8 ⟨v8, rfl, hown8, hb8'⟩
        obtain ⟨A8, c8, rfl, hr8⟩ := own_rd hown8
        have Hb8 := Lib.hid (Hb7.out.trans (hb8'.mono Hb7.out.size))
        have Hr8 := Lib.hid hr8
        have hlk := keep_len xs now longer
        have hlk8 : (keepL xs now longer).length * 8 ≤ 140737488351232 := by omega
        have hle8 : (keepL xs now every).length * 8 ≤ 140737488351232 := by have := keep_len xs now every; omega
        have Hkk := Lib.hid (keep_keep (xs := xs) (now := now) h3 h4 (show every ≤ longer by omega))
        have Hks := Lib.hid (keep_same (xs := xs) (now := now) (longer := longer))
        clear hb8' hown8 hr8 hlk
        go_wp2_with fail
        refine (keep_any A8 c8 (keepL xs now longer) now every _ Hr8.out hlk8).mono ?_
        rintro e w9 ⟨v9, rfl, hown9, hb9⟩
        rw [Hkk.out] at hown9
        obtain ⟨A9, c9, rfl, hr9⟩ := own_rd hown9
        have Hb9 := Lib.hid (Hb8.out.trans (hb9.mono Hb8.out.size))
        have Hr9 := Lib.hid hr9
        have Hr8' := Lib.hid ((Hr8.out.on (Nat.le_refl _) hb9).more hb9.size)
        clear hb9 hown9 hr9
        go_wp2_with fail
        refine (keep_any A (k + 1) xs now every _ ((Hr.out.on (Nat.le_refl _) Hb9.out).more Hb9.out.size) hb8).mono ?_
        rintro e w10 ⟨v10, rfl, hown10, hb10⟩
        obtain ⟨A10, c10, rfl, hr10⟩ := own_rd hown10
        have Hb10 := Lib.hid (Hb9.out.trans (hb10.mono Hb9.out.size))
        have Hr10 := Lib.hid hr10
        have Hr9' := Lib.hid ((Hr9.out.on (Nat.le_refl _) hb10).more hb10.size)
        have Hr8'' := Lib.hid ((Hr8'.out.on (Nat.le_refl _) hb10).more hb10.size)
        clear hb10 hown10 hr10
        go_wp2_with fail
        refine (same_any A9 A10 c9 c10 _ _ _ Hr9'.out Hr10.out hle8 hle8).mono ?_
        rintro e w11 ⟨rfl, hb11⟩
        have Hb11 := Lib.hid (Hb10.out.trans (hb11.mono Hb10.out.size))
        have Hr8'3 := Lib.hid ((Hr8''.out.on (Nat.le_refl _) hb11).more hb11.size)
        rw [show decide (keepL xs now every = keepL xs now every) = true from by simp]
        clear hb11
        go_wp2_with fail
        refine (keep_any A8 c8 (keepL xs now longer) now longer _ Hr8'3.out hlk8).mono ?_
        rintro e w12 ⟨v12, rfl, hown12, hb12⟩
        rw [Hks.out] at hown12
        obtain ⟨A12, c12, rfl, hr12⟩ := own_rd hown12
        have Hb12 := Lib.hid (Hb11.out.trans (hb12.mono Hb11.out.size))
        have Hr12 := Lib.hid hr12
        have Hr8'4 := Lib.hid ((Hr8'3.out.on (Nat.le_refl _) hb12).more hb12.size)
        clear hb12 hown12 hr12
        go_wp2_with fail
        refine (same_any A12 A8 c12 c8 _ _ _ Hr12.out Hr8'4.out hlk8 hlk8).mono ?_
        rintro e w13 ⟨rfl, hb13⟩
        have Hb13 := Lib.hid (Hb12.out.trans (hb13.mono Hb12.out.size))
        rw [show decide (keepL xs now longer = keepL xs now longer) = true from by simp]
        clear hb13
        go_wp2_with fail
        go_ret
        exact ⟨rfl, Hb13.out⟩
      · have Hm4 := Lib.hid hm4
        clear hm4
        go_wp2_with fail
        refine (may_any A (k + 1) xs now longer burst _ ((Hr.out.on (Nat.le_refl _) Hb6.out).more Hb6.out.size) hb8).mono ?_
        rintro e w7' ⟨rfl, hb7'⟩
        rw [Hm4.out]
        have Hb7' := Lib.hid (Hb6.out.trans (hb7'.mono Hb6.out.size))
        clear hb7'
        go_wp2_with fail
        refine (may_any A (k + 1) xs now every burst _ ((Hr.out.on (Nat.le_refl _) Hb7'.out).more Hb7'.out.size) hb8).mono ?_
        rintro e w7 ⟨rfl, hb7⟩
        rw [Hm.out]
        have Hb7 := Lib.hid (Hb7'.out.trans (hb7.mono Hb7'.out.size))
        clear hb7
        go_wp2_with fail
        refine (keep_any A (k + 1) xs now longer _ ((Hr.out.on (Nat.le_refl _) Hb7.out).more Hb7.out.size) hb8).mono ?_
        rintro e w8 ⟨v8, rfl, hown8, hb8'⟩
        obtain ⟨A8, c8, rfl, hr8⟩ := own_rd hown8
        have Hb8 := Lib.hid (Hb7.out.trans (hb8'.mono Hb7.out.size))
        have Hr8 := Lib.hid hr8
        have hlk := keep_len xs now longer
        have hlk8 : (keepL xs now longer).length * 8 ≤ 140737488351232 := by omega
        have hle8 : (keepL xs now every).length * 8 ≤ 140737488351232 := by have := keep_len xs now every; omega
        have Hkk := Lib.hid (keep_keep (xs := xs) (now := now) h3 h4 (show every ≤ longer by omega))
        have Hks := Lib.hid (keep_same (xs := xs) (now := now) (longer := longer))
        clear hb8' hown8 hr8 hlk
        go_wp2_with fail
        refine (keep_any A8 c8 (keepL xs now longer) now every _ Hr8.out hlk8).mono ?_
        rintro e w9 ⟨v9, rfl, hown9, hb9⟩
        rw [Hkk.out] at hown9
        obtain ⟨A9, c9, rfl, hr9⟩ := own_rd hown9
        have Hb9 := Lib.hid (Hb8.out.trans (hb9.mono Hb8.out.size))
        have Hr9 := Lib.hid hr9
        have Hr8' := Lib.hid ((Hr8.out.on (Nat.le_refl _) hb9).more hb9.size)
        clear hb9 hown9 hr9
        go_wp2_with fail
        refine (keep_any A (k + 1) xs now every _ ((Hr.out.on (Nat.le_refl _) Hb9.out).more Hb9.out.size) hb8).mono ?_
        rintro e w10 ⟨v10, rfl, hown10, hb10⟩
        obtain ⟨A10, c10, rfl, hr10⟩ := own_rd hown10
        have Hb10 := Lib.hid (Hb9.out.trans (hb10.mono Hb9.out.size))
        have Hr10 := Lib.hid hr10
        have Hr9' := Lib.hid ((Hr9.out.on (Nat.le_refl _) hb10).more hb10.size)
        have Hr8'' := Lib.hid ((Hr8'.out.on (Nat.le_refl _) hb10).more hb10.size)
        clear hb10 hown10 hr10
        go_wp2_with fail
        refine (same_any A9 A10 c9 c10 _ _ _ Hr9'.out Hr10.out hle8 hle8).mono ?_
        rintro e w11 ⟨rfl, hb11⟩
        have Hb11 := Lib.hid (Hb10.out.trans (hb11.mono Hb10.out.size))
        have Hr8'3 := Lib.hid ((Hr8''.out.on (Nat.le_refl _) hb11).more hb11.size)
        rw [show decide (keepL xs now every = keepL xs now every) = true from by simp]
        clear hb11
        go_wp2_with fail
        refine (keep_any A8 c8 (keepL xs now longer) now longer _ Hr8'3.out hlk8).mono ?_
        rintro e w12 ⟨v12, rfl, hown12, hb12⟩
        rw [Hks.out] at hown12
        obtain ⟨A12, c12, rfl, hr12⟩ := own_rd hown12
        have Hb12 := Lib.hid (Hb11.out.trans (hb12.mono Hb11.out.size))
        have Hr12 := Lib.hid hr12
        have Hr8'4 := Lib.hid ((Hr8'3.out.on (Nat.le_refl _) hb12).more hb12.size)
        clear hb12 hown12 hr12
        go_wp2_with fail
        refine (same_any A12 A8 c12 c8 _ _ _ Hr12.out Hr8'4.out hlk8 hlk8).mono ?_
        rintro e w13 ⟨rfl, hb13⟩
        have Hb13 := Lib.hid (Hb12.out.trans (hb13.mono Hb12.out.size))
        rw [show decide (keepL xs now longer = keepL xs now longer) = true from by simp]
        clear hb13
        go_wp2_with fail
        go_ret
        exact ⟨rfl, Hb13.out⟩
  · have Hd := Lib.hid (Hr1.out.drop_map (m := k + 1) (j := k + 1) (by omega) (by omega))
    go_region_held3 (fun _ => True) (trivial) (first
      | (refine step_append_first _ (by rfl) (.const (.slice none 0 0)) (.tmp 56) 29 (by rfl) w.heap.size 3 i0 (.int .i64 0) 1 8 Try.underlying29 hi hz0 hz1 hz2 rfl (by decide) (by rfl) w.heap.size A k c _ (by rfl) Ht.out.drew O1.out hkl hby1 hsz1 ?_; intro A2 c2 w2 ho2 hb2; have hsz2 : w.heap.size ≤ w2.heap.size := Nat.le_trans hsz1 hb2.size; have Hd2 := Hd.out.drew.below (hb2.mono hsz1))
      | (refine step_append_rd w2 (by rfl) (.tmp 57) (.tmp 61) 29 (by rfl) w.heap.size 3 i0 (.int .i64 0) 1 8 Try.underlying29 hi hz0 hz1 hz2 rfl (by decide) (.slice A2 k c2) k ((ints xs).take (k * 1)) (by rfl) ho2 w.heap.size (A.map fun x => { block := x.block, off := x.off + (k + 1) }) (xs.length - (k + 1)) (c - (k + 1)) ((ints xs).drop (k + 1)) (by rfl) Hd2 O2.out hml hby2 hsz2 ?_; intro A3 c3 w3 ho3 hg3 ha3; have hb3 : Below w.heap.size w w3 := (Hb1.out.drew.trans (hb2.mono hsz1)).grown hg3 hsz2 (fun g hg => (ho2.lt g hg).1); clear hg3 ha3 ho2 hb2 hsz2 Hd2))
    have Hb3 := Lib.hid (hb3)
    have hFl := fewer_len xs k hk
    have hFi := fewer_ints xs k
    rw [← hFl, hFi] at ho3
    have HFl := Lib.hid (show Value.slice A3 (k + (xs.length - (k + 1))) c3 = Value.slice A3 (fewer xs k).length c3 from by rw [hFl])
    have HF := Lib.hid (own_rd' ho3)
    have hFle : (fewer xs k).length * 8 ≤ 140737488351232 := by omega
    have hb8 : xs.length * 8 ≤ 140737488351232 := by omega
    have k8 : IntKind.i64.wrap (burst + 1) = burst + 1 := IntWalk.i64_in _ (by omega)
    have Hsub := Lib.hid (fewer_sub xs k)
    clear hFl hFi ho3 hb3 hcut
    cases hm : mayB xs now every burst
    · have hm4 : mayB xs now longer burst = false := by
        cases h : mayB xs now longer burst
        · rfl
        · rw [may_longer h3 h4 (by omega) h] at hm; cases hm
      have Hm := Lib.hid hm
      have Hm4 := Lib.hid hm4
      clear hm hm4
      go_wp2_with fail
      refine (may_any A c xs now every burst _ ((Hr.out.on (Nat.le_refl _) Hb3.out).more Hb3.out.size) hb8).mono ?_
      rintro e w4 ⟨rfl, hb4⟩
      rw [Hm.out]
      have Hb4 := Lib.hid (Hb3.out.trans (hb4.mono Hb3.out.size))
      clear hb4
      go_wp2_with fail
      refine (may_any A c xs now longer burst _ ((Hr.out.on (Nat.le_refl _) Hb4.out).more Hb4.out.size) hb8).mono ?_
      rintro e w5 ⟨rfl, hb5⟩
      rw [Hm4.out]
      have Hb7 := Lib.hid (Hb4.out.trans (hb5.mono Hb4.out.size))
      clear hb5
      go_wp2_with fail
      refine (keep_any A c xs now longer _ ((Hr.out.on (Nat.le_refl _) Hb7.out).more Hb7.out.size) hb8).mono ?_
      rintro e w8 ⟨v8, rfl, hown8, hb8'⟩
      obtain ⟨A8, c8, rfl, hr8⟩ := own_rd hown8
      have Hb8 := Lib.hid (Hb7.out.trans (hb8'.mono Hb7.out.size))
      have Hr8 := Lib.hid hr8
      have hlk := keep_len xs now longer
      have hlk8 : (keepL xs now longer).length * 8 ≤ 140737488351232 := by omega
      have hle8 : (keepL xs now every).length * 8 ≤ 140737488351232 := by have := keep_len xs now every; omega
      have Hkk := Lib.hid (keep_keep (xs := xs) (now := now) h3 h4 (show every ≤ longer by omega))
      have Hks := Lib.hid (keep_same (xs := xs) (now := now) (longer := longer))
      clear hb8' hown8 hr8 hlk
      go_wp2_with fail
      refine (keep_any A8 c8 (keepL xs now longer) now every _ Hr8.out hlk8).mono ?_
      rintro e w9 ⟨v9, rfl, hown9, hb9⟩
      rw [Hkk.out] at hown9
      obtain ⟨A9, c9, rfl, hr9⟩ := own_rd hown9
      have Hb9 := Lib.hid (Hb8.out.trans (hb9.mono Hb8.out.size))
      have Hr9 := Lib.hid hr9
      have Hr8' := Lib.hid ((Hr8.out.on (Nat.le_refl _) hb9).more hb9.size)
      clear hb9 hown9 hr9
      go_wp2_with fail
      refine (keep_any A c xs now every _ ((Hr.out.on (Nat.le_refl _) Hb9.out).more Hb9.out.size) hb8).mono ?_
      rintro e w10 ⟨v10, rfl, hown10, hb10⟩
      obtain ⟨A10, c10, rfl, hr10⟩ := own_rd hown10
      have Hb10 := Lib.hid (Hb9.out.trans (hb10.mono Hb9.out.size))
      have Hr10 := Lib.hid hr10
      have Hr9' := Lib.hid ((Hr9.out.on (Nat.le_refl _) hb10).more hb10.size)
      have Hr8'' := Lib.hid ((Hr8'.out.on (Nat.le_refl _) hb10).more hb10.size)
      clear hb10 hown10 hr10
      go_wp2_with fail
      refine (same_any A9 A10 c9 c10 _ _ _ Hr9'.out Hr10.out hle8 hle8).mono ?_
      rintro e w11 ⟨rfl, hb11⟩
      have Hb11 := Lib.hid (Hb10.out.trans (hb11.mono Hb10.out.size))
      have Hr8'3 := Lib.hid ((Hr8''.out.on (Nat.le_refl _) hb11).more hb11.size)
      rw [show decide (keepL xs now every = keepL xs now every) = true from by simp]
      clear hb11
      go_wp2_with fail
      refine (keep_any A8 c8 (keepL xs now longer) now longer _ Hr8'3.out hlk8).mono ?_
      rintro e w12 ⟨v12, rfl, hown12, hb12⟩
      rw [Hks.out] at hown12
      obtain ⟨A12, c12, rfl, hr12⟩ := own_rd hown12
      have Hb12 := Lib.hid (Hb11.out.trans (hb12.mono Hb11.out.size))
      have Hr12 := Lib.hid hr12
      have Hr8'4 := Lib.hid ((Hr8'3.out.on (Nat.le_refl _) hb12).more hb12.size)
      clear hb12 hown12 hr12
      go_wp2_with fail
      refine (same_any A12 A8 c12 c8 _ _ _ Hr12.out Hr8'4.out hlk8 hlk8).mono ?_
      rintro e w13 ⟨rfl, hb13⟩
      have Hb13 := Lib.hid (Hb12.out.trans (hb13.mono Hb12.out.size))
      rw [show decide (keepL xs now longer = keepL xs now longer) = true from by simp]
      clear hb13
      go_wp2_with fail
      go_ret
      exact ⟨rfl, Hb13.out⟩
    · have Hm := Lib.hid hm
      have Hmf := Lib.hid (may_fewer Hsub.out hm)
      have Hmm := Lib.hid (may_more hm)
      clear hm
      go_wp2_with fail
      refine (may_any A c xs now every burst _ ((Hr.out.on (Nat.le_refl _) Hb3.out).more Hb3.out.size) hb8).mono ?_
      rintro e w4 ⟨rfl, hb4⟩
      rw [Hm.out]
      have Hb4 := Lib.hid (Hb3.out.trans (hb4.mono Hb3.out.size))
      have HF4 := Lib.hid ((HF.out.on (Nat.le_refl _) hb4).more hb4.size)
      clear hb4
      go_wp2_with fail
      rw [HFl.out]
      refine (may_any A3 c3 (fewer xs k) now every burst _ HF4.out hFle).mono ?_
      rintro e w5 ⟨rfl, hb5⟩
      rw [Hmf.out]
      have Hb5 := Lib.hid (Hb4.out.trans (hb5.mono Hb4.out.size))
      clear hb5
      go_wp2_with fail
      refine (may_any A c xs now every (burst + 1) _ ((Hr.out.on (Nat.le_refl _) Hb5.out).more Hb5.out.size) hb8).mono ?_
      rintro e w6 ⟨rfl, hb6⟩
      rw [Hmm.out]
      have Hb6 := Lib.hid (Hb5.out.trans (hb6.mono Hb5.out.size))
      clear hb6
      cases hm4 : mayB xs now longer burst
      · have Hm4 := Lib.hid hm4
        clear hm4
        go_wp2_with fail
        refine (may_any A c xs now longer burst _ ((Hr.out.on (Nat.le_refl _) Hb6.out).more Hb6.out.size) hb8).mono ?_
        rintro e w7 ⟨rfl, hb7⟩
        rw [Hm4.out]
        have Hb7 := Lib.hid (Hb6.out.trans (hb7.mono Hb6.out.size))
        clear hb7
        go_wp2_with fail
        refine (keep_any A c xs now longer _ ((Hr.out.on (Nat.le_refl _) Hb7.out).more Hb7.out.size) hb8).mono ?_
        rintro e w8 ⟨v8, rfl, hown8, hb8'⟩
        obtain ⟨A8, c8, rfl, hr8⟩ := own_rd hown8
        have Hb8 := Lib.hid (Hb7.out.trans (hb8'.mono Hb7.out.size))
        have Hr8 := Lib.hid hr8
        have hlk := keep_len xs now longer
        have hlk8 : (keepL xs now longer).length * 8 ≤ 140737488351232 := by omega
        have hle8 : (keepL xs now every).length * 8 ≤ 140737488351232 := by have := keep_len xs now every; omega
        have Hkk := Lib.hid (keep_keep (xs := xs) (now := now) h3 h4 (show every ≤ longer by omega))
        have Hks := Lib.hid (keep_same (xs := xs) (now := now) (longer := longer))
        clear hb8' hown8 hr8 hlk
        go_wp2_with fail
        refine (keep_any A8 c8 (keepL xs now longer) now every _ Hr8.out hlk8).mono ?_
        rintro e w9 ⟨v9, rfl, hown9, hb9⟩
        rw [Hkk.out] at hown9
        obtain ⟨A9, c9, rfl, hr9⟩ := own_rd hown9
        have Hb9 := Lib.hid (Hb8.out.trans (hb9.mono Hb8.out.size))
        have Hr9 := Lib.hid hr9
        have Hr8' := Lib.hid ((Hr8.out.on (Nat.le_refl _) hb9).more hb9.size)
        clear hb9 hown9 hr9
        go_wp2_with fail
        refine (keep_any A c xs now every _ ((Hr.out.on (Nat.le_refl _) Hb9.out).more Hb9.out.size) hb8).mono ?_
        rintro e w10 ⟨v10, rfl, hown10, hb10⟩
        obtain ⟨A10, c10, rfl, hr10⟩ := own_rd hown10
        have Hb10 := Lib.hid (Hb9.out.trans (hb10.mono Hb9.out.size))
        have Hr10 := Lib.hid hr10
        have Hr9' := Lib.hid ((Hr9.out.on (Nat.le_refl _) hb10).more hb10.size)
        have Hr8'' := Lib.hid ((Hr8'.out.on (Nat.le_refl _) hb10).more hb10.size)
        clear hb10 hown10 hr10
        go_wp2_with fail
        refine (same_any A9 A10 c9 c10 _ _ _ Hr9'.out Hr10.out hle8 hle8).mono ?_
        rintro e w11 ⟨rfl, hb11⟩
        have Hb11 := Lib.hid (Hb10.out.trans (hb11.mono Hb10.out.size))
        have Hr8'3 := Lib.hid ((Hr8''.out.on (Nat.le_refl _) hb11).more hb11.size)
        rw [show decide (keepL xs now every = keepL xs now every) = true from by simp]
        clear hb11
        go_wp2_with fail
        refine (keep_any A8 c8 (keepL xs now longer) now longer _ Hr8'3.out hlk8).mono ?_
        rintro e w12 ⟨v12, rfl, hown12, hb12⟩
        rw [Hks.out] at hown12
        obtain ⟨A12, c12, rfl, hr12⟩ := own_rd hown12
        have Hb12 := Lib.hid (Hb11.out.trans (hb12.mono Hb11.out.size))
        have Hr12 := Lib.hid hr12
        have Hr8'4 := Lib.hid ((Hr8'3.out.on (Nat.le_refl _) hb12).more hb12.size)
        clear hb12 hown12 hr12
        go_wp2_with fail
        refine (same_any A12 A8 c12 c8 _ _ _ Hr12.out Hr8'4.out hlk8 hlk8).mono ?_
        rintro e w13 ⟨rfl, hb13⟩
        have Hb13 := Lib.hid (Hb12.out.trans (hb13.mono Hb12.out.size))
        rw [show decide (keepL xs now longer = keepL xs now longer) = true from by simp]
        clear hb13
        go_wp2_with fail
        go_ret
        exact ⟨rfl, Hb13.out⟩
      · have Hm4 := Lib.hid hm4
        clear hm4
        go_wp2_with fail
        refine (may_any A c xs now longer burst _ ((Hr.out.on (Nat.le_refl _) Hb6.out).more Hb6.out.size) hb8).mono ?_
        rintro e w7' ⟨rfl, hb7'⟩
        rw [Hm4.out]
        have Hb7' := Lib.hid (Hb6.out.trans (hb7'.mono Hb6.out.size))
        clear hb7'
        go_wp2_with fail
        refine (may_any A c xs now every burst _ ((Hr.out.on (Nat.le_refl _) Hb7'.out).more Hb7'.out.size) hb8).mono ?_
        rintro e w7 ⟨rfl, hb7⟩
        rw [Hm.out]
        have Hb7 := Lib.hid (Hb7'.out.trans (hb7.mono Hb7'.out.size))
        clear hb7
        go_wp2_with fail
        refine (keep_any A c xs now longer _ ((Hr.out.on (Nat.le_refl _) Hb7.out).more Hb7.out.size) hb8).mono ?_
        rintro e w8 ⟨v8, rfl, hown8, hb8'⟩
        obtain ⟨A8, c8, rfl, hr8⟩ := own_rd hown8
        have Hb8 := Lib.hid (Hb7.out.trans (hb8'.mono Hb7.out.size))
        have Hr8 := Lib.hid hr8
        have hlk := keep_len xs now longer
        have hlk8 : (keepL xs now longer).length * 8 ≤ 140737488351232 := by omega
        have hle8 : (keepL xs now every).length * 8 ≤ 140737488351232 := by have := keep_len xs now every; omega
        have Hkk := Lib.hid (keep_keep (xs := xs) (now := now) h3 h4 (show every ≤ longer by omega))
        have Hks := Lib.hid (keep_same (xs := xs) (now := now) (longer := longer))
        clear hb8' hown8 hr8 hlk
        go_wp2_with fail
        refine (keep_any A8 c8 (keepL xs now longer) now every _ Hr8.out hlk8).mono ?_
        rintro e w9 ⟨v9, rfl, hown9, hb9⟩
        rw [Hkk.out] at hown9
        obtain ⟨A9, c9, rfl, hr9⟩ := own_rd hown9
        have Hb9 := Lib.hid (Hb8.out.trans (hb9.mono Hb8.out.size))
        have Hr9 := Lib.hid hr9
        have Hr8' := Lib.hid ((Hr8.out.on (Nat.le_refl _) hb9).more hb9.size)
        clear hb9 hown9 hr9
        go_wp2_with fail
        refine (keep_any A c xs now every _ ((Hr.out.on (Nat.le_refl _) Hb9.out).more Hb9.out.size) hb8).mono ?_
        rintro e w10 ⟨v10, rfl, hown10, hb10⟩
        obtain ⟨A10, c10, rfl, hr10⟩ := own_rd hown10
        have Hb10 := Lib.hid (Hb9.out.trans (hb10.mono Hb9.out.size))
        have Hr10 := Lib.hid hr10
        have Hr9' := Lib.hid ((Hr9.out.on (Nat.le_refl _) hb10).more hb10.size)
        have Hr8'' := Lib.hid ((Hr8'.out.on (Nat.le_refl _) hb10).more hb10.size)
        clear hb10 hown10 hr10
        go_wp2_with fail
        refine (same_any A9 A10 c9 c10 _ _ _ Hr9'.out Hr10.out hle8 hle8).mono ?_
        rintro e w11 ⟨rfl, hb11⟩
        have Hb11 := Lib.hid (Hb10.out.trans (hb11.mono Hb10.out.size))
        have Hr8'3 := Lib.hid ((Hr8''.out.on (Nat.le_refl _) hb11).more hb11.size)
        rw [show decide (keepL xs now every = keepL xs now every) = true from by simp]
        clear hb11
        go_wp2_with fail
        refine (keep_any A8 c8 (keepL xs now longer) now longer _ Hr8'3.out hlk8).mono ?_
        rintro e w12 ⟨v12, rfl, hown12, hb12⟩
        rw [Hks.out] at hown12
        obtain ⟨A12, c12, rfl, hr12⟩ := own_rd hown12
        have Hb12 := Lib.hid (Hb11.out.trans (hb12.mono Hb11.out.size))
        have Hr12 := Lib.hid hr12
        have Hr8'4 := Lib.hid ((Hr8'3.out.on (Nat.le_refl _) hb12).more hb12.size)
        clear hb12 hown12 hr12
        go_wp2_with fail
        refine (same_any A12 A8 c12 c8 _ _ _ Hr12.out Hr8'4.out hlk8 hlk8).mono ?_
        rintro e w13 ⟨rfl, hb13⟩
        have Hb13 := Lib.hid (Hb12.out.trans (hb13.mono Hb12.out.size))
        rw [show decide (keepL xs now longer = keepL xs now longer) = true from by simp]
        clear hb13
        go_wp2_with fail
        go_ret
        exact ⟨rfl, Hb13.out⟩

theorem more_law (A : Option Addr) (c : Nat) (xs : List Int) (cut now every longer burst : Int) (w : World) (hr : Rd w w.heap.size 1 A xs.length (ints xs)) (hc : xs.length ≤ c) :
    Calls Try.prog 9 #[.slice A xs.length c, .int .i64 cut, .int .i64 now, .int .i64 every, .int .i64 longer, .int .i64 burst] w fun e w' => e = .returned (.bool true) ∧ Below w.heap.size w w' := by
  cases h : moreOk xs.length every longer burst
  · exact more_early A c xs cut now every longer burst w h
  · exact more_any A c xs cut now every longer burst w hr hc h
end Lm
end Go.Proofs.Ytdcbapheoagelaa
