/- The walk of the reference's Free. -/
import Derived.Test.YtdcbapheoagelaaLimFree2
namespace Go.Proofs.Ytdcbapheoagelaa
open Go.RowKit

namespace Lm
def BestOk (xs : List Int) (now every burst : Int) (k : Nat) (B : Int) : Prop :=
  (B = 6311433600 ∨ (now ≤ B ∧ B < 6311433600 ∧ mayB xs B every burst = true)) ∧ (mayB xs now every burst = true → B ≤ now) ∧
  ∀ j (h : j < xs.length), j < k → every ≤ 6311433600 → now ≤ xs[j] + every → xs[j] + every < 6311433600 → mayB xs (xs[j] + every) every burst = true → B ≤ xs[j] + every

theorem BestOk.free {xs : List Int} {now every burst B : Int} (hR : rightB xs now every = true) (h : BestOk xs now every burst xs.length B) :
    (B = 6311433600 → FreeIs xs now every burst 0 false) ∧ (B ≠ 6311433600 → FreeIs xs now every burst B true) := by
  have hb := right_bounds hR
  have hB : B ≤ 6311433600 := by rcases h.1 with h1 | h1 <;> omega
  have hno : ∀ t, now ≤ t → t < B → mayB xs t every burst = false := by
    refine none_ahead hR hB (fun h1 => ?_) (fun b hbx he h1 h2 => ?_)
    · cases hm : mayB xs now every burst
      · rfl
      · have := h.2.1 hm; omega
    · cases hm : mayB xs (b + every) every burst
      · rfl
      · obtain ⟨j, hj, rfl⟩ := List.getElem_of_mem hbx
        have := h.2.2 j hj hj he (by omega) (by omega) hm
        omega
  refine ⟨fun e => ?_, fun e => ?_⟩
  · subst e
    exact ⟨fun h => (by rw [hR] at h; cases h), fun _ => ⟨fun h => (by cases h), fun _ => ⟨rfl, hno⟩⟩⟩
  · rcases h.1 with h1 | h1
    · exact absurd h1 e
    · exact ⟨fun h => (by rw [hR] at h; cases h), fun _ => ⟨fun _ => ⟨h1.1, h1.2.1, h1.2.2, hno⟩, fun h => (by cases h)⟩⟩

theorem BestOk.skip {xs : List Int} {now every burst B : Int} {k : Nat} (h : BestOk xs now every burst k B) (hk : k < xs.length)
    (hno : every ≤ 6311433600 → now ≤ xs[k] + every → xs[k] + every < B → mayB xs (xs[k] + every) every burst = true → False) : BestOk xs now every burst (k + 1) B := by
  refine ⟨h.1, h.2.1, fun j hj hjk he h1 h2 h3 => ?_⟩
  rcases Nat.lt_or_ge j k with hl | hl
  · exact h.2.2 j hj hl he h1 h2 h3
  · obtain rfl : j = k := by omega
    apply Classical.byContradiction
    intro hn
    exact hno he h1 (by omega) h3

theorem BestOk.take {xs : List Int} {now every burst B : Int} {k : Nat} (h : BestOk xs now every burst k B) (hk : k < xs.length)
    (h1 : now ≤ xs[k] + every) (h2 : xs[k] + every < B) (h3 : mayB xs (xs[k] + every) every burst = true) : BestOk xs now every burst (k + 1) (xs[k] + every) := by
  have hB : B ≤ 6311433600 := by rcases h.1 with h1 | h1 <;> omega
  refine ⟨.inr ⟨h1, by omega, h3⟩, fun hm => by have := h.2.1 hm; omega, fun j hj hjk he g1 g2 g3 => ?_⟩
  rcases Nat.lt_or_ge j k with hl | hl
  · have := h.2.2 j hj hl he g1 g2 g3
    omega
  · obtain rfl : j = k := by omega
    omega

theorem BestOk.start {xs : List Int} {now every burst : Int} (hR : rightB xs now every = true) : BestOk xs now every burst 0 (if mayB xs now every burst then now else 6311433600) := by
  have hb := right_bounds hR
  cases hm : mayB xs now every burst
  · exact ⟨.inl (by simp), fun h => (by rw [hm] at h; cases h), fun j _ h => absurd h (by omega)⟩
  · exact ⟨.inr ⟨by simp, by simp; omega, by simpa using hm⟩, fun _ => by simp, fun j _ h => absurd h (by omega)⟩

set_option maxHeartbeats 2000000 in
theorem refFree_short (A : Option Addr) (c : Nat) (xs : List Int) (now every burst : Int) (w : World) (hr : Rd w w.heap.size 1 A xs.length (ints xs)) (hb : xs.length ≤ 1000) (hR : rightB xs now every = true) (hev : every ≤ 6311433600) :
    Calls Try.prog 17 #[.slice A xs.length c, .int .i64 now, .int .i64 every, .int .i64 burst] w (SomeFree xs now every burst w) := by
  have Hr := Lib.hid hr
  have hb8 : xs.length * 8 ≤ 140737488351232 := by omega
  clear hr
  have hbd := right_bounds hR
  obtain ⟨hn, he, hx⟩ := hbd
  have Hx := Lib.hid hx
  have HR := Lib.hid hR
  have hn1 := hn.1
  have hn2 := hn.2
  have he1 : 0 ≤ every := by omega
  have hmin : min every 6311433600 = every := by omega
  clear hx he hn
  cases hm0 : mayB xs now every burst
  all_goals
    have hs := BestOk.start (burst := burst) hR
    rw [hm0] at hs
    have Hs := Lib.hid hs
    have Hm0 := Lib.hid hm0
    clear hs
    go_enter Try.func17, Try.ntmps17
    go_wp2_with (first | (go_at_call 29; refine (refRight_any A c xs _ _ _ Hr.out hb8).mono ?_; rintro e w' ⟨rfl, rfl⟩) | (go_at_call 22; refine (allowed_any A c xs _ _ _ _ Hr.out hb8).mono ?_; rintro e w1 ⟨rfl, hb1⟩))
    have Hb1 := Lib.hid hb1
    clear hb1 hm0
    go_loopw [10, 27] (fun v i wr => ∃ (k : Nat) (B : Int), k ≤ xs.length ∧ i = .int .i64 k ∧ v = .int .i64 B ∧ Hid (BestOk xs now every burst k B) ∧ Below w.heap.size w wr) (fun _ i _ => xs.length - (intOf i).toNat)
    case atStart => exact ⟨0, _, Nat.zero_le _, rfl, rfl, (by have := Hs.out; simp at this; exact this), Hb1.out⟩
    case round =>
      obtain ⟨k, B, hk, rfl, rfl, hbest, hbel⟩ := hrel
      by_cases hlt : k < xs.length
      · obtain ⟨b, o, rfl, hB, hc⟩ := (Hr.out.on (Nat.le_refl _) hbel).open (by omega)
        have hcell : wr.cell? ⟨b, o + k, none⟩ = some (.int .i64 xs[k]) := by rw [hc k (by omega), ints_at hlt]
        have Hbelk := Lib.hid hbel
        have hx := Hx.out xs[k] (List.getElem_mem hlt)
        have hx1 := hx.1
        have hx2 := hx.2
        have hr1 := (Hr.out.on (Nat.le_refl _) hbel).more hbel.size
        have Hr1 := Lib.hid hr1
        clear hc hbel hx hr1
        by_cases hcn : now ≤ xs[k] + every ∧ xs[k] + every < B
        · obtain ⟨hc1, hc2⟩ := hcn
          cases hm : mayB xs (xs[k] + every) every burst
          · have Hm := Lib.hid hm
            go_wp2_with ((go_at_call 22; refine (allowed_any _ c xs _ _ _ _ Hr1.out hb8).mono ?_; rintro e w3 ⟨rfl, hb3⟩))
            go_roundw
            case rel => exact ⟨k + 1, B, by omega, by go_num, rfl, hbest.out.skip hlt (fun _ _ _ h => by rw [Hm.out] at h; cases h), Hbelk.out.trans (hb3.mono Hbelk.out.size)⟩
            case measure => simp [intOf]; omega
          · have Hm := Lib.hid hm
            go_wp2_with ((go_at_call 22; refine (allowed_any _ c xs _ _ _ _ Hr1.out hb8).mono ?_; rintro e w3 ⟨rfl, hb3⟩))
            go_roundw
            case rel => exact ⟨k + 1, xs[k] + every, by omega, by go_num, rfl, hbest.out.take hlt hc1 hc2 Hm.out, Hbelk.out.trans (hb3.mono Hbelk.out.size)⟩
            case measure => simp [intOf]; omega
        · have Hcn := Lib.hid hcn
          rcases (show ¬ now ≤ xs[k] + every ∨ (now ≤ xs[k] + every ∧ ¬ xs[k] + every < B) from by omega) with h1 | ⟨h1, h2⟩
          all_goals
            clear hcn
            go_wp2
            go_roundw
            case rel => exact ⟨k + 1, B, by omega, by go_num, rfl, hbest.out.skip hlt (fun _ a b _ => Hcn.out ⟨a, b⟩), Hbelk.out⟩
            case measure => simp [intOf]; omega
      · have Hbelk := Lib.hid hbel
        have hkl : k = xs.length := by omega
        have hf := hbest.out
        rw [hkl] at hf
        have hf' := hf.free HR.out
        have Hf := Lib.hid hf'
        clear hbel hkl hf hf'
        by_cases hB : B = 6311433600
        · have hB' : (B == 6311433600) = true := by simp [hB]
          have HB := Lib.hid hB
          clear hB
          go_wp2
          go_ret2
          exact ⟨_, _, rfl, Hf.out.1 HB.out, Hbelk.out⟩
        · have hB' : (B == 6311433600) = false := by simp [hB]
          have HB := Lib.hid hB
          clear hB
          go_wp2
          go_ret2
          exact ⟨_, _, rfl, Hf.out.2 HB.out, Hbelk.out⟩
set_option maxHeartbeats 2000000 in
theorem refFree_ever (A : Option Addr) (c : Nat) (xs : List Int) (now burst : Int) (w : World) (hr : Rd w w.heap.size 1 A xs.length (ints xs)) (hb : xs.length ≤ 1000) (hR : rightB xs now 1099511627776 = true) :
    Calls Try.prog 17 #[.slice A xs.length c, .int .i64 now, .int .i64 1099511627776, .int .i64 burst] w (SomeFree xs now 1099511627776 burst w) := by
  have Hr := Lib.hid hr
  have hb8 : xs.length * 8 ≤ 140737488351232 := by omega
  clear hr
  have hbd := right_bounds hR
  obtain ⟨hn, he, hx⟩ := hbd
  have Hx := Lib.hid hx
  have HR := Lib.hid hR
  have hn1 := hn.1
  have hn2 := hn.2
  clear hx he hn
  cases hm0 : mayB xs now 1099511627776 burst
  all_goals
    have hs := BestOk.start (burst := burst) hR
    rw [hm0] at hs
    have Hs := Lib.hid hs
    have Hm0 := Lib.hid hm0
    clear hs
    go_enter Try.func17, Try.ntmps17
    go_wp2_with (first | (go_at_call 29; refine (refRight_any A c xs _ _ _ Hr.out hb8).mono ?_; rintro e w' ⟨rfl, rfl⟩) | (go_at_call 22; refine (allowed_any A c xs _ _ _ _ Hr.out hb8).mono ?_; rintro e w1 ⟨rfl, hb1⟩))
    have Hb1 := Lib.hid hb1
    clear hb1 hm0
    go_loopw [10, 27] (fun v i wr => ∃ (k : Nat) (B : Int), k ≤ xs.length ∧ i = .int .i64 k ∧ v = .int .i64 B ∧ Hid (BestOk xs now 1099511627776 burst k B) ∧ Below w.heap.size w wr) (fun _ i _ => xs.length - (intOf i).toNat)
    case atStart => exact ⟨0, _, Nat.zero_le _, rfl, rfl, (by have := Hs.out; simp at this; exact this), Hb1.out⟩
    case round =>
      obtain ⟨k, B, hk, rfl, rfl, hbest, hbel⟩ := hrel
      by_cases hlt : k < xs.length
      · obtain ⟨b, o, rfl, hB, hc⟩ := (Hr.out.on (Nat.le_refl _) hbel).open (by omega)
        have hcell : wr.cell? ⟨b, o + k, none⟩ = some (.int .i64 xs[k]) := by rw [hc k (by omega), ints_at hlt]
        have Hbelk := Lib.hid hbel
        have hx := Hx.out xs[k] (List.getElem_mem hlt)
        have hx1 := hx.1
        have hx2 := hx.2
        have hr1 := (Hr.out.on (Nat.le_refl _) hbel).more hbel.size
        have Hr1 := Lib.hid hr1
        clear hc hbel hx hr1
        have hBle : B ≤ 6311433600 := by rcases hbest.out.1 with h1 | h1 <;> omega
        have h1 : now ≤ xs[k] + 6311433600 := by omega
        have h2 : ¬ xs[k] + 6311433600 < B := by omega
        go_wp2
        go_roundw
        case rel => exact ⟨k + 1, B, by omega, by go_num, rfl, hbest.out.skip hlt (fun h _ _ _ => absurd h (by omega)), Hbelk.out⟩
        case measure => simp [intOf]; omega
      · have Hbelk := Lib.hid hbel
        have hkl : k = xs.length := by omega
        have hf := hbest.out
        rw [hkl] at hf
        have hf' := hf.free HR.out
        have Hf := Lib.hid hf'
        clear hbel hkl hf hf'
        by_cases hB : B = 6311433600
        · have hB' : (B == 6311433600) = true := by simp [hB]
          have HB := Lib.hid hB
          clear hB
          go_wp2
          go_ret2
          exact ⟨_, _, rfl, Hf.out.1 HB.out, Hbelk.out⟩
        · have hB' : (B == 6311433600) = false := by simp [hB]
          have HB := Lib.hid hB
          clear hB
          go_wp2
          go_ret2
          exact ⟨_, _, rfl, Hf.out.2 HB.out, Hbelk.out⟩

theorem refFree_any (A : Option Addr) (c : Nat) (xs : List Int) (now every burst : Int) (w : World) (hr : Rd w w.heap.size 1 A xs.length (ints xs)) (hb : xs.length ≤ 1000) :
    Calls Try.prog 17 #[.slice A xs.length c, .int .i64 now, .int .i64 every, .int .i64 burst] w (SomeFree xs now every burst w) := by
  cases hR : rightB xs now every
  · have Hr := Lib.hid hr
    have hb8 : xs.length * 8 ≤ 140737488351232 := by omega
    clear hr
    go_enter Try.func17, Try.ntmps17
    go_wp2_with ((go_at_call 29; refine (refRight_any A c xs _ _ _ Hr.out hb8).mono ?_; rintro e w' ⟨rfl, rfl⟩))
    go_ret2
    exact ⟨_, _, rfl, free_wrong hR, Below.refl _ _⟩
  · rcases (right_bounds hR).2.1 with he | he
    · exact refFree_short A c xs now every burst w hr hb hR he.2
    · subst he
      exact refFree_ever A c xs now burst w hr hb hR

end Lm
end Go.Proofs.Ytdcbapheoagelaa
