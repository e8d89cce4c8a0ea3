/- Plain facts on limits: who counts, the least time at which one more may be. No program in sight. -/
import Derived.Test.YtdcbapheoagelaaLimKeep
namespace Go.Proofs.Ytdcbapheoagelaa
open Go.RowKit

namespace Lm
def mayB (xs : List Int) (t every burst : Int) : Bool := rightB xs t every && decide (((keepL xs t every).length : Int) < burst)

theorem count_mono {p q : Int → Bool} : ∀ (xs : List Int), (∀ x ∈ xs, p x = true → q x = true) → (xs.filter p).length ≤ (xs.filter q).length
  | [], _ => by simp
  | x :: r, h => by
    have ih := count_mono r (fun y hy => h y (List.mem_cons_of_mem _ hy))
    have hx := h x List.mem_cons_self
    simp only [List.filter_cons]
    cases hp : p x
    · cases hq : q x <;> simp <;> omega
    · rw [hp] at hx
      rw [hx rfl]
      simp; omega

theorem inB_iff (now every b : Int) : inB now every b = true ↔ b ≤ now ∧ (every = 1099511627776 ∨ now - every < b) := by
  unfold inB; simp

theorem rightB_at {xs : List Int} {now t every : Int} (h : rightB xs now every = true) (h1 : 0 ≤ t) (h2 : t < 6311433600) : rightB xs t every = true := by
  unfold rightB at *
  simp only [Bool.and_eq_true] at *
  exact ⟨⟨(timeB_iff t).2 ⟨h1, h2⟩, h.1.2⟩, h.2⟩

theorem may_shift {xs : List Int} {t every burst : Int} (h0 : rightB xs (t - 1) every = true) (h1 : mayB xs t every burst = true) (h2 : mayB xs (t - 1) every burst = false) :
    every ≤ 6311433600 ∧ ∃ b ∈ xs, b + every = t := by
  have hr1 : rightB xs t every = true := by unfold mayB at h1; simp only [Bool.and_eq_true] at h1; exact h1.1
  have hb := right_bounds hr1
  unfold mayB at h1 h2
  rw [hr1] at h1
  rw [h0] at h2
  simp only [Bool.true_and, decide_eq_true_eq, decide_eq_false_iff_not] at h1 h2
  unfold keepL at h1 h2
  rw [if_pos hr1] at h1
  rw [if_pos h0] at h2
  apply Classical.byContradiction
  intro hno
  have hm : (xs.filter (inB (t - 1) every)).length ≤ (xs.filter (inB t every)).length := by
    apply count_mono
    intro x hx hin
    rw [inB_iff] at *
    rcases hb.2.1 with he | he
    · refine ⟨by omega, .inr ?_⟩
      have : ¬ x + every = t := fun e => hno ⟨he.2, x, hx, e⟩
      omega
    · exact ⟨by omega, .inl he⟩
  omega

/-- Who looks at now and at each time at which one falls out sees the least time at which one more may be. -/
theorem none_ahead {xs : List Int} {now every burst bound : Int} (hr : rightB xs now every = true) (hbd : bound ≤ 6311433600) (h0 : now < bound → mayB xs now every burst = false)
    (hC : ∀ b ∈ xs, every ≤ 6311433600 → now < b + every → b + every < bound → mayB xs (b + every) every burst = false) :
    ∀ t, now ≤ t → t < bound → mayB xs t every burst = false := by
  have hb := right_bounds hr
  have : ∀ n : Nat, now + n < bound → mayB xs (now + n) every burst = false := by
    intro n
    induction n with
    | zero => intro hlt; simpa using h0 (by simpa using hlt)
    | succ n ih =>
      intro hlt
      have ih' := ih (by omega)
      cases hm : mayB xs (now + ((n + 1 : Nat) : Int)) every burst
      · rfl
      · exfalso
        have e1 : now + ((n + 1 : Nat) : Int) - 1 = now + (n : Int) := by omega
        obtain ⟨he, b, hx, hbe⟩ := may_shift (t := now + ((n + 1 : Nat) : Int)) (by rw [e1]; exact rightB_at hr (by omega) (by omega)) hm (by rw [e1]; exact ih')
        have := hC b hx he (by omega) (by omega)
        rw [hbe, hm] at this
        cases this
  intro t h1 h2
  have := this (t - now).toNat (by omega)
  rwa [show now + ((t - now).toNat : Int) = t from by omega] at this

def FreeIs (xs : List Int) (now every burst r : Int) (ok : Bool) : Prop :=
  (rightB xs now every = false → r = 0 ∧ ok = false) ∧
  (rightB xs now every = true → (ok = true → now ≤ r ∧ r < 6311433600 ∧ mayB xs r every burst = true ∧ ∀ t, now ≤ t → t < r → mayB xs t every burst = false) ∧
    (ok = false → r = 0 ∧ ∀ t, now ≤ t → t < 6311433600 → mayB xs t every burst = false))

theorem FreeIs.one {xs : List Int} {now every burst r r' : Int} {ok ok' : Bool} (h : FreeIs xs now every burst r ok) (h' : FreeIs xs now every burst r' ok') : r = r' ∧ ok = ok' := by
  cases hR : rightB xs now every
  · obtain ⟨rfl, rfl⟩ := h.1 hR
    obtain ⟨rfl, rfl⟩ := h'.1 hR
    exact ⟨rfl, rfl⟩
  · have a := h.2 hR
    have b := h'.2 hR
    cases ok <;> cases ok'
    · exact ⟨(a.2 rfl).1.trans (b.2 rfl).1.symm, rfl⟩
    · obtain ⟨b1, b2, b3, _⟩ := b.1 rfl
      rw [(a.2 rfl).2 _ b1 b2] at b3; cases b3
    · obtain ⟨b1, b2, b3, _⟩ := a.1 rfl
      rw [(b.2 rfl).2 _ b1 b2] at b3; cases b3
    · obtain ⟨a1, a2, a3, a4⟩ := a.1 rfl
      obtain ⟨b1, b2, b3, b4⟩ := b.1 rfl
      refine ⟨?_, rfl⟩
      rcases Int.lt_trichotomy r r' with h | h | h
      · rw [b4 _ a1 h] at a3; cases a3
      · exact h
      · rw [a4 _ b1 h] at b3; cases b3

end Lm
end Go.Proofs.Ytdcbapheoagelaa
