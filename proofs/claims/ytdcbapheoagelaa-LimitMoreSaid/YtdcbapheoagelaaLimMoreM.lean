/- Plain facts for LimitMore. -/
import Derived.Test.YtdcbapheoagelaaLimMath
namespace Go.Proofs.Ytdcbapheoagelaa
open Go.RowKit

namespace Lm
theorem right_iff (xs : List Int) (now every : Int) : rightB xs now every = true ↔ timeB now = true ∧ spanB every = true ∧ ∀ x ∈ xs, timeB x = true := by
  unfold rightB
  simp only [Bool.and_eq_true, List.all_eq_true, and_assoc]

theorem keep_of {xs : List Int} {now every : Int} (h : rightB xs now every = true) : keepL xs now every = xs.filter (inB now every) := by unfold keepL; rw [if_pos h]
theorem keep_no {xs : List Int} {now every : Int} (h : rightB xs now every = false) : keepL xs now every = [] := by unfold keepL; rw [if_neg (by simp [h])]

theorem may_iff (xs : List Int) (now every burst : Int) : mayB xs now every burst = true ↔ rightB xs now every = true ∧ ((xs.filter (inB now every)).length : Int) < burst := by
  unfold mayB
  simp only [Bool.and_eq_true, decide_eq_true_eq]
  constructor
  · intro ⟨h1, h2⟩; rw [keep_of h1] at h2; exact ⟨h1, h2⟩
  · intro ⟨h1, h2⟩; rw [keep_of h1]; exact ⟨h1, h2⟩

theorem may_fewer {xs ys : List Int} {now every burst : Int} (hs : ys.Sublist xs) (h : mayB xs now every burst = true) : mayB ys now every burst = true := by
  rw [may_iff, right_iff] at *
  refine ⟨⟨h.1.1, h.1.2.1, fun x hx => h.1.2.2 x (hs.subset hx)⟩, ?_⟩
  have := (hs.filter (inB now every)).length_le
  omega

theorem may_more {xs : List Int} {now every burst : Int} (h : mayB xs now every burst = true) : mayB xs now every (burst + 1) = true := by
  rw [may_iff] at *
  exact ⟨h.1, by omega⟩

theorem in_longer {now every longer x : Int} (hl : spanB longer = true) (hel : every ≤ longer) (h : inB now every x = true) : inB now longer x = true := by
  rw [inB_iff] at *
  have := (spanB_iff longer).1 hl
  omega

theorem may_longer {xs : List Int} {now every longer burst : Int} (he : spanB every = true) (hl : spanB longer = true) (hel : every ≤ longer) (h : mayB xs now longer burst = true) : mayB xs now every burst = true := by
  rw [may_iff, right_iff] at *
  refine ⟨⟨h.1.1, he, h.1.2.2⟩, ?_⟩
  have := count_mono (p := inB now every) (q := inB now longer) xs (fun x _ hx => in_longer hl hel hx)
  omega

theorem keep_keep {xs : List Int} {now every longer : Int} (he : spanB every = true) (hl : spanB longer = true) (hel : every ≤ longer) : keepL (keepL xs now longer) now every = keepL xs now every := by
  cases hR : rightB xs now longer
  · have hR' : rightB xs now every = false := by
      rw [Bool.eq_false_iff, ne_eq, right_iff] at *
      exact fun h => hR ⟨h.1, hl, h.2.2⟩
    rw [keep_no hR, keep_no hR']
    unfold keepL
    split <;> simp
  · have hR' := (right_iff _ _ _).1 hR
    have h1 : rightB xs now every = true := (right_iff _ _ _).2 ⟨hR'.1, he, hR'.2.2⟩
    rw [keep_of hR, keep_of h1, keep_of ((right_iff _ _ _).2 ⟨hR'.1, he, fun x hx => hR'.2.2 x (List.mem_filter.1 hx).1⟩), List.filter_filter]
    apply List.filter_congr
    intro x _
    rw [Bool.eq_iff_iff, Bool.and_eq_true]
    exact ⟨fun h => h.1, fun h => ⟨h, in_longer hl hel h⟩⟩

theorem keep_same {xs : List Int} {now longer : Int} : keepL (keepL xs now longer) now longer = keepL xs now longer := by
  cases hR : rightB xs now longer
  · rw [keep_no hR]
    unfold keepL
    split <;> simp
  · have hR' := (right_iff _ _ _).1 hR
    rw [keep_of hR, keep_of ((right_iff _ _ _).2 ⟨hR'.1, hR'.2.1, fun x hx => hR'.2.2 x (List.mem_filter.1 hx).1⟩), List.filter_filter]
    simp

theorem keep_len (xs : List Int) (now every : Int) : (keepL xs now every).length ≤ xs.length := by
  unfold keepL; split
  · exact List.length_filter_le _ _
  · simp

def fewer (xs : List Int) (k : Nat) : List Int := xs.take k ++ xs.drop (k + 1)
theorem fewer_sub (xs : List Int) (k : Nat) : (fewer xs k).Sublist xs := by
  unfold fewer
  rw [← List.eraseIdx_eq_take_drop_succ]
  exact List.eraseIdx_sublist ..
theorem fewer_len (xs : List Int) (k : Nat) (h : k < xs.length) : (fewer xs k).length = k + (xs.length - (k + 1)) := by unfold fewer; simp; omega
theorem fewer_ints (xs : List Int) (k : Nat) : (ints xs).take (k * 1) ++ (ints xs).drop (k + 1) = ints (fewer xs k) := by simp [fewer, ints]
end Lm
end Go.Proofs.Ytdcbapheoagelaa
