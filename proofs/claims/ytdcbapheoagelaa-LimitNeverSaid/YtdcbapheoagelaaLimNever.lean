/- The walk of the law LimitNever: who begins only when it may never begins too often. -/
import Derived.Test.YtdcbapheoagelaaLimLaw2
namespace Go.Proofs.Ytdcbapheoagelaa
open Go.RowKit

/-- Two rows of the call's own that are not one. -/
def Sep (v v' : Value) : Prop := v.ownBlock = none ∨ v'.ownBlock = none ∨ v.ownBlock ≠ v'.ownBlock
theorem Sep.symm {v v' : Value} (h : Sep v v') : Sep v' v := by
  rcases h with h | h | h
  · exact .inr (.inl h)
  · exact .inl h
  · exact .inr (.inr (Ne.symm h))
theorem Sep.kept {w w' : World} {v v' : Value} {base e k n : Nat} {xs : List Value} (hs : Sep v v') (h : w.ownsRow base e k v' n xs) (hg : w.grownBy w' v.ownBlock) : w'.ownsRow base e k v' n xs := by
  refine h.kept hg ?_
  rcases hs with h1 | h1 | h1
  · cases hv : v'.ownBlock with
    | none => exact .inl rfl
    | some g => exact .inr (by rw [h1]; simp)
  · exact .inl h1
  · exact .inr (Ne.symm h1)
theorem Sep.push {w : World} {v v' v2 : Value} {base e k n : Nat} {xs : List Value} (hs : Sep v v') (h : w.ownsRow base e k v' n xs) (hat : v2.ownBlock = v.ownBlock ∨ v2.ownBlock = some (w.heap.size + 1)) : Sep v2 v' := by
  rcases hat with h1 | h1
  · unfold Sep; rw [h1]; exact hs
  · cases hv : v'.ownBlock with
    | none => exact .inr (.inl hv)
    | some g =>
      have := (h.lt g hv).2
      exact .inr (.inr (by rw [h1, hv]; simp; omega))
/-- What is made anew is another row than what was there. -/
theorem Sep.new {w w' : World} {v v' : Value} {base e k n base' e' k' n' : Nat} {xs xs' : List Value} (h : w.ownsRow base e k v n xs) (h' : w'.ownsRow base' e' k' v' n' xs') (hb : w.heap.size ≤ base') : Sep v' v := by
  cases hv : v.ownBlock with
  | none => exact .inr (.inl hv)
  | some g =>
    cases hv' : v'.ownBlock with
    | none => exact .inl hv'
    | some g' =>
      have h1 := (h.lt g hv).2
      have h2 := (h'.lt g' hv').1
      exact .inr (.inr (by rw [hv, hv']; simp; omega))
theorem own_cap {w : World} {base e k n m c : Nat} {A : Option Addr} {xs : List Value} (h : w.ownsRow base e k (.slice A m c) n xs) : n ≤ c ∧ c ≤ maxLen := by
  obtain ⟨_, ⟨hv, hn⟩ | ⟨g, cap, cur, hv, _, _, hc, hm, _⟩⟩ := h
  · injection hv with _ _ h3; subst h3; subst hn; exact ⟨by omega, by decide⟩
  · injection hv with _ _ h3; subst h3; exact ⟨hc, hm⟩
theorem Rd.take {w : World} {B k n m : Nat} {A : Option Addr} {xs : List Value} (h : Rd w B k A n xs) (hm : m ≤ n) : Rd w B k A m (xs.take (m * k)) := by
  have hmk : m * k ≤ n * k := Nat.mul_le_mul_right k hm
  refine ⟨by rw [List.length_take, h.1]; omega, fun h0 => ?_⟩
  obtain ⟨ad, h1, h2, h3, h4⟩ := h.2 (by omega)
  exact ⟨ad, h1, h2, h3, fun j hj => by rw [h4 j (by omega), List.getElem?_take_of_lt hj]⟩

namespace Lm
def nearB (t every u : Int) : Bool := decide (every = 1099511627776) || decide (t - every < u)
structure NInv (L M : List Int) (last every burst : Int) : Prop where
  low : 0 ≤ last
  inL : ∀ x ∈ L, 0 ≤ x ∧ x ≤ last ∧ x < 6311433600
  inM : ∀ x ∈ M, 0 ≤ x ∧ x ≤ last ∧ x < 6311433600
  alike : ∀ t, last ≤ t → L.filter (inB t every) = M.filter (inB t every)
  good : ∀ i (h : i < M.length), (((M.take (i + 1)).filter (nearB M[i] every)).length : Int) ≤ burst

theorem NInv.later {L M : List Int} {last every burst t : Int} (h : NInv L M last every burst) (ht : last ≤ t) : NInv L M t every burst :=
  ⟨by have := h.low; omega, fun x hx => by have := h.inL x hx; omega, fun x hx => by have := h.inM x hx; omega, fun u hu => h.alike u (by omega), h.good⟩

theorem NInv.start (every burst : Int) : NInv [] [] 0 every burst := ⟨by omega, by simp, by simp, by simp, fun i h => by simp at h⟩

theorem filter_near {M : List Int} {t every : Int} (h : ∀ x ∈ M, x ≤ t) : M.filter (nearB t every) = M.filter (inB t every) := by
  apply List.filter_congr
  intro x hx
  have := h x hx
  unfold nearB inB
  simp [this]

theorem filter_in_in {L : List Int} {t u every : Int} (hL : ∀ x ∈ L, x ≤ t) (htu : t ≤ u) : (L.filter (inB t every)).filter (inB u every) = L.filter (inB u every) := by
  rw [List.filter_filter]
  apply List.filter_congr
  intro x hx
  have := hL x hx
  rw [Bool.eq_iff_iff, Bool.and_eq_true, inB_iff, inB_iff]
  omega

theorem NInv.step {L M : List Int} {last every burst t : Int} (h : NInv L M last every burst) (h1 : last ≤ t) (h2 : t < 6311433600) (h3 : mayB L t every burst = true) (L' : List Int) (hL' : L' = L ∨ L' = keepL L t every) :
    NInv (L' ++ [t]) (M ++ [t]) t every burst := by
  have hR : rightB L t every = true := by unfold mayB at h3; simp only [Bool.and_eq_true] at h3; exact h3.1
  have hb := right_bounds hR
  have hkeep : keepL L t every = L.filter (inB t every) := by unfold keepL; rw [if_pos hR]
  have hlow := h.low
  have hsub : ∀ x ∈ L', x ∈ L := by
    rcases hL' with rfl | rfl
    · exact fun x hx => hx
    · intro x hx; rw [hkeep] at hx; exact (List.mem_filter.1 hx).1
  have hmay : ((L.filter (inB t every)).length : Int) < burst := by
    unfold mayB at h3; rw [hkeep] at h3; simp only [Bool.and_eq_true, decide_eq_true_eq] at h3; exact h3.2
  refine ⟨by omega, ?_, ?_, ?_, ?_⟩
  · intro x hx
    rcases List.mem_append.1 hx with hx | hx
    · have := h.inL x (hsub x hx); omega
    · simp at hx; omega
  · intro x hx
    rcases List.mem_append.1 hx with hx | hx
    · have := h.inM x hx; omega
    · simp at hx; omega
  · intro u hu
    rw [List.filter_append, List.filter_append]
    congr 1
    rw [← h.alike u (by omega)]
    rcases hL' with rfl | rfl
    · rfl
    · rw [hkeep]; exact filter_in_in (fun x hx => by have := h.inL x hx; omega) hu
  · intro i hi
    rcases Nat.lt_or_ge i M.length with hlt | hge
    · rw [List.getElem_append_left hlt, List.take_append_of_le_length (by omega)]
      exact h.good i hlt
    · have hi' : i = M.length := by simp at hi; omega
      subst hi'
      rw [List.take_of_length_le (by simp)]
      simp only [List.getElem_append_right (Nat.le_refl _), Nat.sub_self, List.getElem_cons_zero]
      rw [List.filter_append, filter_near (fun x hx => by have := h.inM x hx; omega), ← h.alike t h1]
      simp only [List.length_append]
      have : ([t].filter (nearB t every)).length ≤ 1 := List.length_filter_le _ _
      omega

theorem near_iff (t every u : Int) : nearB t every u = true ↔ every = 1099511627776 ∨ t - every < u := by unfold nearB; simp
end Lm
end Go.Proofs.Ytdcbapheoagelaa
