/- My texts, joined for the claim: DLaws2 DFindM DFind DShown DSame. -/
import Derived.Test.YtgfdcmlmgeoimaaGreatZB10
import Derived.Test.YtgfdcmlmgeoimaaGreatZB9

section
/- Plain laws of Disk: rows of links; what is laid over a unit. No program. -/
namespace Go.Proofs.YtgfdcmlmgeoimaaGreat
set_option linter.unusedSimpArgs false
namespace Od
/-! ### Texts play no part where a name leads -/
section
variable {g : Fl → Fl} (hp : ∀ f, (g f).1 = f.1) (hl : ∀ f, (g f).2.2 = f.2.2)
include hp
theorem at_text (fs : List Fl) (p : Str) : atF (fs.map g) p = (atF fs p).map g := by
  unfold atF
  rw [List.find?_map]
  have : ((fun f : Fl => f.1 == p) ∘ g) = fun f => f.1 == p := by funext f; show ((g f).1 == p) = _; rw [hp]
  rw [this]
theorem first_text (fs : List Fl) (u : Str) : firstF (fs.map g) u = (firstF fs u).map g := by
  unfold firstF
  simp only [at_text hp]
  induction placesL with
  | nil => rfl
  | cons q l ih =>
    rw [List.findSome?_cons, List.findSome?_cons]
    cases atF fs (pathU q u) with
    | none => exact ih
    | some f => rfl
theorem owned_text (fs : List Fl) (u : Str) : ownedF (fs.map g) u = (ownedF fs u).map fun x => (g x.1, x.2) := by
  unfold ownedF
  rw [first_text hp, first_text hp]
  cases firstF fs u with
  | some f => rfl
  | none =>
    simp only [Option.map_none]
    split
    · cases firstF fs (templS u) <;> rfl
    · rfl
theorem drops_text (fs : List Fl) (u : Str) : dropsF (fs.map g) u = dropsF fs u := by
  unfold dropsF
  have h1 : (fs.map g).filterMap (overF (foldersF u)) = fs.filterMap (overF (foldersF u)) := by
    rw [List.filterMap_map]
    refine filterMap_congr' fun f _ => ?_
    show overF _ (g f) = _
    unfold overF
    rw [hp]
  have h2 : bestF (fs.map g) u = bestF fs u := by
    funext x
    unfold bestF
    congr 1
    refine Lib.find_congr fun q _ => ?_
    rw [at_text hp]
    cases atF fs q <;> rfl
  rw [h1, h2]
include hl
theorem hop_text (fs : List Fl) (asked : List Str) (n : Str) : hopF (fs.map g) asked n = hopF fs asked n := by
  unfold hopF
  rw [owned_text hp, drops_text hp]
  cases ownedF fs n with
  | none => rfl
  | some x =>
    obtain ⟨f, own⟩ := x
    simp only [Option.map_some, hp, hl]
theorem go_text (fs : List Fl) : ∀ (k : Nat) (asked : List Str) (n : Str), goF (fs.map g) k asked n = goF fs k asked n
  | 0, _, _ => rfl
  | k + 1, asked, n => by
    unfold goF
    rw [hop_text hp hl]
    cases hopF fs asked n with
    | done x e => rfl
    | next m => exact go_text fs k _ _
end
/-! ### Rows of links -/
def hexC : List UInt8 := [48, 49, 50, 51, 52, 53, 54, 55, 56, 57, 97, 98, 99]
def dotService : Str := [46, 115, 101, 114, 118, 105, 99, 101]
def nmS (k : Nat) : Str := 117 :: (hexC.getD k 0 :: dotService)
def linkA (k : Nat) : Fl := (pathU libS (nmS k), [], nmS (k + 1))
def lastA (n : Nat) (ring : Bool) (t : Str) : Fl := if ring then (pathU runS (nmS n), [], nmS 0) else (pathU runS (nmS n), t, [])
def rowA (n : Nat) (ring : Bool) (t : Str) : List Fl := (List.range n).map linkA ++ [lastA n ring t]
theorem rowA_text (n : Nat) (ring : Bool) (t : Str) (k : Nat) (asked : List Str) (m : Str) : goF (rowA n ring t) k asked m = goF (rowA n ring []) k asked m := by
  have h : ∀ t, (rowA n ring t).map (fun f => (f.1, ([] : Str), f.2.2)) = rowA n ring [] := fun t => by
    unfold rowA
    rw [List.map_append, List.map_map]
    congr 1
    unfold lastA
    cases ring <;> rfl
  rw [← go_text (g := fun f => (f.1, ([] : Str), f.2.2)) (fun _ => rfl) (fun _ => rfl) (rowA n ring t), h]
theorem alias_may (n : Nat) (hn : n < 13) (ring : Bool) : mayFs (rowA n ring []) = true := by
  have : ∀ n, n < 13 → ∀ ring, mayFs (rowA n ring []) = true := by decide +kernel
  exact this n hn ring
def aliasB (n : Nat) (ring : Bool) : Bool :=
  let r := goF (rowA n ring []) 9 [nmS 0] (nmS 0)
  if ring || decide (8 < n) then r.2 == 17 && (r.1.1 == ([] : Str) && (r.1.2.1 == ([] : Str) && (!r.1.2.2.1 && r.1.2.2.2 == ([] : List Str))))
  else r.2 == 0 && (r.1.1 == nmS n && r.1.2.1 == pathU runS (nmS n))
theorem alias_all : ∀ n, n < 13 → ∀ ring, aliasB n ring = true := by decide +kernel
theorem alias_go (n : Nat) (hn : n < 13) (ring : Bool) : (goF (rowA n ring []) 9 [nmS 0] (nmS 0)).2 = (if ring = true ∨ 8 < n then 17 else 0) ∧
    (¬ (ring = true ∨ 8 < n) → (goF (rowA n ring []) 9 [nmS 0] (nmS 0)).1.1 = nmS n ∧ (goF (rowA n ring []) 9 [nmS 0] (nmS 0)).1.2.1 = pathU runS (nmS n)) ∧
    ((ring = true ∨ 8 < n) → (goF (rowA n ring []) 9 [nmS 0] (nmS 0)).1 = found0) := by
  have h := alias_all n hn ring
  unfold aliasB at h
  generalize goF (rowA n ring []) 9 [nmS 0] (nmS 0) = r at h ⊢
  obtain ⟨⟨a, b, c, d⟩, e⟩ := r
  by_cases hc : ring = true ∨ 8 < n
  · have : (ring || decide (8 < n)) = true := by simpa using hc
    simp only [this, if_true, Bool.and_eq_true, beq_iff_eq, Bool.not_eq_true'] at h
    rw [if_pos hc]
    obtain ⟨h1, h2, h3, h4, h5⟩ := h
    subst h1; subst h2; subst h3; subst h4; subst h5
    exact ⟨rfl, fun x => absurd hc x, fun _ => rfl⟩
  · have : (ring || decide (8 < n)) = false := by
      rw [Bool.or_eq_false_iff, decide_eq_false_iff_not]
      exact ⟨by cases ring; rfl; exact absurd (.inl rfl) hc, fun x => hc (.inr x)⟩
    simp only [this, Bool.false_eq_true, if_false, Bool.and_eq_true, beq_iff_eq] at h
    rw [if_neg hc]
    exact ⟨h.1, fun _ => h.2, fun x => absurd x hc⟩
theorem rowA_may (n : Nat) (hn : n < 13) (ring : Bool) (t : Str) (ht : t.length ≤ 100) : mayFs (rowA n ring t) = true := by
  obtain ⟨h1, h2, h3⟩ := mayFs_iff.1 (alias_may n hn ring)
  have hpath : (rowA n ring t).map (·.1) = (rowA n ring []).map (·.1) := by
    unfold rowA lastA
    rw [List.map_append, List.map_append]
    cases ring <;> rfl
  refine mayFs_iff.2 ⟨?_, fun f hf => ?_, by rw [hpath]; exact h3⟩
  · have := congrArg List.length hpath
    rw [List.length_map, List.length_map] at this
    omega
  · unfold rowA at hf h2
    rcases List.mem_append.1 hf with hf | hf
    · exact h2 f (List.mem_append.2 (.inl hf))
    · have h4 := h2 _ (List.mem_append.2 (.inr (List.mem_singleton.2 rfl)))
      rw [List.mem_singleton.1 hf]
      unfold lastA at h4 ⊢
      cases ring
      · simp only [Bool.false_eq_true, if_false] at h4 ⊢
        unfold mayF mayW at h4 ⊢
        simp only at h4 ⊢
        rw [decide_eq_false (by omega)]
        simpa using h4
      · exact h4
theorem kind_nm0 : kindS (nmS 0) ≠ 0 := by decide +kernel
theorem alias_find (n : Nat) (hn : n < 13) (ring : Bool) (t : Str) (ht : t.length ≤ 100) :
    ((ring = true ∨ 8 < n) → findF (rowA n ring t) (nmS 0) = (found0, 17)) ∧
    (¬ (ring = true ∨ 8 < n) → (findF (rowA n ring t) (nmS 0)).2 = 0 ∧ (findF (rowA n ring t) (nmS 0)).1.1 = nmS n ∧ (findF (rowA n ring t) (nmS 0)).1.2.1 = pathU runS (nmS n)) := by
  have e : findF (rowA n ring t) (nmS 0) = goF (rowA n ring []) 9 [nmS 0] (nmS 0) := by
    unfold findF
    rw [if_neg (by rw [rowA_may n hn ring t ht]; simp), if_neg kind_nm0, rowA_text]
  obtain ⟨h1, h2, h3⟩ := alias_go n hn ring
  rw [e]
  constructor
  · intro h
    rw [if_pos h] at h1
    exact Prod.ext (h3 h) h1
  · intro h
    rw [if_neg h] at h1
    exact ⟨h1, h2 h⟩
/-! ### What is laid over -/
theorem owned_mem {fs : List Fl} (h : mayFs fs = true) {n : Str} {f : Fl} {own : Bool} (hn : kindS n ≠ 0) (ho : ownedF fs n = some (f, own)) : f ∈ fs ∧ ∃ p u, wayS f.1 = (1, p, u, []) ∧ kindS u ≠ 0 := by
  have key : ∀ u, kindS u ≠ 0 → firstF fs u = some f → f ∈ fs ∧ ∃ p u, wayS f.1 = (1, p, u, []) ∧ kindS u ≠ 0 := fun u hu hf => by
    unfold firstF at hf
    obtain ⟨p, hp, h1⟩ := List.exists_of_findSome?_eq_some hf
    obtain ⟨h2, h3⟩ := (at_iff (mayFs_iff.1 h).2.2).1 h1
    exact ⟨h2, p, u, by rw [h3, way_pathU hp hu], hu⟩
  unfold ownedF at ho
  cases h1 : firstF fs n with
  | some g =>
    rw [h1] at ho
    injection ho with ho
    injection ho with a _
    rw [← a]
    exact a ▸ key n hn (a ▸ h1)
  | none =>
    rw [h1] at ho
    simp only at ho
    split at ho
    · rename_i hi
      obtain ⟨g, h2, e⟩ := Option.map_eq_some_iff.1 ho
      injection e with a _
      rw [a] at h2
      exact key _ (templ_ne hi).1 h2
    · cases ho
theorem link_kind {f : Fl} (h : mayF f = true) {p u : Str} (hw : wayS f.1 = (1, p, u, [])) (hu : kindS u ≠ 0) (h0 : f.2.2 ≠ []) (h1 : f.2.2 ≠ nullS) : kindS f.2.2 ≠ 0 := by
  unfold mayF mayW at h
  rw [hw] at h
  have e0 : (f.2.2 == ([] : Str)) = false := by simpa using h0
  have e1 : (f.2.2 == nullS) = false := by simpa using h1
  simp only [if_true, e0, e1, Bool.false_or, Bool.and_eq_true, beq_iff_eq] at h
  rw [h.2.2.1]
  exact hu
/-- Where it ends: a name that may be. -/
theorem go_kind {fs : List Fl} (h : mayFs fs = true) : ∀ (k : Nat) (asked : List Str) (n : Str) (x : Fd), kindS n ≠ 0 → goF fs k asked n = (x, 0) → kindS x.1 ≠ 0 ∧ (x.2.2.1 = false → x.2.2.2 = dropsF fs x.1) ∧ (x.2.2.1 = true → x.2.2.2 = [])
  | 0, _, _, x, _, hg => by
    unfold goF at hg
    injection hg with _ hg
    exact absurd hg (by decide)
  | k + 1, asked, n, x, hn, hg => by
    unfold goF hopF at hg
    cases ho : ownedF fs n with
    | none =>
      rw [ho] at hg
      simp only at hg
      injection hg with _ hg
      split at hg <;> exact absurd hg (by decide)
    | some y =>
      obtain ⟨f, own⟩ := y
      rw [ho] at hg
      simp only at hg
      obtain ⟨hf, p, u, hw, hu⟩ := owned_mem h hn ho
      by_cases h0 : f.2.2 = []
      · rw [if_pos h0] at hg
        injection hg with hg _
        subst hg
        exact ⟨hn, fun _ => rfl, fun e => by cases e⟩
      · rw [if_neg h0] at hg
        by_cases h1 : f.2.2 = nullS
        · rw [if_pos h1] at hg
          injection hg with hg _
          subst hg
          exact ⟨hn, fun e => (by cases e), fun _ => rfl⟩
        · rw [if_neg h1] at hg
          have hlk := link_kind ((mayFs_iff.1 h).2.1 f hf) hw hu h0 h1
          have ht : (if own = true then (f.2.2, true) else instOf f.2.2 (ofS n).2.2.1).2 = true → kindS (if own = true then (f.2.2, true) else instOf f.2.2 (ofS n).2.2.1).1 ≠ 0 := by
            cases own
            · intro e
              simp only [Bool.false_eq_true, if_false] at e ⊢
              exact (inst_parts (Prod.ext rfl e)).2.2.1
            · intro _; exact hlk
          generalize (if own = true then (f.2.2, true) else instOf f.2.2 (ofS n).2.2.1) = t at hg ht
          by_cases hc : t.2 = false ∨ t.1 ∈ asked ∨ 8 < asked.length
          · rw [if_pos hc] at hg
            simp only at hg
            injection hg with _ hg
            exact absurd hg (by decide)
          · rw [if_neg hc] at hg
            have : t.2 = true := by
              cases h2 : t.2
              · exact absurd (.inl h2) hc
              · rfl
            exact go_kind h k _ t.1 x (ht this) hg
theorem find_kind {fs : List Fl} {u : Str} {x : Fd} (hg : findF fs u = (x, 0)) : mayFs fs = true ∧ kindS x.1 ≠ 0 ∧ (x.2.2.1 = false → x.2.2.2 = dropsF fs x.1) ∧ (x.2.2.1 = true → x.2.2.2 = []) := by
  unfold findF at hg
  cases h : mayFs fs
  · rw [h] at hg; injection hg with _ hg; exact absurd hg (by decide)
  · rw [h] at hg
    rw [if_neg (by simp)] at hg
    by_cases hu : kindS u = 0
    · rw [if_pos hu] at hg; injection hg with _ hg; exact absurd hg (by decide)
    · rw [if_neg hu] at hg
      exact ⟨rfl, go_kind h _ _ _ x hu hg⟩
/-- The place of a text laid over. -/
def placeX (fs : List Fl) (v x : Str) : Option Str := (placesL.map fun p => pathX p v x).find? fun q => (atF fs q).isSome
theorem best_place (fs : List Fl) (u x : Str) : bestF fs u x = ((foldersF u).findSome? fun v => placeX fs v x).getD [] := by
  unfold bestF
  rw [findSome_flat]
  rfl
theorem placeX_some {fs : List Fl} {v x q : Str} (h : placeX fs v x = some q) : ∃ p ∈ placesL, q = pathX p v x ∧ (atF fs q).isSome = true ∧ ∀ p' ∈ placesL, idxP p' < idxP p → atF fs (pathX p' v x) = none := by
  unfold placeX placesL at h
  simp only [List.map_cons, List.map_nil] at h
  rw [List.find?_cons] at h
  cases h1 : atF fs (pathX etcS v x) with
  | some f =>
    rw [h1] at h
    simp only [Option.isSome_some] at h
    injection h with h
    subst h
    refine ⟨etcS, by decide, rfl, by rw [h1]; rfl, fun p' hp' hlt => ?_⟩
    exfalso
    have : ∀ p' ∈ placesL, ¬ idxP p' < idxP etcS := by decide
    exact this p' hp' hlt
  | none =>
    rw [h1] at h
    simp only [Option.isSome_none] at h
    rw [List.find?_cons] at h
    cases h2 : atF fs (pathX runS v x) with
    | some f =>
      rw [h2] at h
      simp only [Option.isSome_some] at h
      injection h with h
      subst h
      refine ⟨runS, by decide, rfl, by rw [h2]; rfl, fun p' hp' hlt => ?_⟩
      have : ∀ p' ∈ placesL, idxP p' < idxP runS → p' = etcS := by decide
      rw [this p' hp' hlt]; exact h1
    | none =>
      rw [h2] at h
      simp only [Option.isSome_none] at h
      rw [List.find?_cons] at h
      cases h3 : atF fs (pathX libS v x) with
      | some f =>
        rw [h3] at h
        simp only [Option.isSome_some] at h
        injection h with h
        subst h
        refine ⟨libS, by decide, rfl, by rw [h3]; rfl, fun p' hp' hlt => ?_⟩
        have : ∀ p' ∈ placesL, idxP p' < idxP libS → p' = etcS ∨ p' = runS := by decide
        rcases this p' hp' hlt with e | e
        · rw [e]; exact h1
        · rw [e]; exact h2
      | none => rw [h3] at h; simp at h
theorem placeX_none {fs : List Fl} {v x p : Str} (h : placeX fs v x = none) (hp : p ∈ placesL) : atF fs (pathX p v x) = none := by
  unfold placeX at h
  rw [List.find?_eq_none] at h
  have := h _ (List.mem_map.2 ⟨p, hp, rfl⟩)
  cases ha : atF fs (pathX p v x) with
  | none => rfl
  | some f => rw [ha] at this; simp at this
theorem way_pathX {p u x : Str} (hp : p ∈ placesL) (hu : kindS u ≠ 0) (hx : dropN x = true) : wayS (pathX p u x) = (2, p, u, x) := by
  have hx0 : x ≠ [] := fun e => by rw [e] at hx; exact absurd hx (by decide)
  unfold wayS pathX
  rw [cutR_at (place_slash hp)]
  simp only
  rw [if_pos hp, cutR_at (fun hm => ?_)]
  · simp only
    rw [foldS_drops hu]
    simp only
    unfold wayF
    rw [if_pos rfl, endsW_some.2 ⟨rfl, hx0⟩]
    simp only
    rw [if_pos hx]
  · rcases List.mem_append.1 hm with h | h
    · exact name_slash hu h
    · revert h; decide
/-- Each text laid over: what its path says, that no other one goes ahead of it. -/
theorem drop_at {fs : List Fl} (h : mayFs fs = true) {u x : Str} (hu : kindS u ≠ 0) (hx : x ∈ fs.filterMap (overF (foldersF u))) :
    ∃ p v, wayS (bestF fs u x) = (2, p, v, x) ∧ (v = u ∨ v = templS u) ∧ x ≠ [] ∧ ∀ f ∈ fs, (wayS f.1).1 = 2 → (wayS f.1).2.2.2 = x → ¬ ((wayS f.1).2.2.1 = u ∧ v ≠ u) ∧ ¬ ((wayS f.1).2.2.1 = v ∧ idxP (wayS f.1).2.1 < idxP p) := by
  have hat : ∀ f ∈ fs, (wayS f.1).1 = 2 → (wayS f.1).2.2.2 = x → dropN x = true ∧ (wayS f.1).2.1 ∈ placesL ∧ atF fs (pathX (wayS f.1).2.1 (wayS f.1).2.2.1 x) = some f ∧ kindS (wayS f.1).2.2.1 ≠ 0 := fun f hf h1 h2 => by
    rcases may_cases ((mayFs_iff.1 h).2.1 f hf) with ⟨_, _, _, e, _⟩ | ⟨p, v, y, _, e, hv, hp, hd, hs⟩ | ⟨_, _, _, _, _, e, _, _, hj, _⟩
    · rw [e] at h1; exact absurd h1 (show ¬ (1 : Nat) = 2 by decide)
    · rw [e] at h2 ⊢
      simp only at h2 ⊢
      subst h2
      exact ⟨hd, hp, (at_iff (mayFs_iff.1 h).2.2).2 ⟨hf, hs⟩, hv⟩
    · rw [e] at h1; simp only at h1; omega
  obtain ⟨f, hf, ho⟩ := List.mem_filterMap.1 hx
  unfold overF at ho
  split at ho
  case isFalse => cases ho
  rename_i hc
  injection ho with ho
  obtain ⟨hd, hpl, haf, hkv⟩ := hat f hf hc.1 ho
  have hx0 : x ≠ [] := fun e => by rw [e] at hd; exact absurd hd (by decide)
  rw [best_place]
  have hfold : ∀ G : Str → Option Str, (foldersF u).findSome? G = match G u with | some q => some q | none => if instS u then G (templS u) else none := fun G => by
    unfold foldersF
    rw [List.findSome?_cons]
    cases G u with
    | some q => rfl
    | none =>
      cases instS u
      · rfl
      · simp only [if_true]; rw [List.findSome?_cons]; cases G (templS u) <;> rfl
  rw [hfold]
  cases hq : placeX fs u x with
  | some q =>
    obtain ⟨p, hp, rfl, _, hlow⟩ := placeX_some hq
    refine ⟨p, u, way_pathX hp hu hd, .inl rfl, hx0, fun f' hf' h1 h2 => ⟨fun a => a.2 rfl, fun a => ?_⟩⟩
    obtain ⟨_, hp', ha', _⟩ := hat f' hf' h1 h2
    rw [a.1, hlow _ hp' a.2] at ha'
    cases ha'
  | none =>
    have hu' : ∀ f' ∈ fs, (wayS f'.1).1 = 2 → (wayS f'.1).2.2.2 = x → (wayS f'.1).2.2.1 ≠ u := fun f' hf' h1 h2 e => by
      obtain ⟨_, hp', ha', _⟩ := hat f' hf' h1 h2
      rw [e, placeX_none hq hp'] at ha'
      cases ha'
    have hne := hu' f hf hc.1 ho
    have hmem := hc.2
    unfold foldersF at hmem
    have hi : instS u = true := by
      cases hi : instS u
      · rw [hi] at hmem
        simp only [Bool.false_eq_true, if_false, List.mem_singleton] at hmem
        exact absurd hmem hne
      · rfl
    rw [hi] at hmem
    simp only [if_true, List.mem_cons, List.not_mem_nil, or_false] at hmem
    have hvt := hmem.resolve_left hne
    simp only
    rw [if_pos hi]
    cases hq2 : placeX fs (templS u) x with
    | none =>
      rw [hvt, placeX_none hq2 hpl] at haf
      cases haf
    | some q =>
      obtain ⟨p, hp, rfl, _, hlow⟩ := placeX_some hq2
      refine ⟨p, templS u, way_pathX hp (templ_ne hi).1 hd, .inr rfl, hx0, fun f' hf' h1 h2 => ⟨fun a => hu' f' hf' h1 h2 a.1, fun a => ?_⟩⟩
      obtain ⟨_, hp', ha', _⟩ := hat f' hf' h1 h2
      rw [a.1, hlow _ hp' a.2] at ha'
      cases ha'
end Od
end Go.Proofs.YtgfdcmlmgeoimaaGreat
end

section
/- What the hops of disk.Find come to, step by step; no program. (bel2) -/
namespace Go.Proofs.YtgfdcmlmgeoimaaGreat
open Go.RowKit Go.Sort
set_option linter.unusedSimpArgs false
namespace Od
/-- What a find answers. -/
def FindR (x : Fd × Int) (w : World) (e : Ending) (w' : World) : Prop := ∃ A c, e = .returned (.tuple #[.agg #[sv x.1.1, sv x.1.2.1, .bool x.1.2.2.1, .slice A x.1.2.2.2.length c], .int .i64 x.2]) ∧ Rd w' w'.heap.size 1 A x.1.2.2.2.length (svs x.1.2.2.2) ∧ Below w.heap.size w w'
theorem find_form {fs : List Fl} {u : Str} (h : mayFs fs = false) : findF fs u = (found0, 1) := by unfold findF; rw [if_pos h]
theorem find_name {fs : List Fl} {u : Str} (h : mayFs fs = true) (hu : kindS u = 0) : findF fs u = (found0, 5) := by unfold findF; rw [if_neg (by rw [h]; simp), if_pos hu]
theorem find_go {fs : List Fl} {u : Str} (h : mayFs fs = true) (hu : kindS u ≠ 0) : findF fs u = goF fs 9 [u] u := by unfold findF; rw [if_neg (by rw [h]; simp), if_neg hu]
def nextF (n : Str) (f : Fl) (own : Bool) : Str × Bool := if own then (f.2.2, true) else instOf f.2.2 (ofS n).2.2.1
/-- The names asked for so far; what it all comes to. -/
structure HopS (fs : List Fl) (r : Fd × Int) (asked : List Str) (n : Str) : Prop where
  pos : 1 ≤ asked.length
  le : asked.length ≤ 9
  kind : kindS n ≠ 0
  go : goF fs (10 - asked.length) asked n = r
  last : asked[asked.length - 1]? = some n
theorem HopS.start {fs : List Fl} {u : Str} (h : mayFs fs = true) (hu : kindS u ≠ 0) : HopS fs (findF fs u) [u] u := ⟨by simp, by simp, hu, (find_go h hu).symm, rfl⟩
theorem HopS.eq {fs : List Fl} {r : Fd × Int} {asked : List Str} {n : Str} (h : HopS fs r asked n) : r = match hopF fs asked n with
    | .done x e => (x, e)
    | .next m => goF fs (9 - asked.length) (asked ++ [m]) m := by
  have h1 := h.go
  have e : 10 - asked.length = (9 - asked.length) + 1 := by have := h.le; omega
  rw [e] at h1
  rw [← h1]
  rfl
theorem HopS.none {fs : List Fl} {r : Fd × Int} {asked : List Str} {n : Str} (h : HopS fs r asked n) (ho : ownedF fs n = none) : r = (found0, if asked.length = 1 then 6 else 17) := by
  rw [h.eq]; unfold hopF; rw [ho]
theorem HopS.end_ {fs : List Fl} {r : Fd × Int} {asked : List Str} {n : Str} (h : HopS fs r asked n) {f : Fl} {own : Bool} (ho : ownedF fs n = some (f, own)) (hl : f.2.2 = []) : r = ((n, f.1, false, dropsF fs n), 0) := by
  rw [h.eq]; unfold hopF; rw [ho]; simp only; rw [if_pos hl]
theorem HopS.null {fs : List Fl} {r : Fd × Int} {asked : List Str} {n : Str} (h : HopS fs r asked n) {f : Fl} {own : Bool} (ho : ownedF fs n = some (f, own)) (hl : f.2.2 = nullS) : r = ((n, f.1, true, []), 0) := by
  rw [h.eq]; unfold hopF; rw [ho]; simp only; rw [if_neg (by rw [hl]; decide), if_pos hl]
theorem HopS.stop {fs : List Fl} {r : Fd × Int} {asked : List Str} {n : Str} (h : HopS fs r asked n) {f : Fl} {own : Bool} (ho : ownedF fs n = some (f, own)) (h0 : f.2.2 ≠ []) (h1 : f.2.2 ≠ nullS)
    (hc : (nextF n f own).2 = false ∨ (nextF n f own).1 ∈ asked ∨ 8 < asked.length) : r = (found0, 17) := by
  rw [h.eq]; unfold hopF; rw [ho]; simp only; rw [if_neg h0, if_neg h1]
  unfold nextF at hc
  rw [if_pos hc]
theorem next_kind {fs : List Fl} (hm : mayFs fs = true) {n : Str} (hn : kindS n ≠ 0) {f : Fl} {own : Bool} (ho : ownedF fs n = some (f, own)) (h0 : f.2.2 ≠ []) (h1 : f.2.2 ≠ nullS) (ht : (nextF n f own).2 = true) : kindS (nextF n f own).1 ≠ 0 := by
  obtain ⟨hf, p, u, hw, hu⟩ := owned_mem hm hn ho
  have hlk := link_kind ((mayFs_iff.1 hm).2.1 f hf) hw hu h0 h1
  unfold nextF at ht ⊢
  cases own
  · simp only [Bool.false_eq_true, if_false] at ht ⊢
    exact (inst_parts (Prod.ext rfl ht)).2.2.1
  · exact hlk
theorem HopS.next {fs : List Fl} {r : Fd × Int} {asked : List Str} {n : Str} (h : HopS fs r asked n) (hm : mayFs fs = true) {f : Fl} {own : Bool} (ho : ownedF fs n = some (f, own)) (h0 : f.2.2 ≠ []) (h1 : f.2.2 ≠ nullS)
    (ht : (nextF n f own).2 = true) (hc : (nextF n f own).1 ∉ asked) (hl : asked.length ≤ 8) : HopS fs r (asked ++ [(nextF n f own).1]) (nextF n f own).1 := by
  have hk := next_kind hm h.kind ho h0 h1 ht
  have he := h.eq
  unfold hopF at he
  rw [ho] at he
  simp only at he
  rw [if_neg h0, if_neg h1] at he
  have hcc : ¬ ((nextF n f own).2 = false ∨ (nextF n f own).1 ∈ asked ∨ 8 < asked.length) := by
    rintro (a | a | a)
    · rw [ht] at a; cases a
    · exact hc a
    · omega
  unfold nextF at hcc hk ⊢
  rw [if_neg hcc] at he
  simp only at he
  refine ⟨by simp, by simp; omega, hk, ?_, by simp⟩
  rw [he]
  congr 1
  simp
theorem own_back {fs : List Fl} {n : Str} {f : Fl} {sh : Bool} (h : ownR fs n = (f, sh, true)) : ownedF fs n = some (f, !sh) := by
  cases ho : ownedF fs n with
  | none =>
    have := own_none.2 ho
    rw [h] at this
    cases this
  | some y =>
    obtain ⟨g, own⟩ := y
    have := own_some ho
    rw [h] at this
    injection this with a b
    injection b with b _
    rw [a, b]
    simp
theorem kind_len {n : Str} (h : kindS n ≠ 0) : n.length ≤ 60 := (kind_parts h).1
end Od
end Go.Proofs.YtgfdcmlmgeoimaaGreat
end

section
/- disk.Find: what files have for a name. (bel2) -/
namespace Go.Proofs.YtgfdcmlmgeoimaaGreat
open Go.RowKit Go.Sort
set_option linter.unusedSimpArgs false
namespace Od
theorem containsD_any (A : Option Addr) (c : Nat) (ss : List Str) (x : Str) (w : World) (hr : Rd w w.heap.size 1 A ss.length (svs ss)) (hl : ss.length ≤ 140737488355328) :
    Calls Tryz.prog 28 #[.slice A ss.length c, sv x] w fun e w' => e = .returned (.bool (hasB ss x)) ∧ w' = w := by
  have he : hasB ss x = decide (x ∈ ss) := by
    rw [Bool.eq_iff_iff, hasB_iff, decide_eq_true_eq]
  rw [he]
  rcases Nat.eq_zero_or_pos ss.length with h0 | h0
  · have hn := List.length_eq_zero_iff.1 h0
    subst hn
    refine (Tryz.slices_Contains_string_empty A c _ w).mono ?_
    rintro e w' ⟨rfl, rfl⟩
    exact ⟨by simp, rfl⟩
  · obtain ⟨b, o, rfl, hb, hc⟩ := hr.open h0
    refine (Tryz.slices_Contains_string b o ss.length c (ss.map fun s => ⟨s.toArray⟩) ⟨x.toArray⟩ w (by simp) (by omega) (fun j hj => ?_)).mono ?_
    · have hj' : j < ss.length := by simpa using hj
      rw [hc j (by omega)]
      simp [svs, hj']
    · rintro e w' ⟨rfl, rfl⟩
      exact ⟨by rw [List.take_of_length_le (by simp), idxOf_zs], rfl⟩
/-- The block of a result that is still nothing. -/
structure FdZ (w : World) (b : Nat) : Prop where
  c0 : w.cell? ⟨b, 0, none⟩ = some (.string ⟨#[]⟩)
  c1 : w.cell? ⟨b, 1, none⟩ = some (.string ⟨#[]⟩)
  c2 : w.cell? ⟨b, 2, none⟩ = some (.bool false)
  c3 : w.cell? ⟨b, 3, none⟩ = some (.slice none 0 0)
  f0 : w.frozen? ⟨b, 0, none⟩ = false
  f1 : w.frozen? ⟨b, 1, none⟩ = false
  f2 : w.frozen? ⟨b, 2, none⟩ = false
  f3 : w.frozen? ⟨b, 3, none⟩ = false
theorem FdZ.lt {w : World} {b : Nat} (h : FdZ w b) : b < w.heap.size := cell_blk h.c0
theorem FdZ.on {w w' : World} {b : Nat} (h : FdZ w b) (hb : Below w.heap.size w w') : FdZ w' b :=
  ⟨cellAt h.c0 hb h.lt, cellAt h.c1 hb h.lt, cellAt h.c2 hb h.lt, cellAt h.c3 hb h.lt, froAt h.f0 hb h.lt, froAt h.f1 hb h.lt, froAt h.f2 hb h.lt, froAt h.f3 hb h.lt⟩
def lenV : Value → Nat
  | .slice _ n _ => n
  | _ => 0
theorem ofS_inst_le (n : Str) : (ofS n).2.2.1.length ≤ 60 := (ofS_le n).2
set_option maxRecDepth 100000 in
set_option maxHeartbeats 8000000 in
theorem Find_any (A : Option Addr) (c : Nat) (fs : List Fl) (u : Str) (w : World) (h : FlIn w A fs) (hl : fs.length ≤ 10000000000000) (hu : u.length ≤ 140737488355328) : Calls Tryz.prog 9 #[.slice A fs.length c, sv u] w (FindR (findF fs u) w) := by
  obtain ⟨i0, hi, hz0, hz1, hz2⟩ := info_parts infoS
  have HF := Lib.hid h
  have hdf : ∀ x w e w', FindR x w e w' = ∃ A c, e = .returned (.tuple #[.agg #[sv x.1.1, sv x.1.2.1, .bool x.1.2.2.1, .slice A x.1.2.2.2.length c], .int .i64 x.2]) ∧ Rd w' w'.heap.size 1 A x.1.2.2.2.length (svs x.1.2.2.2) ∧ Below w.heap.size w w' := fun _ _ _ _ => rfl
  have HD := Lib.hid hdf
  clear h hdf
  cases hm : mayFs fs
  · have HR := Lib.hid (find_form (u := u) hm)
    go_enter Tryz.func9, Tryz.ntmps9
    go_wp2_with fail
    first | (refine wp_named ?_; intro W1 hW) | (refine calls_named ?_; intro W1 hW) | (refine exit_named ?_; intro W1 hW)
    have B1 : Below w.heap.size w W1 := by rw [hW]; exact (by repeat (first | exact Below.refl _ _ | assumption | refine Below.alloc ?_ (by first | omega | (simp <;> omega)) _ | refine Below.setCell ?_ (by first | omega | (simp <;> omega)) _ | refine Below.drew ?_))
    replace HF := Lib.hid (HF.out.at B1)
    have n0 : w.heap.size < W1.heap.size := by rw [hW]; simp <;> omega
    have r0 : W1.cell? ⟨w.heap.size, 0, none⟩ = some (.string ⟨#[]⟩) := by rw [hW]; go_simp
    have r1 : W1.cell? ⟨w.heap.size, 1, none⟩ = some (.string ⟨#[]⟩) := by rw [hW]; go_simp
    have r2 : W1.cell? ⟨w.heap.size, 2, none⟩ = some (.bool false) := by rw [hW]; go_simp
    have r3 : W1.cell? ⟨w.heap.size, 3, none⟩ = some (.slice none 0 0) := by rw [hW]; go_simp
    have z0 : W1.frozen? ⟨w.heap.size, 0, none⟩ = false := by rw [hW]; go_simp
    have z1 : W1.frozen? ⟨w.heap.size, 1, none⟩ = false := by rw [hW]; go_simp
    have z2 : W1.frozen? ⟨w.heap.size, 2, none⟩ = false := by rw [hW]; go_simp
    have z3 : W1.frozen? ⟨w.heap.size, 3, none⟩ = false := by rw [hW]; go_simp
    clear hW
    have HB1 := Lib.hid B1
    have HZ1 := Lib.hid (show FdZ W1 w.heap.size from ⟨r0, r1, r2, r3, z0, z1, z2, z3⟩)
    clear B1 r0 r1 r2 r3 z0 z1 z2 z3
    refine (MayD_any A c fs W1 HF.out hl).mono ?_
    rintro e w2 ⟨rfl, hb⟩
    rw [hm]
    replace HF := Lib.hid (HF.out.at hb)
    replace n0 : w.heap.size < w2.heap.size := ltAt n0 hb
    have HB2 := Lib.hid (lift HB1.out hb)
    have HZ2 := Lib.hid (HZ1.out.on hb)
    clear hb HZ1
    have r0 := HZ2.out.c0
    have r1 := HZ2.out.c1
    have r2 := HZ2.out.c2
    have r3 := HZ2.out.c3
    have z0 := HZ2.out.f0
    have z1 := HZ2.out.f1
    have z2 := HZ2.out.f2
    have z3 := HZ2.out.f3
    go_wp2_with fail
    have hB0 := HB2.out
    refine bodyPost_ret (v := .tuple #[.agg #[sv [], sv [], .bool false, .slice none 0 0], .int .i64 1]) (by simp only [results, Tryz.results9]; go_simp) rfl ?_
    rw [HR.out, HD.out]
    refine ⟨none, 0, rfl, Rd.none_, ?_⟩
    repeat (first | (with_reducible exact hB0) | (with_reducible refine Below.drew ?_) | (with_reducible refine Below.alloc ?_ ?zs _; case zs => first | omega | (simp <;> omega)) | (with_reducible refine Below.setCell ?_ ?zs _; case zs => first | omega | (simp <;> omega)))
  · cases hk : (kindS u != 0)
    · have HR := Lib.hid (find_name hm (u := u) (by simpa using hk))
      go_enter Tryz.func9, Tryz.ntmps9
      go_wp2_with fail
      first | (refine wp_named ?_; intro W1 hW) | (refine calls_named ?_; intro W1 hW) | (refine exit_named ?_; intro W1 hW)
      have B1 : Below w.heap.size w W1 := by rw [hW]; exact (by repeat (first | exact Below.refl _ _ | assumption | refine Below.alloc ?_ (by first | omega | (simp <;> omega)) _ | refine Below.setCell ?_ (by first | omega | (simp <;> omega)) _ | refine Below.drew ?_))
      replace HF := Lib.hid (HF.out.at B1)
      have n0 : w.heap.size < W1.heap.size := by rw [hW]; simp <;> omega
      have r0 : W1.cell? ⟨w.heap.size, 0, none⟩ = some (.string ⟨#[]⟩) := by rw [hW]; go_simp
      have r1 : W1.cell? ⟨w.heap.size, 1, none⟩ = some (.string ⟨#[]⟩) := by rw [hW]; go_simp
      have r2 : W1.cell? ⟨w.heap.size, 2, none⟩ = some (.bool false) := by rw [hW]; go_simp
      have r3 : W1.cell? ⟨w.heap.size, 3, none⟩ = some (.slice none 0 0) := by rw [hW]; go_simp
      have z0 : W1.frozen? ⟨w.heap.size, 0, none⟩ = false := by rw [hW]; go_simp
      have z1 : W1.frozen? ⟨w.heap.size, 1, none⟩ = false := by rw [hW]; go_simp
      have z2 : W1.frozen? ⟨w.heap.size, 2, none⟩ = false := by rw [hW]; go_simp
      have z3 : W1.frozen? ⟨w.heap.size, 3, none⟩ = false := by rw [hW]; go_simp
      clear hW
      have HB1 := Lib.hid B1
      have HZ1 := Lib.hid (show FdZ W1 w.heap.size from ⟨r0, r1, r2, r3, z0, z1, z2, z3⟩)
      clear B1 r0 r1 r2 r3 z0 z1 z2 z3
      refine (MayD_any A c fs W1 HF.out hl).mono ?_
      rintro e w2 ⟨rfl, hb⟩
      rw [hm]
      replace HF := Lib.hid (HF.out.at hb)
      replace n0 : w.heap.size < w2.heap.size := ltAt n0 hb
      have HB2 := Lib.hid (lift HB1.out hb)
      have HZ2 := Lib.hid (HZ1.out.on hb)
      clear hb HZ1
      go_wp2_with fail
      refine (May_any u w2 hu).mono ?_
      rintro e w3 ⟨rfl, hb⟩
      replace HF := Lib.hid (HF.out.at hb)
      replace n0 : w.heap.size < w3.heap.size := ltAt n0 hb
      have HB3 := Lib.hid (lift HB2.out hb)
      have HZ3 := Lib.hid (HZ2.out.on hb)
      clear hb HZ2
      rw [hk]
      have r0 := HZ3.out.c0
      have r1 := HZ3.out.c1
      have r2 := HZ3.out.c2
      have r3 := HZ3.out.c3
      have z0 := HZ3.out.f0
      have z1 := HZ3.out.f1
      have z2 := HZ3.out.f2
      have z3 := HZ3.out.f3
      go_wp2_with fail
      have hB0 := HB3.out
      refine bodyPost_ret (v := .tuple #[.agg #[sv [], sv [], .bool false, .slice none 0 0], .int .i64 5]) (by simp only [results, Tryz.results9]; go_simp) rfl ?_
      rw [HR.out, HD.out]
      refine ⟨none, 0, rfl, Rd.none_, ?_⟩
      repeat (first | (with_reducible exact hB0) | (with_reducible refine Below.drew ?_) | (with_reducible refine Below.alloc ?_ ?zs _; case zs => first | omega | (simp <;> omega)) | (with_reducible refine Below.setCell ?_ ?zs _; case zs => first | omega | (simp <;> omega)))
    · have HS0 := Lib.hid (HopS.start hm (u := u) (by simpa using hk))
      go_enter Tryz.func9, Tryz.ntmps9
      go_wp2_with fail
      first | (refine wp_named ?_; intro W1 hW) | (refine calls_named ?_; intro W1 hW) | (refine exit_named ?_; intro W1 hW)
      have B1 : Below w.heap.size w W1 := by rw [hW]; exact (by repeat (first | exact Below.refl _ _ | assumption | refine Below.alloc ?_ (by first | omega | (simp <;> omega)) _ | refine Below.setCell ?_ (by first | omega | (simp <;> omega)) _ | refine Below.drew ?_))
      replace HF := Lib.hid (HF.out.at B1)
      have n0 : w.heap.size < W1.heap.size := by rw [hW]; simp <;> omega
      have r0 : W1.cell? ⟨w.heap.size, 0, none⟩ = some (.string ⟨#[]⟩) := by rw [hW]; go_simp
      have r1 : W1.cell? ⟨w.heap.size, 1, none⟩ = some (.string ⟨#[]⟩) := by rw [hW]; go_simp
      have r2 : W1.cell? ⟨w.heap.size, 2, none⟩ = some (.bool false) := by rw [hW]; go_simp
      have r3 : W1.cell? ⟨w.heap.size, 3, none⟩ = some (.slice none 0 0) := by rw [hW]; go_simp
      have z0 : W1.frozen? ⟨w.heap.size, 0, none⟩ = false := by rw [hW]; go_simp
      have z1 : W1.frozen? ⟨w.heap.size, 1, none⟩ = false := by rw [hW]; go_simp
      have z2 : W1.frozen? ⟨w.heap.size, 2, none⟩ = false := by rw [hW]; go_simp
      have z3 : W1.frozen? ⟨w.heap.size, 3, none⟩ = false := by rw [hW]; go_simp
      clear hW
      have HB1 := Lib.hid B1
      have HZ1 := Lib.hid (show FdZ W1 w.heap.size from ⟨r0, r1, r2, r3, z0, z1, z2, z3⟩)
      clear B1 r0 r1 r2 r3 z0 z1 z2 z3
      refine (MayD_any A c fs W1 HF.out hl).mono ?_
      rintro e w2 ⟨rfl, hb⟩
      rw [hm]
      replace HF := Lib.hid (HF.out.at hb)
      replace n0 : w.heap.size < w2.heap.size := ltAt n0 hb
      have HB2 := Lib.hid (lift HB1.out hb)
      have HZ2 := Lib.hid (HZ1.out.on hb)
      clear hb HZ1
      go_wp2_with fail
      refine (May_any u w2 hu).mono ?_
      rintro e w3 ⟨rfl, hb⟩
      replace HF := Lib.hid (HF.out.at hb)
      replace n0 : w.heap.size < w3.heap.size := ltAt n0 hb
      have HB3 := Lib.hid (lift HB2.out hb)
      have HZ3 := Lib.hid (HZ2.out.on hb)
      clear hb HZ2
      rw [hk]
      generalize findF fs u = R at *
      have hn3 : w.heap.size < w3.heap.size := n0
      have HG3 := Lib.hid (World.ownsRow_lit (base := w3.heap.size) (e := 9) (size := 1) w3 #[sv u] 1 (Nat.le_refl _) (by unfold maxLen; decide) rfl)
      go_wp2_with fail
      go_loopw [1, 6] (fun v1 v6 wr => ∃ (n : Str) (asked : List Str) (Ag : Option Addr) (cg : Nat), v1 = sv n ∧ v6 = .slice Ag asked.length cg ∧ asked.length ≤ 9 ∧ Hid (HopS fs R asked n) ∧ Hid (wr.ownsRow w3.heap.size 9 1 (.slice Ag asked.length cg) asked.length (svs asked)) ∧ Hid (Below w3.heap.size w3 wr)) (fun _ v _ => 10 - lenV v)
      case atStart => exact ⟨u, [u], some ⟨w3.heap.size, 0, none⟩, 1, rfl, rfl, by simp, HS0, HG3, (Below.refl _ _).alloc (Nat.le_refl _) _⟩
      case round =>
        obtain ⟨n, asked, Ag, cg, rfl, rfl, hle, HS, HG, HB⟩ := hrel
        obtain ⟨w6, rfl⟩ : ∃ wo : World, wo = wr := ⟨_, rfl⟩
        have HF6 := Lib.hid (HF.out.at HB.out)
        have HZ6 := Lib.hid (HZ3.out.on HB.out)
        have HB6 := Lib.hid (lift HB3.out HB.out)
        have hn6 : w.heap.size < w6.heap.size := Nat.lt_of_lt_of_le hn3 HB.out.size
        have hnl := kind_len HS.out.kind
        have hpos := HS.out.pos
        have HOw := Lib.hid (fun W (h : FlIn W A fs) => owned_any A c fs n W h hl (by omega))
        rcases ho : ownR fs n with ⟨⟨s, t, l⟩, sh, is⟩
        rw [ho] at HOw
        go_wp2_with fail
        refine (HOw.out w6 HF6.out).mono ?_
        rintro e w7 ⟨rfl, hb⟩
        replace HF6 := Lib.hid (HF6.out.at hb)
        replace HZ6 := Lib.hid (HZ6.out.on hb)
        replace HG := Lib.hid (own_on HG.out hb)
        replace HB := Lib.hid (lift HB.out hb)
        replace HB6 := Lib.hid (lift HB6.out hb)
        replace hn6 : w.heap.size < w7.heap.size := ltAt hn6 hb
        clear hb HOw
        cases is
        · have HN := Lib.hid (HS.out.none (own_none.1 (by rw [ho])))
          have hqw : ¬ w7.heap.size = w.heap.size := by omega
          by_cases h1 : asked.length = 1
          · have HR := Lib.hid (show R = (found0, 6) by rw [HN.out, if_pos h1])
            have h1b : ((asked.length : Int) == 1) = true := by rw [beq_iff_eq]; omega
            clear HN
            have r0 := HZ6.out.c0
            have r1 := HZ6.out.c1
            have r2 := HZ6.out.c2
            have r3 := HZ6.out.c3
            have z0 := HZ6.out.f0
            have z1 := HZ6.out.f1
            have z2 := HZ6.out.f2
            have z3 := HZ6.out.f3
            go_wp2_with fail
            have hB0 := HB6.out
            refine bodyPost_ret (v := .tuple #[.agg #[sv [], sv [], .bool false, .slice none 0 0], .int .i64 6]) (by simp only [results, Tryz.results9]; go_simp) rfl ?_
            rw [HR.out, HD.out]
            refine ⟨none, 0, rfl, Rd.none_, ?_⟩
            repeat (first | (with_reducible exact hB0) | (with_reducible refine Below.drew ?_) | (with_reducible refine Below.alloc ?_ ?zs _; case zs => first | omega | (simp <;> omega)) | (with_reducible refine Below.setCell ?_ ?zs _; case zs => first | omega | (simp <;> omega)))
          · have HR := Lib.hid (show R = (found0, 17) by rw [HN.out, if_neg h1])
            have h1b : ((asked.length : Int) == 1) = false := by rw [beq_eq_false_iff_ne]; omega
            clear HN
            have r0 := HZ6.out.c0
            have r1 := HZ6.out.c1
            have r2 := HZ6.out.c2
            have r3 := HZ6.out.c3
            have z0 := HZ6.out.f0
            have z1 := HZ6.out.f1
            have z2 := HZ6.out.f2
            have z3 := HZ6.out.f3
            go_wp2_with fail
            have hB0 := HB6.out
            refine bodyPost_ret (v := .tuple #[.agg #[sv [], sv [], .bool false, .slice none 0 0], .int .i64 17]) (by simp only [results, Tryz.results9]; go_simp) rfl ?_
            rw [HR.out, HD.out]
            refine ⟨none, 0, rfl, Rd.none_, ?_⟩
            repeat (first | (with_reducible exact hB0) | (with_reducible refine Below.drew ?_) | (with_reducible refine Below.alloc ?_ ?zs _; case zs => first | omega | (simp <;> omega)) | (with_reducible refine Below.setCell ?_ ?zs _; case zs => first | omega | (simp <;> omega)))
        · have hqw : ¬ w7.heap.size = w.heap.size := by omega
          cases d0 : (l == ([110, 117, 108, 108] : Str))
          · cases d1 : (l == ([] : Str))
            · have h0 : l ≠ [] := by simpa using d1
              have h1 : l ≠ nullS := by unfold nullS; simpa using d0
              cases sh
              · have ht : nextF n (s, t, l) (!false) = (l, true) := rfl
                go_upto_region 15 with fail
                first | (refine wp_named ?_; intro W8 hW) | (refine calls_named ?_; intro W8 hW) | (refine exit_named ?_; intro W8 hW)
                have B8 : Below w7.heap.size w7 W8 := by rw [hW]; exact (by repeat (first | exact Below.refl _ _ | assumption | refine Below.alloc ?_ (by first | omega | (simp <;> omega)) _ | refine Below.setCell ?_ (by first | omega | (simp <;> omega)) _ | refine Below.drew ?_))
                replace HF6 := Lib.hid (HF6.out.at B8)
                replace HZ6 := Lib.hid (HZ6.out.on B8)
                replace HG := Lib.hid (own_on HG.out B8)
                replace HB := Lib.hid (lift HB.out B8)
                replace HB6 := Lib.hid (lift HB6.out B8)
                replace hn6 : w.heap.size < W8.heap.size := ltAt hn6 B8
                have m8 : w7.heap.size < W8.heap.size := by rw [hW]; simp <;> omega
                have f2 : W8.cell? ⟨w7.heap.size, 2, none⟩ = some (sv l) := by rw [hW]; go_simp
                clear hW
                clear B8
                go_wp2_with fail
                refine (containsD_any Ag cg asked l W8 (own_rd' HG.out) (by omega)).mono ?_
                rintro e wz ⟨rfl, hwz⟩
                replace hwz := hwz.symm
                subst hwz
                cases hc : hasB asked l
                · have hci : l ∉ asked := fun h => by rw [(hasB_iff _ _).2 h] at hc; cases hc
                  by_cases h8 : 8 < asked.length
                  · have HR := Lib.hid (HS.out.stop (own_back ho) h0 h1 (.inr (.inr h8)))
                    have h8b : decide (8 < asked.length) = true := by simpa using h8
                    have r0 := HZ6.out.c0
                    have r1 := HZ6.out.c1
                    have r2 := HZ6.out.c2
                    have r3 := HZ6.out.c3
                    have z0 := HZ6.out.f0
                    have z1 := HZ6.out.f1
                    have z2 := HZ6.out.f2
                    have z3 := HZ6.out.f3
                    go_wp2_with fail
                    have hB0 := HB6.out
                    refine bodyPost_ret (v := .tuple #[.agg #[sv [], sv [], .bool false, .slice none 0 0], .int .i64 17]) (by simp only [results, Tryz.results9]; go_simp) rfl ?_
                    rw [HR.out, HD.out]
                    refine ⟨none, 0, rfl, Rd.none_, ?_⟩
                    repeat (first | (with_reducible exact hB0) | (with_reducible refine Below.drew ?_) | (with_reducible refine Below.alloc ?_ ?zs _; case zs => first | omega | (simp <;> omega)) | (with_reducible refine Below.setCell ?_ ?zs _; case zs => first | omega | (simp <;> omega)))
                  · have h8b : decide (8 < asked.length) = false := by simpa using h8
                    have HSn := Lib.hid (HS.out.next hm (own_back ho) h0 h1 rfl (by first | exact hci | (rw [ht]; exact hci)) (by omega))
                    rw [ht] at HSn
                    have h63 := Lib.hid (show asked.length + 1 ≤ maxLen by unfold maxLen; omega)
                    have hby := Lib.hid (show (asked.length + 1) * 16 ≤ 140737488355328 by omega)
                    have hz6 := HB.out.size
                    clear hci
                    go_wp2_with (first | (at_builtin; refine wpList_pushm W8 W8 (by rfl) (.tmp 94) (.tmp 96) 24 (by rfl) w3.heap.size 9 i0 _ 1 16 Tryz.underlying24 hi hz0 hz1 hz2 rfl (by decide) _ _ _ (by rfl) HG.out [sv l] W8.heap.size rfl (by rfl) rfl (one_sv l) h63.out hby.out hz6 (Below.refl _ _) ?_; intro A20 c20 w20 hown hbel hg hat; have HO20 := Lib.hid hown; have HBa := Lib.hid hbel; clear hown hbel hg hat) | fail)
                    go_roundw
                    case rel => exact ⟨l, asked ++ [l], A20, c20, rfl, by rw [List.length_append]; rfl, by simp; omega, HSn, by rw [List.length_append, svs_app]; exact HO20.out, HB.out.trans HBa.out⟩
                    case measure => simp [lenV]; omega
                · have HR := Lib.hid (HS.out.stop (own_back ho) h0 h1 (.inr (.inl (by first | exact (hasB_iff _ _).1 hc | (rw [ht]; exact (hasB_iff _ _).1 hc)))))
                  have r0 := HZ6.out.c0
                  have r1 := HZ6.out.c1
                  have r2 := HZ6.out.c2
                  have r3 := HZ6.out.c3
                  have z0 := HZ6.out.f0
                  have z1 := HZ6.out.f1
                  have z2 := HZ6.out.f2
                  have z3 := HZ6.out.f3
                  go_wp2_with fail
                  have hB0 := HB6.out
                  refine bodyPost_ret (v := .tuple #[.agg #[sv [], sv [], .bool false, .slice none 0 0], .int .i64 17]) (by simp only [results, Tryz.results9]; go_simp) rfl ?_
                  rw [HR.out, HD.out]
                  refine ⟨none, 0, rfl, Rd.none_, ?_⟩
                  repeat (first | (with_reducible exact hB0) | (with_reducible refine Below.drew ?_) | (with_reducible refine Below.alloc ?_ ?zs _; case zs => first | omega | (simp <;> omega)) | (with_reducible refine Below.setCell ?_ ?zs _; case zs => first | omega | (simp <;> omega)))
              · rcases ht : instOf l (ofS n).2.2.1 with ⟨m, okk⟩
                have ht2 : nextF n (s, t, l) (!true) = (m, okk) := ht
                have hio := ofS_inst_le n
                have HPa := Lib.hid (fun W => Parts_any n W (by omega))
                have hll : l.length ≤ 140737488355328 := by
                  obtain ⟨hfm, _⟩ := owned_mem hm HS.out.kind (own_back ho)
                  exact Nat.le_trans (HF6.out.ok _ hfm).2.2 (by decide)
                have HIn := Lib.hid (fun W => Instance_any l (ofS n).2.2.1 W hll (by omega))
                rw [ht] at HIn
                unfold partsV at HPa
                unfold pairV at HIn
                simp only at HIn
                clear ht hll
                generalize (ofS n).2.2.1 = ii at *
                generalize (ofS n).2.1 = ip at *
                generalize (ofS n).2.2.2 = ib at *
                go_upto_region 15 with fail
                first | (refine wp_named ?_; intro W8 hW) | (refine calls_named ?_; intro W8 hW) | (refine exit_named ?_; intro W8 hW)
                have B8 : Below w7.heap.size w7 W8 := by rw [hW]; exact (by repeat (first | exact Below.refl _ _ | assumption | refine Below.alloc ?_ (by first | omega | (simp <;> omega)) _ | refine Below.setCell ?_ (by first | omega | (simp <;> omega)) _ | refine Below.drew ?_))
                replace HF6 := Lib.hid (HF6.out.at B8)
                replace HZ6 := Lib.hid (HZ6.out.on B8)
                replace HG := Lib.hid (own_on HG.out B8)
                replace HB := Lib.hid (lift HB.out B8)
                replace HB6 := Lib.hid (lift HB6.out B8)
                replace hn6 : w.heap.size < W8.heap.size := ltAt hn6 B8
                have m8 : w7.heap.size < W8.heap.size := by rw [hW]; simp <;> omega
                have f2 : W8.cell? ⟨w7.heap.size, 2, none⟩ = some (sv l) := by rw [hW]; go_simp
                clear hW
                clear B8
                go_wp2_with fail
                refine (HPa.out W8).mono ?_
                rintro e w9 ⟨rfl, hb⟩
                replace f2 := cellAt f2 hb (by omega)
                replace HF6 := Lib.hid (HF6.out.at hb)
                replace HZ6 := Lib.hid (HZ6.out.on hb)
                replace HG := Lib.hid (own_on HG.out hb)
                replace HB := Lib.hid (lift HB.out hb)
                replace HB6 := Lib.hid (lift HB6.out hb)
                replace hn6 : w.heap.size < w9.heap.size := ltAt hn6 hb
                replace m8 : w7.heap.size < w9.heap.size := ltAt m8 hb
                clear hb HPa
                go_wp2_with fail
                refine (HIn.out w9).mono ?_
                rintro e w10 ⟨rfl, hb⟩
                replace f2 := cellAt f2 hb (by omega)
                replace HF6 := Lib.hid (HF6.out.at hb)
                replace HZ6 := Lib.hid (HZ6.out.on hb)
                replace HG := Lib.hid (own_on HG.out hb)
                replace HB := Lib.hid (lift HB.out hb)
                replace HB6 := Lib.hid (lift HB6.out hb)
                replace hn6 : w.heap.size < w10.heap.size := ltAt hn6 hb
                replace m8 : w7.heap.size < w10.heap.size := ltAt m8 hb
                clear hb HIn
                cases okk
                · have HR := Lib.hid (HS.out.stop (own_back ho) h0 h1 (.inl (by rw [ht2])))
                  have r0 := HZ6.out.c0
                  have r1 := HZ6.out.c1
                  have r2 := HZ6.out.c2
                  have r3 := HZ6.out.c3
                  have z0 := HZ6.out.f0
                  have z1 := HZ6.out.f1
                  have z2 := HZ6.out.f2
                  have z3 := HZ6.out.f3
                  go_wp2_with fail
                  have hB0 := HB6.out
                  refine bodyPost_ret (v := .tuple #[.agg #[sv [], sv [], .bool false, .slice none 0 0], .int .i64 17]) (by simp only [results, Tryz.results9]; go_simp) rfl ?_
                  rw [HR.out, HD.out]
                  refine ⟨none, 0, rfl, Rd.none_, ?_⟩
                  repeat (first | (with_reducible exact hB0) | (with_reducible refine Below.drew ?_) | (with_reducible refine Below.alloc ?_ ?zs _; case zs => first | omega | (simp <;> omega)) | (with_reducible refine Below.setCell ?_ ?zs _; case zs => first | omega | (simp <;> omega)))
                · skip
                  go_wp2_with fail
                  refine (containsD_any Ag cg asked m w10 (own_rd' HG.out) (by omega)).mono ?_
                  rintro e wz ⟨rfl, hwz⟩
                  replace hwz := hwz.symm
                  subst hwz
                  cases hc : hasB asked m
                  · have hci : m ∉ asked := fun h => by rw [(hasB_iff _ _).2 h] at hc; cases hc
                    by_cases h8 : 8 < asked.length
                    · have HR := Lib.hid (HS.out.stop (own_back ho) h0 h1 (.inr (.inr h8)))
                      have h8b : decide (8 < asked.length) = true := by simpa using h8
                      have r0 := HZ6.out.c0
                      have r1 := HZ6.out.c1
                      have r2 := HZ6.out.c2
                      have r3 := HZ6.out.c3
                      have z0 := HZ6.out.f0
                      have z1 := HZ6.out.f1
                      have z2 := HZ6.out.f2
                      have z3 := HZ6.out.f3
                      go_wp2_with fail
                      have hB0 := HB6.out
                      refine bodyPost_ret (v := .tuple #[.agg #[sv [], sv [], .bool false, .slice none 0 0], .int .i64 17]) (by simp only [results, Tryz.results9]; go_simp) rfl ?_
                      rw [HR.out, HD.out]
                      refine ⟨none, 0, rfl, Rd.none_, ?_⟩
                      repeat (first | (with_reducible exact hB0) | (with_reducible refine Below.drew ?_) | (with_reducible refine Below.alloc ?_ ?zs _; case zs => first | omega | (simp <;> omega)) | (with_reducible refine Below.setCell ?_ ?zs _; case zs => first | omega | (simp <;> omega)))
                    · have h8b : decide (8 < asked.length) = false := by simpa using h8
                      have HSn := Lib.hid (HS.out.next hm (own_back ho) h0 h1 (by rw [ht2]) (by first | exact hci | (rw [ht2]; exact hci)) (by omega))
                      rw [ht2] at HSn
                      have h63 := Lib.hid (show asked.length + 1 ≤ maxLen by unfold maxLen; omega)
                      have hby := Lib.hid (show (asked.length + 1) * 16 ≤ 140737488355328 by omega)
                      have hz6 := HB.out.size
                      clear hci
                      go_wp2_with (first | (at_builtin; refine wpList_pushm w10 w10 (by rfl) (.tmp 94) (.tmp 96) 24 (by rfl) w3.heap.size 9 i0 _ 1 16 Tryz.underlying24 hi hz0 hz1 hz2 rfl (by decide) _ _ _ (by rfl) HG.out [sv m] w10.heap.size rfl (by rfl) rfl (one_sv m) h63.out hby.out hz6 (Below.refl _ _) ?_; intro A20 c20 w20 hown hbel hg hat; have HO20 := Lib.hid hown; have HBa := Lib.hid hbel; clear hown hbel hg hat) | fail)
                      go_roundw
                      case rel => exact ⟨m, asked ++ [m], A20, c20, rfl, by rw [List.length_append]; rfl, by simp; omega, HSn, by rw [List.length_append, svs_app]; exact HO20.out, HB.out.trans HBa.out⟩
                      case measure => simp [lenV]; omega
                  · have HR := Lib.hid (HS.out.stop (own_back ho) h0 h1 (.inr (.inl (by first | exact (hasB_iff _ _).1 hc | (rw [ht2]; exact (hasB_iff _ _).1 hc)))))
                    have r0 := HZ6.out.c0
                    have r1 := HZ6.out.c1
                    have r2 := HZ6.out.c2
                    have r3 := HZ6.out.c3
                    have z0 := HZ6.out.f0
                    have z1 := HZ6.out.f1
                    have z2 := HZ6.out.f2
                    have z3 := HZ6.out.f3
                    go_wp2_with fail
                    have hB0 := HB6.out
                    refine bodyPost_ret (v := .tuple #[.agg #[sv [], sv [], .bool false, .slice none 0 0], .int .i64 17]) (by simp only [results, Tryz.results9]; go_simp) rfl ?_
                    rw [HR.out, HD.out]
                    refine ⟨none, 0, rfl, Rd.none_, ?_⟩
                    repeat (first | (with_reducible exact hB0) | (with_reducible refine Below.drew ?_) | (with_reducible refine Below.alloc ?_ ?zs _; case zs => first | omega | (simp <;> omega)) | (with_reducible refine Below.setCell ?_ ?zs _; case zs => first | omega | (simp <;> omega)))
            · have h0 : l = [] := by simpa using d1
              subst h0
              have HR := Lib.hid (HS.out.end_ (own_back ho) rfl)
              have hkn := HS.out.kind
              have HLd := Lib.hid (fun W (h : FlIn W A fs) => laid_any A c fs n W h hm hkn (by omega))
              generalize dropsF fs n = Dr at *
              go_upto_region 14 with fail
              first | (refine wp_named ?_; intro W8 hW) | (refine calls_named ?_; intro W8 hW) | (refine exit_named ?_; intro W8 hW)
              have B8 : Below w7.heap.size w7 W8 := by rw [hW]; exact (by repeat (first | exact Below.refl _ _ | assumption | refine Below.alloc ?_ (by first | omega | (simp <;> omega)) _ | refine Below.setCell ?_ (by first | omega | (simp <;> omega)) _ | refine Below.drew ?_))
              replace HF6 := Lib.hid (HF6.out.at B8)
              replace HZ6 := Lib.hid (HZ6.out.on B8)
              replace HG := Lib.hid (own_on HG.out B8)
              replace HB := Lib.hid (lift HB.out B8)
              replace HB6 := Lib.hid (lift HB6.out B8)
              replace hn6 : w.heap.size < W8.heap.size := ltAt hn6 B8
              have m8 : w7.heap.size < W8.heap.size := by rw [hW]; simp <;> omega
              have f0 : W8.cell? ⟨w7.heap.size, 0, none⟩ = some (sv s) := by rw [hW]; go_simp
              clear hW
              clear B8
              have r0 := HZ6.out.c0
              have r1 := HZ6.out.c1
              have r2 := HZ6.out.c2
              have r3 := HZ6.out.c3
              have z0 := HZ6.out.f0
              have z1 := HZ6.out.f1
              have z2 := HZ6.out.f2
              have z3 := HZ6.out.f3
              try go_wp2_with fail
              refine wp_region_held_drew (S := fun w' => Keeps (But W8 w.heap.size) W8 w') (by kernel_rfl) (But.below (Below.drew (Below.refl _ _))) (fun hHeld => ?_)
              have r0 : (W8.drew).cell? ⟨w.heap.size, 0, none⟩ = _ := r0
              have r1 : (W8.drew).cell? ⟨w.heap.size, 1, none⟩ = _ := r1
              have r2 : (W8.drew).cell? ⟨w.heap.size, 2, none⟩ = _ := r2
              have r3 : (W8.drew).cell? ⟨w.heap.size, 3, none⟩ = _ := r3
              have z0 : (W8.drew).frozen? ⟨w.heap.size, 0, none⟩ = _ := z0
              have z1 : (W8.drew).frozen? ⟨w.heap.size, 1, none⟩ = _ := z1
              have z2 : (W8.drew).frozen? ⟨w.heap.size, 2, none⟩ = _ := z2
              have z3 : (W8.drew).frozen? ⟨w.heap.size, 3, none⟩ = _ := z3
              have nv : w.heap.size < (W8.drew).heap.size := hn6
              have HBv : Below w.heap.size w (W8.drew) := Below.drew HB6.out
              have HFv : FlIn (W8.drew) A fs := HF6.out.at (Below.drew (Below.refl _ _))
              generalize W8.drew = v0 at *
              refine tY (i := 0) (v := ?_) rfl ?_ hHeld ?_; rotate_left 1; focus (intro w' hSw; clear hSw; go_simp; try with_reducible rfl)
              (try simp only [Act.put, zn1, zn2, zn3])
              refine tY (i := 1) (v := ?_) rfl ?_ hHeld ?_; rotate_left 1; focus (intro w' hSw; clear hSw; go_simp; try with_reducible rfl)
              (try simp only [Act.put, zn1, zn2, zn3])
              refine tY (i := 2) (v := ?_) rfl ?_ hHeld ?_; rotate_left 1; focus (intro w' hSw; have hCell := fun (b o : Nat) (h : b < W8.heap.size) (h2 : ¬ b = w.heap.size) => World.cell?_of_block (a := ⟨b, o, none⟩) (hSw.block b ⟨h, h2⟩); clear hSw; go_simp; try with_reducible rfl)
              (try simp only [Act.put, zn1, zn2, zn3])
              refine tY (i := 3) (v := ?_) rfl ?_ hHeld ?_; rotate_left 1; focus (intro w' hSw; clear hSw; go_simp; try with_reducible rfl)
              (try simp only [Act.put, zn1, zn2, zn3])
              refine tY (i := 4) (v := ?_) rfl ?_ hHeld ?_; rotate_left 1; focus (intro w' hSw; clear hSw; go_simp; try with_reducible rfl)
              (try simp only [Act.put, zn1, zn2, zn3])
              refine ready_one (i := 5) rfl (by kernel_rfl) (fun K hK => ?_)
              go_simp
              refine (HLd.out _ HFv).mono ?_
              rintro e y5 ⟨A5, c5, rfl, ho5, hb⟩
              replace r0 := cellAt r0 hb nv
              replace r1 := cellAt r1 hb nv
              replace r2 := cellAt r2 hb nv
              replace r3 := cellAt r3 hb nv
              replace z0 := froAt z0 hb nv
              replace z1 := froAt z1 hb nv
              replace z2 := froAt z2 hb nv
              replace z3 := froAt z3 hb nv
              have HO5 := Lib.hid ho5
              have hv5 := nv
              replace nv := Nat.lt_of_lt_of_le nv hb.size
              replace HBv := lift HBv hb
              clear ho5 HFv
              refine hK.out _ _ ?_ (fun hHeld2 => ?_)
              · (try dsimp only); exact But.two hHeld hb
              clear hK K hHeld hb; have hHeld := hHeld2; clear hHeld2; (try simp only [Act.put, zn1, zn2, zn3])
              refine ready_one (i := 6) rfl (by kernel_rfl) (fun K hK => ?_)
              go_simp
              refine hK.out _ _ ?_ (fun hHeld2 => ?_)
              · (try dsimp only); repeat (first | (with_reducible exact hHeld) | (with_reducible refine But.trans ?_ (But.set _ _ _ _)) | (with_reducible refine But.two ?_ (below_new _ _)))
              clear hK K hHeld; have hHeld := hHeld2; clear hHeld2; (try simp only [Act.put, zn1, zn2, zn3])
              refine ready_one (i := 7) rfl (by kernel_rfl) (fun K hK => ?_)
              go_simp
              refine hK.out _ _ ?_ (fun hHeld2 => ?_)
              · (try dsimp only); repeat (first | (with_reducible exact hHeld) | (with_reducible refine But.trans ?_ (But.set _ _ _ _)) | (with_reducible refine But.two ?_ (below_new _ _)))
              clear hK K hHeld; have hHeld := hHeld2; clear hHeld2; (try simp only [Act.put, zn1, zn2, zn3])
              refine tY (i := 8) (v := ?_) rfl ?_ hHeld ?_; rotate_left 1; focus (intro w' hSw; clear hSw; go_simp; try with_reducible rfl)
              (try simp only [Act.put, zn1, zn2, zn3])
              refine wpAnyH_done (by kernel_rfl) ?_ _
              go_wp2_with fail
              have hB0 := HBv
              refine bodyPost_ret (v := .tuple #[.agg #[sv n, sv s, .bool false, .slice A5 Dr.length c5], .int .i64 0]) (by simp only [results, Tryz.results9]; go_simp) rfl ?_
              rw [HR.out, HD.out]
              refine ⟨A5, c5, rfl, own_rd' (e := 9) (base := v0.heap.size) (by repeat (first | (with_reducible exact HO5.out) | (with_reducible refine ownsRow_setCell_below ?_ hv5 _))), ?_⟩
              repeat (first | (with_reducible exact hB0) | (with_reducible refine Below.drew ?_) | (with_reducible refine Below.alloc ?_ ?zs _; case zs => first | omega | (simp <;> omega)) | (with_reducible refine Below.setCell ?_ ?zs _; case zs => first | omega | (simp <;> omega)))
          · have h1 : l = nullS := by unfold nullS; simpa using d0
            have HR := Lib.hid (HS.out.null (own_back ho) h1)
            have r0 := HZ6.out.c0
            have r1 := HZ6.out.c1
            have r2 := HZ6.out.c2
            have r3 := HZ6.out.c3
            have z0 := HZ6.out.f0
            have z1 := HZ6.out.f1
            have z2 := HZ6.out.f2
            have z3 := HZ6.out.f3
            go_wp2_with fail
            have hB0 := HB6.out
            refine bodyPost_ret (v := .tuple #[.agg #[sv n, sv s, .bool true, .slice none 0 0], .int .i64 0]) (by simp only [results, Tryz.results9]; go_simp) rfl ?_
            rw [HR.out, HD.out]
            refine ⟨none, 0, rfl, Rd.none_, ?_⟩
            repeat (first | (with_reducible exact hB0) | (with_reducible refine Below.drew ?_) | (with_reducible refine Below.alloc ?_ ?zs _; case zs => first | omega | (simp <;> omega)) | (with_reducible refine Below.setCell ?_ ?zs _; case zs => first | omega | (simp <;> omega)))
end Od
end Go.Proofs.YtgfdcmlmgeoimaaGreat
end

section
/- The five files that the laws of Disk begin with, and what they come to. No program. -/
namespace Go.Proofs.YtgfdcmlmgeoimaaGreat
set_option linter.unusedSimpArgs false
namespace Od
def shA1 : Str := [97, 64, 49, 46, 115, 101, 114, 118, 105, 99, 101]
def shE : Str := [101, 46, 116, 105, 109, 101, 114]
def shZ : Str := [122, 46, 116, 105, 109, 101, 114]
def shC : Str := [99, 46, 116, 97, 114, 103, 101, 116]
def shD : Str := [100, 46, 115, 101, 114, 118, 105, 99, 101]
def shLib : Str := [108, 105, 98, 47, 97, 64, 46, 115, 101, 114, 118, 105, 99, 101]
def shEtc : Str := [101, 116, 99, 47, 97, 64, 49, 46, 115, 101, 114, 118, 105, 99, 101, 46, 100, 47, 98, 46, 99, 111, 110, 102]
def shLibD : Str := [108, 105, 98, 47, 97, 64, 46, 115, 101, 114, 118, 105, 99, 101, 46, 100, 47, 98, 46, 99, 111, 110, 102]
def shRun : Str := [114, 117, 110, 47, 99, 46, 116, 97, 114, 103, 101, 116, 46, 119, 97, 110, 116, 115, 47, 100, 46, 115, 101, 114, 118, 105, 99, 101]
def shEt : Str := [101, 116, 99, 47, 101, 46, 116, 105, 109, 101, 114]
def shFs : List Fl := [(shLib, [120], []), (shEtc, [121], []), (shLibD, [], []), (shRun, [], shD), (shEt, [], nullS)]
theorem sh_may : mayFs shFs = true := by decide +kernel
def shB : Bool :=
  let x := findF shFs shA1; let y := findF shFs shE; let z := findF shFs shZ
  x.2 == 0 && (x.1.1 == shA1 && (x.1.2.1 == shLib && (x.1.2.2.1 == false && (x.1.2.2.2 == [shEtc] && (y.2 == 0 && (y.1.1 == shE && (y.1.2.1 == shEt && (y.1.2.2.1 && (y.1.2.2.2 == ([] : List Str) && (z.2 == 6 && (z.1.1 == ([] : Str) && (z.1.2.1 == ([] : Str) && (!z.1.2.2.1 && (z.1.2.2.2 == ([] : List Str) && (linksF shFs 3 shC == [shD] && linksF shFs 4 shC == ([] : List Str))))))))))))))))
theorem sh_all : shB = true := by decide +kernel
theorem sh_x : findF shFs shA1 = ((shA1, shLib, false, [shEtc]), 0) ∧ findF shFs shE = ((shE, shEt, true, []), 0) ∧ findF shFs shZ = (found0, 6) ∧ linksF shFs 3 shC = [shD] ∧ linksF shFs 4 shC = [] := by
  have h := sh_all
  unfold shB at h
  simp only [Bool.and_eq_true, beq_iff_eq, Bool.not_eq_true'] at h
  obtain ⟨h1, h2, h3, h4, h5, h6, h7, h8, h9, h10, h11, h12, h13, h14, h15, h16, h17⟩ := h
  exact ⟨Prod.ext (Prod.ext h2 (Prod.ext h3 (Prod.ext h4 h5))) h1, Prod.ext (Prod.ext h7 (Prod.ext h8 (Prod.ext h9 h10))) h6, Prod.ext (Prod.ext h12 (Prod.ext h13 (Prod.ext h14 h15))) h11, h16, h17⟩
end Od
end Go.Proofs.YtgfdcmlmgeoimaaGreat
end

section
/- What layer 12's laws begin with: same, shown. (bel2) -/
namespace Go.Proofs.YtgfdcmlmgeoimaaGreat
open Go.RowKit Go.Sort
set_option linter.unusedSimpArgs false
namespace Od
abbrev fdV (x : Fd) (A : Option Addr) (c : Nat) : Value := .agg #[sv x.1, sv x.2.1, .bool x.2.2.1, .slice A x.2.2.2.length c]
theorem drops_len {fs : List Fl} (h : mayFs fs = true) (u : Str) : (dropsF fs u).length ≤ 120 := by
  unfold dropsF
  rw [List.length_map]
  exact Nat.le_trans (canon_len (lt := ltS) _) (Nat.le_trans (List.length_filterMap_le _ _) (mayFs_iff.1 h).1)
theorem go_len {fs : List Fl} (h : mayFs fs = true) : ∀ (k : Nat) (asked : List Str) (n : Str), (goF fs k asked n).1.2.2.2.length ≤ 120
  | 0, _, _ => Nat.zero_le _
  | k + 1, asked, n => by
    unfold goF hopF
    cases ho : ownedF fs n with
    | none => exact Nat.zero_le _
    | some y =>
      obtain ⟨f, own⟩ := y
      simp only
      by_cases h0 : f.2.2 = []
      · rw [if_pos h0]; exact drops_len h n
      · rw [if_neg h0]
        by_cases h1 : f.2.2 = nullS
        · rw [if_pos h1]; exact Nat.zero_le _
        · rw [if_neg h1]
          generalize (if own = true then (f.2.2, true) else instOf f.2.2 (ofS n).2.2.1) = t
          by_cases hc : t.2 = false ∨ t.1 ∈ asked ∨ 8 < asked.length
          · rw [if_pos hc]; exact Nat.zero_le _
          · rw [if_neg hc]; exact go_len h k _ _
theorem find_len (fs : List Fl) (u : Str) : (findF fs u).1.2.2.2.length ≤ 120 := by
  unfold findF
  split
  · exact Nat.zero_le _
  · rename_i h
    split
    · exact Nat.zero_le _
    · exact go_len (by simpa using h) _ _ _
theorem links_len (fs : List Fl) (k : Nat) (u : Str) : (linksF fs k u).length ≤ 120 := by
  unfold linksF
  split
  · rename_i h
    exact Nat.le_trans (canon_len (lt := ltS) _) (Nat.le_trans (List.length_filterMap_le _ _) (mayFs_iff.1 h).1)
  · exact Nat.zero_le _
set_option maxRecDepth 100000 in
set_option maxHeartbeats 4000000 in
/-- Two finds that are one are alike. -/
theorem same12_any (x : Fd) (A A' : Option Addr) (c c' : Nat) (w : World) (hr : Rd w w.heap.size 1 A x.2.2.2.length (svs x.2.2.2)) (hr' : Rd w w.heap.size 1 A' x.2.2.2.length (svs x.2.2.2)) (hl : x.2.2.2.length ≤ 1000000) :
    Calls Tryz.prog 11 #[fdV x A c, fdV x A' c'] w fun e w' => e = .returned (.bool true) ∧ Below w.heap.size w w' := by
  obtain ⟨n, p, m, ds⟩ := x
  simp only at hr hr' hl
  have HR := Lib.hid hr
  have HR' := Lib.hid hr'
  clear hr hr'
  have e1 : (n == n) = true := by simp
  have e2 : (p == p) = true := by simp
  have e3 : (m == m) = true := by simp
  go_enter Tryz.func11, Tryz.ntmps11
  go_wp2_with fail
  first | (refine wp_named ?_; intro W1 hW) | (refine calls_named ?_; intro W1 hW) | (refine exit_named ?_; intro W1 hW)
  have B1 : Below w.heap.size w W1 := by rw [hW]; exact (by repeat (first | exact Below.refl _ _ | assumption | refine Below.alloc ?_ (by first | omega | (simp <;> omega)) _ | refine Below.setCell ?_ (by first | omega | (simp <;> omega)) _ | refine Below.drew ?_))
  replace HR := Lib.hid (HR.out.at B1)
  replace HR' := Lib.hid (HR'.out.at B1)
  clear hW
  have HB1 := Lib.hid B1
  clear B1
  refine (Same_any A A' c c' ds ds W1 HR.out HR'.out hl).mono ?_
  rintro e w2 ⟨rfl, hb⟩
  have HB2 := Lib.hid (lift HB1.out hb)
  clear hb
  have e4 : decide (ds = ds) = true := by simp
  rw [e4]
  go_wp2_with fail
  go_ret
  exact ⟨rfl, HB2.out⟩
end Od
end Go.Proofs.YtgfdcmlmgeoimaaGreat
end
