/- My texts, joined for the claim: DLaws2 DFindM. -/
import Derived.Test.YtgfdcmlmgeoimaaZB12

section
/- Plain laws of Disk: rows of links; what is laid over a unit. No program. -/
namespace Go.Proofs.Ytgfdcmlmgeoimaa
set_option linter.unusedSimpArgs false
namespace Od
/-! ### Texts play no part where a name leads -/
section
variable {g : Fl → Fl} (hp : ∀ f, (g f).1 = f.1) (hl : ∀ f, (g f).2.2 = f.2.2)
include hp
theorem at_text (fs : List Fl) (p : Str) : atF (fs.map g) p = (atF fs p).map g := by
  unfold atF
  rw [List.find?_map]
  have : ((fun f : Fl => f.1 == p) ∘ g) = fun f => f.1 == p := by funext f; show ((g f).1 == p) = _; rw [hp]
  rw [this]
theorem first_text (fs : List Fl) (u : Str) : firstF (fs.map g) u = (firstF fs u).map g := by
  unfold firstF
  simp only [at_text hp]
  induction placesL with
  | nil => rfl
  | cons q l ih =>
    rw [List.findSome?_cons, List.findSome?_cons]
    cases atF fs (pathU q u) with
    | none => exact ih
    | some f => rfl
theorem owned_text (fs : List Fl) (u : Str) : ownedF (fs.map g) u = (ownedF fs u).map fun x => (g x.1, x.2) := by
  unfold ownedF
  rw [first_text hp, first_text hp]
  cases firstF fs u with
  | some f => rfl
  | none =>
    simp only [Option.map_none]
    split
    · cases firstF fs (templS u) <;> rfl
    · rfl
theorem drops_text (fs : List Fl) (u : Str) : dropsF (fs.map g) u = dropsF fs u := by
  unfold dropsF
  have h1 : (fs.map g).filterMap (overF (foldersF u)) = fs.filterMap (overF (foldersF u)) := by
    rw [List.filterMap_map]
    refine filterMap_congr' fun f _ => ?_
    show overF _ (g f) = _
    unfold overF
    rw [hp]
  have h2 : bestF (fs.map g) u = bestF fs u := by
    funext x
    unfold bestF
    congr 1
    refine Lib.find_congr fun q _ => ?_
    rw [at_text hp]
    cases atF fs q <;> rfl
  rw [h1, h2]
include hl
theorem hop_text (fs : List Fl) (asked : List Str) (n : Str) : hopF (fs.map g) asked n = hopF fs asked n := by
  unfold hopF
  rw [owned_text hp, drops_text hp]
  cases ownedF fs n with
  | none => rfl
  | some x =>
    obtain ⟨f, own⟩ := x
    simp only [Option.map_some, hp, hl]
theorem go_text (fs : List Fl) : ∀ (k : Nat) (asked : List Str) (n : Str), goF (fs.map g) k asked n = goF fs k asked n
  | 0, _, _ => rfl
  | k + 1, asked, n => by
    unfold goF
    rw [hop_text hp hl]
    cases hopF fs asked n with
    | done x e => rfl
    | next m => exact go_text fs k _ _
end
/-! ### Rows of links -/
def hexC : List UInt8 := [48, 49, 50, 51, 52, 53, 54, 55, 56, 57, 97, 98, 99]
def dotService : Str := [46, 115, 101, 114, 118, 105, 99, 101]
def nmS (k : Nat) : Str := 117 :: (hexC.getD k 0 :: dotService)
def linkA (k : Nat) : Fl := (pathU libS (nmS k), [], nmS (k + 1))
def lastA (n : Nat) (ring : Bool) (t : Str) : Fl := if ring then (pathU runS (nmS n), [], nmS 0) else (pathU runS (nmS n), t, [])
def rowA (n : Nat) (ring : Bool) (t : Str) : List Fl := (List.range n).map linkA ++ [lastA n ring t]
theorem rowA_text (n : Nat) (ring : Bool) (t : Str) (k : Nat) (asked : List Str) (m : Str) : goF (rowA n ring t) k asked m = goF (rowA n ring []) k asked m := by
  have h : ∀ t, (rowA n ring t).map (fun f => (f.1, ([] : Str), f.2.2)) = rowA n ring [] := fun t => by
    unfold rowA
    rw [List.map_append, List.map_map]
    congr 1
    unfold lastA
    cases ring <;> rfl
  rw [← go_text (g := fun f => (f.1, ([] : Str), f.2.2)) (fun _ => rfl) (fun _ => rfl) (rowA n ring t), h]
theorem alias_may (n : Nat) (hn : n < 13) (ring : Bool) : mayFs (rowA n ring []) = true := by
  have : ∀ n, n < 13 → ∀ ring, mayFs (rowA n ring []) = true := by decide +kernel
  exact this n hn ring
def aliasB (n : Nat) (ring : Bool) : Bool :=
  let r := goF (rowA n ring []) 9 [nmS 0] (nmS 0)
  if ring || decide (8 < n) then r.2 == 17 && (r.1.1 == ([] : Str) && (r.1.2.1 == ([] : Str) && (!r.1.2.2.1 && r.1.2.2.2 == ([] : List Str))))
  else r.2 == 0 && (r.1.1 == nmS n && r.1.2.1 == pathU runS (nmS n))
theorem alias_all : ∀ n, n < 13 → ∀ ring, aliasB n ring = true := by decide +kernel
theorem alias_go (n : Nat) (hn : n < 13) (ring : Bool) : (goF (rowA n ring []) 9 [nmS 0] (nmS 0)).2 = (if ring = true ∨ 8 < n then 17 else 0) ∧
    (¬ (ring = true ∨ 8 < n) → (goF (rowA n ring []) 9 [nmS 0] (nmS 0)).1.1 = nmS n ∧ (goF (rowA n ring []) 9 [nmS 0] (nmS 0)).1.2.1 = pathU runS (nmS n)) ∧
    ((ring = true ∨ 8 < n) → (goF (rowA n ring []) 9 [nmS 0] (nmS 0)).1 = found0) := by
  have h := alias_all n hn ring
  unfold aliasB at h
  generalize goF (rowA n ring []) 9 [nmS 0] (nmS 0) = r at h ⊢
  obtain ⟨⟨a, b, c, d⟩, e⟩ := r
  by_cases hc : ring = true ∨ 8 < n
  · have : (ring || decide (8 < n)) = true := by simpa using hc
    simp only [this, if_true, Bool.and_eq_true, beq_iff_eq, Bool.not_eq_true'] at h
    rw [if_pos hc]
    obtain ⟨h1, h2, h3, h4, h5⟩ := h
    subst h1; subst h2; subst h3; subst h4; subst h5
    exact ⟨rfl, fun x => absurd hc x, fun _ => rfl⟩
  · have : (ring || decide (8 < n)) = false := by
      rw [Bool.or_eq_false_iff, decide_eq_false_iff_not]
      exact ⟨by cases ring; rfl; exact absurd (.inl rfl) hc, fun x => hc (.inr x)⟩
    simp only [this, Bool.false_eq_true, if_false, Bool.and_eq_true, beq_iff_eq] at h
    rw [if_neg hc]
    exact ⟨h.1, fun _ => h.2, fun x => absurd x hc⟩
theorem rowA_may (n : Nat) (hn : n < 13) (ring : Bool) (t : Str) (ht : t.length ≤ 100) : mayFs (rowA n ring t) = true := by
  obtain ⟨h1, h2, h3⟩ := mayFs_iff.1 (alias_may n hn ring)
  have hpath : (rowA n ring t).map (·.1) = (rowA n ring []).map (·.1) := by
    unfold rowA lastA
    rw [List.map_append, List.map_append]
    cases ring <;> rfl
  refine mayFs_iff.2 ⟨?_, fun f hf => ?_, by rw [hpath]; exact h3⟩
  · have := congrArg List.length hpath
    rw [List.length_map, List.length_map] at this
    omega
  · unfold rowA at hf h2
    rcases List.mem_append.1 hf with hf | hf
    · exact h2 f (List.mem_append.2 (.inl hf))
    · have h4 := h2 _ (List.mem_append.2 (.inr (List.mem_singleton.2 rfl)))
      rw [List.mem_singleton.1 hf]
      unfold lastA at h4 ⊢
      cases ring
      · simp only [Bool.false_eq_true, if_false] at h4 ⊢
        unfold mayF mayW at h4 ⊢
        simp only at h4 ⊢
        rw [decide_eq_false (by omega)]
        simpa using h4
      · exact h4
theorem kind_nm0 : kindS (nmS 0) ≠ 0 := by decide +kernel
theorem alias_find (n : Nat) (hn : n < 13) (ring : Bool) (t : Str) (ht : t.length ≤ 100) :
    ((ring = true ∨ 8 < n) → findF (rowA n ring t) (nmS 0) = (found0, 17)) ∧
    (¬ (ring = true ∨ 8 < n) → (findF (rowA n ring t) (nmS 0)).2 = 0 ∧ (findF (rowA n ring t) (nmS 0)).1.1 = nmS n ∧ (findF (rowA n ring t) (nmS 0)).1.2.1 = pathU runS (nmS n)) := by
  have e : findF (rowA n ring t) (nmS 0) = goF (rowA n ring []) 9 [nmS 0] (nmS 0) := by
    unfold findF
    rw [if_neg (by rw [rowA_may n hn ring t ht]; simp), if_neg kind_nm0, rowA_text]
  obtain ⟨h1, h2, h3⟩ := alias_go n hn ring
  rw [e]
  constructor
  · intro h
    rw [if_pos h] at h1
    exact Prod.ext (h3 h) h1
  · intro h
    rw [if_neg h] at h1
    exact ⟨h1, h2 h⟩
/-! ### What is laid over -/
theorem owned_mem {fs : List Fl} (h : mayFs fs = true) {n : Str} {f : Fl} {own : Bool} (hn : kindS n ≠ 0) (ho : ownedF fs n = some (f, own)) : f ∈ fs ∧ ∃ p u, wayS f.1 = (1, p, u, []) ∧ kindS u ≠ 0 := by
  have key : ∀ u, kindS u ≠ 0 → firstF fs u = some f → f ∈ fs ∧ ∃ p u, wayS f.1 = (1, p, u, []) ∧ kindS u ≠ 0 := fun u hu hf => by
    unfold firstF at hf
    obtain ⟨p, hp, h1⟩ := List.exists_of_findSome?_eq_some hf
    obtain ⟨h2, h3⟩ := (at_iff (mayFs_iff.1 h).2.2).1 h1
    exact ⟨h2, p, u, by rw [h3, way_pathU hp hu], hu⟩
  unfold ownedF at ho
  cases h1 : firstF fs n with
  | some g =>
    rw [h1] at ho
    injection ho with ho
    injection ho with a _
    rw [← a]
    exact a ▸ key n hn (a ▸ h1)
  | none =>
    rw [h1] at ho
    simp only at ho
    split at ho
    · rename_i hi
      obtain ⟨g, h2, e⟩ := Option.map_eq_some_iff.1 ho
      injection e with a _
      rw [a] at h2
      exact key _ (templ_ne hi).1 h2
    · cases ho
theorem link_kind {f : Fl} (h : mayF f = true) {p u : Str} (hw : wayS f.1 = (1, p, u, [])) (hu : kindS u ≠ 0) (h0 : f.2.2 ≠ []) (h1 : f.2.2 ≠ nullS) : kindS f.2.2 ≠ 0 := by
  unfold mayF mayW at h
  rw [hw] at h
  have e0 : (f.2.2 == ([] : Str)) = false := by simpa using h0
  have e1 : (f.2.2 == nullS) = false := by simpa using h1
  simp only [if_true, e0, e1, Bool.false_or, Bool.and_eq_true, beq_iff_eq] at h
  rw [h.2.2.1]
  exact hu
end Od
end Go.Proofs.Ytgfdcmlmgeoimaa
end

section
/- What the hops of disk.Find come to, step by step; no program. (bel2) -/
namespace Go.Proofs.Ytgfdcmlmgeoimaa
open Go.RowKit Go.Sort
set_option linter.unusedSimpArgs false
namespace Od
/-- What a find answers. -/
def FindR (x : Fd × Int) (w : World) (e : Ending) (w' : World) : Prop := ∃ A c, e = .returned (.tuple #[.agg #[sv x.1.1, sv x.1.2.1, .bool x.1.2.2.1, .slice A x.1.2.2.2.length c], .int .i64 x.2]) ∧ Rd w' w'.heap.size 1 A x.1.2.2.2.length (svs x.1.2.2.2) ∧ Below w.heap.size w w'
theorem find_form {fs : List Fl} {u : Str} (h : mayFs fs = false) : findF fs u = (found0, 1) := by unfold findF; rw [if_pos h]
theorem find_name {fs : List Fl} {u : Str} (h : mayFs fs = true) (hu : kindS u = 0) : findF fs u = (found0, 5) := by unfold findF; rw [if_neg (by rw [h]; simp), if_pos hu]
theorem find_go {fs : List Fl} {u : Str} (h : mayFs fs = true) (hu : kindS u ≠ 0) : findF fs u = goF fs 9 [u] u := by unfold findF; rw [if_neg (by rw [h]; simp), if_neg hu]
def nextF (n : Str) (f : Fl) (own : Bool) : Str × Bool := if own then (f.2.2, true) else instOf f.2.2 (ofS n).2.2.1
/-- The names asked for so far; what it all comes to. -/
structure HopS (fs : List Fl) (r : Fd × Int) (asked : List Str) (n : Str) : Prop where
  pos : 1 ≤ asked.length
  le : asked.length ≤ 9
  kind : kindS n ≠ 0
  go : goF fs (10 - asked.length) asked n = r
  last : asked[asked.length - 1]? = some n
theorem HopS.start {fs : List Fl} {u : Str} (h : mayFs fs = true) (hu : kindS u ≠ 0) : HopS fs (findF fs u) [u] u := ⟨by simp, by simp, hu, (find_go h hu).symm, rfl⟩
theorem HopS.eq {fs : List Fl} {r : Fd × Int} {asked : List Str} {n : Str} (h : HopS fs r asked n) : r = match hopF fs asked n with
    | .done x e => (x, e)
    | .next m => goF fs (9 - asked.length) (asked ++ [m]) m := by
  have h1 := h.go
  have e : 10 - asked.length = (9 - asked.length) + 1 := by have := h.le; omega
  rw [e] at h1
  rw [← h1]
  rfl
theorem HopS.none {fs : List Fl} {r : Fd × Int} {asked : List Str} {n : Str} (h : HopS fs r asked n) (ho : ownedF fs n = none) : r = (found0, if asked.length = 1 then 6 else 17) := by
  rw [h.eq]; unfold hopF; rw [ho]
theorem HopS.end_ {fs : List Fl} {r : Fd × Int} {asked : List Str} {n : Str} (h : HopS fs r asked n) {f : Fl} {own : Bool} (ho : ownedF fs n = some (f, own)) (hl : f.2.2 = []) : r = ((n, f.1, false, dropsF fs n), 0) := by
  rw [h.eq]; unfold hopF; rw [ho]; simp only; rw [if_pos hl]
theorem HopS.null {fs : List Fl} {r : Fd × Int} {asked : List Str} {n : Str} (h : HopS fs r asked n) {f : Fl} {own : Bool} (ho : ownedF fs n = some (f, own)) (hl : f.2.2 = nullS) : r = ((n, f.1, true, []), 0) := by
  rw [h.eq]; unfold hopF; rw [ho]; simp only; rw [if_neg (by rw [hl]; decide), if_pos hl]
theorem HopS.stop {fs : List Fl} {r : Fd × Int} {asked : List Str} {n : Str} (h : HopS fs r asked n) {f : Fl} {own : Bool} (ho : ownedF fs n = some (f, own)) (h0 : f.2.2 ≠ []) (h1 : f.2.2 ≠ nullS)
    (hc : (nextF n f own).2 = false ∨ (nextF n f own).1 ∈ asked ∨ 8 < asked.length) : r = (found0, 17) := by
  rw [h.eq]; unfold hopF; rw [ho]; simp only; rw [if_neg h0, if_neg h1]
  unfold nextF at hc
  rw [if_pos hc]
theorem next_kind {fs : List Fl} (hm : mayFs fs = true) {n : Str} (hn : kindS n ≠ 0) {f : Fl} {own : Bool} (ho : ownedF fs n = some (f, own)) (h0 : f.2.2 ≠ []) (h1 : f.2.2 ≠ nullS) (ht : (nextF n f own).2 = true) : kindS (nextF n f own).1 ≠ 0 := by
  obtain ⟨hf, p, u, hw, hu⟩ := owned_mem hm hn ho
  have hlk := link_kind ((mayFs_iff.1 hm).2.1 f hf) hw hu h0 h1
  unfold nextF at ht ⊢
  cases own
  · simp only [Bool.false_eq_true, if_false] at ht ⊢
    exact (inst_parts (Prod.ext rfl ht)).2.2.1
  · exact hlk
theorem HopS.next {fs : List Fl} {r : Fd × Int} {asked : List Str} {n : Str} (h : HopS fs r asked n) (hm : mayFs fs = true) {f : Fl} {own : Bool} (ho : ownedF fs n = some (f, own)) (h0 : f.2.2 ≠ []) (h1 : f.2.2 ≠ nullS)
    (ht : (nextF n f own).2 = true) (hc : (nextF n f own).1 ∉ asked) (hl : asked.length ≤ 8) : HopS fs r (asked ++ [(nextF n f own).1]) (nextF n f own).1 := by
  have hk := next_kind hm h.kind ho h0 h1 ht
  have he := h.eq
  unfold hopF at he
  rw [ho] at he
  simp only at he
  rw [if_neg h0, if_neg h1] at he
  have hcc : ¬ ((nextF n f own).2 = false ∨ (nextF n f own).1 ∈ asked ∨ 8 < asked.length) := by
    rintro (a | a | a)
    · rw [ht] at a; cases a
    · exact hc a
    · omega
  unfold nextF at hcc hk ⊢
  rw [if_neg hcc] at he
  simp only at he
  refine ⟨by simp, by simp; omega, hk, ?_, by simp⟩
  rw [he]
  congr 1
  simp
theorem own_back {fs : List Fl} {n : Str} {f : Fl} {sh : Bool} (h : ownR fs n = (f, sh, true)) : ownedF fs n = some (f, !sh) := by
  cases ho : ownedF fs n with
  | none =>
    have := own_none.2 ho
    rw [h] at this
    cases this
  | some y =>
    obtain ⟨g, own⟩ := y
    have := own_some ho
    rw [h] at this
    injection this with a b
    injection b with b _
    rw [a, b]
    simp
theorem kind_len {n : Str} (h : kindS n ≠ 0) : n.length ≤ 60 := (kind_parts h).1
end Od
end Go.Proofs.Ytgfdcmlmgeoimaa
end
