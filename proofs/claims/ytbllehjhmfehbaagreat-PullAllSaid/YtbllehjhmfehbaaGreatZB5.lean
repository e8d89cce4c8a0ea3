/- My texts, joined for the claim: PMath PNeed PStepM GMap GPair. -/
import Derived.Test.YtbllehjhmfehbaaGreatZB4
import Derived.Test.YtbllehjhmfehbaaGreatZB0
import Derived.Maps.OwnSet
import Derived.Maps.RangeWalk
import Derived.Test.YtbllehjhmfehbaaGreatRows
import Derived.DeepKeys4

section
/- What comes along with a job, as lists; what is true of it. No program. -/
namespace Go.Proofs.YtbllehjhmfehbaaGreat
set_option linter.unusedSimpArgs false
namespace Od
/-- A unit and a type. -/
abbrev Jp := Str × Int
/-- A job that is brought, and whether it is needed. -/
abbrev Bg := Jp × Bool
def ltJ (a b : Jp) : Bool := ltS a.1 b.1 || (a.1 == b.1 && decide (a.2 < b.2))
theorem toJ : TO ltJ where
  irrefl x := by simp [ltJ, toS.irrefl]
  trans {x y z} h1 h2 := by
    unfold ltJ at *
    rw [Bool.or_eq_true, Bool.and_eq_true, beq_iff_eq, decide_eq_true_eq] at *
    rcases h1 with h1 | ⟨h1, h3⟩
    · rcases h2 with h2 | ⟨h2, h4⟩
      · exact .inl (toS.trans h1 h2)
      · exact .inl (by rw [← h2]; exact h1)
    · rcases h2 with h2 | ⟨h2, h4⟩
      · exact .inl (by rw [h1]; exact h2)
      · exact .inr ⟨by rw [h1, h2], by omega⟩
  total {x y} h1 h2 := by
    unfold ltJ at *
    rw [Bool.or_eq_false_iff, Bool.and_eq_false_iff] at *
    have e := toS.total h1.1 h2.1
    refine Prod.ext e ?_
    rcases h1.2 with h3 | h3
    · simp [e] at h3
    · rcases h2.2 with h4 | h4
      · simp [e] at h4
      · simp only [decide_eq_false_iff_not] at h3 h4; omega
section
variable (E : Jp → List Bg) (out : Jp → Bool)
/-- What comes along. -/
inductive Rj (first : Jp) : Jp → Prop
  | one : Rj first first
  | more {j : Jp} {b : Bg} : Rj first j → b ∈ E j → out b.1 = false → Rj first b.1
abbrev Ms := List (Jp × Str)
def keysP (m : Ms) : List Jp := m.map (·.1)
def knownP (m : Ms) (k : Jp) : Bool := m.any (fun p => p.1 == k)
def addP (s : Ms × List Jp) (p : Jp × Str) : Ms × List Jp := if (knownP s.1 p.1 || out p.1) = true then s else (s.1 ++ [p], s.2 ++ [p.1])
def brP (j : Jp) : List (Jp × Str) := (E j).map (fun b => (b.1, j.1))
def stepP (m : Ms) (row : List Jp) : Ms × List Jp := (row.flatMap (brP E)).foldl (addP out) (m, [])
def layP : Nat → Ms → List Jp → Ms
  | 0, m, _ => m
  | _ + 1, m, [] => m
  | n + 1, m, j :: r => layP n (stepP E out m (j :: r)).1 (canon ltJ (stepP E out m (j :: r)).2)
end
theorem knownP_iff {m : Ms} {k : Jp} : knownP m k = true ↔ k ∈ keysP m := by
  unfold knownP keysP
  rw [List.any_eq_true, List.mem_map]
  constructor
  · rintro ⟨p, h, e⟩; exact ⟨p, h, by simpa using e⟩
  · rintro ⟨p, h, e⟩; exact ⟨p, h, by simpa using e⟩
theorem addP_fold {out : Jp → Bool} : ∀ (l : List (Jp × Str)) (m : Ms) (n : List Jp), (keysP m).Nodup → ∃ xs : Ms, l.foldl (addP out) (m, n) = (m ++ xs, n ++ keysP xs) ∧ (∀ p ∈ xs, p ∈ l ∧ out p.1 = false) ∧ (keysP (m ++ xs)).Nodup ∧ (∀ p ∈ l, out p.1 = false → p.1 ∈ keysP (m ++ xs))
  | [], m, n, h => ⟨[], by simp [keysP], (by simp), (by simpa using h), (by simp)⟩
  | p :: l, m, n, h => by
    rw [List.foldl_cons]
    by_cases hc : (knownP m p.1 || out p.1) = true
    · have e : addP out (m, n) p = (m, n) := by unfold addP; rw [if_pos hc]
      rw [e]
      obtain ⟨xs, h1, h2, h3, h4⟩ := addP_fold l m n h
      refine ⟨xs, h1, fun q hq => ⟨.tail _ (h2 q hq).1, (h2 q hq).2⟩, h3, fun q hq ho => ?_⟩
      rcases List.mem_cons.1 hq with e2 | hq
      · subst e2
        rw [ho, Bool.or_false] at hc
        unfold keysP
        rw [List.map_append]
        exact List.mem_append_left _ (knownP_iff.1 hc)
      · exact h4 q hq ho
    · have e : addP out (m, n) p = (m ++ [p], n ++ [p.1]) := by unfold addP; rw [if_neg hc]
      rw [e]
      have hc2 : p.1 ∉ keysP m ∧ out p.1 = false := by
        simp only [Bool.or_eq_true, not_or, Bool.not_eq_true] at hc
        exact ⟨fun h => (by rw [knownP_iff.2 h] at hc; cases hc.1), hc.2⟩
      have hnd : (keysP (m ++ [p])).Nodup := by
        unfold keysP at *
        rw [List.map_append, List.nodup_append]
        refine ⟨h, by simp, fun a ha b hb e => ?_⟩
        simp only [List.map_cons, List.map_nil, List.mem_singleton] at hb
        exact hc2.1 (by rw [← hb, ← e]; exact ha)
      obtain ⟨xs, h1, h2, h3, h4⟩ := addP_fold l (m ++ [p]) (n ++ [p.1]) hnd
      have e3 : m ++ [p] ++ xs = m ++ p :: xs := by simp
      rw [e3] at h1 h3 h4
      refine ⟨p :: xs, by rw [h1]; simp [keysP], fun q hq => ?_, h3, fun q hq ho => ?_⟩
      · rcases List.mem_cons.1 hq with e2 | hq
        · subst e2; exact And.intro (.head _) hc2.2
        · exact ⟨.tail _ (h2 q hq).1, (h2 q hq).2⟩
      · rcases List.mem_cons.1 hq with e2 | hq
        · subst e2; unfold keysP; simp
        · exact h4 q hq ho
theorem mem_brs {E : Jp → List Bg} {row : List Jp} {p : Jp × Str} : p ∈ row.flatMap (brP E) ↔ ∃ j ∈ row, ∃ b ∈ E j, p = (b.1, j.1) := by
  unfold brP
  rw [List.mem_flatMap]
  constructor
  · rintro ⟨j, hj, h⟩
    obtain ⟨b, hb, e⟩ := List.mem_map.1 h
    exact ⟨j, hj, b, hb, e.symm⟩
  · rintro ⟨j, hj, b, hb, e⟩
    exact ⟨j, hj, List.mem_map.2 ⟨b, hb, e.symm⟩⟩
/-- In the middle of the layers. -/
structure Lay (E : Jp → List Bg) (out : Jp → Bool) (first : Jp) (m : Ms) (row : List Jp) : Prop where
  nd : (keysP m).Nodup
  all : ∀ p ∈ m, Rj E out first p.1
  fst : first ∈ keysP m
  sub : ∀ j ∈ row, j ∈ keysP m
  clo : ∀ j ∈ keysP m, j ∉ row → ∀ b ∈ E j, out b.1 = false → b.1 ∈ keysP m
  by_ : ∀ p ∈ m, p = (first, []) ∨ (out p.1 = false ∧ ∃ j ∈ keysP m, j.1 = p.2 ∧ ∃ b ∈ E j, b.1 = p.1)
theorem Lay.zero {E : Jp → List Bg} {out : Jp → Bool} {first : Jp} : Lay E out first [(first, [])] [first] where
  nd := by simp [keysP]
  all := fun p hp => by rw [List.mem_singleton] at hp; subst hp; exact .one
  fst := by simp [keysP]
  sub := fun j hj => by rw [List.mem_singleton] at hj; subst hj; simp [keysP]
  clo := fun j hj hn => by simp [keysP] at hj hn; exact absurd hj hn
  by_ := fun p hp => .inl (List.mem_singleton.1 hp)
theorem Lay.step {E : Jp → List Bg} {out : Jp → Bool} {first : Jp} {m : Ms} {row : List Jp} (h : Lay E out first m row) : Lay E out first (stepP E out m row).1 (canon ltJ (stepP E out m row).2) ∧ ((stepP E out m row).1.length = m.length + (stepP E out m row).2.length) ∧ (stepP E out m row).2.Nodup := by
  obtain ⟨xs, h1, h2, h3, h4⟩ := addP_fold (out := out) (row.flatMap (brP E)) m [] h.nd
  have e : stepP E out m row = (m ++ xs, keysP xs) := by unfold stepP; rw [h1]; simp
  rw [e]
  have hk : ∀ j, j ∈ keysP (m ++ xs) ↔ j ∈ keysP m ∨ j ∈ keysP xs := fun j => by unfold keysP; rw [List.map_append, List.mem_append]
  have hxs : ∀ p ∈ xs, ∃ j ∈ keysP m, j.1 = p.2 ∧ ∃ b ∈ E j, b.1 = p.1 := fun p hp => by
    obtain ⟨j, hj, b, hb, e⟩ := mem_brs.1 (h2 p hp).1
    exact ⟨j, h.sub j hj, by rw [e], b, hb, by rw [e]⟩
  have hrj : ∀ j ∈ keysP m, Rj E out first j := fun j hj => by
    obtain ⟨p, hp, rfl⟩ := List.mem_map.1 hj
    exact h.all p hp
  refine ⟨⟨h3, fun p hp => ?_, (hk _).2 (.inl h.fst), fun j hj => ?_, fun j hj hn b hb ho => ?_, fun p hp => ?_⟩, ?_, ?_⟩
  · rcases List.mem_append.1 hp with hp | hp
    · exact h.all p hp
    · obtain ⟨j, hj, _, b, hb, e2⟩ := hxs p hp
      rw [← e2]
      exact .more (hrj j hj) hb (by rw [e2]; exact (h2 p hp).2)
  · exact (hk j).2 (.inr ((mem_canon toJ).1 hj))
  · have hj2 : j ∈ keysP m := by
      rcases (hk j).1 hj with h5 | h5
      · exact h5
      · exact absurd ((mem_canon toJ).2 h5) hn
    by_cases hr : j ∈ row
    · exact h4 (b.1, j.1) (mem_brs.2 ⟨j, hr, b, hb, rfl⟩) ho
    · exact (hk _).2 (.inl (h.clo j hj2 hr b hb ho))
  · rcases List.mem_append.1 hp with hp | hp
    · rcases h.by_ p hp with h5 | ⟨h5, j, hj, h6⟩
      · exact .inl h5
      · exact .inr ⟨h5, j, (hk j).2 (.inl hj), h6⟩
    · obtain ⟨j, hj, h6⟩ := hxs p hp
      exact .inr ⟨(h2 p hp).2, j, (hk j).2 (.inl hj), h6⟩
  · simp [keysP]
  · unfold keysP at h3 ⊢
    rw [List.map_append, List.nodup_append] at h3
    exact h3.2.1
theorem nodup_len : ∀ {l cand : List Jp}, l.Nodup → (∀ j ∈ l, j ∈ cand) → l.length ≤ cand.length
  | [], _, _, _ => Nat.zero_le _
  | a :: l, cand, h, hs => by
    obtain ⟨h1, h2⟩ := List.nodup_cons.1 h
    have ha := hs a (.head _)
    have := nodup_len (cand := cand.erase a) h2 fun j hj => (List.mem_erase_of_ne (fun e : j = a => h1 (by rw [← e]; exact hj))).2 (hs j (.tail _ hj))
    rw [List.length_erase_of_mem ha] at this
    have := List.length_pos_of_mem ha
    simp only [List.length_cons]
    omega
theorem Lay.len {E : Jp → List Bg} {out : Jp → Bool} {first : Jp} {m : Ms} {row : List Jp} (h : Lay E out first m row) {cand : List Jp} (hc : ∀ j b, b ∈ E j → b.1 ∈ cand) : m.length ≤ cand.length + 1 := by
  have h1 : ∀ j ∈ keysP m, j ∈ first :: cand := fun j hj => by
    obtain ⟨p, hp, rfl⟩ := List.mem_map.1 hj
    rcases h.by_ p hp with e | ⟨_, k, _, _, b, hb, e⟩
    · rw [e]; exact .head _
    · rw [← e]; exact .tail _ (hc k b hb)
  have := nodup_len h.nd h1
  simpa [keysP] using this
theorem lay_ok {E : Jp → List Bg} {out : Jp → Bool} {first : Jp} {cand : List Jp} (hc : ∀ j b, b ∈ E j → b.1 ∈ cand) : ∀ (n : Nat) (m : Ms) (row : List Jp), Lay E out first m row → (row ≠ [] → cand.length + 2 ≤ n + m.length) → Lay E out first (layP E out n m row) []
  | 0, m, row, h, hn => by
    have h1 := h.len hc
    cases row with
    | nil => exact h
    | cons j r => have := hn (by simp); omega
  | n + 1, m, [], h, _ => h
  | n + 1, m, j :: r, h, hn => by
    obtain ⟨h1, h2, h3⟩ := h.step
    refine lay_ok hc n _ _ h1 fun hne => ?_
    have := hn (by simp)
    have h4 : (stepP E out m (j :: r)).2 ≠ [] := fun e => hne (by rw [e]; rfl)
    have := List.length_pos_iff.2 h4
    omega
/-- What is closed is all. -/
theorem clo_iff {E : Jp → List Bg} {out : Jp → Bool} {first : Jp} {N : List Jp} (h1 : first ∈ N) (h2 : ∀ j ∈ N, Rj E out first j) (h3 : ∀ j ∈ N, ∀ b ∈ E j, out b.1 = false → b.1 ∈ N) (k : Jp) : k ∈ N ↔ Rj E out first k := by
  refine ⟨h2 k, fun h => ?_⟩
  induction h with
  | one => exact h1
  | more _ hb ho ih => exact h3 _ ih _ hb ho
theorem Lay.iff {E : Jp → List Bg} {out : Jp → Bool} {first : Jp} {m : Ms} (h : Lay E out first m []) (k : Jp) : k ∈ keysP m ↔ Rj E out first k :=
  clo_iff h.fst (fun j hj => by obtain ⟨p, hp, rfl⟩ := List.mem_map.1 hj; exact h.all p hp) (fun j hj b hb ho => h.clo j hj (by simp) b hb ho) k
/-- More is brought, less is left out: more comes along. -/
theorem Rj.mono {E E' : Jp → List Bg} {out out' : Jp → Bool} {first : Jp} (hE : ∀ j, Rj E out first j → ∀ b ∈ E j, out b.1 = false → ∃ b' ∈ E' j, b'.1 = b.1) (ho : ∀ j, Rj E out first j → out j = false → out' j = false) {k : Jp} (h : Rj E out first k) : Rj E' out' first k := by
  induction h with
  | one => exact .one
  | more hj hb hx ih =>
    obtain ⟨b', hb', e⟩ := hE _ hj _ hb hx
    rw [← e]
    exact .more ih hb' (by rw [e]; exact ho _ (.more hj hb hx) hx)
/-! What a job brings -/
def inwRaw (es : List Ed) (u : Str) (rel : Int) : List Str := (es.filter (fun e => e.2.1 == u && e.2.2 == rel)).map (·.1)
def inwS (es : List Ed) (u : Str) (rel : Int) : List Str := onceS (inwRaw es u rel)
theorem mem_inwS {es : List Ed} {u s : Str} {rel : Int} : s ∈ inwS es u rel ↔ (s, u, rel) ∈ es := by
  unfold inwS inwRaw
  rw [mem_onceS, List.mem_map]
  constructor
  · rintro ⟨⟨a, b, c⟩, h, rfl⟩
    obtain ⟨h1, h2⟩ := List.mem_filter.1 h
    simp only [Bool.and_eq_true, beq_iff_eq] at h2
    rw [← h2.1, ← h2.2]
    exact h1
  · intro h
    exact ⟨(s, u, rel), List.mem_filter.2 ⟨h, by simp⟩, rfl⟩
def eachB (us : List Str) (t : Int) (n : Bool) : List Bg := us.map fun u => ((u, t), n)
theorem mem_eachB {us : List Str} {t : Int} {n : Bool} {b : Bg} : b ∈ eachB us t n ↔ b.1.1 ∈ us ∧ b.1.2 = t ∧ b.2 = n := by
  unfold eachB
  rw [List.mem_map]
  constructor
  · rintro ⟨u, h, rfl⟩; exact ⟨h, rfl, rfl⟩
  · rintro ⟨h, rfl, rfl⟩; exact ⟨b.1.1, h, rfl⟩
def startB (es : List Ed) (u : Str) : List Bg := eachB (outS es u 1) 1 true ++ (eachB (outS es u 4) 1 true ++ (eachB (outS es u 2) 1 false ++ (eachB (outS es u 6) 2 true ++ eachB (inwS es u 6) 2 true)))
def upB (up half : List Str) (u : Str) : Bool := hasB up u || hasB half u
def backA (es : List Ed) (u : Str) (t : Int) : List Bg := eachB (inwS es u 1) t true ++ (eachB (inwS es u 4) t true ++ eachB (inwS es u 5) t true)
def backB (es : List Ed) (up half : List Str) (u : Str) (t : Int) : List Bg := (backA es u t).filter (fun b => upB up half b.1.1)
def bringB (es : List Ed) (up half : List Str) (j : Jp) : List Bg :=
  if j.2 = 1 then startB es j.1 else if j.2 = 2 then backB es up half j.1 2 else if j.2 = 3 then startB es j.1 ++ backB es up half j.1 3 else []
def candB (es : List Ed) : List Jp := es.flatMap fun e => [(e.1, 1), (e.1, 2), (e.1, 3), (e.2.1, 1), (e.2.1, 2), (e.2.1, 3)]
theorem candB_len (es : List Ed) : (candB es).length = 6 * es.length := by
  unfold candB
  induction es with
  | nil => rfl
  | cons e r ih => rw [List.flatMap_cons, List.length_append, ih]; simp only [List.length_cons, List.length_nil]; omega
theorem mem_candB {es : List Ed} {u : Str} {t : Int} (h : ∃ e ∈ es, e.1 = u ∨ e.2.1 = u) (ht : t = 1 ∨ t = 2 ∨ t = 3) : (u, t) ∈ candB es := by
  obtain ⟨e, he, h⟩ := h
  refine List.mem_flatMap.2 ⟨e, he, ?_⟩
  rcases h with rfl | rfl <;> rcases ht with rfl | rfl | rfl <;> simp
theorem mem_startB {es : List Ed} {u : Str} {b : Bg} : b ∈ startB es u ↔ (b.1.2 = 1 ∧ b.2 = true ∧ ((u, b.1.1, 1) ∈ es ∨ (u, b.1.1, 4) ∈ es)) ∨ (b.1.2 = 1 ∧ b.2 = false ∧ (u, b.1.1, 2) ∈ es) ∨ (b.1.2 = 2 ∧ b.2 = true ∧ ((u, b.1.1, 6) ∈ es ∨ (b.1.1, u, 6) ∈ es)) := by
  unfold startB
  simp only [List.mem_append, mem_eachB, mem_outS, mem_inwS]
  constructor
  · rintro (⟨h1, h2, h3⟩ | ⟨h1, h2, h3⟩ | ⟨h1, h2, h3⟩ | ⟨h1, h2, h3⟩ | ⟨h1, h2, h3⟩)
    · exact .inl ⟨h2, h3, .inl h1⟩
    · exact .inl ⟨h2, h3, .inr h1⟩
    · exact .inr (.inl ⟨h2, h3, h1⟩)
    · exact .inr (.inr ⟨h2, h3, .inl h1⟩)
    · exact .inr (.inr ⟨h2, h3, .inr h1⟩)
  · rintro (⟨h2, h3, h1 | h1⟩ | ⟨h2, h3, h1⟩ | ⟨h2, h3, h1 | h1⟩)
    · exact .inl ⟨h1, h2, h3⟩
    · exact .inr (.inl ⟨h1, h2, h3⟩)
    · exact .inr (.inr (.inl ⟨h1, h2, h3⟩))
    · exact .inr (.inr (.inr (.inl ⟨h1, h2, h3⟩)))
    · exact .inr (.inr (.inr (.inr ⟨h1, h2, h3⟩)))
theorem mem_backB {es : List Ed} {up half : List Str} {u : Str} {t : Int} {b : Bg} : b ∈ backB es up half u t ↔ b.1.2 = t ∧ b.2 = true ∧ ((b.1.1, u, 1) ∈ es ∨ (b.1.1, u, 4) ∈ es ∨ (b.1.1, u, 5) ∈ es) ∧ upB up half b.1.1 = true := by
  unfold backB backA
  rw [List.mem_filter]
  simp only [List.mem_append, mem_eachB, mem_inwS]
  constructor
  · rintro ⟨⟨h1, h2, h3⟩ | ⟨h1, h2, h3⟩ | ⟨h1, h2, h3⟩, h4⟩
    · exact ⟨h2, h3, .inl h1, h4⟩
    · exact ⟨h2, h3, .inr (.inl h1), h4⟩
    · exact ⟨h2, h3, .inr (.inr h1), h4⟩
  · rintro ⟨h2, h3, h1 | h1 | h1, h4⟩
    · exact ⟨.inl ⟨h1, h2, h3⟩, h4⟩
    · exact ⟨.inr (.inl ⟨h1, h2, h3⟩), h4⟩
    · exact ⟨.inr (.inr ⟨h1, h2, h3⟩), h4⟩
theorem mem_bringB {es : List Ed} {up half : List Str} {j : Jp} {b : Bg} : b ∈ bringB es up half j ↔ ((j.2 = 1 ∨ j.2 = 3) ∧ b ∈ startB es j.1) ∨ ((j.2 = 2 ∨ j.2 = 3) ∧ b ∈ backB es up half j.1 j.2) := by
  unfold bringB
  by_cases h1 : j.2 = 1
  · rw [if_pos h1]; constructor
    · exact fun h => .inl ⟨.inl h1, h⟩
    · rintro (⟨_, h⟩ | ⟨h, _⟩)
      · exact h
      · omega
  · rw [if_neg h1]
    by_cases h2 : j.2 = 2
    · rw [if_pos h2]; constructor
      · exact fun h => .inr ⟨.inl h2, by rw [h2]; exact h⟩
      · rintro (⟨h, _⟩ | ⟨_, h⟩)
        · omega
        · rw [h2] at h; exact h
    · rw [if_neg h2]
      by_cases h3 : j.2 = 3
      · rw [if_pos h3, List.mem_append]; constructor
        · rintro (h | h)
          · exact .inl ⟨.inr h3, h⟩
          · exact .inr ⟨.inr h3, by rw [h3]; exact h⟩
        · rintro (⟨_, h⟩ | ⟨_, h⟩)
          · exact .inl h
          · rw [h3] at h; exact .inr h
      · rw [if_neg h3]; constructor
        · intro h; cases h
        · rintro (⟨h, _⟩ | ⟨h, _⟩) <;> omega
/-- Who is brought is of an edge. -/
theorem bring_edge {es : List Ed} {up half : List Str} {j : Jp} {b : Bg} (h : b ∈ bringB es up half j) : (∃ e ∈ es, e.1 = b.1.1 ∨ e.2.1 = b.1.1) ∧ (b.1.2 = 1 ∨ b.1.2 = 2 ∨ b.1.2 = 3) := by
  rcases mem_bringB.1 h with ⟨hj, h⟩ | ⟨hj, h⟩
  · rcases mem_startB.1 h with ⟨h1, _, h2 | h2⟩ | ⟨h1, _, h2⟩ | ⟨h1, _, h2 | h2⟩
    · exact ⟨⟨_, h2, .inr rfl⟩, .inl h1⟩
    · exact ⟨⟨_, h2, .inr rfl⟩, .inl h1⟩
    · exact ⟨⟨_, h2, .inr rfl⟩, .inl h1⟩
    · exact ⟨⟨_, h2, .inr rfl⟩, .inr (.inl h1)⟩
    · exact ⟨⟨_, h2, .inl rfl⟩, .inr (.inl h1)⟩
  · obtain ⟨h1, _, h2, _⟩ := mem_backB.1 h
    refine ⟨?_, by omega⟩
    rcases h2 with h2 | h2 | h2 <;> exact ⟨_, h2, .inl rfl⟩
theorem bring_cand {es : List Ed} {up half : List Str} (j : Jp) (b : Bg) (h : b ∈ bringB es up half j) : b.1 ∈ candB es := by
  obtain ⟨h1, h2⟩ := bring_edge h
  exact mem_candB h1 h2
/-! All -/
/-- A pull: the unit, the type, whether it is needed, by whom. -/
abbrev Pl := Str × Int × Bool × Str
def outB (wo : List Pl) (k : Jp) : Bool := wo.any (fun p => p.1 == k.1 && p.2.1 == k.2)
def pullM (es : List Ed) (up half : List Str) (first : Jp) (wo : List Pl) : Ms := layP (bringB es up half) (outB wo) (6 * es.length + 1) [(first, [])] [first]
def needJ (E : Jp → List Bg) (j : Jp) : List Bg := (E j).filter (·.2)
def needM (es : List Ed) (up half : List Str) (first : Jp) (wo : List Pl) : Ms := layP (needJ (bringB es up half)) (outB wo) (6 * es.length + 1) [(first, [])] [first]
def byOf (m : Ms) (k : Jp) : Str := match m.find? (fun p => p.1 == k) with | none => [] | some p => p.2
def plOf (m n : Ms) (k : Jp) : Pl := (k.1, k.2, knownP n k, byOf m k)
def allP (es : List Ed) (up half : List Str) (first : Jp) (wo : List Pl) : List Pl := (canon ltJ (keysP (pullM es up half first wo))).map (plOf (pullM es up half first wo) (needM es up half first wo))
def asksB (ns : List Nd) (first : Jp) : Bool := (nodeOf ns first.1).isSome && (decide (1 ≤ first.2) && decide (first.2 ≤ 4))
def pullQ (ns : List Nd) (es : List Ed) (up half : List Str) (first : Jp) (wo : List Pl) : List Pl := if asksB ns first = true then allP es up half first wo else []
theorem need_cand {es : List Ed} {up half : List Str} (j : Jp) (b : Bg) (h : b ∈ needJ (bringB es up half) j) : b.1 ∈ candB es := bring_cand j b (List.mem_filter.1 h).1
theorem pullM_ok (es : List Ed) (up half : List Str) (first : Jp) (wo : List Pl) : Lay (bringB es up half) (outB wo) first (pullM es up half first wo) [] :=
  lay_ok (bring_cand) _ _ _ .zero (fun _ => by rw [candB_len]; simp <;> omega)
theorem needM_ok (es : List Ed) (up half : List Str) (first : Jp) (wo : List Pl) : Lay (needJ (bringB es up half)) (outB wo) first (needM es up half first wo) [] :=
  lay_ok (need_cand) _ _ _ .zero (fun _ => by rw [candB_len]; simp <;> omega)
theorem mem_pullM {es : List Ed} {up half : List Str} {first : Jp} {wo : List Pl} {k : Jp} : k ∈ keysP (pullM es up half first wo) ↔ Rj (bringB es up half) (outB wo) first k := (pullM_ok es up half first wo).iff k
theorem mem_needM {es : List Ed} {up half : List Str} {first : Jp} {wo : List Pl} {k : Jp} : k ∈ keysP (needM es up half first wo) ↔ Rj (needJ (bringB es up half)) (outB wo) first k := (needM_ok es up half first wo).iff k
theorem need_pull {es : List Ed} {up half : List Str} {first : Jp} {wo : List Pl} {k : Jp} (h : Rj (needJ (bringB es up half)) (outB wo) first k) : Rj (bringB es up half) (outB wo) first k :=
  h.mono (fun _ _ b hb _ => ⟨b, (List.mem_filter.1 hb).1, rfl⟩) (fun _ _ h => h)
theorem pullM_len (es : List Ed) (up half : List Str) (first : Jp) (wo : List Pl) : (pullM es up half first wo).length ≤ 6 * es.length + 1 := by
  have := (pullM_ok es up half first wo).len bring_cand
  rw [candB_len] at this; exact this
theorem allP_len (es : List Ed) (up half : List Str) (first : Jp) (wo : List Pl) : (allP es up half first wo).length ≤ 6 * es.length + 1 := by
  unfold allP
  rw [List.length_map]
  refine Nat.le_trans (canon_len _) ?_
  unfold keysP
  rw [List.length_map]
  exact pullM_len es up half first wo
theorem pullQ_len (ns : List Nd) (es : List Ed) (up half : List Str) (first : Jp) (wo : List Pl) : (pullQ ns es up half first wo).length ≤ 6 * es.length + 1 := by
  unfold pullQ; split
  · exact allP_len _ _ _ _ _
  · simp
theorem mem_allP {es : List Ed} {up half : List Str} {first : Jp} {wo : List Pl} {p : Pl} : p ∈ allP es up half first wo ↔ Rj (bringB es up half) (outB wo) first (p.1, p.2.1) ∧ (p.2.2.1 = true ↔ Rj (needJ (bringB es up half)) (outB wo) first (p.1, p.2.1)) ∧ p.2.2.2 = byOf (pullM es up half first wo) (p.1, p.2.1) := by
  unfold allP
  rw [List.mem_map]
  constructor
  · rintro ⟨k, hk, rfl⟩
    rw [mem_canon toJ, mem_pullM] at hk
    refine ⟨hk, ?_, rfl⟩
    show knownP _ k = true ↔ Rj _ _ _ k
    rw [knownP_iff, mem_needM]
  · rintro ⟨h1, h2, h3⟩
    refine ⟨(p.1, p.2.1), (mem_canon toJ).2 (mem_pullM.2 h1), ?_⟩
    obtain ⟨a, b, c, d⟩ := p
    simp only at *
    unfold plOf
    simp only
    rw [h3]
    have : knownP (needM es up half first wo) (a, b) = c := by
      rw [Bool.eq_iff_iff, knownP_iff, mem_needM]; exact h2.symm
    rw [this]
theorem allP_ss (es : List Ed) (up half : List Str) (first : Jp) (wo : List Pl) : (allP es up half first wo).Pairwise (fun p q => ltJ (p.1, p.2.1) (q.1, q.2.1) = true) := by
  unfold allP
  rw [List.pairwise_map]
  exact (canon_ss toJ _).imp fun h => h
theorem byOf_mem {m : Ms} (hd : (keysP m).Nodup) {p : Jp × Str} (hp : p ∈ m) : byOf m p.1 = p.2 := by
  unfold byOf
  induction m with
  | nil => cases hp
  | cons q r ih =>
    obtain ⟨h1, h2⟩ := List.nodup_cons.1 (show (q.1 :: keysP r).Nodup from hd)
    rw [List.find?_cons]
    by_cases e : q.1 = p.1
    · rw [show (q.1 == p.1) = true by simpa using e]
      simp only
      rcases List.mem_cons.1 hp with e2 | hp2
      · rw [e2]
      · exact absurd (List.mem_map.2 ⟨p, hp2, e.symm⟩) h1
    · rw [show (q.1 == p.1) = false by simpa using e]
      simp only
      rcases List.mem_cons.1 hp with e2 | hp2
      · exact absurd (by rw [e2]) e
      · exact ih h2 hp2
/-- By whom it was brought. -/
theorem by_cases_ {es : List Ed} {up half : List Str} {first : Jp} {wo : List Pl} {k : Jp} (h : Rj (bringB es up half) (outB wo) first k) :
    (k = first ∧ byOf (pullM es up half first wo) k = []) ∨ (k ≠ first ∧ outB wo k = false ∧ ∃ j, Rj (bringB es up half) (outB wo) first j ∧ j.1 = byOf (pullM es up half first wo) k ∧ ∃ b ∈ bringB es up half j, b.1 = k) := by
  have hl := pullM_ok es up half first wo
  obtain ⟨p, hp, rfl⟩ := List.mem_map.1 (mem_pullM.2 h)
  rw [byOf_mem hl.nd hp]
  rcases hl.by_ p hp with e | ⟨h1, j, hj, h2, b, hb, e⟩
  · exact .inl ⟨by rw [e], by rw [e]⟩
  · by_cases hf : p.1 = first
    · -- the first was known from the beginning
      have h0 : (first, ([] : Str)) ∈ pullM es up half first wo := by
        have hsub : ∀ (n : Nat) (m : Ms) (row : List Jp), (keysP m).Nodup → ∀ x ∈ m, x ∈ layP (bringB es up half) (outB wo) n m row := by
          intro n
          induction n with
          | zero => exact fun m row _ x hx => hx
          | succ n ih =>
            intro m row hd x hx
            cases row with
            | nil => exact hx
            | cons j r =>
              obtain ⟨xs, h5, _, h7, _⟩ := addP_fold (out := outB wo) ((j :: r).flatMap (brP (bringB es up half))) m [] hd
              have e5 : (stepP (bringB es up half) (outB wo) m (j :: r)).1 = m ++ xs := by unfold stepP; rw [h5]
              exact ih _ _ (by rw [e5]; exact h7) x (by rw [e5]; exact List.mem_append_left _ hx)
        exact hsub _ _ _ (by simp [keysP]) _ (.head _)
      have e1 := byOf_mem hl.nd hp
      have e2 := byOf_mem hl.nd h0
      simp only at e2
      rw [hf, e2] at e1
      exact .inl ⟨hf, e1.symm⟩
    · exact .inr ⟨hf, h1, j, mem_pullM.1 hj, h2, b, hb, e⟩
end Od
end Go.Proofs.YtbllehjhmfehbaaGreat
end

section
/- What is needed, as a row that grows; the asked job is never left out. No program. -/
namespace Go.Proofs.YtbllehjhmfehbaaGreat
set_option linter.unusedSimpArgs false
namespace Od
def outF (out : Jp → Bool) (first : Jp) : Jp → Bool := fun k => out k && !(k == first)
theorem addP_mem {out : Jp → Bool} {s : Ms × List Jp} {p : Jp × Str} {k : Jp} (h : k ∈ keysP s.1) : k ∈ keysP (addP out s p).1 := by
  unfold addP
  split
  · exact h
  · unfold keysP at h ⊢
    rw [List.map_append]
    exact List.mem_append_left _ h
theorem addP_first {out : Jp → Bool} {first : Jp} {s : Ms × List Jp} (h : first ∈ keysP s.1) (p : Jp × Str) : addP (outF out first) s p = addP out s p := by
  unfold addP outF
  by_cases e : p.1 = first
  · have hk : knownP s.1 p.1 = true := knownP_iff.2 (by rw [e]; exact h)
    rw [hk]; simp
  · have e2 : (p.1 == first) = false := by simpa using e
    rw [e2]; simp
theorem fold_first {out : Jp → Bool} {first : Jp} : ∀ (l : List (Jp × Str)) (s : Ms × List Jp), first ∈ keysP s.1 → l.foldl (addP (outF out first)) s = l.foldl (addP out) s ∧ first ∈ keysP (l.foldl (addP out) s).1
  | [], s, h => ⟨rfl, h⟩
  | p :: l, s, h => by
    rw [List.foldl_cons, List.foldl_cons, addP_first h p]
    exact fold_first l _ (addP_mem h)
theorem layP_first {E : Jp → List Bg} {out : Jp → Bool} {first : Jp} : ∀ (n : Nat) (m : Ms) (row : List Jp), first ∈ keysP m → layP E (outF out first) n m row = layP E out n m row
  | 0, _, _, _ => rfl
  | n + 1, m, [], _ => rfl
  | n + 1, m, j :: r, h => by
    have h1 := fold_first (out := out) ((j :: r).flatMap (brP E)) (m, []) h
    show layP E (outF out first) n (stepP E (outF out first) m (j :: r)).1 (canon ltJ (stepP E (outF out first) m (j :: r)).2) = layP E out n (stepP E out m (j :: r)).1 (canon ltJ (stepP E out m (j :: r)).2)
    unfold stepP
    rw [h1.1]
    exact layP_first n _ _ h1.2
theorem Rj_first {E : Jp → List Bg} {out : Jp → Bool} {first k : Jp} : Rj E (outF out first) first k ↔ Rj E out first k := by
  constructor
  · intro h
    induction h with
    | one => exact .one
    | @more j b _ hb ho ih =>
      by_cases e : b.1 = first
      · rw [e]; exact .one
      · refine .more ih hb ?_
        unfold outF at ho
        have e2 : (b.1 == first) = false := by simpa using e
        rw [e2] at ho
        simpa using ho
  · intro h
    induction h with
    | one => exact .one
    | more _ hb ho ih => exact .more ih hb (by unfold outF; rw [ho]; rfl)
def addN (out : Jp → Bool) (s : List Jp) (b : Bg) : List Jp := if (b.2 && (!out b.1 && !s.contains b.1)) = true then s ++ [b.1] else s
theorem addN_fold {out : Jp → Bool} : ∀ (l : List Bg) (s : List Jp), s.Nodup → ∃ xs : List Jp, l.foldl (addN out) s = s ++ xs ∧ (s ++ xs).Nodup ∧ (∀ k ∈ xs, ∃ b ∈ l, b.2 = true ∧ out b.1 = false ∧ b.1 = k) ∧ (∀ b ∈ l, b.2 = true → out b.1 = false → b.1 ∈ s ++ xs)
  | [], s, h => ⟨[], by simp, (by simpa using h), (by simp), (by simp)⟩
  | b :: l, s, h => by
    rw [List.foldl_cons]
    by_cases hc : (b.2 && (!out b.1 && !s.contains b.1)) = true
    · have e : addN out s b = s ++ [b.1] := by unfold addN; rw [if_pos hc]
      rw [e]
      rw [Bool.and_eq_true, Bool.and_eq_true] at hc
      obtain ⟨c1, c2, c3⟩ := hc
      have c3' : b.1 ∉ s := by simpa using c3
      have hn : (s ++ [b.1]).Nodup := by
        rw [List.nodup_append]
        refine ⟨h, by simp, fun a ha c hc e => ?_⟩
        rw [List.mem_singleton] at hc
        exact c3' (by rw [← hc, ← e]; exact ha)
      obtain ⟨xs, h1, h2, h3, h4⟩ := addN_fold l (s ++ [b.1]) hn
      refine ⟨b.1 :: xs, by rw [h1]; simp, by simpa using h2, fun k hk => ?_, fun b' hb' t1 t2 => ?_⟩
      · rcases List.mem_cons.1 hk with e | hk
        · exact ⟨b, .head _, c1, by simpa using c2, e.symm⟩
        · obtain ⟨b', hb', r⟩ := h3 k hk
          exact ⟨b', .tail _ hb', r⟩
      · rcases List.mem_cons.1 hb' with e | hb'
        · rw [e]; simp
        · have := h4 b' hb' t1 t2
          simpa using this
    · have e : addN out s b = s := by unfold addN; rw [if_neg hc]
      rw [e]
      obtain ⟨xs, h1, h2, h3, h4⟩ := addN_fold l s h
      refine ⟨xs, h1, h2, fun k hk => ?_, fun b' hb' t1 t2 => ?_⟩
      · obtain ⟨b', hb', r⟩ := h3 k hk
        exact ⟨b', .tail _ hb', r⟩
      · rcases List.mem_cons.1 hb' with e | hb'
        · rw [e] at t1 t2 ⊢
          rw [t1, t2] at hc
          have : b.1 ∈ s := by simpa using hc
          exact List.mem_append_left _ this
        · exact h4 b' hb' t1 t2
/-- The row N, of which the first i were asked what they bring. -/
structure NeedQ (E : Jp → List Bg) (out : Jp → Bool) (first : Jp) (N : List Jp) (i : Nat) : Prop where
  nd : N.Nodup
  fst : first ∈ N
  all : ∀ j ∈ N, Rj (needJ E) out first j
  clo : ∀ j ∈ N.take i, ∀ b ∈ needJ E j, out b.1 = false → b.1 ∈ N
  le : i ≤ N.length
theorem NeedQ.zero {E : Jp → List Bg} {out : Jp → Bool} {first : Jp} : NeedQ E out first [first] 0 :=
  ⟨by simp, by simp, (fun j hj => by rw [List.mem_singleton.1 hj]; exact .one), (fun j hj => by simp at hj), by simp⟩
theorem NeedQ.step {E : Jp → List Bg} {out : Jp → Bool} {first : Jp} {N : List Jp} {i : Nat} (h : NeedQ E out first N i) (hi : i < N.length) : ∃ xs, (E N[i]).foldl (addN out) N = N ++ xs ∧ NeedQ E out first (N ++ xs) (i + 1) := by
  obtain ⟨xs, h1, h2, h3, h4⟩ := addN_fold (out := out) (E N[i]) N h.nd
  refine ⟨xs, h1, h2, List.mem_append_left _ h.fst, fun j hj => ?_, fun j hj b hb ho => ?_, by rw [List.length_append]; omega⟩
  · rcases List.mem_append.1 hj with hj | hj
    · exact h.all j hj
    · obtain ⟨b, hb, b1, b2, rfl⟩ := h3 j hj
      exact .more (h.all _ (List.getElem_mem hi)) (List.mem_filter.2 ⟨hb, b1⟩) b2
  · rw [List.take_append_of_le_length (by omega), List.take_succ_eq_append_getElem hi] at hj
    rcases List.mem_append.1 hj with hj | hj
    · exact List.mem_append_left _ (h.clo j hj b hb ho)
    · rw [List.mem_singleton.1 hj] at hb
      obtain ⟨hb1, hb2⟩ := List.mem_filter.1 hb
      exact h4 b hb1 hb2 ho
theorem NeedQ.iff {E : Jp → List Bg} {out : Jp → Bool} {first : Jp} {N : List Jp} (h : NeedQ E out first N N.length) (k : Jp) : k ∈ N ↔ Rj (needJ E) out first k :=
  clo_iff h.fst h.all (fun j hj b hb ho => h.clo j (by rw [List.take_length]; exact hj) b hb ho) k
theorem NeedQ.len {E : Jp → List Bg} {out : Jp → Bool} {first : Jp} {N cand : List Jp} {i : Nat} (h : NeedQ E out first N i) (hc : ∀ j b, b ∈ E j → b.1 ∈ cand) : N.length ≤ cand.length + 1 := by
  have := nodup_len (cand := first :: cand) h.nd fun k hk => by
    cases h.all k hk with
    | one => exact .head _
    | more _ hb _ => exact .tail _ (hc _ _ (List.mem_filter.1 hb).1)
  simpa using this
end Od
end Go.Proofs.YtbllehjhmfehbaaGreat
end

section
/- The maps that the layers fill, as functions; the middle of a layer; the rounds by what is left. No program. -/
namespace Go.Proofs.YtbllehjhmfehbaaGreat
set_option linter.unusedSimpArgs false
namespace Od
def byF (m : Ms) (k : Jp) : Option Str := (m.find? (fun p => p.1 == k)).map (·.2)
theorem byF_some (m : Ms) (k : Jp) : (byF m k).isSome = knownP m k := by
  unfold byF knownP
  rw [Option.isSome_map, Bool.eq_iff_iff, List.find?_isSome, List.any_eq_true]
theorem byF_getD (m : Ms) (k : Jp) : (byF m k).getD [] = byOf m k := by
  unfold byF byOf
  cases m.find? (fun p => p.1 == k) <;> rfl
theorem byF_none {m : Ms} {k : Jp} (h : knownP m k = false) : byF m k = none := by
  have := byF_some m k
  rw [h] at this
  simpa using this
theorem byF_push {m : Ms} {k : Jp} {s : Str} (h : knownP m k = false) : byF (m ++ [(k, s)]) = fun x => if x = k then some s else byF m x := by
  funext x
  have hn : m.find? (fun p => p.1 == k) = none := by
    rw [List.find?_eq_none]
    intro p hp e
    have : knownP m k = true := List.any_eq_true.2 ⟨p, hp, e⟩
    rw [h] at this; cases this
  unfold byF
  rw [List.find?_append]
  by_cases e : x = k
  · subst e
    rw [hn]; simp
  · have e2 : (k == x) = false := by simpa using fun h => e h.symm
    simp only [List.find?_cons, e2, List.find?_nil, Option.or_none, if_neg e]
theorem addP_filter {out : Jp → Bool} : ∀ (l : List (Jp × Str)) (s : Ms × List Jp), (l.filter (fun p => !out p.1)).foldl (addP out) s = l.foldl (addP out) s
  | [], _ => rfl
  | p :: l, s => by
    rw [List.filter_cons]
    by_cases h : out p.1 = true
    · have e : addP out s p = s := by unfold addP; rw [h]; simp
      rw [show (!out p.1) = false by rw [h]; rfl, if_neg (by simp), List.foldl_cons, e]
      exact addP_filter l s
    · rw [show (!out p.1) = true by simpa using h, if_pos rfl, List.foldl_cons, List.foldl_cons]
      exact addP_filter l _
theorem addN_filter {out : Jp → Bool} : ∀ (l : List Bg) (s : List Jp), (l.filter (fun b => !out b.1)).foldl (addN out) s = l.foldl (addN out) s
  | [], _ => rfl
  | p :: l, s => by
    rw [List.filter_cons]
    by_cases h : out p.1 = true
    · have e : addN out s p = s := by unfold addN; rw [h]; simp
      rw [show (!out p.1) = false by rw [h]; rfl, if_neg (by simp), List.foldl_cons, e]
      exact addN_filter l s
    · rw [show (!out p.1) = true by simpa using h, if_pos rfl, List.foldl_cons, List.foldl_cons]
      exact addN_filter l _
/-- In the middle of a layer: what is known, what is new. -/
structure Mid (first : Jp) (cand : List Jp) (s : Ms × List Jp) : Prop where
  nd : (keysP s.1).Nodup
  inC : ∀ k ∈ keysP s.1, k ∈ first :: cand
  nl : s.2.length ≤ s.1.length
theorem Mid.add {out : Jp → Bool} {first : Jp} {cand : List Jp} {s : Ms × List Jp} (h : Mid first cand s) {p : Jp × Str} (hp : p.1 ∈ cand) : Mid first cand (addP out s p) := by
  unfold addP
  by_cases hc : (knownP s.1 p.1 || out p.1) = true
  · rw [if_pos hc]; exact h
  · rw [if_neg hc]
    have hk : p.1 ∉ keysP s.1 := fun hk => by rw [knownP_iff.2 hk] at hc; simp at hc
    refine ⟨?_, fun k hk => ?_, by simp; exact h.nl⟩
    · unfold keysP at *
      rw [List.map_append, List.nodup_append]
      refine ⟨h.nd, by simp, fun a ha b hb e => ?_⟩
      simp only [List.map_cons, List.map_nil, List.mem_singleton] at hb
      exact hk (by rw [← hb, ← e]; exact ha)
    · unfold keysP at hk
      rw [List.map_append] at hk
      rcases List.mem_append.1 hk with hk | hk
      · exact h.inC k hk
      · simp only [List.map_cons, List.map_nil, List.mem_singleton] at hk
        rw [hk]; exact .tail _ hp
theorem Mid.fold {out : Jp → Bool} {first : Jp} {cand : List Jp} : ∀ (l : List (Jp × Str)) (s : Ms × List Jp), Mid first cand s → (∀ p ∈ l, p.1 ∈ cand) → Mid first cand (l.foldl (addP out) s)
  | [], _, h, _ => h
  | p :: l, _, h, hl => Mid.fold l _ (h.add (hl p (.head _))) fun q hq => hl q (.tail _ hq)
theorem Mid.len {first : Jp} {cand : List Jp} {s : Ms × List Jp} (h : Mid first cand s) : s.1.length ≤ cand.length + 1 := by
  have := nodup_len h.nd h.inC
  simpa [keysP] using this
theorem canon_nil_iff {l : List Jp} : canon ltJ l = [] ↔ l = [] := by
  constructor
  · intro h
    cases l with
    | nil => rfl
    | cons a l =>
      have : a ∈ canon ltJ (a :: l) := (mem_canon toJ).2 (.head _)
      rw [h] at this; cases this
  · intro h; subst h; rfl
/-- At the head of a round: n rounds are left at most, the row is not sorted yet. -/
structure Head (E : Jp → List Bg) (out : Jp → Bool) (first : Jp) (cand : List Jp) (fin : Ms) (n : Nat) (m : Ms) (r : List Jp) : Prop where
  eq : layP E out n m (canon ltJ r) = fin
  lay : Lay E out first m (canon ltJ r)
  nd : r.Nodup
  fuel : r ≠ [] → cand.length + 2 ≤ n + m.length
  mid : Mid first cand (m, [])
  rl : r.length ≤ cand.length + 1
theorem Head.zero {E : Jp → List Bg} {out : Jp → Bool} {first : Jp} {cand : List Jp} : Head E out first cand (layP E out (cand.length + 1) [(first, [])] [first]) (cand.length + 1) [(first, [])] [first] where
  eq := by rw [show canon ltJ [first] = [first] from rfl]
  lay := by rw [show canon ltJ [first] = [first] from rfl]; exact .zero
  nd := by simp
  fuel := fun _ => by simp <;> omega
  mid := ⟨by simp [keysP], fun k hk => by simp [keysP] at hk; rw [hk]; exact .head _, by simp⟩
  rl := by simp
theorem Head.done {E : Jp → List Bg} {out : Jp → Bool} {first : Jp} {cand : List Jp} {fin : Ms} {n : Nat} {m : Ms} (h : Head E out first cand fin n m []) : m = fin := by
  have := h.eq
  rw [show canon ltJ [] = [] from rfl] at this
  cases n <;> exact this
theorem Head.next {E : Jp → List Bg} {out : Jp → Bool} {first : Jp} {cand : List Jp} {fin : Ms} {n : Nat} {m : Ms} {r : List Jp} (hc : ∀ j b, b ∈ E j → b.1 ∈ cand) (h : Head E out first cand fin n m r) (hr : r ≠ []) :
    ∃ n', n = n' + 1 ∧ Head E out first cand fin n' (stepP E out m (canon ltJ r)).1 (stepP E out m (canon ltJ r)).2 := by
  have hf := h.fuel hr
  have hml := h.lay.len hc
  cases n with
  | zero => omega
  | succ n =>
    refine ⟨n, rfl, ?_⟩
    have he := h.eq
    have hl := h.lay
    have hne : canon ltJ r ≠ [] := fun e => hr (canon_nil_iff.1 e)
    generalize hR : canon ltJ r = R at *
    cases R with
    | nil => exact absurd rfl hne
    | cons j R =>
      obtain ⟨h1, h2, h3⟩ := hl.step
      have hm2 : Mid first cand (stepP E out m (j :: R)) := by
        unfold stepP
        refine h.mid.fold _ _ fun p hp => ?_
        obtain ⟨j', _, b, hb, e⟩ := mem_brs.1 hp
        rw [e]; exact hc _ _ hb
      refine ⟨he, h1, h3, fun hne2 => ?_, ⟨hm2.nd, hm2.inC, by simp⟩, Nat.le_trans hm2.nl hm2.len⟩
      have := List.length_pos_iff.2 hne2
      omega
end Od
end Go.Proofs.YtbllehjhmfehbaaGreat
end

section
/- Maps of the call's own, as functions from keys (over the library's ownsMap and ranges, each element held as it is). -/
namespace Go.Proofs.YtbllehjhmfehbaaGreat
open Go.RowKit Go.Maps

/-- An element read as the value that it is. -/
def idR (v : Value) : Option (DataW Value × List MemPlace) := some (.held v, [])

/-- Keys of a type in Lean, as keys in the program. -/
structure KeyKind (P : Program) (k : TypeId) (α : Type) where
  val : α → Value
  ok : α → Prop
  kl : α → Lit
  law : Keyed P k
  key : ∀ x, ok x → keyOf P k (val x) = some (kl x)
  inj : ∀ x y, val x = val y → x = y
  inv : ∀ v l, keyOf P k v = some l → ∃ x, ok x ∧ v = val x

variable {P : Program} {k : TypeId} {α : Type} {κ : KeyKind P k α} {w w' : World} {b n : Nat} {f : α → Option Value}

theorem KeyKind.kl_inj (κ : KeyKind P k α) {x y : α} (hx : κ.ok x) (hy : κ.ok y) (h : κ.kl x = κ.kl y) : x = y :=
  κ.inj _ _ (κ.law.inj (κ.key x hx) (h ▸ κ.key y hy))
theorem KeyKind.kl_key (κ : KeyKind P k α) {x : α} (hx : κ.ok x) : WideAt.IsKeyLit (κ.kl x) := κ.law.key (κ.key x hx)

/-- What a datum says at each key. -/
def SaysF (κ : KeyKind P k α) (D : DataW Value) (f : α → Option Value) : Prop :=
  ∀ x, κ.ok x → Maps.has D (κ.kl x) = (f x).isSome ∧ ∀ z, D.atKey (κ.kl x) z = ((f x).map DataW.held).getD z

/-- Block b is a map of at most n entries that holds f x at the key x. -/
def MapIs (κ : KeyKind P k α) (w : World) (b n : Nat) (f : α → Option Value) : Prop :=
  ∃ D : DataW Value, w.ownsMap P k idR b n D ∧ SaysF κ D f

theorem MapIs.made (κ : KeyKind P k α) (w : World) : MapIs κ (w.alloc (.map #[] 0)) w.heap.size 0 (fun _ => none) :=
  ⟨.map [], World.ownsMap_made w P k idR, fun _ _ => ⟨rfl, fun z => Maps.atKey_of_not_has (by rfl) z⟩⟩
theorem MapIs.lt (h : MapIs κ w b n f) : b < w.heap.size := by obtain ⟨D, h, _⟩ := h; exact h.lt
theorem MapIs.mono (h : MapIs κ w b n f) {n' : Nat} (hn : n ≤ n') : MapIs κ w b n' f := by obtain ⟨D, h, hf⟩ := h; exact ⟨D, h.mono hn, hf⟩
theorem MapIs.same (h : MapIs κ w b n f) (he : w'.heap[b]? = w.heap[b]?) : MapIs κ w' b n f := by
  obtain ⟨D, ⟨es, c, hb, r⟩, hf⟩ := h
  exact ⟨D, ⟨es, c, he.trans hb, r⟩, hf⟩
theorem MapIs.on (h : MapIs κ w b n f) (hb : Below w.heap.size w w') : MapIs κ w' b n f := h.same (hb.block b h.lt)
theorem MapIs.alloc (h : MapIs κ w b n f) (o : Obj) : MapIs κ (w.alloc o) b n f := by obtain ⟨D, h, hf⟩ := h; exact ⟨D, h.alloc o, hf⟩
theorem MapIs.drew (h : MapIs κ w b n f) : MapIs κ w.drew b n f := h
theorem MapIs.kept {row : Option Nat} (h : MapIs κ w b n f) (hg : w.grownBy w' row) (hne : some b ≠ row) : MapIs κ w' b n f := by obtain ⟨D, h, hf⟩ := h; exact ⟨D, h.kept hg hne, hf⟩

theorem MapIs.lookup {t e : TypeId} {z : Value} (h : MapIs κ w b n f) (ht : P.underlying t = some (.map k e)) (hz : (zeroValue e).run P w = .ok z w) {x : α} (hx : κ.ok x) :
    (Instr.lookup t (.map (some b)) (κ.val x) false).run P w = .ok ((f x).getD z) w := by
  obtain ⟨D, h, hf⟩ := h
  obtain ⟨v, ps, hrun, hv⟩ := h.lookup κ.law ht hz (zd := .held z) (zp := []) rfl (κ.key x hx)
  rw [(hf x hx).2] at hv
  rw [hrun]
  cases hfx : f x
  · rw [hfx] at hv
    simp only [idR, Option.map_none, Option.getD_none, Option.some.injEq, Prod.mk.injEq, DataW.held.injEq] at hv
    rw [hv.1]; rfl
  · rw [hfx] at hv
    simp only [idR, Option.map_some, Option.getD_some, Option.some.injEq, Prod.mk.injEq, DataW.held.injEq] at hv
    rw [hv.1]; rfl

open Classical in
theorem MapIs.update {t e : TypeId} (h : MapIs κ w b n f) (ht : P.underlying t = some (.map k e)) (hn : n < maxLen) {x : α} (hx : κ.ok x) (v : Value) :
    ∃ w', (Instr.mapUpdate t (.map (some b)) (κ.val x) v).run P w = .ok () w' ∧ MapIs κ w' b (n + 1) (fun y => if y = x then some v else f y) ∧ w.grownBy w' (some b) := by
  obtain ⟨D, h, hf⟩ := h
  have him := h.isMap
  obtain ⟨w', hrun, h', hg⟩ := h.update κ.law ht hn (key := κ.val x) (val := v) (d := .held v) (ps := []) (κ.key x hx) rfl
  refine ⟨w', hrun, ⟨_, h', fun y hy => ?_⟩, hg⟩
  by_cases hyx : y = x
  · subst hyx
    exact ⟨by rw [Maps.has_put_same him (κ.kl_key hy)]; simp, fun z => by rw [Maps.atKey_put_same him (κ.kl_key hy)]; simp⟩
  · have hne : κ.kl y ≠ κ.kl x := fun e => hyx (κ.kl_inj hy hx e)
    have hkx := κ.kl_key hx
    exact ⟨by rw [Maps.has_put_other hne]; simp [hyx, hf y hy], fun z => by rw [Maps.atKey_put_other hne]; simp [hyx, hf y hy]⟩

/-- 'for k := range m' under way: f: what the map holds; left: which keys are still to come. -/
def RangeIs (κ : KeyKind P k α) (w : World) (b r n : Nat) (f : α → Option Value) (left : α → Bool) (cnt : Nat) : Prop :=
  ∃ (D : DataW Value) (L : Lit → Bool), w.ranges P k idR b r n D L cnt ∧ SaysF κ D f ∧ ∀ x, κ.ok x → L (κ.kl x) = left x

variable {r cnt : Nat} {left : α → Bool}
theorem RangeIs.map (h : RangeIs κ w b r n f left cnt) : MapIs κ w b n f := by obtain ⟨D, L, h, hf, _⟩ := h; exact ⟨D, h.owns, hf⟩
theorem RangeIs.left_eq (h : RangeIs κ w b r n f left cnt) : w.rangeLeft b r = cnt := by obtain ⟨D, L, h, _⟩ := h; exact h.left_eq
theorem RangeIs.lt (h : RangeIs κ w b r n f left cnt) : r < w.heap.size := by obtain ⟨D, L, h, _⟩ := h; exact h.lt
theorem RangeIs.ne (h : RangeIs κ w b r n f left cnt) : r ≠ b := by obtain ⟨D, L, h, _⟩ := h; exact h.ne
theorem RangeIs.same (h : RangeIs κ w b r n f left cnt) (hb : w'.heap[b]? = w.heap[b]?) (hr : w'.heap[r]? = w.heap[r]?) : RangeIs κ w' b r n f left cnt := by
  obtain ⟨D, L, ⟨es, clock, since, seen, c0, h1, h2, h3, h4, h5, h6⟩, hf, hl⟩ := h
  exact ⟨D, L, ⟨es, clock, since, seen, c0, hb.trans h1, h2, h3, h4, hr.trans h5, h6⟩, hf, hl⟩
theorem RangeIs.on (h : RangeIs κ w b r n f left cnt) (hb : Below w.heap.size w w') : RangeIs κ w' b r n f left cnt := h.same (hb.block b h.map.lt) (hb.block r h.lt)
theorem RangeIs.kept {row : Option Nat} (h : RangeIs κ w b r n f left cnt) (hg : w.grownBy w' row) (hb : some b ≠ row) (hr : some r ≠ row) : RangeIs κ w' b r n f left cnt := by
  obtain ⟨D, L, h, hf, hl⟩ := h
  exact ⟨D, L, h.kept hg hb hr, hf, hl⟩

theorem MapIs.range {t e : TypeId} (h : MapIs κ w b n f) (ht : P.underlying t = some (.map k e)) :
    ∃ w', (Instr.range t (.map (some b))).run P w = .ok (.pointer (some ⟨w.heap.size, 0, none⟩)) w' ∧ (∃ cnt, RangeIs κ w' b w.heap.size n f (fun x => (f x).isSome) cnt) ∧ w.grownBy w' none ∧ w'.heap.size = w.heap.size + 1 := by
  obtain ⟨D, h, hf⟩ := h
  obtain ⟨w', hrun, h1, h2, h3⟩ := h.range κ.law ht
  exact ⟨w', hrun, ⟨_, D, _, h1, hf, fun x hx => (hf x hx).1⟩, h2, h3⟩

open Classical in
theorem RangeIs.next (h : RangeIs κ w b r n f left cnt) (ty : TypeId) :
    (cnt = 0 ∧ (∀ x, κ.ok x → left x = false) ∧ (Instr.next (.pointer (some ⟨r, 0, none⟩)) false ty).run P w = .ok (.tuple #[.bool false]) w) ∨
    ∃ x v w' cnt', κ.ok x ∧ left x = true ∧ f x = some v ∧ (Instr.next (.pointer (some ⟨r, 0, none⟩)) false ty).run P w = .ok (.tuple #[.bool true, κ.val x, v]) w' ∧
      RangeIs κ w' b r n f (fun y => left y && decide (y ≠ x)) cnt' ∧ cnt' < cnt ∧ w.grownBy w' (some r) ∧ w'.heap.size = w.heap.size ∧ (Instr.entry (.pointer (some ⟨r, 0, none⟩))).run P w' = .ok (.tuple #[κ.val x, v]) w' := by
  obtain ⟨D, L, h, hf, hl⟩ := h
  rcases h.next κ.law ty with ⟨h0, hL, hrun⟩ | ⟨key, v, kl, y, w', cnt', hkey, hLk, hv, hat, hrun, hrg, hlt, hgr, hsz, hen⟩
  · exact .inl ⟨h0, fun x hx => by rw [← hl x hx]; exact hL _, hrun⟩
  · obtain ⟨x, hx, rfl⟩ := κ.inv key kl hkey
    have hkl : κ.kl x = kl := Option.some.inj ((κ.key x hx).symm.trans hkey)
    subst hkl
    have hy : y = (.held v, []) := (Option.some.inj hv).symm
    subst hy
    have hfx : f x = some v := by
      have h1 := hat .nil
      rw [(hf x hx).2] at h1
      cases hfx : f x with
      | none => rw [hfx] at h1; cases h1
      | some v' => rw [hfx] at h1; cases h1; rfl
    refine .inr ⟨x, v, w', cnt', hx, by rw [← hl x hx]; exact hLk, hfx, hrun, ⟨D, _, hrg, hf, fun z hz => ?_⟩, hlt, hgr, hsz, hen⟩
    show (L (κ.kl z) && !(κ.kl z).sameKey (κ.kl x)) = _
    rw [hl z hz]
    by_cases hzx : z = x
    · subst hzx
      rw [WideAt.sameKey_self (κ.kl_key hz)]
      simp
    · rw [Maps.sameKey_ne (fun e => hzx (κ.kl_inj hz hx e))]
      simp [hzx]

section
variable {ops : Array Oper} {rest : List Oper} {o : Oper} {a : Act} {Q : Exit → Act → World → Prop} (w : World)

theorem wpList_lookup_is (hg : o.guard = none) (m x : Operand) (t : TypeId) (hop : o.op = Op.lookup t m x false) (e : TypeId) (ht : P.underlying t = some (.map k e)) (z : Value) (hz : (zeroValue e).run P w = .ok z w)
    (b n : Nat) (f : α → Option Value) (hm : a.eval m = .map (some b)) (h : MapIs κ w b n f) (key : α) (hx : a.eval x = κ.val key) (hk : κ.ok key)
    (hK : wpList P ops Q rest (a.put o.dst ((f key).getD z)) w) : wpList P ops Q (o :: rest) a w := by
  refine wpList_plain hg fun K' hK' => ?_
  have hrun := h.lookup ht hz hk
  unfold Oper.wp
  simp [execOp, hop, hm, hx, hrun, Result.andThen]
  exact hK' _ _ hK

open Classical in
theorem wpList_update_is (hg : o.guard = none) (m x v : Operand) (t : TypeId) (hop : o.op = Op.mapUpdate t m x v) (e : TypeId) (ht : P.underlying t = some (.map k e))
    (b n : Nat) (f : α → Option Value) (hm : a.eval m = .map (some b)) (h : MapIs κ w b n f) (hn : n < maxLen) (key : α) (val : Value) (hx : a.eval x = κ.val key) (hv : a.eval v = val) (hk : κ.ok key)
    (hK : ∀ w', MapIs κ w' b (n + 1) (fun y => if y = key then some val else f y) → w.grownBy w' (some b) → wpList P ops Q rest (a.put o.dst undef) w') : wpList P ops Q (o :: rest) a w := by
  refine wpList_plain hg fun K' hK' => ?_
  obtain ⟨w', hrun, h1, h2⟩ := h.update ht hn hk val
  unfold Oper.wp
  simp [execOp, hop, hm, hx, hv, hrun, Result.andThen]
  exact hK' _ _ (hK w' h1 h2)

theorem wpList_range_is (hg : o.guard = none) (m : Operand) (t : TypeId) (hop : o.op = Op.range t m) (e : TypeId) (ht : P.underlying t = some (.map k e)) (b n : Nat) (f : α → Option Value)
    (hm : a.eval m = .map (some b)) (h : MapIs κ w b n f)
    (hK : ∀ w' cnt, RangeIs κ w' b w.heap.size n f (fun x => (f x).isSome) cnt → w.grownBy w' none → w'.heap.size = w.heap.size + 1 → wpList P ops Q rest (a.put o.dst (.pointer (some ⟨w.heap.size, 0, none⟩))) w') :
    wpList P ops Q (o :: rest) a w := by
  refine wpList_plain hg fun K' hK' => ?_
  obtain ⟨w', hrun, ⟨cnt, r1⟩, r2, r3⟩ := h.range (t := t) ht
  unfold Oper.wp
  simp [execOp, hop, hm, hrun, Result.andThen]
  exact hK' _ _ (hK w' cnt r1 r2 r3)

open Classical in
theorem wpList_next_is (hg : o.guard = none) (it : Operand) (hop : o.op = Op.next it false) (b r n : Nat) (f : α → Option Value) (left : α → Bool) (cnt : Nat) (hit : a.eval it = .pointer (some ⟨r, 0, none⟩)) (h : RangeIs κ w b r n f left cnt)
    (hDone : (∀ x, κ.ok x → left x = false) → wpList P ops Q rest (a.put o.dst (.tuple #[.bool false])) w)
    (hMore : ∀ (x : α) (v : Value) (w' : World) (cnt' : Nat), κ.ok x → left x = true → f x = some v → RangeIs κ w' b r n f (fun y => left y && decide (y ≠ x)) cnt' → cnt' < cnt → w.grownBy w' (some r) → w'.heap.size = w.heap.size →
      (Instr.entry (.pointer (some ⟨r, 0, none⟩))).run P w' = .ok (.tuple #[κ.val x, v]) w' → wpList P ops Q rest (a.put o.dst (.tuple #[.bool true, κ.val x, v])) w') :
    wpList P ops Q (o :: rest) a w := by
  refine wpList_plain hg fun K' hK' => ?_
  unfold Oper.wp
  rcases h.next o.type with ⟨_, hl, hrun⟩ | ⟨x, v, w', cnt', hx, hlx, hfx, hrun, hrg, hlt, hgr, hsz, hen⟩
  · simp [execOp, hop, hit, hrun, Result.andThen]
    exact hK' _ _ (hDone hl)
  · simp [execOp, hop, hit, hrun, Result.andThen]
    exact hK' _ _ (hMore x v w' cnt' hx hlx hfx hrg hlt hgr hsz hen)
end

/-- Texts as keys. -/
def strKind {P : Program} {k : TypeId} (hk : P.underlying k = some .string) : KeyKind P k Str where
  val := sv
  ok s := s.length ≤ maxLen
  kl s := .string s
  law := string_keyed hk
  key s hs := by
    have h : (⟨s.toArray⟩ : ByteArray).size ≤ maxLen := by simpa [ByteArray.size] using hs
    simp [keyOf, hk, mapKey, h]
  inj x y h := by simpa using h
  inv v l h := by
    cases v <;> simp [keyOf, hk, mapKey] at h
    rename_i s
    refine ⟨s.data.toList, by simpa using h.1, by simp⟩
end Go.Proofs.YtbllehjhmfehbaaGreat
end

section
/- The keys of the program's maps: texts, and pairs of texts. -/
namespace Go.Proofs.YtbllehjhmfehbaaGreat
open Go.RowKit Go.Maps

namespace Od
theorem laidOut' : laidOutB Tryz.prog = true := by kernel_rfl
theorem rowP : (137 : TypeId) < Tryz.prog.types.size := of_decide_eq_true (by kernel_rfl)
theorem wideP : (match Tryz.prog.underlying 137 with | some (.array _ _) | some (.struct _) => true | _ => false) = true := by rw [Tryz.underlying137]
theorem keyAtP : Tryz.prog.keyTypeAt 3 137 = true := by kernel_rfl
set_option maxRecDepth 100000 in
theorem lawP : Keyed Tryz.prog 137 := Keyed.of_law (deep_law_laid laidOut' (m := 3) (by omega) rowP keyAtP wideP)
theorem cellsP : Tryz.prog.cellsOf 137 = 2 := by kernel_rfl
theorem keyTypeP : Tryz.prog.keyType 137 = true := by kernel_rfl
theorem cellsS : Tryz.prog.cellsOf 9 = 1 := by kernel_rfl
theorem sizeP : Tryz.prog.types.size = (Tryz.prog.types.size - 1) + 1 := by kernel_rfl
theorem sizeP2 : Tryz.prog.types.size - 1 = (Tryz.prog.types.size - 2) + 1 := by kernel_rfl
theorem keyLits_s (d : Nat) (s : Str) (hs : s.length ≤ maxLen) : Tryz.prog.keyLits (d + 1) 9 [sv s] = some [.string s] := by
  have h : (⟨s.toArray⟩ : ByteArray).size ≤ maxLen := by simpa [ByteArray.size] using hs
  simp [Program.keyLits, Tryz.underlying9, h]
def plit (p : Pr) : Lit := .string (keyBytes [.string p.1, .string p.2])
theorem keyOf_pair (p : Pr) (h1 : p.1.length ≤ maxLen) (h2 : p.2.length ≤ maxLen) : keyOf Tryz.prog 137 (.agg #[sv p.1, sv p.2]) = some (plit p) := by
  have hu := Tryz.underlying137
  have hform : (Value.agg #[sv p.1, sv p.2]).formed Tryz.prog 137 = true := by simp [Value.formed, hu, cellsP]
  unfold keyOf
  rw [hu]
  simp only [keyTypeP, hform, Bool.and_self, if_true]
  rw [sizeP, sizeP2]
  unfold Program.keyLits
  rw [hu]
  simp only [Value.cells, cellsP]
  simp [keyLits_s, h1, h2, cellsS, plit]

theorem keyLits_s_inv {d : Nat} {cs : List Value} {l : List Lit} (h : Tryz.prog.keyLits d 9 cs = some l) : ∃ s : Str, s.length ≤ maxLen ∧ cs = [sv s] ∧ l = [.string s] := by
  cases d with
  | zero => simp [Program.keyLits] at h
  | succ d =>
    unfold Program.keyLits at h
    simp only [Tryz.underlying9] at h
    split at h
    all_goals simp_all
    rename_i s
    exact ⟨s.data.toList, by rw [Array.length_toList]; exact h.1, by simp, h.2.symm⟩
theorem keyOf_pair_inv (v : Value) (l : Lit) (h : keyOf Tryz.prog 137 v = some l) : ∃ p : Pr, (p.1.length ≤ maxLen ∧ p.2.length ≤ maxLen) ∧ v = .agg #[sv p.1, sv p.2] := by
  have hu := Tryz.underlying137
  unfold keyOf at h
  simp only [hu, keyTypeP, Bool.true_and] at h
  split at h
  · rename_i hf
    cases v with
    | agg cs =>
      rw [sizeP] at h
      unfold Program.keyLits at h
      simp only [hu] at h
      simp [Value.formed, hu, cellsP] at hf
      simp only [Value.cells, cellsP] at h
      obtain ⟨xs⟩ := cs
      have hx : xs.length = 2 := by simpa using hf
      obtain ⟨x, y, rfl⟩ : ∃ x y, xs = [x, y] := by
        match xs, hx with
        | [x, y], _ => exact ⟨x, y, rfl⟩
      simp only [List.mapM_cons, List.mapM_nil, cellsS, List.drop_zero, List.take_succ_cons, List.take_zero, List.drop_succ_cons] at h
      cases h1 : Tryz.prog.keyLits (Tryz.prog.types.size - 1 + 1) 9 [x] with
      | none => rw [h1] at h; split at h <;> cases h
      | some l1 =>
        cases h2 : Tryz.prog.keyLits (Tryz.prog.types.size - 1 + 1) 9 [y] with
        | none => rw [h1, h2] at h; split at h <;> cases h
        | some l2 =>
          obtain ⟨s1, hs1, e1, _⟩ := keyLits_s_inv h1
          obtain ⟨s2, hs2, e2, _⟩ := keyLits_s_inv h2
          cases e1
          cases e2
          exact ⟨(s1, s2), ⟨hs1, hs2⟩, rfl⟩
    | _ => simp [Value.formed, hu] at hf
  · cases h
noncomputable def pairKind : KeyKind Tryz.prog 137 Pr where
  val p := .agg #[sv p.1, sv p.2]
  ok p := p.1.length ≤ maxLen ∧ p.2.length ≤ maxLen
  kl := plit
  law := lawP
  key p hp := keyOf_pair p hp.1 hp.2
  inj x y h := by
    obtain ⟨a, b⟩ := x
    obtain ⟨c, d⟩ := y
    simp only [Value.agg.injEq] at h
    have h1 := congrArg (fun z : Array Value => z.toList) h
    simp at h1
    simp [h1]
  inv := keyOf_pair_inv
noncomputable def strK : KeyKind Tryz.prog 9 Str := strKind Tryz.underlying9
end Od
end Go.Proofs.YtbllehjhmfehbaaGreat
end
