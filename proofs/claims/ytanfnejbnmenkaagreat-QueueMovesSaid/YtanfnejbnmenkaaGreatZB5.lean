/- My texts, joined for the claim: GMath GReach GOrder QBase QMath. -/
import Derived.Test.YtanfnejbnmenkaaGreatZB1
import Derived.Lib.SlicesCompact
import Derived.Sort.Walk0
import Derived.Test.YtanfnejbnmenkaaGreatZB4
import Derived.Test.YtanfnejbnmenkaaGreatZB3
import Derived.Test.YtanfnejbnmenkaaGreatZB0

section
/- Plain mathematics: strictly rising lists, each element once; what compaction of a sorted list is. No program. -/
namespace Go.Proofs.YtanfnejbnmenkaaGreat

theorem nil_or_snoc {α : Type} (l : List α) : l = [] ∨ ∃ r y, l = r ++ [y] := by
  rcases List.eq_nil_or_concat l with h | ⟨r, y, h⟩
  · exact .inl h
  · exact .inr ⟨r, y, by rw [h, List.concat_eq_append]⟩

/-- A strict order that parts any two that are not one. -/
structure TO {α : Type} (lt : α → α → Bool) : Prop where
  irrefl : ∀ x, lt x x = false
  trans : ∀ {x y z}, lt x y = true → lt y z = true → lt x z = true
  total : ∀ {x y}, lt x y = false → lt y x = false → x = y

section
variable {α : Type} {lt : α → α → Bool}
/-- Rising, each once. -/
def SS (lt : α → α → Bool) (l : List α) : Prop := l.Pairwise (fun x y => lt x y = true)

theorem SS.unique (T : TO lt) : ∀ {l l' : List α}, SS lt l → SS lt l' → (∀ x, x ∈ l ↔ x ∈ l') → l = l'
  | [], [], _, _, _ => rfl
  | [], y :: r', _, _, h => absurd ((h y).2 (.head _)) (by simp)
  | x :: r, [], _, _, h => absurd ((h x).1 (.head _)) (by simp)
  | x :: r, y :: r', h1, h2, h => by
    obtain ⟨hx, hr⟩ := List.pairwise_cons.1 h1
    obtain ⟨hy, hr'⟩ := List.pairwise_cons.1 h2
    have exy : x = y := by
      rcases List.mem_cons.1 ((h x).1 (.head _)) with e | e
      · exact e
      · rcases List.mem_cons.1 ((h y).2 (.head _)) with e' | e'
        · exact e'.symm
        · have := T.trans (hx y e') (hy x e)
          rw [T.irrefl] at this; cases this
    subst exy
    congr 1
    refine SS.unique T hr hr' fun z => ?_
    constructor
    · intro hz
      rcases List.mem_cons.1 ((h z).1 (.tail _ hz)) with e | e
      · subst e; have := hx z hz; rw [T.irrefl] at this; cases this
      · exact e
    · intro hz
      rcases List.mem_cons.1 ((h z).2 (.tail _ hz)) with e | e
      · subst e; have := hy z hz; rw [T.irrefl] at this; cases this
      · exact e
theorem SS.nodup (T : TO lt) {l : List α} (h : SS lt l) : l.Nodup := h.imp fun {a b} hab e => by subst e; rw [T.irrefl] at hab; cases hab
theorem SS.sublist {l l' : List α} (h : SS lt l) (hs : l'.Sublist l) : SS lt l' := List.Pairwise.sublist hs h

/-- Into a rising list, once. -/
def insL [DecidableEq α] (lt : α → α → Bool) (x : α) : List α → List α
  | [] => [x]
  | y :: r => if lt y x = true then y :: insL lt x r else if y = x then y :: r else x :: y :: r
variable [DecidableEq α]
theorem mem_insL {x z : α} : ∀ {l : List α}, z ∈ insL lt x l ↔ z = x ∨ z ∈ l
  | [] => by simp [insL]
  | y :: r => by
    unfold insL
    split
    · rw [List.mem_cons, mem_insL, List.mem_cons]
      constructor
      · rintro (h | h | h)
        · exact .inr (.inl h)
        · exact .inl h
        · exact .inr (.inr h)
      · rintro (h | h | h)
        · exact .inr (.inl h)
        · exact .inl h
        · exact .inr (.inr h)
    · split
      · rename_i h
        subst h
        simp
      · simp
theorem SS.insL (T : TO lt) {x : α} : ∀ {l : List α}, SS lt l → SS lt (insL lt x l)
  | [], _ => List.pairwise_singleton _ _
  | y :: r, h => by
    obtain ⟨hy, hr⟩ := List.pairwise_cons.1 h
    unfold Proofs.YtanfnejbnmenkaaGreat.insL
    split
    · rename_i h1
      refine List.pairwise_cons.2 ⟨fun z hz => ?_, SS.insL T hr⟩
      rcases mem_insL.1 hz with e | e
      · rw [e]; exact h1
      · exact hy z e
    · rename_i h1
      split
      · exact h
      · rename_i h2
        have hxy : lt x y = true := by
          cases h3 : lt x y
          · exact absurd (T.total (by simpa using h1) h3) h2
          · rfl
        refine List.pairwise_cons.2 ⟨fun z hz => ?_, h⟩
        rcases List.mem_cons.1 hz with e | e
        · rw [e]; exact hxy
        · exact T.trans hxy (hy z e)
/-- A list made rising, each once. -/
def canon (lt : α → α → Bool) (l : List α) : List α := l.foldl (fun acc x => insL lt x acc) []
theorem canon_fold (T : TO lt) : ∀ (l acc : List α), SS lt acc → SS lt (l.foldl (fun acc x => insL lt x acc) acc) ∧ ∀ z, z ∈ l.foldl (fun acc x => insL lt x acc) acc ↔ z ∈ acc ∨ z ∈ l
  | [], acc, h => ⟨h, by simp⟩
  | x :: l, acc, h => by
    obtain ⟨h1, h2⟩ := canon_fold T l (insL lt x acc) (h.insL T)
    refine ⟨h1, fun z => ?_⟩
    rw [List.foldl_cons, h2, mem_insL, List.mem_cons]
    constructor
    · rintro ((h | h) | h)
      · exact .inr (.inl h)
      · exact .inl h
      · exact .inr (.inr h)
    · rintro (h | h | h)
      · exact .inl (.inr h)
      · exact .inl (.inl h)
      · exact .inr h
theorem canon_ss (T : TO lt) (l : List α) : SS lt (canon lt l) := (canon_fold T l [] List.Pairwise.nil).1
theorem mem_canon (T : TO lt) {l : List α} {z : α} : z ∈ canon lt l ↔ z ∈ l := by
  rw [canon, (canon_fold T l [] List.Pairwise.nil).2]; simp
theorem SS.eq_canon (T : TO lt) {l l' : List α} (h : SS lt l') (hm : ∀ x, x ∈ l' ↔ x ∈ l) : l' = canon lt l :=
  SS.unique T h (canon_ss T l) fun x => by rw [hm, mem_canon T]
theorem canon_len (l : List α) : (canon lt l).length ≤ l.length := by
  have h : ∀ (l acc : List α), (l.foldl (fun acc x => insL lt x acc) acc).length ≤ acc.length + l.length := by
    intro l
    induction l with
    | nil => intro acc; simp
    | cons x l ih =>
      intro acc
      have hi : ∀ acc : List α, (Proofs.YtanfnejbnmenkaaGreat.insL lt x acc).length ≤ acc.length + 1 := by
        intro acc
        induction acc with
        | nil => simp [Proofs.YtanfnejbnmenkaaGreat.insL]
        | cons y r ih => unfold Proofs.YtanfnejbnmenkaaGreat.insL; split <;> (try split) <;> simp_all
      have := ih (Proofs.YtanfnejbnmenkaaGreat.insL lt x acc)
      have := hi acc
      simp only [List.foldl_cons, List.length_cons]
      omega
  have := h l []
  simpa [canon] using this

/-- Not falling. -/
def LE (lt : α → α → Bool) (l : List α) : Prop := l.Pairwise (fun x y => lt y x = false)

section
variable [Inhabited α]
theorem compact_snoc (zs : List α) (x : α) : Lib.compact (zs ++ [x]) = Lib.compact zs ++ (if zs = [] ∨ zs.getLast? ≠ some x then [x] else []) := by
  have e : ∀ m, m ≤ zs.length → Lib.compactUpTo (zs ++ [x]).toArray m = Lib.compactUpTo zs.toArray m := by
    intro m
    induction m with
    | zero => intro _; rfl
    | succ m ih =>
      intro hm
      rw [Lib.compactUpTo_succ, Lib.compactUpTo_succ, ih (by omega)]
      have g : ∀ j, j < zs.length → (zs ++ [x]).toArray[j]! = zs.toArray[j]! := by
        intro j hj
        simp [getElem!_def, List.getElem?_append_left hj]
      have hk : Lib.keeps (zs ++ [x]).toArray m = Lib.keeps zs.toArray m := by
        unfold Lib.keeps
        rw [g m (by omega), g (m - 1) (by omega)]
      rw [hk, g m (by omega)]
  unfold Lib.compact
  rw [show (zs ++ [x]).length = zs.length + 1 by simp, Lib.compactUpTo_succ, e _ (Nat.le_refl _)]
  congr 1
  have g1 : (zs ++ [x]).toArray[zs.length]! = x := by simp
  have hk : Lib.keeps (zs ++ [x]).toArray zs.length = decide (zs = [] ∨ zs.getLast? ≠ some x) := by
    unfold Lib.keeps
    rw [g1]
    rcases nil_or_snoc zs with rfl | ⟨r, y, rfl⟩
    · simp
    · have g2 : (r ++ [y] ++ [x]).toArray[(r ++ [y]).length - 1]! = y := by simp
      rw [g2]
      simp
      exact eq_comm
  rw [hk, g1]
  by_cases h : zs = [] ∨ zs.getLast? ≠ some x <;> simp [h]
theorem mem_compact : ∀ {zs : List α} {x : α}, x ∈ Lib.compact zs ↔ x ∈ zs := by
  suffices h : ∀ (n : Nat) (zs : List α), zs.length = n → ∀ x, x ∈ Lib.compact zs ↔ x ∈ zs from fun {zs x} => h _ zs rfl x
  intro n
  induction n with
  | zero => intro zs hz x; rw [List.length_eq_zero_iff.1 hz]; simp [Lib.compact, Lib.compactUpTo]
  | succ n ih =>
    intro zs hz x
    rcases nil_or_snoc zs with rfl | ⟨r, y, rfl⟩
    · simp at hz
    · rw [compact_snoc, List.mem_append, List.mem_append, ih r (by simpa using hz)]
      by_cases h : r = [] ∨ r.getLast? ≠ some y
      · simp [h]
      · simp only [h, if_false, List.not_mem_nil, or_false, List.mem_singleton]
        have h2 : r.getLast? = some y := by
          rcases Classical.em (r.getLast? = some y) with e | e
          · exact e
          · exact absurd (.inr e) h
        constructor
        · exact .inl
        · rintro (e | e)
          · exact e
          · rw [e]; exact List.mem_of_getLast? h2
theorem compact_ss (T : TO lt) : ∀ {zs : List α}, LE lt zs → SS lt (Lib.compact zs) := by
  suffices h : ∀ (n : Nat) (zs : List α), zs.length = n → LE lt zs → SS lt (Lib.compact zs) from fun {zs} => h _ zs rfl
  intro n
  induction n with
  | zero => intro zs hz _; rw [List.length_eq_zero_iff.1 hz]; exact List.Pairwise.nil
  | succ n ih =>
    intro zs hz hs
    rcases nil_or_snoc zs with rfl | ⟨r, y, rfl⟩
    · simp at hz
    · obtain ⟨h1, _, h3⟩ := List.pairwise_append.1 hs
      rw [compact_snoc]
      by_cases h : r = [] ∨ r.getLast? ≠ some y
      · simp only [h, if_true]
        refine List.pairwise_append.2 ⟨ih r (by simpa using hz) h1, List.pairwise_singleton _ _, fun a ha b hb => ?_⟩
        have hb : b = y := by simpa using hb
        subst hb
        rw [mem_compact] at ha
        -- a is below the last, which is below b
        rcases nil_or_snoc r with rfl | ⟨q, l, rfl⟩
        · simp at ha
        · have hl : l ≠ b := by simpa using h
          have hlb : lt l b = true := by
            cases h5 : lt l b
            · exact absurd (T.total h5 (h3 l (by simp) b (by simp))) hl
            · rfl
          rcases List.mem_append.1 ha with e | e
          · have h6 := (List.pairwise_append.1 h1).2.2 a e l (by simp)
            cases h7 : lt a l
            · rw [T.total h7 h6]; exact hlb
            · exact T.trans h7 hlb
          · have : a = l := by simpa using e
            rw [this]; exact hlb
      · simp only [h, if_false, List.append_nil]
        exact ih r (by simpa using hz) h1
theorem compact_canon (T : TO lt) {zs l : List α} (h : LE lt zs) (hm : ∀ x, x ∈ zs ↔ x ∈ l) : Lib.compact zs = canon lt l :=
  SS.eq_canon T (compact_ss T h) fun x => by rw [mem_compact, hm]
end
end

namespace Od
/-- Texts in order. -/
def ltS (a b : Str) : Bool := Op.bytesLess a b
theorem ltS_iff {a b : Str} : ltS a b = true ↔ a < b := by unfold ltS; rw [Go.Proofs.bytesLess_eq]; simp
theorem ltS_false {a b : Str} : ltS a b = false ↔ ¬ a < b := by rw [← ltS_iff]; simp
theorem toS : TO ltS where
  irrefl x := by rw [ltS_false]; exact List.lt_irrefl x
  trans h1 h2 := by rw [ltS_iff] at *; exact List.lt_trans h1 h2
  total h1 h2 := by
    rw [ltS_false] at h1 h2
    exact List.le_antisymm (List.not_lt.1 h2) (List.not_lt.1 h1)
/-- Pairs of texts in order. -/
def ltP (p q : Pr) : Bool := ltS p.1 q.1 || (p.1 == q.1 && ltS p.2 q.2)
theorem toP : TO ltP where
  irrefl x := by simp [ltP, toS.irrefl]
  trans {x y z} h1 h2 := by
    simp only [ltP, Bool.or_eq_true, Bool.and_eq_true, beq_iff_eq] at *
    rcases h1 with h1 | ⟨e1, h1⟩ <;> rcases h2 with h2 | ⟨e2, h2⟩
    · exact .inl (toS.trans h1 h2)
    · exact .inl (e2 ▸ h1)
    · exact .inl (e1 ▸ h2)
    · exact .inr ⟨e1.trans e2, toS.trans h1 h2⟩
  total {x y} h1 h2 := by
    simp only [ltP, Bool.or_eq_false_iff, Bool.and_eq_false_iff, beq_eq_false_iff_ne] at *
    have e1 := toS.total h1.1 h2.1
    rcases h1.2 with h | h
    · exact absurd e1 h
    · rcases h2.2 with h' | h'
      · exact absurd e1.symm h'
      · exact Prod.ext e1 (toS.total h h')
end Od
end Go.Proofs.YtanfnejbnmenkaaGreat
end

section
/- Plain mathematics: what one leads to by pairs, directly or through others. No program. -/
namespace Go.Proofs.YtanfnejbnmenkaaGreat

section
variable {α : Type} [DecidableEq α] {lt : α → α → Bool}
theorem insL_of_mem (T : TO lt) {x : α} : ∀ {l : List α}, SS lt l → x ∈ l → insL lt x l = l
  | y :: r, h, hx => by
    obtain ⟨hy, hr⟩ := List.pairwise_cons.1 h
    unfold insL
    rcases List.mem_cons.1 hx with e | e
    · subst e; rw [T.irrefl]; simp
    · rw [hy x e, if_pos rfl, insL_of_mem T hr e]
theorem insL_len (T : TO lt) {x : α} : ∀ {l : List α}, SS lt l → x ∉ l → (insL lt x l).length = l.length + 1
  | [], _, _ => rfl
  | y :: r, h, hx => by
    obtain ⟨hy, hr⟩ := List.pairwise_cons.1 h
    unfold insL
    split
    · simp [insL_len T hr (fun e => hx (.tail _ e))]
    · split
      · rename_i e; subst e; exact absurd (.head _) hx
      · simp
theorem SS.sublist_of_subset (T : TO lt) : ∀ {l l' : List α}, SS lt l → SS lt l' → (∀ x, x ∈ l → x ∈ l') → l.Sublist l'
  | [], _, _, _, _ => List.nil_sublist _
  | x :: r, [], _, _, h => absurd (h x (.head _)) (by simp)
  | x :: r, y :: r', h1, h2, h => by
    obtain ⟨hx, hr⟩ := List.pairwise_cons.1 h1
    obtain ⟨hy, hr'⟩ := List.pairwise_cons.1 h2
    by_cases e : x = y
    · subst e
      refine List.Sublist.cons_cons _ (SS.sublist_of_subset T hr hr' fun z hz => ?_)
      rcases List.mem_cons.1 (h z (.tail _ hz)) with e | e
      · subst e; have := hx z hz; rw [T.irrefl] at this; cases this
      · exact e
    · have hxr : x ∈ r' := by
        rcases List.mem_cons.1 (h x (.head _)) with e' | e'
        · exact absurd e' e
        · exact e'
      have hyx := hy x hxr
      refine List.Sublist.cons _ (SS.sublist_of_subset T h1 hr' fun z hz => ?_)
      rcases List.mem_cons.1 (h z hz) with e' | e'
      · subst e'
        rcases List.mem_cons.1 hz with e2 | e2
        · exact absurd e2.symm e
        · have := T.trans hyx (hx z e2); rw [T.irrefl] at this; cases this
      · exact e'
end

namespace Od
/-- One leads to another by pairs, directly or through others. -/
def R (l : List Pr) (a b : Str) : Prop := Relation.TransGen (fun x y => (x, y) ∈ l) a b
theorem R.one {l : List Pr} {a b : Str} (h : (a, b) ∈ l) : R l a b := .single h
theorem R.snoc {l : List Pr} {a b c : Str} (h : R l a b) (h' : (b, c) ∈ l) : R l a c := .tail h h'
theorem R.trans {l : List Pr} {a b c : Str} (h : R l a b) (h' : R l b c) : R l a c := by
  induction h' with
  | single h1 => exact .tail h h1
  | tail _ h2 ih => exact .tail ih h2
theorem R.mono {l l' : List Pr} (hs : ∀ p, p ∈ l → p ∈ l') {a b : Str} (h : R l a b) : R l' a b := by
  induction h with
  | single h1 => exact .single (hs _ h1)
  | tail _ h2 ih => exact .tail ih (hs _ h2)
theorem R.head {l : List Pr} {a c : Str} (h : R l a c) : ∃ b, (a, b) ∈ l ∧ (b = c ∨ R l b c) := by
  induction h with
  | single h1 => exact ⟨_, h1, .inl rfl⟩
  | tail h1 h2 ih =>
    obtain ⟨b, hb, e | e⟩ := ih
    · subst e; exact ⟨_, hb, .inr (.single h2)⟩
    · exact ⟨_, hb, .inr (e.snoc h2)⟩
theorem R.last {l : List Pr} {a c : Str} (h : R l a c) : ∃ b, (b, c) ∈ l ∧ (a = b ∨ R l a b) := by
  cases h with
  | single h1 => exact ⟨_, h1, .inl rfl⟩
  | tail h1 h2 => exact ⟨_, h2, .inr h1⟩

def Closed (l : List Pr) (a : Str) (S : List Str) : Prop := ∀ p, p ∈ l → (p.1 = a ∨ p.1 ∈ S) → p.2 ∈ S
theorem Closed.all {l : List Pr} {a b : Str} {S : List Str} (hc : Closed l a S) (h : R l a b) : b ∈ S := by
  induction h with
  | single h1 => exact hc _ h1 (.inl rfl)
  | tail _ h2 ih => exact hc _ h2 (.inr ih)

/-- A list that is what one leads to. -/
def Reached (l : List Pr) (a : Str) (S : List Str) : Prop := SS ltS S ∧ ∀ b, b ∈ S ↔ R l a b
theorem Reached.of {l : List Pr} {a : Str} {S : List Str} (h1 : SS ltS S) (h2 : ∀ b, b ∈ S → R l a b) (h3 : Closed l a S) : Reached l a S :=
  ⟨h1, fun b => ⟨h2 b, h3.all⟩⟩

def stepL (l : List Pr) (a : Str) (S : List Str) : List Str := l.foldl (fun S p => if p.1 = a ∨ p.1 ∈ S then insL ltS p.2 S else S) S
def iterL (l : List Pr) (a : Str) : Nat → List Str
  | 0 => []
  | n + 1 => stepL l a (iterL l a n)
def reachL (l : List Pr) (a : Str) : List Str := iterL l a (l.length + 1)

theorem step_fold (L : List Pr) (a : Str) : ∀ (l : List Pr) (S : List Str), (∀ p, p ∈ l → p ∈ L) → SS ltS S → (∀ b, b ∈ S → R L a b) →
    SS ltS (l.foldl (fun S p => if p.1 = a ∨ p.1 ∈ S then insL ltS p.2 S else S) S) ∧ (∀ b, b ∈ l.foldl (fun S p => if p.1 = a ∨ p.1 ∈ S then insL ltS p.2 S else S) S → R L a b) ∧
    S.length ≤ (l.foldl (fun S p => if p.1 = a ∨ p.1 ∈ S then insL ltS p.2 S else S) S).length ∧
    ((l.foldl (fun S p => if p.1 = a ∨ p.1 ∈ S then insL ltS p.2 S else S) S).length = S.length → l.foldl (fun S p => if p.1 = a ∨ p.1 ∈ S then insL ltS p.2 S else S) S = S ∧ ∀ p, p ∈ l → (p.1 = a ∨ p.1 ∈ S) → p.2 ∈ S)
  | [], S, _, h2, h3 => ⟨h2, h3, Nat.le_refl _, fun _ => ⟨rfl, by simp⟩⟩
  | p :: l, S, h1, h2, h3 => by
    rw [List.foldl_cons]
    by_cases hn : p.1 = a ∨ p.1 ∈ S
    · rw [if_pos hn]
      have hR : R L a p.2 := by
        rcases hn with e | e
        · exact .one (e ▸ h1 p (.head _))
        · exact (h3 _ e).snoc (h1 p (.head _))
      have hIns : ∀ b, b ∈ insL ltS p.2 S → R L a b := fun b hb => by
        rcases mem_insL.1 hb with e | e
        · exact e ▸ hR
        · exact h3 b e
      obtain ⟨i1, i2, i3, i4⟩ := step_fold L a l (insL ltS p.2 S) (fun q hq => h1 q (.tail _ hq)) (h2.insL toS) hIns
      by_cases hm : p.2 ∈ S
      · rw [insL_of_mem toS h2 hm] at *
        refine ⟨i1, i2, i3, fun e => ?_⟩
        obtain ⟨j1, j2⟩ := i4 e
        refine ⟨j1, fun q hq hq2 => ?_⟩
        rcases List.mem_cons.1 hq with e' | e'
        · rw [e']; exact hm
        · exact j2 q e' hq2
      · have hl := insL_len toS h2 hm
        exact ⟨i1, i2, by omega, fun e => by omega⟩
    · rw [if_neg hn]
      obtain ⟨i1, i2, i3, i4⟩ := step_fold L a l S (fun q hq => h1 q (.tail _ hq)) h2 h3
      refine ⟨i1, i2, i3, fun e => ?_⟩
      obtain ⟨j1, j2⟩ := i4 e
      refine ⟨j1, fun q hq hq2 => ?_⟩
      rcases List.mem_cons.1 hq with e' | e'
      · rw [e'] at hq2; exact absurd hq2 hn
      · exact j2 q e' hq2

theorem iter_ok (l : List Pr) (a : Str) : ∀ n, SS ltS (iterL l a n) ∧ (∀ b, b ∈ iterL l a n → R l a b) ∧ (Closed l a (iterL l a n) ∨ n ≤ (iterL l a n).length)
  | 0 => ⟨List.Pairwise.nil, by simp [iterL], .inr (Nat.zero_le _)⟩
  | n + 1 => by
    obtain ⟨h1, h2, h3⟩ := iter_ok l a n
    obtain ⟨i1, i2, i3, i4⟩ := step_fold l a l (iterL l a n) (fun _ h => h) h1 h2
    refine ⟨i1, i2, ?_⟩
    rcases Nat.lt_or_ge (iterL l a n).length (stepL l a (iterL l a n)).length with h | h
    · rcases h3 with h3 | h3
      · left
        intro p hp hn
        have hmem : ∀ b, b ∈ stepL l a (iterL l a n) → b ∈ iterL l a n := fun b hb => h3.all (i2 b hb)
        have h4 : (stepL l a (iterL l a n)).Sublist (iterL l a n) := SS.sublist_of_subset toS i1 h1 hmem
        have := h4.length_le
        omega
      · right
        show n + 1 ≤ (stepL l a (iterL l a n)).length
        omega
    · obtain ⟨j1, j2⟩ := i4 (Nat.le_antisymm h i3)
      left
      show Closed l a (stepL l a (iterL l a n))
      intro p hp hn
      rw [show stepL l a (iterL l a n) = iterL l a n from j1] at *
      exact j2 p hp hn
theorem R.in_snds {l : List Pr} {a b : Str} (h : R l a b) : b ∈ l.map Prod.snd := by
  obtain ⟨x, hx, _⟩ := h.last
  exact List.mem_map.2 ⟨_, hx, rfl⟩
theorem reached_len {l : List Pr} {a : Str} {S : List Str} (h1 : SS ltS S) (h2 : ∀ b, b ∈ S → R l a b) : S.length ≤ l.length := by
  have h3 : S.Sublist (canon ltS (l.map Prod.snd)) := SS.sublist_of_subset toS h1 (canon_ss toS _) fun b hb => (mem_canon toS).2 (h2 b hb).in_snds
  have := h3.length_le
  have := canon_len (lt := ltS) (l.map Prod.snd)
  simp at this
  omega
theorem reachL_ok (l : List Pr) (a : Str) : Reached l a (reachL l a) := by
  obtain ⟨h1, h2, h3⟩ := iter_ok l a (l.length + 1)
  refine Reached.of h1 h2 ?_
  rcases h3 with h3 | h3
  · exact h3
  · have := reached_len h1 h2
    omega
theorem mem_reachL {l : List Pr} {a b : Str} : b ∈ reachL l a ↔ R l a b := (reachL_ok l a).2 b
theorem Reached.eq {l : List Pr} {a : Str} {S : List Str} (h : Reached l a S) : S = reachL l a :=
  SS.unique toS h.1 (reachL_ok l a).1 fun b => by rw [h.2, mem_reachL]
theorem Reached.same {l l' : List Pr} {a : Str} (hs : ∀ p, p ∈ l ↔ p ∈ l') : reachL l a = reachL l' a :=
  SS.unique toS (reachL_ok l a).1 (reachL_ok l' a).1 fun b => by
    rw [mem_reachL, mem_reachL]
    exact ⟨R.mono fun p hp => (hs p).1 hp, R.mono fun p hp => (hs p).2 hp⟩
end Od
end Go.Proofs.YtanfnejbnmenkaaGreat
end

section
/- Plain mathematics of chapter 16: pairs, what stays, what is straight. No program. -/
namespace Go.Proofs.YtanfnejbnmenkaaGreat
namespace Od
/-- The pair that an edge says: the first one ahead of the second one. -/
def pairE (e : Ed) : Option Pr := if e.2.2 = 8 then some (e.2.1, e.1) else if e.2.2 = 7 then some (e.1, e.2.1) else none
/-- All pairs, rising, each once. -/
def prsL (es : List Ed) : List Pr := canon ltP (es.filterMap pairE)
theorem mem_prsL {es : List Ed} {p : Pr} : p ∈ prsL es ↔ ∃ e ∈ es, pairE e = some p := by
  rw [prsL, mem_canon toP, List.mem_filterMap]
theorem prsL_ss (es : List Ed) : SS ltP (prsL es) := canon_ss toP _
theorem prsL_len (es : List Ed) : (prsL es).length ≤ es.length := Nat.le_trans (canon_len _) (List.length_filterMap_le _ _)
def hasE (es : List Ed) (a b : Str) (r : Int) : Bool := es.any (· == (a, b, r))
theorem hasE_iff {es : List Ed} {a b : Str} {r : Int} : hasE es a b r = true ↔ (a, b, r) ∈ es := by simp [hasE]
def needsB (es : List Ed) (p : Pr) : Bool := hasE es p.2 p.1 1 || hasE es p.2 p.1 4

def Acyclic (l : List Pr) : Prop := ∀ a, ¬ R l a a
theorem Acyclic.mono {l l' : List Pr} (h : Acyclic l') (hs : ∀ p, p ∈ l → p ∈ l') : Acyclic l := fun a ha => h a (ha.mono hs)
theorem R_app {l : List Pr} {p : Pr} {a b : Str} (h : R (l ++ [p]) a b) : R l a b ∨ ((a = p.1 ∨ R l a p.1) ∧ (b = p.2 ∨ R l p.2 b)) := by
  induction h with
  | single h1 =>
    rcases List.mem_append.1 h1 with h | h
    · exact .inl (.one h)
    · have : p = _ := (List.mem_singleton.1 h).symm
      subst this
      exact .inr ⟨.inl rfl, .inl rfl⟩
  | tail h1 h2 ih =>
    rcases List.mem_append.1 h2 with h | h
    · rcases ih with ih | ⟨ih1, ih2⟩
      · exact .inl (ih.snoc h)
      · refine .inr ⟨ih1, .inr ?_⟩
        rcases ih2 with e | e
        · subst e; exact .one h
        · exact e.snoc h
    · have : p = _ := (List.mem_singleton.1 h).symm
      subst this
      rcases ih with ih | ⟨ih1, _⟩
      · exact .inr ⟨.inr ih, .inl rfl⟩
      · exact .inr ⟨ih1, .inl rfl⟩
theorem Acyclic.app {l : List Pr} {p : Pr} (h : Acyclic l) (hne : p.1 ≠ p.2) (hr : ¬ R l p.2 p.1) : Acyclic (l ++ [p]) := fun a ha => by
  rcases R_app ha with h1 | ⟨h1, h2⟩
  · exact h a h1
  · rcases h1 with e1 | e1 <;> rcases h2 with e2 | e2
    · exact hne (e1.symm.trans e2)
    · subst e1; exact hr e2
    · subst e2; exact hr e1
    · exact hr (e2.trans e1)

def keepB (es : List Ed) (first : Bool) (acc : List Pr) (p : Pr) : Bool := needsB es p == first && (!(p.1 == p.2) && !(decide (p.1 ∈ reachL acc p.2)))
theorem keepB_iff {es : List Ed} {first : Bool} {acc : List Pr} {p : Pr} : keepB es first acc p = true ↔ needsB es p = first ∧ p.1 ≠ p.2 ∧ ¬ R acc p.2 p.1 := by
  simp [keepB, mem_reachL]
def phase (es : List Ed) (first : Bool) (acc l : List Pr) : List Pr := l.foldl (fun acc p => if keepB es first acc p = true then acc ++ [p] else acc) acc
theorem phase_cons (es : List Ed) (first : Bool) (acc l : List Pr) (p : Pr) : phase es first acc (p :: l) = phase es first (if keepB es first acc p = true then acc ++ [p] else acc) l := rfl
theorem phase_app (es : List Ed) (first : Bool) (acc l : List Pr) (p : Pr) : phase es first acc (l ++ [p]) = if keepB es first (phase es first acc l) p = true then phase es first acc l ++ [p] else phase es first acc l := by
  unfold phase; rw [List.foldl_append]; rfl
theorem phase_ok (es : List Ed) (first : Bool) : ∀ (l acc : List Pr), Acyclic acc →
    Acyclic (phase es first acc l) ∧ (∀ p, p ∈ acc → p ∈ phase es first acc l) ∧ (∀ p, p ∈ phase es first acc l → p ∈ acc ∨ (p ∈ l ∧ needsB es p = first)) ∧
    (∀ p, p ∈ l → needsB es p = first → p ∈ phase es first acc l ∨ p.1 = p.2 ∨ R (phase es first acc l) p.2 p.1)
  | [], acc, h => ⟨h, fun _ h => h, fun _ h => .inl h, by simp⟩
  | p :: l, acc, h => by
    rw [phase_cons]
    by_cases hk : keepB es first acc p = true
    · rw [if_pos hk]
      obtain ⟨h1, h2, h3⟩ := keepB_iff.1 hk
      obtain ⟨i1, i2, i3, i4⟩ := phase_ok es first l (acc ++ [p]) (h.app h2 h3)
      refine ⟨i1, fun q hq => i2 q (List.mem_append_left _ hq), fun q hq => ?_, fun q hq hn => ?_⟩
      · rcases i3 q hq with e | ⟨e1, e2⟩
        · rcases List.mem_append.1 e with e | e
          · exact .inl e
          · rw [List.mem_singleton.1 e]; exact .inr ⟨.head _, h1⟩
        · exact .inr ⟨.tail _ e1, e2⟩
      · rcases List.mem_cons.1 hq with e | e
        · subst e; exact .inl (i2 _ (List.mem_append_right _ (.head _)))
        · exact i4 q e hn
    · rw [if_neg hk]
      obtain ⟨i1, i2, i3, i4⟩ := phase_ok es first l acc h
      refine ⟨i1, i2, fun q hq => ?_, fun q hq hn => ?_⟩
      · rcases i3 q hq with e | ⟨e1, e2⟩
        · exact .inl e
        · exact .inr ⟨.tail _ e1, e2⟩
      · rcases List.mem_cons.1 hq with e | e
        · subst e
          by_cases h2 : q.1 = q.2
          · exact .inr (.inl h2)
          · by_cases h3 : R acc q.2 q.1
            · exact .inr (.inr (h3.mono i2))
            · exact absurd (keepB_iff.2 ⟨hn, h2, h3⟩) hk
        · exact i4 q e hn
/-- The pairs that stay, as they were put. -/
def keptL (es : List Ed) : List Pr := phase es false (phase es true [] (prsL es)) (prsL es)
theorem acyclic_nil : Acyclic [] := fun a ha => by obtain ⟨b, hb, _⟩ := ha.head; simp at hb
theorem kept_acyclic (es : List Ed) : Acyclic (keptL es) := (phase_ok es false _ _ (phase_ok es true (prsL es) [] acyclic_nil).1).1
theorem kept_sub {es : List Ed} {p : Pr} (h : p ∈ keptL es) : p ∈ prsL es := by
  rcases (phase_ok es false (prsL es) _ (phase_ok es true (prsL es) [] acyclic_nil).1).2.2.1 p h with e | e
  · rcases (phase_ok es true (prsL es) [] acyclic_nil).2.2.1 p e with e | e
    · simp at e
    · exact e.1
  · exact e.1
theorem kept_or {es : List Ed} {p : Pr} (h : p ∈ prsL es) : p ∈ keptL es ∨ p.1 = p.2 ∨ R (keptL es) p.2 p.1 := by
  have h1 := phase_ok es true (prsL es) [] acyclic_nil
  have h2 := phase_ok es false (prsL es) _ h1.1
  cases hn : needsB es p
  · exact h2.2.2.2 p h hn
  · rcases h1.2.2.2 p h hn with e | e | e
    · exact .inl (h2.2.1 p e)
    · exact .inr (.inl e)
    · exact .inr (.inr (e.mono h2.2.1))
/-- What never goes round stays whole. -/
theorem kept_all {es : List Ed} (h : Acyclic (prsL es)) {p : Pr} (hp : p ∈ prsL es) : p ∈ keptL es := by
  rcases kept_or hp with e | e | e
  · exact e
  · exact absurd (R.one (show (p.1, p.1) ∈ prsL es from by rw (config := { occs := .pos [2] }) [e]; exact hp)) (h p.1)
  · exact absurd ((R.one (show (p.1, p.2) ∈ prsL es from hp)).trans (e.mono fun _ => kept_sub)) (h p.1)
/-- Needs that alone never go round stay. -/
theorem kept_needs {es : List Ed} (h : Acyclic ((prsL es).filter (needsB es))) {p : Pr} (hp : p ∈ prsL es) (hn : needsB es p = true) : p ∈ keptL es := by
  have h1 := phase_ok es true (prsL es) [] acyclic_nil
  have h2 := phase_ok es false (prsL es) _ h1.1
  have hsub : ∀ q, q ∈ phase es true [] (prsL es) → q ∈ (prsL es).filter (needsB es) := fun q hq => by
    rcases h1.2.2.1 q hq with e | ⟨e1, e2⟩
    · simp at e
    · exact List.mem_filter.2 ⟨e1, e2⟩
  have hpf : (p.1, p.2) ∈ (prsL es).filter (needsB es) := List.mem_filter.2 ⟨hp, hn⟩
  rcases h1.2.2.2 p hp hn with e | e | e
  · exact h2.2.1 p e
  · exact absurd (R.one (show (p.1, p.1) ∈ _ from by rw (config := { occs := .pos [2] }) [e]; exact hpf)) (h p.1)
  · exact absurd ((R.one hpf).trans (e.mono hsub)) (h p.1)

/-- Does an edge stay? -/
def stays (es : List Ed) (e : Ed) : Bool := match pairE e with | none => true | some p => decide (p ∈ keptL es)
def straight (es : List Ed) : List Ed := es.filter (stays es)
def gone (es : List Ed) : List Ed := es.filter (fun e => !stays es e)
theorem mem_prs_straight {es : List Ed} {p : Pr} : p ∈ prsL (straight es) ↔ p ∈ keptL es := by
  rw [mem_prsL]
  constructor
  · rintro ⟨e, he, hp⟩
    have := (List.mem_filter.1 he).2
    unfold stays at this
    rw [hp] at this
    simpa using this
  · intro h
    obtain ⟨e, he, hp⟩ := mem_prsL.1 (kept_sub h)
    exact ⟨e, List.mem_filter.2 ⟨he, by unfold stays; rw [hp]; simpa using h⟩, hp⟩
theorem straight_acyclic (es : List Ed) : Acyclic (prsL (straight es)) := (kept_acyclic es).mono fun _ => mem_prs_straight.1
theorem kept_straight {es : List Ed} {p : Pr} : p ∈ keptL (straight es) ↔ p ∈ keptL es :=
  ⟨fun h => mem_prs_straight.1 (kept_sub h), fun h => kept_all (straight_acyclic es) (mem_prs_straight.2 h)⟩
theorem straight_of_acyclic {es : List Ed} (h : Acyclic (prsL es)) : straight es = es := by
  refine List.filter_eq_self.2 fun e he => ?_
  unfold stays
  cases hp : pairE e with
  | none => rfl
  | some p => simpa using kept_all h (mem_prsL.2 ⟨e, he, hp⟩)
theorem straight_twice (es : List Ed) : straight (straight es) = straight es := straight_of_acyclic (straight_acyclic es)
theorem gone_straight (es : List Ed) : gone (straight es) = [] := by
  have h := straight_twice es
  rw [gone, List.filter_eq_nil_iff]
  intro e he
  have := List.filter_eq_self.1 h e he
  simp [this]
theorem stay_gone_len (es : List Ed) : (straight es).length + (gone es).length = es.length := by
  unfold straight gone
  generalize stays es = f
  induction es with
  | nil => rfl
  | cons e l ih => cases h : f e <;> simp [h] <;> omega
/-- Does nothing go round? -/
def isB (es : List Ed) : Bool := !(prsL es).any (fun p => p.1 == p.2 || decide (p.1 ∈ reachL (prsL es) p.2))
theorem isB_iff {es : List Ed} : isB es = true ↔ Acyclic (prsL es) := by
  unfold isB
  rw [Bool.not_eq_true', List.any_eq_false]
  simp only [Bool.or_eq_true, beq_iff_eq, decide_eq_true_eq, mem_reachL, not_or]
  constructor
  · intro h a ha
    obtain ⟨b, hb, e | e⟩ := ha.head
    · exact (h _ hb).1 e.symm
    · exact (h _ hb).2 e
  · intro h p hp
    refine ⟨fun e => h p.1 (.one (by rw (config := { occs := .pos [2] }) [e]; exact hp)), fun e => h p.1 ((R.one hp).trans e)⟩
end Od
end Go.Proofs.YtanfnejbnmenkaaGreat
end

section
/- Texts sorted, each once; slices.Contains, IndexFunc and ContainsFunc at texts; rows that rise. -/
namespace Go.Proofs.YtanfnejbnmenkaaGreat
open Go.RowKit Go.Maps Go.Sort

namespace Od
theorem sortS_le (ss : List Str) : LE ltS (sortS ss) := by
  have h := List.pairwise_mergeSort (le := fun x y : Str => decide (x ≤ y)) (fun a b c h1 h2 => by
    simp only [decide_eq_true_eq] at *
    exact List.le_trans h1 h2) (fun a b => by
    simp only [Bool.or_eq_true, decide_eq_true_eq]
    exact List.le_total a b) ss
  refine h.imp fun {a b} hab => ?_
  rw [ltS_false]
  exact List.not_lt.2 (by simpa using hab)
theorem mem_sortS {ss : List Str} {s : Str} : s ∈ sortS ss ↔ s ∈ ss := (List.mergeSort_perm _ _).mem_iff
theorem le_nodup_ss : ∀ {ss : List Str}, LE ltS ss → ss.Nodup → SS ltS ss
  | [], _, _ => List.Pairwise.nil
  | x :: r, h1, h2 => by
    obtain ⟨hx, hr⟩ := List.pairwise_cons.1 h1
    obtain ⟨hx2, hr2⟩ := List.nodup_cons.1 h2
    refine List.pairwise_cons.2 ⟨fun y hy => ?_, le_nodup_ss hr hr2⟩
    cases h : ltS x y
    · exact absurd (toS.total h (hx y hy)) (fun e => hx2 (e ▸ hy))
    · rfl
theorem sortS_ss {ss : List Str} (h : ss.Nodup) : SS ltS (sortS ss) := le_nodup_ss (sortS_le ss) ((List.mergeSort_perm _ _).nodup_iff.2 h)
theorem onceS_ss (ss : List Str) : SS ltS (onceS ss) := compact_ss toS (sortS_le ss)
theorem mem_onceS {ss : List Str} {s : Str} : s ∈ onceS ss ↔ s ∈ ss := by unfold onceS; rw [mem_compact, mem_sortS]
theorem onceS_canon (ss : List Str) : onceS ss = canon ltS ss := SS.eq_canon toS (onceS_ss ss) fun _ => mem_onceS
theorem idxOf_zs (ss : List Str) (x : Str) : Lib.containsS (ss.map fun s => (⟨s.toArray⟩ : ByteArray)) ⟨x.toArray⟩ = decide (x ∈ ss) := by
  rw [Bool.eq_iff_iff, Lib.containsS_iff, decide_eq_true_eq, List.mem_map]
  constructor
  · rintro ⟨a, ha, e⟩
    injection e with e
    have : a = x := by simpa using e
    exact this ▸ ha
  · intro h
    exact ⟨x, h, rfl⟩
theorem containsS_rd (A : Option Addr) (c : Nat) (ss : List Str) (x : Str) (w : World) (hr : Rd w w.heap.size 1 A ss.length (svs ss)) (hl : ss.length ≤ 1000000) :
    Calls Tryz.prog 52 #[.slice A ss.length c, sv x] w fun e w' => e = .returned (.bool (decide (x ∈ ss))) ∧ w' = w := by
  rcases Nat.eq_zero_or_pos ss.length with h0 | h0
  · have hn := List.length_eq_zero_iff.1 h0
    subst hn
    refine (Tryz.slices_Contains_string_empty A c _ w).mono ?_
    rintro e w' ⟨rfl, rfl⟩
    exact ⟨by simp, rfl⟩
  · obtain ⟨b, o, rfl, hb, hc⟩ := hr.open h0
    refine (Tryz.slices_Contains_string b o ss.length c (ss.map fun s => ⟨s.toArray⟩) ⟨x.toArray⟩ w (by simp) (by omega) (fun j hj => ?_)).mono ?_
    · have hj' : j < ss.length := by simpa using hj
      rw [hc j (by omega)]
      simp [svs, hj']
    · rintro e w' ⟨rfl, rfl⟩
      exact ⟨by rw [List.take_of_length_le (by simp), idxOf_zs], rfl⟩
theorem mem_outS {es : List Ed} {u s : Str} {rel : Int} : s ∈ outS es u rel ↔ (u, s, rel) ∈ es := by
  unfold outS outRaw
  rw [mem_onceS, List.mem_map]
  constructor
  · rintro ⟨⟨a, b, c⟩, h, rfl⟩
    obtain ⟨h1, h2⟩ := List.mem_filter.1 h
    have : a = u ∧ c = rel := by simpa [outP] using h2
    rw [← this.1, ← this.2]
    exact h1
  · intro h
    exact ⟨_, List.mem_filter.2 ⟨h, by simp [outP]⟩, rfl⟩
theorem hasE_out (es : List Ed) (u s : Str) (rel : Int) : decide (s ∈ outS es u rel) = hasE es u s rel := by
  rw [Bool.eq_iff_iff, decide_eq_true_eq, mem_outS, hasE_iff]

/-- A function value that says of a text whether p, whatever has been made since. -/
structure SaysS (g : Nat) (caps : Array Value) (p : Str → Bool) (w : World) : Prop where
  enters : ∀ (args : Array Value) (W : World), (callFunc g args).run Tryz.prog W = .ok (.enter g args) W
  says : ∀ (W : World) (s : Str), Below w.heap.size w W → Calls Tryz.prog g (#[sv s] ++ caps) W fun e w' => e = .returned (.bool (p s)) ∧ Below W.heap.size W w'
set_option maxRecDepth 100000 in
set_option maxHeartbeats 1000000 in
theorem IndexFuncS (A : Option Addr) (c : Nat) (ss : List Str) (g : Nat) (caps : Array Value) (p : Str → Bool) (w : World) (hr : Rd w w.heap.size 1 A ss.length (svs ss)) (hl : ss.length ≤ 1000000) (hp : SaysS g caps p w) :
    Calls Tryz.prog 106 #[.slice A ss.length c, .func (.func g) #[] caps] w (FindIdx ss p w) := by
  have Hr := Lib.hid hr
  have Hp := Lib.hid hp
  have eg := hp.enters
  clear hr hp
  go_enter Tryz.func106, Tryz.ntmps106
  go_wp2_with fail
  go_loopw [8] (fun i wr => ∃ k : Nat, k ≤ ss.length ∧ i = .int .i64 k ∧ Hid ((ss.take k).any p = false) ∧ Below w.heap.size w wr) (fun i _ => ss.length - (intOf i).toNat)
  case atStart => exact ⟨0, Nat.zero_le _, rfl, by simp [Hid], Below.refl _ _⟩
  case round =>
    obtain ⟨k, hk, rfl, hall, hbel⟩ := hrel
    by_cases hlt : k < ss.length
    · obtain ⟨b, o, rfl, hB, hc0⟩ := (Hr.out.on (Nat.le_refl _) hbel).str hlt
      have Hbel := Lib.hid hbel
      clear hbel
      generalize hx : ss[k] = x at hc0
      have Hx := Lib.hid hx
      clear hx
      have hcall := Hp.out.says wr x Hbel.out
      have Hcall := Lib.hid hcall
      clear hcall
      go_wp2_with fail
      refine Hcall.out.mono ?_
      rintro e w2 ⟨rfl, hb2⟩
      have Hb2 := Lib.hid (Hbel.out.trans (hb2.mono Hbel.out.size))
      clear hb2
      cases hpx : p x
      · have Hpx := Lib.hid hpx
        go_wp2_with fail
        go_roundw
        case rel => exact ⟨k + 1, by omega, by go_num, by show _ = false; rw [any_take_succ hlt, hall.out, Hx.out, Hpx.out]; rfl, Hb2.out⟩
        case measure => simp [intOf]; omega
      · have Hpx := Lib.hid hpx
        go_wp2_with fail
        go_ret
        exact ⟨k, rfl, .inr ⟨k, hlt, rfl, find_at hlt hall.out (by rw [Hx.out]; exact Hpx.out), by rw [Hx.out]; exact Hpx.out, fun j hj => take_any_at hk hall.out hj⟩, Hb2.out⟩
    · have ha := hall.out
      rw [List.take_of_length_le (by omega)] at ha
      have Ha := Lib.hid ha
      clear ha
      go_wp2_with fail
      go_ret
      exact ⟨-1, rfl, .inl ⟨rfl, find_none_take Ha.out⟩, hbel⟩
set_option maxHeartbeats 1000000 in
theorem ContainsFuncS (A : Option Addr) (c : Nat) (ss : List Str) (g : Nat) (caps : Array Value) (p : Str → Bool) (w : World) (hr : Rd w w.heap.size 1 A ss.length (svs ss)) (hl : ss.length ≤ 1000000) (hp : SaysS g caps p w) :
    Calls Tryz.prog 86 #[.slice A ss.length c, .func (.func g) #[] caps] w fun e w' => e = .returned (.bool (ss.any p)) ∧ Below w.heap.size w w' := by
  go_enter Tryz.func86, Tryz.ntmps86
  go_wp2_with fail
  refine (IndexFuncS A c ss g caps p w hr hl hp).mono ?_
  rintro e w2 ⟨r, rfl, hcase, hb⟩
  have hiff : decide ((0 : Int) ≤ r) = ss.any p := by
    rcases hcase with ⟨rfl, h⟩ | ⟨k, hk, rfl, _, h, _⟩
    · rw [Bool.eq_iff_iff]
      constructor
      · intro h; simp at h
      · intro h2; obtain ⟨x, hx, hpx⟩ := List.any_eq_true.1 h2; rw [List.find?_eq_none] at h; exact absurd hpx (h x hx)
    · rw [any_of_at hk h]; simp
  have Hiff := Lib.hid hiff
  clear hiff hcase
  go_wp2_with fail
  go_ret
  exact ⟨ret_bool Hiff.out, hb⟩
theorem up_pw {α : Type} {c : α → α → Int} (ht : ∀ x y z, c x y < 0 → c y z < 0 → c x z < 0) : ∀ {l : List α}, risesB c l = true → l.Pairwise (fun x y => c x y < 0)
  | [], _ => .nil
  | [x], _ => List.pairwise_singleton _ _
  | x :: y :: r, h => by
    unfold risesB at h
    rw [Bool.and_eq_true, decide_eq_true_eq] at h
    have ih := up_pw ht h.2
    refine List.pairwise_cons.2 ⟨fun z hz => ?_, ih⟩
    rcases List.mem_cons.1 hz with e | e
    · rw [e]; exact h.1
    · exact ht _ _ _ h.1 ((List.pairwise_cons.1 ih).1 z e)
theorem pw_up {α : Type} {c : α → α → Int} : ∀ {l : List α}, l.Pairwise (fun x y => c x y < 0) → risesB c l = true
  | [], _ => rfl
  | [x], _ => rfl
  | x :: y :: r, h => by
    unfold risesB
    obtain ⟨h1, h2⟩ := List.pairwise_cons.1 h
    rw [Bool.and_eq_true, decide_eq_true_eq]
    exact ⟨h1 y (.head _), pw_up h2⟩
theorem aheadB_prs {es : List Ed} {a b : Str} : es.any (aheadB a b) = true ↔ (a, b) ∈ prsL es := by
  rw [List.any_eq_true, mem_prsL]
  have hp : ∀ e : Ed, pairOf e = pairE e := fun e => rfl
  simp only [aheadB, hp, beq_iff_eq]
theorem lessS_lt (a b : Str) : lessS a b = ltS a b := rfl
end Od
end Go.Proofs.YtanfnejbnmenkaaGreat
end

section
/- What a queue's functions answer, as lists, and what is true of it. No program. -/
namespace Go.Proofs.YtanfnejbnmenkaaGreat
set_option linter.unusedSimpArgs false
namespace Od
/-- Does a come directly ahead of b? -/
def Ah (es : List Ed) (a b : Str) : Bool := es.any (aheadB a b)
theorem Ah_prs {es : List Ed} {a b : Str} : Ah es a b = true ↔ (a, b) ∈ prsL es := aheadB_prs
theorem Ah_self {es : List Ed} (h : isB es = true) (a : Str) : Ah es a a = false := by
  cases hh : Ah es a a
  · rfl
  · exact absurd (R.one (Ah_prs.1 hh)) (isB_iff.1 h a)
theorem Ah_not {es : List Ed} (h : isB es = true) {a b : Str} (hab : Ah es a b = true) : Ah es b a = false := by
  cases hh : Ah es b a
  · rfl
  · exact absurd ((R.one (Ah_prs.1 hab)).snoc (Ah_prs.1 hh)) (isB_iff.1 h a)
/-! What a queue may be -/
def stB (j : Jb) : Bool := if j.2.2.1 = 1 ∨ j.2.2.1 = 2 then j.2.2.2 == 0 else if j.2.2.1 = 3 then decide (1 ≤ j.2.2.2) && decide (j.2.2.2 ≤ 4) else false
def mayJ (j : Jb) : Bool := kindS j.1 != 0 && (!decide (j.2.1 < 1) && (!decide (4 < j.2.1) && stB j))
def jobCmp (a b : Jb) : Int := cmpS a.1 b.1
def mayQ (q : List Jb) : Bool := decide ((q.length : Int) ≤ 64) && (q.all mayJ && risesB jobCmp q)
def upQ (q : List Jb) : Prop := q.Pairwise (fun a b => ltS a.1 b.1 = true)
theorem cmpS_lt {a b : Str} : cmpS a b < 0 ↔ ltS a b = true := by
  unfold cmpS
  rw [lessS_lt]
  split
  · simp_all
  · split <;> simp_all
theorem upQ_iff {q : List Jb} : risesB jobCmp q = true ↔ upQ q := by
  constructor
  · intro h
    exact (up_pw (c := jobCmp) (fun x y z h1 h2 => cmpS_lt.2 (toS.trans (cmpS_lt.1 h1) (cmpS_lt.1 h2))) h).imp fun {a b} h => cmpS_lt.1 h
  · intro h
    exact pw_up (h.imp fun {a b} h => cmpS_lt.2 h)
theorem mayQ_iff {q : List Jb} : mayQ q = true ↔ q.length ≤ 64 ∧ (∀ j ∈ q, mayJ j = true) ∧ upQ q := by
  unfold mayQ
  rw [Bool.and_eq_true, Bool.and_eq_true, decide_eq_true_eq, List.all_eq_true, upQ_iff]
  constructor
  · rintro ⟨h1, h2⟩; exact ⟨by omega, h2⟩
  · rintro ⟨h1, h2⟩; exact ⟨by omega, h2⟩
theorem mayQ_nil : mayQ [] = true := mayQ_iff.2 ⟨by simp, by simp, .nil⟩
theorem upQ_map {q : List Jb} : upQ q ↔ (q.map (·.1)).Pairwise (fun a b => ltS a b = true) := (List.pairwise_map (f := fun x : Jb => x.1) (R := fun a b => ltS a b = true)).symm
/-- Each unit once. -/
def DQ (q : List Jb) : Prop := (q.map (·.1)).Nodup
theorem upQ.dq {q : List Jb} (h : upQ q) : DQ q := by
  show (q.map (·.1)).Pairwise (· ≠ ·)
  exact (upQ_map.1 h).imp fun {a b} hab e => by rw [e, toS.irrefl] at hab; cases hab
theorem mayQ.dq {q : List Jb} (h : mayQ q = true) : DQ q := (mayQ_iff.1 h).2.2.dq
theorem DQ.eq : ∀ {q : List Jb}, DQ q → ∀ {x y : Jb}, x ∈ q → y ∈ q → x.1 = y.1 → x = y
  | [], _, x, y, hx, _, _ => by cases hx
  | j :: r, h, x, y, hx, hy, he => by
    have h' : (j.1 :: r.map (·.1)).Nodup := h
    obtain ⟨h1, h2⟩ := List.nodup_cons.1 h'
    rcases List.mem_cons.1 hx with ex | hx'
    · rcases List.mem_cons.1 hy with ey | hy'
      · rw [ex, ey]
      · exact absurd (List.mem_map.2 ⟨y, hy', by rw [← he, ex]⟩) h1
    · rcases List.mem_cons.1 hy with ey | hy'
      · exact absurd (List.mem_map.2 ⟨x, hx', by rw [he, ey]⟩) h1
      · exact DQ.eq h2 hx' hy' he
theorem DQ.of_units {q q' : List Jb} (h : DQ q) (e : q'.map (·.1) = q.map (·.1)) : DQ q' := by unfold DQ; rw [e]; exact h
theorem upQ.of_units {q q' : List Jb} (h : upQ q) (e : q'.map (·.1) = q.map (·.1)) : upQ q' := by rw [upQ_map, e]; exact upQ_map.1 h
/-! Where a unit's job is -/
def jobOf (q : List Jb) (u : Str) : Option Jb := q.find? (fun j => j.1 == u)
theorem jobOf_mem {q : List Jb} {u : Str} {j : Jb} (h : jobOf q u = some j) : j ∈ q ∧ j.1 = u := ⟨List.mem_of_find?_eq_some h, by have := List.find?_some h; simpa using this⟩
theorem jobOf_of {q : List Jb} (hd : DQ q) {j : Jb} (hj : j ∈ q) : jobOf q j.1 = some j := by
  cases h : jobOf q j.1 with
  | none => have := List.find?_eq_none.1 h j hj; simp at this
  | some k => obtain ⟨h1, h2⟩ := jobOf_mem h; rw [hd.eq h1 hj h2]
theorem jobOf_none {q : List Jb} {u : Str} : jobOf q u = none ↔ ∀ j ∈ q, j.1 ≠ u := by unfold jobOf; simp [List.find?_eq_none]
theorem jobOf_iff {q : List Jb} (hd : DQ q) {u : Str} {j : Jb} : jobOf q u = some j ↔ j ∈ q ∧ j.1 = u :=
  ⟨jobOf_mem, fun ⟨h1, h2⟩ => h2 ▸ jobOf_of hd h1⟩
def updJ (q : List Jb) (u : Str) (f : Jb → Jb) : List Jb := q.map (fun x => if x.1 = u then f x else x)
theorem updJ_len (q : List Jb) (u : Str) (f : Jb → Jb) : (updJ q u f).length = q.length := by simp [updJ]
theorem mem_updJ {q : List Jb} {u : Str} {f : Jb → Jb} {y : Jb} : y ∈ updJ q u f ↔ ∃ x ∈ q, y = if x.1 = u then f x else x := by
  unfold updJ; rw [List.mem_map]
  constructor
  · rintro ⟨x, h1, h2⟩; exact ⟨x, h1, h2.symm⟩
  · rintro ⟨x, h1, h2⟩; exact ⟨x, h1, h2.symm⟩
theorem updJ_units {q : List Jb} {u : Str} {f : Jb → Jb} (h : ∀ x ∈ q, x.1 = u → (f x).1 = u) : (updJ q u f).map (·.1) = q.map (·.1) := by
  unfold updJ
  rw [List.map_map]
  apply List.map_congr_left
  intro x hx
  simp only [Function.comp]
  split
  · rename_i e; rw [h x hx e, e]
  · rfl
theorem updJ_congr {q : List Jb} {u : Str} {f g : Jb → Jb} (h : ∀ x ∈ q, x.1 = u → f x = g x) : updJ q u f = updJ q u g := by
  unfold updJ
  apply List.map_congr_left
  intro x hx
  split
  · rename_i e; exact h x hx e
  · rfl
theorem updJ_none {q : List Jb} {u : Str} {f : Jb → Jb} (h : ∀ x ∈ q, x.1 ≠ u) : updJ q u f = q := by
  unfold updJ
  rw [List.map_congr_left (g := id) (fun x hx => by rw [if_neg (h x hx)]; rfl), List.map_id]
theorem updJ_comm {q : List Jb} {a b : Str} {f g : Jb → Jb} (hab : a ≠ b) (hf : ∀ x, (f x).1 = x.1) (hg : ∀ x, (g x).1 = x.1) : updJ (updJ q a f) b g = updJ (updJ q b g) a f := by
  unfold updJ
  rw [List.map_map, List.map_map]
  apply List.map_congr_left
  intro x _
  simp only [Function.comp]
  by_cases h1 : x.1 = a
  · have h2 : ¬ x.1 = b := by rw [h1]; exact hab
    have h3 : ¬ (f x).1 = b := by rw [hf]; exact h2
    rw [if_pos h1, if_neg h3, if_neg h2, if_pos h1]
  · rw [if_neg h1]
    by_cases h2 : x.1 = b
    · have h3 : ¬ (g x).1 = a := by rw [hg]; exact h1
      rw [if_pos h2, if_neg h3]
    · rw [if_neg h2, if_neg h1]
theorem set_upd {q : List Jb} (hd : DQ q) {k : Nat} (hk : k < q.length) (x : Jb) : q.set k x = updJ q q[k].1 (fun _ => x) := by
  apply List.ext_getElem (by simp [updJ])
  intro i h1 h2
  have hi : i < q.length := by simpa using h1
  simp only [List.getElem_set, updJ, List.getElem_map]
  by_cases e : k = i
  · subst e; simp
  · rw [if_neg e, if_neg]
    intro e2
    have hp := List.pairwise_iff_getElem.1 (show (q.map (·.1)).Pairwise (· ≠ ·) from hd)
    rcases Nat.lt_or_gt_of_ne e with h | h
    · exact hp k i (by simpa using hk) (by simpa using hi) h (by simp [e2])
    · exact hp i k (by simpa using hi) (by simpa using hk) h (by simp [e2])
theorem jobOf_upd_ne {q : List Jb} {u v : Str} {f : Jb → Jb} (hf : ∀ x, x.1 = u → (f x).1 = u) (hne : v ≠ u) : jobOf (updJ q u f) v = jobOf q v := by
  unfold jobOf updJ
  induction q with
  | nil => rfl
  | cons x r ih =>
    simp only [List.map_cons, List.find?_cons]
    by_cases hx : x.1 = u
    · have h1 : ((f x).1 == v) = false := by rw [hf x hx]; simpa using Ne.symm hne
      have h2 : (x.1 == v) = false := by rw [hx]; simpa using Ne.symm hne
      rw [if_pos hx, h1, h2]
      exact ih
    · rw [if_neg hx]
      split
      · rfl
      · exact ih
theorem mayQ_upd {q : List Jb} {u : Str} {f : Jb → Jb} (h : mayQ q = true) (hf : ∀ x ∈ q, x.1 = u → mayJ (f x) = true ∧ (f x).1 = u) : mayQ (updJ q u f) = true := by
  obtain ⟨h1, h2, h3⟩ := mayQ_iff.1 h
  refine mayQ_iff.2 ⟨by rw [updJ_len]; exact h1, fun y hy => ?_, h3.of_units (updJ_units fun x hx e => (hf x hx e).2)⟩
  obtain ⟨x, hx, rfl⟩ := mem_updJ.1 hy
  split
  · rename_i e; exact (hf x hx e).1
  · exact h2 x hx
theorem mayQ_sub {q l : List Jb} (h : mayQ q = true) (hs : l.Sublist q) : mayQ l = true := by
  obtain ⟨h1, h2, h3⟩ := mayQ_iff.1 h
  exact mayQ_iff.2 ⟨Nat.le_trans hs.length_le h1, fun j hj => h2 j (hs.subset hj), List.Pairwise.sublist hs h3⟩
/-! Who goes ahead -/
def endsB (j : Jb) : Bool := j.2.1 == 2 || j.2.1 == 3
def openB (j : Jb) : Bool := j.2.2.1 != 3
def startsB (j : Jb) : Bool := j.2.1 == 1 || j.2.1 == 3
def aheadJ (es : List Ed) (x y : Jb) : Bool :=
  if x.2.2.1 = 3 ∨ x.1 = y.1 then false
  else if x.2.2.1 = 2 then Ah es x.1 y.1 || Ah es y.1 x.1
  else (Ah es y.1 x.1 && endsB x) || (Ah es x.1 y.1 && !endsB y)
def waitsJ (es : List Ed) (q : List Jb) (j : Jb) : List Str := (q.filter (fun x => aheadJ es x j)).map (·.1)
def waitsQ (es : List Ed) (q : List Jb) (u : Str) : List Str :=
  match jobOf q u with
  | none => []
  | some j => if (mayQ q && j.2.2.1 == 1) = true then waitsJ es q j else []
def readyB (es : List Ed) (q : List Jb) (j : Jb) : Bool := j.2.2.1 == 1 && (waitsQ es q j.1).isEmpty
def readyQ (es : List Ed) (q : List Jb) : List Str := if mayQ q = true then (q.filter (readyB es q)).map (·.1) else []
def runPair (es : List Ed) (a b : Jb) : Bool := (a.2.2.1 == 2 && b.2.2.1 == 2) && (Ah es a.1 b.1 || Ah es b.1 a.1)
def noPair (es : List Ed) : List Jb → Bool
  | [] => true
  | a :: r => r.all (fun b => !runPair es a b) && noPair es r
def soundQ (ns : List Nd) (es : List Ed) (q : List Jb) : Bool := mayG ns es && (isB es && (mayQ q && noPair es q))
def NoRun (es : List Ed) (q : List Jb) : Prop := ∀ x ∈ q, ∀ y ∈ q, x.2.2.1 = 2 → y.2.2.1 = 2 → Ah es x.1 y.1 = false
theorem noPair_iff {es : List Ed} {q : List Jb} : noPair es q = true ↔ q.Pairwise (fun a b => runPair es a b = false) := by
  induction q with
  | nil => simp [noPair]
  | cons a r ih =>
    unfold noPair
    rw [Bool.and_eq_true, ih, List.pairwise_cons, List.all_eq_true]
    simp only [Bool.not_eq_true']
theorem noPair_run {es : List Ed} (hi : isB es = true) {q : List Jb} : noPair es q = true ↔ NoRun es q := by
  rw [noPair_iff]
  constructor
  · intro h x hx y hy h1 h2
    obtain ⟨i, hi1, rfl⟩ := List.mem_iff_getElem.1 hx
    obtain ⟨k, hk1, rfl⟩ := List.mem_iff_getElem.1 hy
    have hp := List.pairwise_iff_getElem.1 h
    rcases Nat.lt_trichotomy i k with h3 | h3 | h3
    · have := hp i k hi1 hk1 h3
      simp only [runPair, h1, h2, BEq.rfl, Bool.and_self, Bool.true_and, Bool.or_eq_false_iff] at this
      exact this.1
    · subst h3; exact Ah_self hi _
    · have := hp k i hk1 hi1 h3
      simp only [runPair, h1, h2, BEq.rfl, Bool.and_self, Bool.true_and, Bool.or_eq_false_iff] at this
      exact this.2
  · intro h
    refine List.pairwise_iff_getElem.2 fun i k hi1 hk1 _ => ?_
    have h1 := h q[i] (List.getElem_mem hi1) q[k] (List.getElem_mem hk1)
    have h2 := h q[k] (List.getElem_mem hk1) q[i] (List.getElem_mem hi1)
    unfold runPair
    cases h3 : (q[i].2.2.1 == 2)
    · rfl
    · cases h4 : (q[k].2.2.1 == 2)
      · rfl
      · simp only [beq_iff_eq] at h3 h4
        rw [h1 h3 h4, h2 h4 h3]; rfl
theorem soundQ_iff {ns : List Nd} {es : List Ed} {q : List Jb} : soundQ ns es q = true ↔ mayG ns es = true ∧ isB es = true ∧ mayQ q = true ∧ NoRun es q := by
  unfold soundQ
  rw [Bool.and_eq_true, Bool.and_eq_true, Bool.and_eq_true]
  constructor
  · rintro ⟨h1, h2, h3, h4⟩; exact ⟨h1, h2, h3, (noPair_run h2).1 h4⟩
  · rintro ⟨h1, h2, h3, h4⟩; exact ⟨h1, h2, h3, (noPair_run h2).2 h4⟩
/-- Nothing goes ahead of a job. -/
def FreeJ (es : List Ed) (q : List Jb) (j : Jb) : Prop := ∀ x ∈ q, aheadJ es x j = false
theorem waitsQ_of {es : List Ed} {q : List Jb} (h : mayQ q = true) {j : Jb} (hj : j ∈ q) (h1 : j.2.2.1 = 1) : waitsQ es q j.1 = waitsJ es q j := by
  unfold waitsQ; rw [jobOf_of (mayQ.dq h) hj]; simp [h, h1]
theorem waitsQ_no {es : List Ed} {q : List Jb} (h : mayQ q = true) {j : Jb} (hj : j ∈ q) (h1 : j.2.2.1 ≠ 1) : waitsQ es q j.1 = [] := by
  unfold waitsQ; rw [jobOf_of (mayQ.dq h) hj]; simp [h1]
theorem waitsJ_nil {es : List Ed} {q : List Jb} {j : Jb} : waitsJ es q j = [] ↔ FreeJ es q j := by
  unfold waitsJ FreeJ
  rw [List.map_eq_nil_iff, List.filter_eq_nil_iff]
  simp only [Bool.not_eq_true]
theorem readyB_iff {es : List Ed} {q : List Jb} (h : mayQ q = true) {j : Jb} (hj : j ∈ q) : readyB es q j = true ↔ j.2.2.1 = 1 ∧ FreeJ es q j := by
  unfold readyB
  rw [Bool.and_eq_true, beq_iff_eq, List.isEmpty_iff]
  constructor
  · rintro ⟨h1, h2⟩; rw [waitsQ_of h hj h1] at h2; exact ⟨h1, waitsJ_nil.1 h2⟩
  · rintro ⟨h1, h2⟩; exact ⟨h1, by rw [waitsQ_of h hj h1]; exact waitsJ_nil.2 h2⟩
theorem mem_readyQ {es : List Ed} {q : List Jb} (h : mayQ q = true) {u : Str} : u ∈ readyQ es q ↔ ∃ j ∈ q, j.1 = u ∧ j.2.2.1 = 1 ∧ FreeJ es q j := by
  unfold readyQ
  rw [if_pos h, List.mem_map]
  constructor
  · rintro ⟨j, h1, h2⟩
    obtain ⟨h3, h4⟩ := List.mem_filter.1 h1
    exact ⟨j, h3, h2, (readyB_iff h h3).1 h4⟩
  · rintro ⟨j, h1, h2, h3⟩
    exact ⟨j, List.mem_filter.2 ⟨h1, (readyB_iff h h1).2 h3⟩, h2⟩
theorem readyQ_may {es : List Ed} {q : List Jb} {u : Str} (h : u ∈ readyQ es q) : mayQ q = true := by
  unfold readyQ at h
  split at h
  · assumption
  · cases h
theorem readyQ_len (es : List Ed) (q : List Jb) : (readyQ es q).length ≤ q.length := by
  unfold readyQ
  split
  · rw [List.length_map]; exact List.length_filter_le _ _
  · simp
theorem readyQ_up {es : List Ed} {q : List Jb} : SS ltS (readyQ es q) := by
  unfold readyQ
  split
  · rename_i h
    have h3 := (mayQ_iff.1 h).2.2
    have : upQ (q.filter (readyB es q)) := List.Pairwise.sublist List.filter_sublist h3
    exact upQ_map.1 this
  · exact .nil
/-! What a begin comes to -/
def needsU (es : List Ed) (u : Str) : List Str := (outS es u 1 ++ outS es u 4).filter (fun o => Ah es o u)
def lackJ (q : List Jb) (o : Str) : Bool := match jobOf q o with | none => false | some j => !openB j && (startsB j && j.2.2.2 != 1)
def lacksQ (es : List Ed) (q : List Jb) (u : Str) : Bool := (needsU es u).any (lackJ q)
def lostJ (es : List Ed) (u : Str) (x : Jb) : Bool := (hasE es u x.1 1 || hasE es u x.1 4) && (Ah es x.1 u && (x.2.2.1 == 3 && (startsB x && x.2.2.2 != 1)))
theorem mem_needsU {es : List Ed} {u o : Str} : o ∈ needsU es u ↔ (hasE es u o 1 || hasE es u o 4) = true ∧ Ah es o u = true := by
  unfold needsU
  rw [List.mem_filter, List.mem_append, mem_outS, mem_outS, Bool.or_eq_true, hasE_iff, hasE_iff]
theorem lacks_lost {es : List Ed} {q : List Jb} (hd : DQ q) (u : Str) : lacksQ es q u = q.any (lostJ es u) := by
  rw [Bool.eq_iff_iff]
  unfold lacksQ
  rw [List.any_eq_true, List.any_eq_true]
  constructor
  · rintro ⟨o, h1, h2⟩
    obtain ⟨h3, h4⟩ := mem_needsU.1 h1
    unfold lackJ at h2
    cases hj : jobOf q o with
    | none => rw [hj] at h2; cases h2
    | some j =>
      rw [hj] at h2
      obtain ⟨h5, rfl⟩ := jobOf_mem hj
      refine ⟨j, h5, ?_⟩
      unfold lostJ
      simp only [openB, bne, Bool.not_not] at h2
      rw [h3, h4]
      simpa [bne] using h2
  · rintro ⟨x, h1, h2⟩
    unfold lostJ at h2
    rw [Bool.and_eq_true, Bool.and_eq_true] at h2
    refine ⟨x.1, mem_needsU.2 ⟨h2.1, h2.2.1⟩, ?_⟩
    unfold lackJ
    rw [jobOf_of hd h1]
    have h3 := h2.2.2
    simp only [openB, bne, Bool.not_not]
    simpa [bne] using h3
def begun (es : List Ed) (q : List Jb) (j : Jb) : Jb := if (j.2.1 == 1 && lacksQ es q j.1) = true then (j.1, j.2.1, 3, 3) else (j.1, j.2.1, 2, j.2.2.2)
def beginQ (es : List Ed) (q : List Jb) (u : Str) : Option (List Jb) := if u ∈ readyQ es q then some (updJ q u (begun es q)) else none
/-! What an end comes to -/
def ended (e : Int) (j : Jb) : Jb := if j.2.1 = 3 ∧ j.2.2.1 = 2 ∧ e = 1 then (j.1, 1, 1, j.2.2.2) else (j.1, j.2.1, 3, e)
def mayEnd (e : Int) (j : Jb) : Bool := !decide (e < 1) && (!decide (4 < e) && (openB j && !(j.2.2.1 == 1 && (e == 1 || e == 2))))
def finishQ (q : List Jb) (u : Str) (e : Int) : Option (List Jb) :=
  match jobOf q u with
  | none => none
  | some j => if (mayQ q && mayEnd e j) = true then some (updJ q u (ended e)) else none
def doneOf (j : Jb) : Nd := (j.1, j.2.1, j.2.2.2)
def clearQ (q : List Jb) : List Jb × List Nd := if mayQ q = true then (q.filter openB, (q.filter (fun j => !openB j)).map doneOf) else ([], [])
theorem begun_unit (es : List Ed) (q : List Jb) (j : Jb) : (begun es q j).1 = j.1 := by unfold begun; split <;> rfl
theorem ended_unit (e : Int) (j : Jb) : (ended e j).1 = j.1 := by unfold ended; split <;> rfl
theorem mayJ_iff {j : Jb} : mayJ j = true ↔ kindS j.1 ≠ 0 ∧ 1 ≤ j.2.1 ∧ j.2.1 ≤ 4 ∧ (((j.2.2.1 = 1 ∨ j.2.2.1 = 2) ∧ j.2.2.2 = 0) ∨ (j.2.2.1 = 3 ∧ 1 ≤ j.2.2.2 ∧ j.2.2.2 ≤ 4)) := by
  unfold mayJ stB
  rw [Bool.and_eq_true, Bool.and_eq_true, Bool.and_eq_true]
  simp only [bne_iff_ne, Bool.not_eq_true', decide_eq_false_iff_not, Int.not_lt]
  refine and_congr_right fun _ => and_congr_right fun _ => and_congr_right fun _ => ?_
  split
  · rename_i h; simp only [beq_iff_eq]; omega
  · rename_i h
    split
    · rename_i h3; simp only [Bool.and_eq_true, decide_eq_true_eq]; omega
    · rename_i h3; simp only [Bool.false_eq_true, false_iff]; omega
theorem mayJ_begun {es : List Ed} {q : List Jb} {j : Jb} (h : mayJ j = true) (h1 : j.2.2.1 = 1) : mayJ (begun es q j) = true := by
  rw [mayJ_iff] at h
  unfold begun
  split
  · rw [mayJ_iff]; exact ⟨h.1, h.2.1, h.2.2.1, .inr ⟨rfl, by show (1 : Int) ≤ 3; decide, by show (3 : Int) ≤ 4; decide⟩⟩
  · rw [mayJ_iff]; exact ⟨h.1, h.2.1, h.2.2.1, .inl ⟨.inr rfl, by have := h.2.2.2; show j.2.2.2 = 0; omega⟩⟩
theorem mayJ_ended {e : Int} {j : Jb} (h : mayJ j = true) (h1 : openB j = true) (h2 : 1 ≤ e) (h3 : e ≤ 4) : mayJ (ended e j) = true := by
  rw [mayJ_iff] at h
  have h1' : j.2.2.1 ≠ 3 := by simpa [openB] using h1
  unfold ended
  split
  · rw [mayJ_iff]; exact ⟨h.1, by show (1 : Int) ≤ 1; decide, by show (1 : Int) ≤ 4; decide, .inl ⟨.inl rfl, by have := h.2.2.2; show j.2.2.2 = 0; omega⟩⟩
  · rw [mayJ_iff]; exact ⟨h.1, h.2.1, h.2.2.1, .inr ⟨rfl, h2, h3⟩⟩
/-! What stays sound -/
theorem begin_some {es : List Ed} {q x : List Jb} {u : Str} (h : beginQ es q u = some x) : mayQ q = true ∧ x = updJ q u (begun es q) ∧ ∃ j ∈ q, j.1 = u ∧ j.2.2.1 = 1 ∧ FreeJ es q j := by
  unfold beginQ at h
  split at h
  · rename_i hu
    injection h with h
    have hm := readyQ_may hu
    exact ⟨hm, h.symm, (mem_readyQ hm).1 hu⟩
  · cases h
theorem finish_some {q x : List Jb} {u : Str} {e : Int} (h : finishQ q u e = some x) : mayQ q = true ∧ x = updJ q u (ended e) ∧ ∃ j ∈ q, j.1 = u ∧ mayEnd e j = true := by
  unfold finishQ at h
  cases hj : jobOf q u with
  | none => rw [hj] at h; cases h
  | some j =>
    rw [hj] at h
    simp only at h
    split at h
    · rename_i hc
      rw [Bool.and_eq_true] at hc
      injection h with h
      exact ⟨hc.1, h.symm, j, (jobOf_mem hj).1, (jobOf_mem hj).2, hc.2⟩
    · cases h
theorem mayEnd_iff {e : Int} {j : Jb} : mayEnd e j = true ↔ 1 ≤ e ∧ e ≤ 4 ∧ j.2.2.1 ≠ 3 ∧ ¬ (j.2.2.1 = 1 ∧ (e = 1 ∨ e = 2)) := by
  unfold mayEnd openB
  simp only [Bool.and_eq_true, Bool.not_eq_true', decide_eq_false_iff_not, Int.not_lt, bne_iff_ne, Bool.and_eq_false_iff, Bool.or_eq_false_iff, beq_eq_false_iff_ne, ne_eq]
  omega
theorem may_begin {es : List Ed} {q x : List Jb} {u : Str} (h : beginQ es q u = some x) : mayQ x = true := by
  obtain ⟨hm, rfl, j, hj, rfl, h1, _⟩ := begin_some h
  refine mayQ_upd hm fun y hy e => ?_
  have := (mayQ.dq hm).eq hy hj e
  subst this
  exact ⟨mayJ_begun ((mayQ_iff.1 hm).2.1 y hy) h1, begun_unit _ _ _⟩
theorem may_finish {q x : List Jb} {u : Str} {e : Int} (h : finishQ q u e = some x) : mayQ x = true := by
  obtain ⟨hm, rfl, j, hj, rfl, h1⟩ := finish_some h
  refine mayQ_upd hm fun y hy e' => ?_
  have := (mayQ.dq hm).eq hy hj e'
  subst this
  have h2 := mayEnd_iff.1 h1
  exact ⟨mayJ_ended ((mayQ_iff.1 hm).2.1 y hy) (by simpa [openB] using h2.2.2.1) h2.1 h2.2.1, ended_unit _ _⟩
theorem ahead_run {es : List Ed} {x j : Jb} (h : aheadJ es x j = false) (h2 : x.2.2.1 = 2) (hne : x.1 ≠ j.1) : Ah es x.1 j.1 = false ∧ Ah es j.1 x.1 = false := by
  unfold aheadJ at h
  rw [if_neg (by rw [h2]; intro h; rcases h with h | h; · cases h
                 · exact hne h), if_pos h2, Bool.or_eq_false_iff] at h
  exact h
theorem noRun_begin {es : List Ed} (hi : isB es = true) {q x : List Jb} {u : Str} (hn : NoRun es q) (h : beginQ es q u = some x) : NoRun es x := by
  obtain ⟨hm, rfl, j, hj, rfl, h1, hf⟩ := begin_some h
  intro a ha b hb ra rb
  obtain ⟨a', ha', rfl⟩ := mem_updJ.1 ha
  obtain ⟨b', hb', rfl⟩ := mem_updJ.1 hb
  by_cases ea : a'.1 = j.1
  · rw [if_pos ea] at ra ⊢
    by_cases eb : b'.1 = j.1
    · rw [if_pos eb, begun_unit, begun_unit, ea, eb]; exact Ah_self hi _
    · rw [if_neg eb] at rb ⊢
      rw [begun_unit, ea]
      exact (ahead_run (hf b' hb') rb eb).2
  · rw [if_neg ea] at ra ⊢
    by_cases eb : b'.1 = j.1
    · rw [if_pos eb, begun_unit, eb]
      exact (ahead_run (hf a' ha') ra ea).1
    · rw [if_neg eb] at rb ⊢
      exact hn a' ha' b' hb' ra rb
theorem noRun_finish {es : List Ed} {q x : List Jb} {u : Str} {e : Int} (hn : NoRun es q) (h : finishQ q u e = some x) : NoRun es x := by
  obtain ⟨hm, rfl, _⟩ := finish_some h
  intro a ha b hb ra rb
  obtain ⟨a', ha', rfl⟩ := mem_updJ.1 ha
  obtain ⟨b', hb', rfl⟩ := mem_updJ.1 hb
  have hend : ∀ j : Jb, (ended e j).2.2.1 ≠ 2 := fun j => by unfold ended; split <;> simp
  by_cases ea : a'.1 = u
  · rw [if_pos ea] at ra; exact absurd ra (hend _)
  · rw [if_neg ea] at ra ⊢
    by_cases eb : b'.1 = u
    · rw [if_pos eb] at rb; exact absurd rb (hend _)
    · rw [if_neg eb] at rb ⊢
      exact hn a' ha' b' hb' ra rb
theorem sound_begin {ns : List Nd} {es : List Ed} {q x : List Jb} {u : Str} (hs : soundQ ns es q = true) (h : beginQ es q u = some x) : soundQ ns es x = true := by
  obtain ⟨h1, h2, h3, h4⟩ := soundQ_iff.1 hs
  exact soundQ_iff.2 ⟨h1, h2, may_begin h, noRun_begin h2 h4 h⟩
theorem sound_finish {ns : List Nd} {es : List Ed} {q x : List Jb} {u : Str} {e : Int} (hs : soundQ ns es q = true) (h : finishQ q u e = some x) : soundQ ns es x = true := by
  obtain ⟨h1, h2, h3, h4⟩ := soundQ_iff.1 hs
  exact soundQ_iff.2 ⟨h1, h2, may_finish h, noRun_finish h4 h⟩
theorem sound_clear {ns : List Nd} {es : List Ed} {q : List Jb} (hs : soundQ ns es q = true) : soundQ ns es (clearQ q).1 = true := by
  obtain ⟨h1, h2, h3, h4⟩ := soundQ_iff.1 hs
  unfold clearQ
  rw [if_pos h3]
  refine soundQ_iff.2 ⟨h1, h2, mayQ_sub h3 List.filter_sublist, fun x hx y hy => h4 x (List.mem_filter.1 hx).1 y (List.mem_filter.1 hy).1⟩
end Od
end Go.Proofs.YtanfnejbnmenkaaGreat
end
