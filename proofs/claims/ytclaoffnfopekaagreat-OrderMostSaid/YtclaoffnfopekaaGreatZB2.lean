/- My texts, joined for the claim: GReach GOrder OPairs OPairs2 GRowK OComp GMap GPair GBfs. -/
import Derived.Test.YtclaoffnfopekaaGreatZB1
import Derived.Test.YtclaoffnfopekaaGreatZB0
import Derived.Shelf.GgSortFunc.RowK
import Derived.Lib.SliceRun
import Derived.Lib.SlicesCompact
import Derived.Sort.OwnSorted
import Derived.Test.YtclaoffnfopekaaGreatRows
import Derived.Shelf.RegionOpenPlain
import Derived.Deep.LoopGhost
import Derived.Lib.Walk
import Derived.Maps.OwnSet
import Derived.Maps.RangeWalk
import Derived.DeepKeys4

section
/- Plain mathematics: what one leads to by pairs, directly or through others. No program. -/
namespace Go.Proofs.YtclaoffnfopekaaGreat

section
variable {α : Type} [DecidableEq α] {lt : α → α → Bool}
theorem insL_of_mem (T : TO lt) {x : α} : ∀ {l : List α}, SS lt l → x ∈ l → insL lt x l = l
  | y :: r, h, hx => by
    obtain ⟨hy, hr⟩ := List.pairwise_cons.1 h
    unfold insL
    rcases List.mem_cons.1 hx with e | e
    · subst e; rw [T.irrefl]; simp
    · rw [hy x e, if_pos rfl, insL_of_mem T hr e]
theorem insL_len (T : TO lt) {x : α} : ∀ {l : List α}, SS lt l → x ∉ l → (insL lt x l).length = l.length + 1
  | [], _, _ => rfl
  | y :: r, h, hx => by
    obtain ⟨hy, hr⟩ := List.pairwise_cons.1 h
    unfold insL
    split
    · simp [insL_len T hr (fun e => hx (.tail _ e))]
    · split
      · rename_i e; subst e; exact absurd (.head _) hx
      · simp
theorem SS.sublist_of_subset (T : TO lt) : ∀ {l l' : List α}, SS lt l → SS lt l' → (∀ x, x ∈ l → x ∈ l') → l.Sublist l'
  | [], _, _, _, _ => List.nil_sublist _
  | x :: r, [], _, _, h => absurd (h x (.head _)) (by simp)
  | x :: r, y :: r', h1, h2, h => by
    obtain ⟨hx, hr⟩ := List.pairwise_cons.1 h1
    obtain ⟨hy, hr'⟩ := List.pairwise_cons.1 h2
    by_cases e : x = y
    · subst e
      refine List.Sublist.cons_cons _ (SS.sublist_of_subset T hr hr' fun z hz => ?_)
      rcases List.mem_cons.1 (h z (.tail _ hz)) with e | e
      · subst e; have := hx z hz; rw [T.irrefl] at this; cases this
      · exact e
    · have hxr : x ∈ r' := by
        rcases List.mem_cons.1 (h x (.head _)) with e' | e'
        · exact absurd e' e
        · exact e'
      have hyx := hy x hxr
      refine List.Sublist.cons _ (SS.sublist_of_subset T h1 hr' fun z hz => ?_)
      rcases List.mem_cons.1 (h z hz) with e' | e'
      · subst e'
        rcases List.mem_cons.1 hz with e2 | e2
        · exact absurd e2.symm e
        · have := T.trans hyx (hx z e2); rw [T.irrefl] at this; cases this
      · exact e'
end

namespace Od
/-- One leads to another by pairs, directly or through others. -/
def R (l : List Pr) (a b : Str) : Prop := Relation.TransGen (fun x y => (x, y) ∈ l) a b
theorem R.one {l : List Pr} {a b : Str} (h : (a, b) ∈ l) : R l a b := .single h
theorem R.snoc {l : List Pr} {a b c : Str} (h : R l a b) (h' : (b, c) ∈ l) : R l a c := .tail h h'
theorem R.trans {l : List Pr} {a b c : Str} (h : R l a b) (h' : R l b c) : R l a c := by
  induction h' with
  | single h1 => exact .tail h h1
  | tail _ h2 ih => exact .tail ih h2
theorem R.mono {l l' : List Pr} (hs : ∀ p, p ∈ l → p ∈ l') {a b : Str} (h : R l a b) : R l' a b := by
  induction h with
  | single h1 => exact .single (hs _ h1)
  | tail _ h2 ih => exact .tail ih (hs _ h2)
theorem R.head {l : List Pr} {a c : Str} (h : R l a c) : ∃ b, (a, b) ∈ l ∧ (b = c ∨ R l b c) := by
  induction h with
  | single h1 => exact ⟨_, h1, .inl rfl⟩
  | tail h1 h2 ih =>
    obtain ⟨b, hb, e | e⟩ := ih
    · subst e; exact ⟨_, hb, .inr (.single h2)⟩
    · exact ⟨_, hb, .inr (e.snoc h2)⟩
theorem R.last {l : List Pr} {a c : Str} (h : R l a c) : ∃ b, (b, c) ∈ l ∧ (a = b ∨ R l a b) := by
  cases h with
  | single h1 => exact ⟨_, h1, .inl rfl⟩
  | tail h1 h2 => exact ⟨_, h2, .inr h1⟩

def Closed (l : List Pr) (a : Str) (S : List Str) : Prop := ∀ p, p ∈ l → (p.1 = a ∨ p.1 ∈ S) → p.2 ∈ S
theorem Closed.all {l : List Pr} {a b : Str} {S : List Str} (hc : Closed l a S) (h : R l a b) : b ∈ S := by
  induction h with
  | single h1 => exact hc _ h1 (.inl rfl)
  | tail _ h2 ih => exact hc _ h2 (.inr ih)

/-- A list that is what one leads to. -/
def Reached (l : List Pr) (a : Str) (S : List Str) : Prop := SS ltS S ∧ ∀ b, b ∈ S ↔ R l a b
theorem Reached.of {l : List Pr} {a : Str} {S : List Str} (h1 : SS ltS S) (h2 : ∀ b, b ∈ S → R l a b) (h3 : Closed l a S) : Reached l a S :=
  ⟨h1, fun b => ⟨h2 b, h3.all⟩⟩

def stepL (l : List Pr) (a : Str) (S : List Str) : List Str := l.foldl (fun S p => if p.1 = a ∨ p.1 ∈ S then insL ltS p.2 S else S) S
def iterL (l : List Pr) (a : Str) : Nat → List Str
  | 0 => []
  | n + 1 => stepL l a (iterL l a n)
def reachL (l : List Pr) (a : Str) : List Str := iterL l a (l.length + 1)

theorem step_fold (L : List Pr) (a : Str) : ∀ (l : List Pr) (S : List Str), (∀ p, p ∈ l → p ∈ L) → SS ltS S → (∀ b, b ∈ S → R L a b) →
    SS ltS (l.foldl (fun S p => if p.1 = a ∨ p.1 ∈ S then insL ltS p.2 S else S) S) ∧ (∀ b, b ∈ l.foldl (fun S p => if p.1 = a ∨ p.1 ∈ S then insL ltS p.2 S else S) S → R L a b) ∧
    S.length ≤ (l.foldl (fun S p => if p.1 = a ∨ p.1 ∈ S then insL ltS p.2 S else S) S).length ∧
    ((l.foldl (fun S p => if p.1 = a ∨ p.1 ∈ S then insL ltS p.2 S else S) S).length = S.length → l.foldl (fun S p => if p.1 = a ∨ p.1 ∈ S then insL ltS p.2 S else S) S = S ∧ ∀ p, p ∈ l → (p.1 = a ∨ p.1 ∈ S) → p.2 ∈ S)
  | [], S, _, h2, h3 => ⟨h2, h3, Nat.le_refl _, fun _ => ⟨rfl, by simp⟩⟩
  | p :: l, S, h1, h2, h3 => by
    rw [List.foldl_cons]
    by_cases hn : p.1 = a ∨ p.1 ∈ S
    · rw [if_pos hn]
      have hR : R L a p.2 := by
        rcases hn with e | e
        · exact .one (e ▸ h1 p (.head _))
        · exact (h3 _ e).snoc (h1 p (.head _))
      have hIns : ∀ b, b ∈ insL ltS p.2 S → R L a b := fun b hb => by
        rcases mem_insL.1 hb with e | e
        · exact e ▸ hR
        · exact h3 b e
      obtain ⟨i1, i2, i3, i4⟩ := step_fold L a l (insL ltS p.2 S) (fun q hq => h1 q (.tail _ hq)) (h2.insL toS) hIns
      by_cases hm : p.2 ∈ S
      · rw [insL_of_mem toS h2 hm] at *
        refine ⟨i1, i2, i3, fun e => ?_⟩
        obtain ⟨j1, j2⟩ := i4 e
        refine ⟨j1, fun q hq hq2 => ?_⟩
        rcases List.mem_cons.1 hq with e' | e'
        · rw [e']; exact hm
        · exact j2 q e' hq2
      · have hl := insL_len toS h2 hm
        exact ⟨i1, i2, by omega, fun e => by omega⟩
    · rw [if_neg hn]
      obtain ⟨i1, i2, i3, i4⟩ := step_fold L a l S (fun q hq => h1 q (.tail _ hq)) h2 h3
      refine ⟨i1, i2, i3, fun e => ?_⟩
      obtain ⟨j1, j2⟩ := i4 e
      refine ⟨j1, fun q hq hq2 => ?_⟩
      rcases List.mem_cons.1 hq with e' | e'
      · rw [e'] at hq2; exact absurd hq2 hn
      · exact j2 q e' hq2

theorem iter_ok (l : List Pr) (a : Str) : ∀ n, SS ltS (iterL l a n) ∧ (∀ b, b ∈ iterL l a n → R l a b) ∧ (Closed l a (iterL l a n) ∨ n ≤ (iterL l a n).length)
  | 0 => ⟨List.Pairwise.nil, by simp [iterL], .inr (Nat.zero_le _)⟩
  | n + 1 => by
    obtain ⟨h1, h2, h3⟩ := iter_ok l a n
    obtain ⟨i1, i2, i3, i4⟩ := step_fold l a l (iterL l a n) (fun _ h => h) h1 h2
    refine ⟨i1, i2, ?_⟩
    rcases Nat.lt_or_ge (iterL l a n).length (stepL l a (iterL l a n)).length with h | h
    · rcases h3 with h3 | h3
      · left
        intro p hp hn
        have hmem : ∀ b, b ∈ stepL l a (iterL l a n) → b ∈ iterL l a n := fun b hb => h3.all (i2 b hb)
        have h4 : (stepL l a (iterL l a n)).Sublist (iterL l a n) := SS.sublist_of_subset toS i1 h1 hmem
        have := h4.length_le
        omega
      · right
        show n + 1 ≤ (stepL l a (iterL l a n)).length
        omega
    · obtain ⟨j1, j2⟩ := i4 (Nat.le_antisymm h i3)
      left
      show Closed l a (stepL l a (iterL l a n))
      intro p hp hn
      rw [show stepL l a (iterL l a n) = iterL l a n from j1] at *
      exact j2 p hp hn
theorem R.in_snds {l : List Pr} {a b : Str} (h : R l a b) : b ∈ l.map Prod.snd := by
  obtain ⟨x, hx, _⟩ := h.last
  exact List.mem_map.2 ⟨_, hx, rfl⟩
theorem reached_len {l : List Pr} {a : Str} {S : List Str} (h1 : SS ltS S) (h2 : ∀ b, b ∈ S → R l a b) : S.length ≤ l.length := by
  have h3 : S.Sublist (canon ltS (l.map Prod.snd)) := SS.sublist_of_subset toS h1 (canon_ss toS _) fun b hb => (mem_canon toS).2 (h2 b hb).in_snds
  have := h3.length_le
  have := canon_len (lt := ltS) (l.map Prod.snd)
  simp at this
  omega
theorem reachL_ok (l : List Pr) (a : Str) : Reached l a (reachL l a) := by
  obtain ⟨h1, h2, h3⟩ := iter_ok l a (l.length + 1)
  refine Reached.of h1 h2 ?_
  rcases h3 with h3 | h3
  · exact h3
  · have := reached_len h1 h2
    omega
theorem mem_reachL {l : List Pr} {a b : Str} : b ∈ reachL l a ↔ R l a b := (reachL_ok l a).2 b
theorem Reached.eq {l : List Pr} {a : Str} {S : List Str} (h : Reached l a S) : S = reachL l a :=
  SS.unique toS h.1 (reachL_ok l a).1 fun b => by rw [h.2, mem_reachL]
theorem Reached.same {l l' : List Pr} {a : Str} (hs : ∀ p, p ∈ l ↔ p ∈ l') : reachL l a = reachL l' a :=
  SS.unique toS (reachL_ok l a).1 (reachL_ok l' a).1 fun b => by
    rw [mem_reachL, mem_reachL]
    exact ⟨R.mono fun p hp => (hs p).1 hp, R.mono fun p hp => (hs p).2 hp⟩
end Od
end Go.Proofs.YtclaoffnfopekaaGreat
end

section
/- Plain mathematics of chapter 16: pairs, what stays, what is straight. No program. -/
namespace Go.Proofs.YtclaoffnfopekaaGreat
namespace Od
/-- The pair that an edge says: the first one ahead of the second one. -/
def pairE (e : Ed) : Option Pr := if e.2.2 = 8 then some (e.2.1, e.1) else if e.2.2 = 7 then some (e.1, e.2.1) else none
/-- All pairs, rising, each once. -/
def prsL (es : List Ed) : List Pr := canon ltP (es.filterMap pairE)
theorem mem_prsL {es : List Ed} {p : Pr} : p ∈ prsL es ↔ ∃ e ∈ es, pairE e = some p := by
  rw [prsL, mem_canon toP, List.mem_filterMap]
theorem prsL_ss (es : List Ed) : SS ltP (prsL es) := canon_ss toP _
theorem prsL_len (es : List Ed) : (prsL es).length ≤ es.length := Nat.le_trans (canon_len _) (List.length_filterMap_le _ _)
def hasE (es : List Ed) (a b : Str) (r : Int) : Bool := es.any (· == (a, b, r))
theorem hasE_iff {es : List Ed} {a b : Str} {r : Int} : hasE es a b r = true ↔ (a, b, r) ∈ es := by simp [hasE]
def needsB (es : List Ed) (p : Pr) : Bool := hasE es p.2 p.1 1 || hasE es p.2 p.1 4

def Acyclic (l : List Pr) : Prop := ∀ a, ¬ R l a a
theorem Acyclic.mono {l l' : List Pr} (h : Acyclic l') (hs : ∀ p, p ∈ l → p ∈ l') : Acyclic l := fun a ha => h a (ha.mono hs)
theorem R_app {l : List Pr} {p : Pr} {a b : Str} (h : R (l ++ [p]) a b) : R l a b ∨ ((a = p.1 ∨ R l a p.1) ∧ (b = p.2 ∨ R l p.2 b)) := by
  induction h with
  | single h1 =>
    rcases List.mem_append.1 h1 with h | h
    · exact .inl (.one h)
    · have : p = _ := (List.mem_singleton.1 h).symm
      subst this
      exact .inr ⟨.inl rfl, .inl rfl⟩
  | tail h1 h2 ih =>
    rcases List.mem_append.1 h2 with h | h
    · rcases ih with ih | ⟨ih1, ih2⟩
      · exact .inl (ih.snoc h)
      · refine .inr ⟨ih1, .inr ?_⟩
        rcases ih2 with e | e
        · subst e; exact .one h
        · exact e.snoc h
    · have : p = _ := (List.mem_singleton.1 h).symm
      subst this
      rcases ih with ih | ⟨ih1, _⟩
      · exact .inr ⟨.inr ih, .inl rfl⟩
      · exact .inr ⟨ih1, .inl rfl⟩
theorem Acyclic.app {l : List Pr} {p : Pr} (h : Acyclic l) (hne : p.1 ≠ p.2) (hr : ¬ R l p.2 p.1) : Acyclic (l ++ [p]) := fun a ha => by
  rcases R_app ha with h1 | ⟨h1, h2⟩
  · exact h a h1
  · rcases h1 with e1 | e1 <;> rcases h2 with e2 | e2
    · exact hne (e1.symm.trans e2)
    · subst e1; exact hr e2
    · subst e2; exact hr e1
    · exact hr (e2.trans e1)

def keepB (es : List Ed) (first : Bool) (acc : List Pr) (p : Pr) : Bool := needsB es p == first && (!(p.1 == p.2) && !(decide (p.1 ∈ reachL acc p.2)))
theorem keepB_iff {es : List Ed} {first : Bool} {acc : List Pr} {p : Pr} : keepB es first acc p = true ↔ needsB es p = first ∧ p.1 ≠ p.2 ∧ ¬ R acc p.2 p.1 := by
  simp [keepB, mem_reachL]
def phase (es : List Ed) (first : Bool) (acc l : List Pr) : List Pr := l.foldl (fun acc p => if keepB es first acc p = true then acc ++ [p] else acc) acc
theorem phase_cons (es : List Ed) (first : Bool) (acc l : List Pr) (p : Pr) : phase es first acc (p :: l) = phase es first (if keepB es first acc p = true then acc ++ [p] else acc) l := rfl
theorem phase_app (es : List Ed) (first : Bool) (acc l : List Pr) (p : Pr) : phase es first acc (l ++ [p]) = if keepB es first (phase es first acc l) p = true then phase es first acc l ++ [p] else phase es first acc l := by
  unfold phase; rw [List.foldl_append]; rfl
theorem phase_ok (es : List Ed) (first : Bool) : ∀ (l acc : List Pr), Acyclic acc →
    Acyclic (phase es first acc l) ∧ (∀ p, p ∈ acc → p ∈ phase es first acc l) ∧ (∀ p, p ∈ phase es first acc l → p ∈ acc ∨ (p ∈ l ∧ needsB es p = first)) ∧
    (∀ p, p ∈ l → needsB es p = first → p ∈ phase es first acc l ∨ p.1 = p.2 ∨ R (phase es first acc l) p.2 p.1)
  | [], acc, h => ⟨h, fun _ h => h, fun _ h => .inl h, by simp⟩
  | p :: l, acc, h => by
    rw [phase_cons]
    by_cases hk : keepB es first acc p = true
    · rw [if_pos hk]
      obtain ⟨h1, h2, h3⟩ := keepB_iff.1 hk
      obtain ⟨i1, i2, i3, i4⟩ := phase_ok es first l (acc ++ [p]) (h.app h2 h3)
      refine ⟨i1, fun q hq => i2 q (List.mem_append_left _ hq), fun q hq => ?_, fun q hq hn => ?_⟩
      · rcases i3 q hq with e | ⟨e1, e2⟩
        · rcases List.mem_append.1 e with e | e
          · exact .inl e
          · rw [List.mem_singleton.1 e]; exact .inr ⟨.head _, h1⟩
        · exact .inr ⟨.tail _ e1, e2⟩
      · rcases List.mem_cons.1 hq with e | e
        · subst e; exact .inl (i2 _ (List.mem_append_right _ (.head _)))
        · exact i4 q e hn
    · rw [if_neg hk]
      obtain ⟨i1, i2, i3, i4⟩ := phase_ok es first l acc h
      refine ⟨i1, i2, fun q hq => ?_, fun q hq hn => ?_⟩
      · rcases i3 q hq with e | ⟨e1, e2⟩
        · exact .inl e
        · exact .inr ⟨.tail _ e1, e2⟩
      · rcases List.mem_cons.1 hq with e | e
        · subst e
          by_cases h2 : q.1 = q.2
          · exact .inr (.inl h2)
          · by_cases h3 : R acc q.2 q.1
            · exact .inr (.inr (h3.mono i2))
            · exact absurd (keepB_iff.2 ⟨hn, h2, h3⟩) hk
        · exact i4 q e hn
/-- The pairs that stay, as they were put. -/
def keptL (es : List Ed) : List Pr := phase es false (phase es true [] (prsL es)) (prsL es)
theorem acyclic_nil : Acyclic [] := fun a ha => by obtain ⟨b, hb, _⟩ := ha.head; simp at hb
theorem kept_acyclic (es : List Ed) : Acyclic (keptL es) := (phase_ok es false _ _ (phase_ok es true (prsL es) [] acyclic_nil).1).1
theorem kept_sub {es : List Ed} {p : Pr} (h : p ∈ keptL es) : p ∈ prsL es := by
  rcases (phase_ok es false (prsL es) _ (phase_ok es true (prsL es) [] acyclic_nil).1).2.2.1 p h with e | e
  · rcases (phase_ok es true (prsL es) [] acyclic_nil).2.2.1 p e with e | e
    · simp at e
    · exact e.1
  · exact e.1
theorem kept_or {es : List Ed} {p : Pr} (h : p ∈ prsL es) : p ∈ keptL es ∨ p.1 = p.2 ∨ R (keptL es) p.2 p.1 := by
  have h1 := phase_ok es true (prsL es) [] acyclic_nil
  have h2 := phase_ok es false (prsL es) _ h1.1
  cases hn : needsB es p
  · exact h2.2.2.2 p h hn
  · rcases h1.2.2.2 p h hn with e | e | e
    · exact .inl (h2.2.1 p e)
    · exact .inr (.inl e)
    · exact .inr (.inr (e.mono h2.2.1))
/-- What never goes round stays whole. -/
theorem kept_all {es : List Ed} (h : Acyclic (prsL es)) {p : Pr} (hp : p ∈ prsL es) : p ∈ keptL es := by
  rcases kept_or hp with e | e | e
  · exact e
  · exact absurd (R.one (show (p.1, p.1) ∈ prsL es from by rw (config := { occs := .pos [2] }) [e]; exact hp)) (h p.1)
  · exact absurd ((R.one (show (p.1, p.2) ∈ prsL es from hp)).trans (e.mono fun _ => kept_sub)) (h p.1)
/-- Needs that alone never go round stay. -/
theorem kept_needs {es : List Ed} (h : Acyclic ((prsL es).filter (needsB es))) {p : Pr} (hp : p ∈ prsL es) (hn : needsB es p = true) : p ∈ keptL es := by
  have h1 := phase_ok es true (prsL es) [] acyclic_nil
  have h2 := phase_ok es false (prsL es) _ h1.1
  have hsub : ∀ q, q ∈ phase es true [] (prsL es) → q ∈ (prsL es).filter (needsB es) := fun q hq => by
    rcases h1.2.2.1 q hq with e | ⟨e1, e2⟩
    · simp at e
    · exact List.mem_filter.2 ⟨e1, e2⟩
  have hpf : (p.1, p.2) ∈ (prsL es).filter (needsB es) := List.mem_filter.2 ⟨hp, hn⟩
  rcases h1.2.2.2 p hp hn with e | e | e
  · exact h2.2.1 p e
  · exact absurd (R.one (show (p.1, p.1) ∈ _ from by rw (config := { occs := .pos [2] }) [e]; exact hpf)) (h p.1)
  · exact absurd ((R.one hpf).trans (e.mono hsub)) (h p.1)

/-- Does an edge stay? -/
def stays (es : List Ed) (e : Ed) : Bool := match pairE e with | none => true | some p => decide (p ∈ keptL es)
def straight (es : List Ed) : List Ed := es.filter (stays es)
def gone (es : List Ed) : List Ed := es.filter (fun e => !stays es e)
theorem mem_prs_straight {es : List Ed} {p : Pr} : p ∈ prsL (straight es) ↔ p ∈ keptL es := by
  rw [mem_prsL]
  constructor
  · rintro ⟨e, he, hp⟩
    have := (List.mem_filter.1 he).2
    unfold stays at this
    rw [hp] at this
    simpa using this
  · intro h
    obtain ⟨e, he, hp⟩ := mem_prsL.1 (kept_sub h)
    exact ⟨e, List.mem_filter.2 ⟨he, by unfold stays; rw [hp]; simpa using h⟩, hp⟩
theorem straight_acyclic (es : List Ed) : Acyclic (prsL (straight es)) := (kept_acyclic es).mono fun _ => mem_prs_straight.1
theorem kept_straight {es : List Ed} {p : Pr} : p ∈ keptL (straight es) ↔ p ∈ keptL es :=
  ⟨fun h => mem_prs_straight.1 (kept_sub h), fun h => kept_all (straight_acyclic es) (mem_prs_straight.2 h)⟩
theorem straight_of_acyclic {es : List Ed} (h : Acyclic (prsL es)) : straight es = es := by
  refine List.filter_eq_self.2 fun e he => ?_
  unfold stays
  cases hp : pairE e with
  | none => rfl
  | some p => simpa using kept_all h (mem_prsL.2 ⟨e, he, hp⟩)
theorem straight_twice (es : List Ed) : straight (straight es) = straight es := straight_of_acyclic (straight_acyclic es)
theorem gone_straight (es : List Ed) : gone (straight es) = [] := by
  have h := straight_twice es
  rw [gone, List.filter_eq_nil_iff]
  intro e he
  have := List.filter_eq_self.1 h e he
  simp [this]
theorem stay_gone_len (es : List Ed) : (straight es).length + (gone es).length = es.length := by
  unfold straight gone
  generalize stays es = f
  induction es with
  | nil => rfl
  | cons e l ih => cases h : f e <;> simp [h] <;> omega
/-- Does nothing go round? -/
def isB (es : List Ed) : Bool := !(prsL es).any (fun p => p.1 == p.2 || decide (p.1 ∈ reachL (prsL es) p.2))
theorem isB_iff {es : List Ed} : isB es = true ↔ Acyclic (prsL es) := by
  unfold isB
  rw [Bool.not_eq_true', List.any_eq_false]
  simp only [Bool.or_eq_true, beq_iff_eq, decide_eq_true_eq, mem_reachL, not_or]
  constructor
  · intro h a ha
    obtain ⟨b, hb, e | e⟩ := ha.head
    · exact (h _ hb).1 e.symm
    · exact (h _ hb).2 e
  · intro h p hp
    refine ⟨fun e => h p.1 (.one (by rw (config := { occs := .pos [2] }) [e]; exact hp)), fun e => h p.1 ((R.one hp).trans e)⟩
end Od
end Go.Proofs.YtclaoffnfopekaaGreat
end

section
/- The walk of what tells which of two pairs stands ahead; the sort of a row of pairs. -/
namespace Go.Proofs.YtclaoffnfopekaaGreat
open Go.RowKit Go.Sort Go.Lib

namespace Od
def pairCmp (p q : Pr) : Int := orI [cmpS p.1 q.1, cmpS p.2 q.2]
theorem grow_drew (w : World) (os : Array Obj) : (grow w os).drew = grow w.drew os := rfl
def GrowInt (v : Int) (w : World) (e : Ending) (w' : World) : Prop := e = .returned (.int .i64 v) ∧ ∃ q os', w' = grow (w.drewN q) os'
set_option maxRecDepth 100000 in
set_option maxHeartbeats 1000000 in
theorem pairs1_any (a b a' b' : Str) (w : World) :
    Calls Tryz.prog 71 #[.agg #[sv a, sv b], .agg #[sv a', sv b']] w (GrowInt (pairCmp (a, b) (a', b')) w) := by
  have h3 : Rd ((((w.alloc (.cells #[sv a, sv b] 50)).alloc (.cells #[sv a', sv b'] 50)).alloc (.cells #[.int .i64 (cmpS a a'), .int .i64 (cmpS b b')] 3)).drew) ((((w.alloc (.cells #[sv a, sv b] 50)).alloc (.cells #[sv a', sv b'] 50)).alloc (.cells #[.int .i64 (cmpS a a'), .int .i64 (cmpS b b')] 3)).drew).heap.size 1 (some ⟨w.heap.size + 1 + 1, 0, none⟩) 2 (ints [cmpS a a', cmpS b b']) := by
    have h := (Rd.lit ((w.alloc (.cells #[sv a, sv b] 50)).alloc (.cells #[sv a', sv b'] 50)) (ints [cmpS a a', cmpS b b']) 3 1 2 rfl).drew
    simp only [World.size_alloc] at h
    exact h.more (by simp)
  have H3 := Lib.hid h3
  clear h3
  go_enter Tryz.func71, Tryz.ntmps71
  go_wp2_with fail
  go_region_held3 (fun w' => w'.cell? ⟨w.heap.size, 0, none⟩ = some (sv a) ∧ w'.cell? ⟨w.heap.size, 1, none⟩ = some (sv b) ∧ w'.cell? ⟨w.heap.size + 1, 0, none⟩ = some (sv a') ∧ w'.cell? ⟨w.heap.size + 1, 1, none⟩ = some (sv b')) (go_keep)
    (first | (go_at_call 65; refine (CompareS_any _ _ _).mono ?_; rintro e w' ⟨rfl, rfl⟩) | (go_at_call 66; refine (Or_any (some ⟨w.heap.size + 1 + 1, 0, none⟩) 2 [cmpS a a', cmpS b b'] _ H3.out (by simp)).mono ?_; rintro e w' ⟨rfl, rfl⟩))
  go_wp2_with fail
  go_ret
  exact ⟨rfl, 1, _, by rw [alloc_eq_grow, alloc_eq_grow, alloc_eq_grow, grow_grow, grow_grow, grow_drew]; rfl⟩
theorem pairCmp_lt (p q : Pr) : ltOf pairCmp p q = ltP p q := by
  unfold ltOf pairCmp ltP
  have hs : ∀ a b : Str, cmpS a b = if ltS a b = true then -1 else if a = b then 0 else 1 := fun _ _ => rfl
  rw [hs, hs]
  by_cases h1 : ltS p.1 q.1 = true
  · simp [h1, orI]
  · by_cases h2 : p.1 = q.1
    · rw [h2] at h1
      by_cases h3 : ltS p.2 q.2 = true
      · simp [h1, h2, h3, orI]
      · by_cases h4 : p.2 = q.2
        · rw [h4] at h3
          simp [h1, h2, h3, h4, orI]
        · simp [h1, h2, h3, h4, orI]
    · simp [h1, h2, orI]
theorem pairCmp_fun : ltOf pairCmp = ltP := by funext p q; exact pairCmp_lt p q
theorem swoP : SWO (ltOf pairCmp) where
  irrefl x := by rw [pairCmp_fun]; exact toP.irrefl x
  trans x y z h1 h2 := by rw [pairCmp_fun] at *; exact toP.trans h1 h2
  ntrans x y z h1 h2 := by
    rw [pairCmp_fun] at *
    cases h : ltP x z
    · rfl
    · exfalso
      cases h3 : ltP y x
      · rw [toP.total h1 h3] at h; rw [h] at h2; cases h2
      · have := toP.trans h3 h; rw [this] at h2; cases h2
end Od
end Go.Proofs.YtclaoffnfopekaaGreat
end

section
/- The sort of a row of pairs of the call's own. -/
namespace Go.Proofs.YtclaoffnfopekaaGreat
open Go.RowKit Go.Sort Go.Lib Go.Shelf

namespace Od
theorem prsC_len (ps : List Pr) : (prsC ps).length = ps.length * 2 := flat_len prC 2 prC_len ps
theorem flatK_prs (ps : List Pr) : flatK prC 2 ps.toArray = (prsC ps).toArray := by
  refine ext_get! (by simp [prsC_len]) fun t ht => ?_
  have ht' : t < ps.length * 2 := by simpa using ht
  rw [get_flatK _ _ _ t (by simpa using ht')]
  have hi : t / 2 < ps.length := by omega
  have h := flat_at prC 2 prC_len ps (t / 2) (t % 2) hi (by omega)
  rw [show t / 2 * 2 + t % 2 = t by omega] at h
  have e1 : ps.toArray[t / 2]! = ps[t / 2] := by simp [hi]
  rw [e1]
  have e2 : (prsC ps).toArray[t]! = ((prsC ps)[t]?).getD default := by simp [List.getElem!_eq_getElem?_getD]
  rw [e2, show (prsC ps)[t]? = (prC ps[t / 2])[t % 2]? from h]
  simp [List.getElem!_eq_getElem?_getD]

theorem heap_row {w : World} {g n : Nat} {os : Array Obj} {cur : Array Value} {e : TypeId} {fr : Nat × Nat} (F : Array Value) (hb : w.heap[g]? = some (.cells cur e fr)) :
    (grow (putRow id (Sort.ahead w n) g 0 F) os).heap[g]? = some (.cells (putCells id 0 F cur) e fr) := by
  have hg : g < w.heap.size := (Array.getElem?_eq_some_iff.1 hb).1
  rw [heap_grow_old _ _ (by simpa using hg)]
  simp [putRow, mapBlock, Sort.ahead, Array.getElem?_modify, hb, onCells]
theorem grownBy_row {w : World} {g n : Nat} {os : Array Obj} (F : Array Value) : w.grownBy (grow (putRow id (Sort.ahead w n) g 0 F) os) (some g) := by
  refine ⟨rfl, rfl, rfl, by simp, fun k hk hne => ?_⟩
  rw [heap_grow_old _ _ (by simpa using hk)]
  have : g ≠ k := fun e => hne (by rw [e])
  simp [putRow, mapBlock, Sort.ahead, Array.getElem?_modify, this]
theorem take_putCellsI (cur : Array Value) (xs : List Value) (h : xs.length ≤ cur.size) : (putCells id 0 xs.toArray cur).toList.take xs.length = xs := by
  apply List.ext_getElem?
  intro j
  by_cases hj : j < xs.length
  · rw [List.getElem?_take_of_lt hj, Array.getElem?_toList]
    simp [putCells, hj, show j < cur.size by omega]
  · rw [List.getElem?_take_eq_none (by omega), List.getElem?_eq_none (by omega)]
theorem holds_row {w : World} {g : Nat} {cur : Array Value} {e : TypeId} {xs : List Value} (hb : w.heap[g]? = some (.cells cur e (0, 0))) (ht : cur.toList.take xs.length = xs) : Holds id w g 0 xs.toArray := by
  intro j hj
  have hj' : j < xs.length := by simpa using hj
  refine ⟨?_, by simp [World.frozen?, hb]⟩
  have h1 : (cur.toList.take xs.length)[j]? = xs[j]? := by rw [ht]
  rw [List.getElem?_take_of_lt hj'] at h1
  simp only [World.cell?, hb, Nat.zero_add]
  simp only [Option.isSome_none, Bool.false_eq_true, if_false]
  rw [← Array.getElem?_toList, h1]
  simp [hj']

def sortP (ps : List Pr) : List Pr := ps.mergeSort fun x y => !ltP y x
theorem sortP_len (ps : List Pr) : (sortP ps).length = ps.length := by simp [sortP]
theorem mem_sortP {ps : List Pr} {p : Pr} : p ∈ sortP ps ↔ p ∈ ps := (List.mergeSort_perm _ _).mem_iff
theorem sortP_le (ps : List Pr) : LE ltP (sortP ps) := by
  have h := List.pairwise_mergeSort (le := fun x y => !ltP y x) (fun a b c h1 h2 => by
    simp only [Bool.not_eq_true'] at *
    have := swoP.ntrans (x := c) (y := b) (z := a)
    rw [pairCmp_fun] at this
    exact this h2 h1) (fun a b => by
    cases h1 : ltP b a
    · simp
    · cases h2 : ltP a b
      · simp
      · have := toP.trans h1 h2; rw [toP.irrefl] at this; cases this) ps
  exact h.imp fun {a b} hab => by simpa using hab

set_option maxHeartbeats 1000000 in
theorem sortP_own (base c : Nat) (A : Option Addr) (ps : List Pr) (w : World) (h : w.ownsRow base 50 2 (.slice A ps.length c) ps.length (prsC ps)) (hsz : ps.length ≤ 1000000) :
    Calls Tryz.prog 70 #[.slice A ps.length c, .func (.func 71) #[] #[]] w fun e w' => e = .returned (.tuple #[]) ∧ w'.ownsRow base 50 2 (.slice A ps.length c) ps.length (prsC (sortP ps)) ∧ w.grownBy w' (Value.slice A ps.length c).ownBlock := by
  rcases h.2 with ⟨hv, hn⟩ | ⟨g, cap, cur, hv, hg, hb, h1, h2, h3, h4⟩
  · have hnil : ps = [] := List.length_eq_zero_iff.1 hn
    subst hnil
    refine (show Calls Tryz.prog 70 _ w _ from AnyF.slices_SortFunc_none Tryz.sortPair A c _ w).mono ?_
    rintro e w' ⟨rfl, rfl⟩
    exact ⟨rfl, by simpa [sortP] using h, World.grownBy.refl _ _⟩
  · injection hv with e1 _ e3
    subst e1 e3
    have hgl : g < w.heap.size := (Array.getElem?_eq_some_iff.1 hb).1
    have hlen := prsC_len ps
    have eg : ∀ args w, (callFunc 71 args).run Tryz.prog w = .ok (.enter 71 args) w := enters_of Tryz.func71 (by kernel_rfl) rfl
    have hH : HoldsK prC 2 w g 0 ps.toArray := by
      unfold HoldsK
      rw [flatK_prs]
      exact holds_row hb (by rw [hlen]; exact h4)
    have hcon := AnyQ.slices_SortFunc_total (P := Tryz.prog) Tryz.sortPair 2 (by intro w; exact Tryz.isAgg50 w) (by intro w; exact Tryz.sizeOf50 w) prC prC_len (fun x v hv => by simp [prC] at hv; rcases hv with rfl | rfl <;> rfl) pairCmp swoP 71 #[] g 0 c ps.toArray w eg
      (fun _ _ _ _ x y => pairs1_any x.1 x.2 y.1 y.2 _) hH hgl (by simp; omega) (by intro x y hx hy; rw [pairCmp_fun] at hx hy; exact toP.total hx hy)
    change Calls Tryz.prog 70 _ _ _ at hcon
    simp only [List.size_toArray] at hcon
    refine hcon.mono ?_
    rintro e w' ⟨rfl, n, os, rfl⟩
    have hsort : (ps.mergeSort fun x y => !(ltOf pairCmp) y x) = sortP ps := by rw [pairCmp_fun]; rfl
    unfold sortWorldK putRowK
    rw [hsort, flatK_prs]
    have hl2 : (prsC (sortP ps)).length = ps.length * 2 := by rw [prsC_len, sortP_len]
    refine ⟨rfl, ⟨hl2, .inr ⟨g, c, _, rfl, hg, heap_row _ hb, h1, h2, by simp [putCells, h3], ?_⟩⟩, grownBy_row _⟩
    rw [← hl2]
    exact take_putCellsI cur _ (by omega)
end Od
end Go.Proofs.YtclaoffnfopekaaGreat
end

section
/- Rows of elements of several cells, in the sort's words (putRowK, HoldsK) and in the walks' words (ownsRow). No program. -/
namespace Go.Proofs.YtclaoffnfopekaaGreat
open Go.RowKit Go.Sort Go.Lib

section
variable {α : Type} [Inhabited α] {enc : α → List Value} {k : Nat}

theorem flatK_list (hk : ∀ x, (enc x).length = k) (hk0 : 0 < k) (ps : List α) : flatK enc k ps.toArray = (ps.flatMap enc).toArray := by
  have hl := flat_len enc k hk ps
  refine ext_get! (by simp [hl]) fun t ht => ?_
  have ht' : t < ps.length * k := by simpa using ht
  rw [get_flatK _ _ _ t (by simpa using ht')]
  have hi : t / k < ps.length := by rw [Nat.div_lt_iff_lt_mul hk0]; exact ht'
  have hm : t % k < k := Nat.mod_lt _ hk0
  have h := flat_at enc k hk ps (t / k) (t % k) hi hm
  rw [show t / k * k + t % k = t from by rw [Nat.mul_comm]; exact Nat.div_add_mod t k] at h
  have e1 : ps.toArray[t / k]! = ps[t / k] := by simp [hi]
  rw [e1]
  have e2 : (ps.flatMap enc).toArray[t]! = ((ps.flatMap enc)[t]?).getD default := by simp [List.getElem!_eq_getElem?_getD]
  rw [e2, h]
  simp [List.getElem!_eq_getElem?_getD]
theorem rowk_heap {w : World} {g n : Nat} {os : Array Obj} {cur : Array Value} {e : TypeId} {fr : Nat × Nat} (F : Array Value) (hb : w.heap[g]? = some (.cells cur e fr)) :
    (grow (putRow id (Sort.ahead w n) g 0 F) os).heap[g]? = some (.cells (putCells id 0 F cur) e fr) := by
  have hg : g < w.heap.size := (Array.getElem?_eq_some_iff.1 hb).1
  rw [heap_grow_old _ _ (by simpa using hg)]
  simp [putRow, mapBlock, Sort.ahead, Array.getElem?_modify, hb, onCells]
theorem rowk_grownBy {w : World} {g n : Nat} {os : Array Obj} (F : Array Value) : w.grownBy (grow (putRow id (Sort.ahead w n) g 0 F) os) (some g) := by
  refine ⟨rfl, rfl, rfl, by simp, fun k hk hne => ?_⟩
  rw [heap_grow_old _ _ (by simpa using hk)]
  have : g ≠ k := fun e => hne (by rw [e])
  simp [putRow, mapBlock, Sort.ahead, Array.getElem?_modify, this]
theorem rowk_take (cur : Array Value) (xs : List Value) (h : xs.length ≤ cur.size) : (putCells id 0 xs.toArray cur).toList.take xs.length = xs := by
  apply List.ext_getElem?
  intro j
  by_cases hj : j < xs.length
  · rw [List.getElem?_take_of_lt hj, Array.getElem?_toList]
    simp [putCells, hj, show j < cur.size by omega]
  · rw [List.getElem?_take_eq_none (by omega), List.getElem?_eq_none (by omega)]
theorem rowk_holds {w : World} {g : Nat} {cur : Array Value} {e : TypeId} {xs : List Value} (hb : w.heap[g]? = some (.cells cur e (0, 0))) (ht : cur.toList.take xs.length = xs) : Holds id w g 0 xs.toArray := by
  intro j hj
  have hj' : j < xs.length := by simpa using hj
  refine ⟨?_, by simp [World.frozen?, hb]⟩
  have h1 : (cur.toList.take xs.length)[j]? = xs[j]? := by rw [ht]
  rw [List.getElem?_take_of_lt hj'] at h1
  simp only [World.cell?, hb, Nat.zero_add]
  simp only [Option.isSome_none, Bool.false_eq_true, if_false]
  rw [← Array.getElem?_toList, h1]
  simp [hj']

theorem setMany_row (hk : ∀ x, (enc x).length = k) (hk0 : 0 < k) (d : Array α) (i : Nat) (hi : i < d.size) (x : α) : setMany (flatK enc k d) (i * k) (enc x) = flatK enc k (d.setIfInBounds i x) := by
  refine ext_get! (by simp) fun t ht => ?_
  have ht' : t < d.size * k := by simpa using ht
  rw [get_setMany _ _ _ t (by simpa using ht'), get_flatK _ _ _ t ht', get_flatK _ _ _ t (by simpa using ht')]
  rw [hk]
  have hdm := Nat.div_add_mod t k
  have hm : t % k < k := Nat.mod_lt _ hk0
  by_cases h : t / k = i
  · subst h
    rw [Nat.mul_comm] at hdm
    rw [if_pos (by omega), getElem!_set_same d _ x hi]
    congr 1
    omega
  · rw [getElem!_set_other d i (t / k) x h, if_neg]
    intro hc
    apply h
    have h1 : i ≤ t / k := (Nat.le_div_iff_mul_le hk0).2 hc.1
    have h2 : t / k < i + 1 := by rw [Nat.div_lt_iff_lt_mul hk0, Nat.add_mul]; omega
    omega
theorem putRowK_store (hk : ∀ x, (enc x).length = k) (hk0 : 0 < k) {W wr : World} {blk off : Nat} {dk : Array α} {i : Nat} (hi : i < dk.size) (hwr : wr = putRowK enc k W blk off dk) (x : α) :
    wr.setCells blk (off + i * k) (enc x) = putRowK enc k W blk off (dk.setIfInBounds i x) := by
  subst hwr
  unfold putRowK
  rw [setCells_putRow _ _ _ _ _ _ (by rw [hk, size_flatK]; calc i * k + k = (i + 1) * k := by rw [Nat.add_mul]; omega
    _ ≤ dk.size * k := Nat.mul_le_mul_right _ hi), setMany_row hk hk0 dk i hi x]
theorem setCells_app (w : World) (b : Nat) : ∀ (xs ys : List Value) (o : Nat), w.setCells b o (xs ++ ys) = (w.setCells b o xs).setCells b (o + xs.length) ys := by
  intro xs
  induction xs generalizing w with
  | nil => intro ys o; simp [World.setCells]
  | cons x r ih => intro ys o; simp only [List.cons_append, World.setCells, List.length_cons]; rw [ih, show o + 1 + r.length = o + (r.length + 1) by omega]
theorem putRowK_lay (hk : ∀ x, (enc x).length = k) (hk0 : 0 < k) (W : World) (blk off : Nat) : ∀ (xs : List α) (dk : Array α) (i : Nat), i + xs.length ≤ dk.size → (putRowK enc k W blk off dk).setCells blk (off + i * k) (xs.flatMap enc) = putRowK enc k W blk off (lay dk i xs)
  | [], _, _, _ => by simp [World.setCells, lay]
  | x :: r, dk, i, h => by
    have hl : i + (r.length + 1) ≤ dk.size := by simpa using h
    rw [List.flatMap_cons, setCells_app, putRowK_store hk hk0 (by omega) rfl x, hk, show off + i * k + k = off + (i + 1) * k from by rw [Nat.add_mul]; omega, putRowK_lay hk hk0 W blk off r _ (i + 1) (by simp; omega), lay]

/-- What is owned, in the sort's words. -/
theorem own_holdsK (hk : ∀ x, (enc x).length = k) (hk0 : 0 < k) {w : World} {g : Nat} {cur : Array Value} {e : TypeId} {ps : List α} (hb : w.heap[g]? = some (.cells cur e (0, 0))) (ht : cur.toList.take (ps.length * k) = ps.flatMap enc) : HoldsK enc k w g 0 ps.toArray := by
  unfold HoldsK
  rw [flatK_list hk hk0]
  exact rowk_holds hb (by rw [flat_len enc k hk]; exact ht)
/-- What the sort's words leave, owned: the first m elements of what was laid. -/
theorem own_of_putRowK (hk : ∀ x, (enc x).length = k) (hk0 : 0 < k) {w : World} {base g c n q : Nat} {e : TypeId} {cur : Array Value} {ps : List α} {os : Array Obj} (hg : base ≤ g) (hb : w.heap[g]? = some (.cells cur e (0, 0))) (hc : n ≤ c) (hm : c ≤ maxLen) (hs : cur.size = c * k)
    (hn : n ≤ ps.length) (hp : ps.length ≤ c) : (grow (putRowK enc k (Sort.ahead w q) g 0 ps.toArray) os).ownsRow base e k (.slice (some ⟨g, 0, none⟩) n c) n ((ps.take n).flatMap enc) := by
  have hl := flat_len enc k hk ps
  have hl2 := flat_len enc k hk (ps.take n)
  rw [List.length_take, Nat.min_eq_left hn] at hl2
  unfold putRowK
  rw [flatK_list hk hk0]
  refine ⟨hl2, .inr ⟨g, c, _, rfl, hg, rowk_heap _ hb, hc, hm, by simp [putCells, hs], ?_⟩⟩
  have h1 := rowk_take cur (ps.flatMap enc) (by rw [hl, hs]; exact Nat.mul_le_mul_right _ hp)
  have h2 := congrArg (List.take (n * k)) h1
  have hle : n * k ≤ ps.length * k := Nat.mul_le_mul_right _ hn
  rw [List.take_take, Nat.min_eq_left (by omega)] at h2
  rw [h2]
  have : ps.flatMap enc = (ps.take n).flatMap enc ++ (ps.drop n).flatMap enc := by rw [← List.flatMap_append, List.take_append_drop]
  rw [this, List.take_append_of_le_length (by omega), List.take_of_length_le (by omega)]
end
end Go.Proofs.YtclaoffnfopekaaGreat
end

section
/- The walk of slices.Compact at pairs of texts. -/
namespace Go.Proofs.YtclaoffnfopekaaGreat
open Go.RowKit Go.Sort Go.Lib Go.Shelf

namespace Od
theorem mixed_ : Tryz.prog.follows .mixedOrders = true := by kernel_rfl
theorem run_clear_pairs (w : World) (ty : TypeId) (b o n c : Nat) (hn : 0 < n) (hc : ∀ j, j < n * 2 → (w.cell? ⟨b, o + j, none⟩).isSome = true) (hf : ∀ j, j < n * 2 → w.frozen? ⟨b, o + j, none⟩ = false) :
    (Builtin.clear_ #[82] ty #[.slice (some ⟨b, o, none⟩) n c]).run Tryz.prog w = .ok (.tuple #[]) (w.setCells b o (List.replicate (n * 2) (sv []))) := by
  have hzc : (Builtin.zeroCells #[sv [], sv []] n).toList = List.replicate (n * 2) (sv []) := by
    simp [Builtin.zeroCells]
    apply List.ext_getElem
    · simp
    · intro i h1 h2
      rcases (show i % 2 = 0 ∨ i % 2 = 1 by omega) with h | h <;> simp [h]
  have hst := run_storeCells_cells (P := Tryz.prog) b o (List.replicate (n * 2) (sv [])) 0 w (by simpa using hc) (by simpa using hf) (by intro v hv'; rw [List.eq_of_mem_replicate hv']; rfl)
  simp only [Nat.add_zero] at hst
  have hzv : ∀ W, (zeroValue 50).run Tryz.prog W = .ok (.agg #[sv [], sv []]) W := fun W => Tryz.zeroValue50 W
  obtain ⟨m, rfl⟩ : ∃ m, n = m + 1 := ⟨n - 1, by omega⟩
  simp [Builtin.clear_, run_underlying Tryz.underlying82, hzv, Value.cells, hzc, hst]

theorem pcells {w : World} {blk off : Nat} {d : Array Pr} (h : HoldsK prC 2 w blk off d) {i : Nat} (hi : i < d.size) :
    w.cell? ⟨blk, off + i * 2, none⟩ = some (sv d[i]!.1) ∧ w.cell? ⟨blk, off + i * 2 + 1, none⟩ = some (sv d[i]!.2) ∧ w.frozen? ⟨blk, off + i * 2, none⟩ = false ∧ w.frozen? ⟨blk, off + i * 2 + 1, none⟩ = false :=
  ⟨(h.cell hi (c := 0) (by omega)).1, (h.cell hi (c := 1) (by omega)).1, (h.cell hi (c := 0) (by omega)).2, (h.cell hi (c := 1) (by omega)).2⟩

theorem store_pair_drew {w wr : World} {n blk off : Nat} {dk : Array Pr} {i : Nat} (hi : i < dk.size) (hwr : wr = putRowK prC 2 (Sort.ahead w n) blk off dk) (x : Pr) :
    ((wr.setCell ⟨blk, off + i * 2, none⟩ (sv x.1)).setCell ⟨blk, off + i * 2 + 1, none⟩ (sv x.2)).drew = putRowK prC 2 (Sort.ahead w (n + 1)) blk off (dk.setIfInBounds i x) := by
  show (wr.setCells blk (off + i * 2) (prC x)).drew = _
  rw [putRowK_store prC_len (by decide) hi hwr x]
  rfl

def CompactPost (blk off cap : Nat) (d : Array Pr) (w : World) (e : Ending) (w' : World) : Prop :=
  e = .returned (.slice (some ⟨blk, off, none⟩) (compactUpTo d d.size).length cap) ∧ ∃ q, w' = putRowK prC 2 (Sort.ahead w q) blk off (compactUpTo d d.size ++ List.replicate (d.size - (compactUpTo d d.size).length) ([], [])).toArray

set_option maxRecDepth 100000 in
set_option maxHeartbeats 4000000 in
theorem CompactP_arr (blk off cap : Nat) (d : Array Pr) (w : World) (hH : HoldsK prC 2 w blk off d) (hsz : d.size ≤ 1000000) (hcap : d.size ≤ cap) :
    Calls Tryz.prog 72 #[.slice (some ⟨blk, off, none⟩) d.size cap] w (CompactPost blk off cap d w) := by
  have same : ∀ q, (∀ j, j < d.size → keeps d j = true) → (compactUpTo d d.size).length = d.size ∧ w.drewN q = putRowK prC 2 (Sort.ahead w q) blk off (compactUpTo d d.size ++ List.replicate (d.size - (compactUpTo d d.size).length) ([], [])).toArray := by
    intro q hall
    have e : compactUpTo d d.size = d.toList := by rw [compactUpTo_all d _ hall, range_map_get]
    rw [e]
    refine ⟨by simp, ?_⟩
    simp only [Array.length_toList, Nat.sub_self, List.replicate_zero, List.append_nil, Array.toArray_toList]
    exact (putRowK_self prC 2 (Sort.ahead w q) blk off d (holdsK_ahead prC 2 w q blk off d hH)).symm
  have HS := Lib.hid same
  clear same
  by_cases h2 : d.size < 2
  · have h2' : (d.size : Int) < 2 := by omega
    have HH := Lib.hid hH
    clear hH
    go_enter Tryz.func72, Tryz.ntmps72
    go_wp2
    go_ret
    obtain ⟨e1, e2⟩ := HS.out 0 (fun j hj => keeps_lt_one d j (by omega))
    exact ⟨by rw [e1]; rfl, 0, e2⟩
  · have h2' : ¬ (d.size : Int) < 2 := by omega
    have mixed := mixed_
    go_enter Tryz.func72, Tryz.ntmps72
    go_wp2
    go_loopg [3] d.size (fun g s3 wr => ∃ k q : Nat, 1 ≤ k ∧ k ≤ d.size ∧ d.size - k ≤ g ∧ s3 = .int .i64 k ∧ wr = w.drewN q ∧ ∀ j, j < k → keeps d j = true)
    case atStart => exact ⟨1, 0, Nat.le_refl _, by omega, by omega, rfl, rfl, keeps_lt_one d⟩
    case round =>
      obtain ⟨k, q, hk1, hk, hg, rfl, rfl, hall⟩ := hrel
      by_cases hlt : k < d.size
      · obtain ⟨c1, c1', _, _⟩ := pcells hH hlt
        obtain ⟨c0, c0', _, _⟩ := pcells (i := k - 1) hH (by omega)
        have A := Lib.hid hall
        have HH := Lib.hid hH
        clear hall hH
        generalize hx : d[k]! = x at c1 c1'
        generalize hy : d[k - 1]! = y at c0 c0'
        have B := Lib.hid (And.intro hx hy)
        clear hx hy
        obtain ⟨x1, x2⟩ := x
        obtain ⟨y1, y2⟩ := y
        simp only at c1 c1' c0 c0'
        have k0 : (1 : Int) ≤ (k : Int) := by omega
        have k1 : (0 : Int) ≤ (k : Int) := by omega
        have k2 : (k : Int) < (d.size : Int) := by omega
        have k3 : (0 : Int) ≤ (k : Int) - 1 := by omega
        have k4 : (k : Int) - 1 < (d.size : Int) := by omega
        have k5 : IntKind.i64.wrap ((k : Int) - 1) = (k : Int) - 1 := IntWalk.i64_in _ (by omega)
        have k6 : ((k : Int) - 1).toNat = k - 1 := by omega
        have hdup : (x1 = y1 ∧ x2 = y2) ∨ (x1 = y1 ∧ ¬ x2 = y2) ∨ ¬ x1 = y1 := by
          by_cases h1 : x1 = y1
          · by_cases h2 : x2 = y2
            · exact .inl ⟨h1, h2⟩
            · exact .inr (.inl ⟨h1, h2⟩)
          · exact .inr (.inr h1)
        rcases hdup with ⟨rfl, rfl⟩ | hno
        · go_wp2_with fail
          go_region_o
          go_wp2
          clear c0 c0' c1 c1'
          go_loopg [3, 5] d.size (fun g s3 s5 wr => ∃ (kk k2 q2 : Nat) (dk : Array Pr), s3 = .int .i64 kk ∧ s5 = .int .i64 k2 ∧ 1 ≤ k2 ∧ k + k2 ≤ d.size ∧ d.size - (k + k2) ≤ g ∧ wr = putRowK prC 2 (Sort.ahead w q2) blk off dk ∧ CompInv d (k + k2) kk dk)
          case atStart => exact ⟨k, 1, q + 1, d, rfl, rfl, Nat.le_refl _, by omega, by omega, (putRowK_self prC 2 (Sort.ahead w (q + 1)) blk off d (holdsK_ahead prC 2 w (q + 1) blk off d HH.out)).symm, CompInv.start A.out (keeps_neg (by omega) (by rw [B.out.1, B.out.2]))⟩
          case round =>
            obtain ⟨kk, k2, q2, dk, rfl, rfl, h1, hle, hg2, hwr, hI⟩ := hrel
            have hkk := hI.lt
            have hds := hI.size
            have hHk : HoldsK prC 2 wr blk off dk := by rw [hwr]; exact holdsK_putRowK prC 2 _ blk off d dk (holdsK_ahead prC 2 w q2 blk off d HH.out) hds
            have W2 := Lib.hid hwr
            have I2 := Lib.hid hI
            clear hwr
            by_cases hlt2 : k + k2 < d.size
            · obtain ⟨cm, cm', _, _⟩ := pcells hHk (i := k + k2) (by omega)
              obtain ⟨cp, cp', _, _⟩ := pcells hHk (i := k + k2 - 1) (by omega)
              obtain ⟨ck, ck', fk, fk'⟩ := pcells hHk (i := kk) (by omega)
              rw [hI.high (k + k2) (by omega), show off + (k + k2) * 2 = off + k * 2 + k2 * 2 by omega] at cm cm'
              rw [hI.high (k + k2 - 1) (by omega), show off + (k + k2 - 1) * 2 = off + k * 2 + (k2 - 1) * 2 by omega] at cp cp'
              clear hHk hI
              generalize hu : d[k + k2]! = u at cm cm'
              generalize hv : d[k + k2 - 1]! = v at cp cp'
              generalize dk[kk]! = old at ck ck'
              have C := Lib.hid (And.intro hu hv)
              clear hu hv
              obtain ⟨u1, u2⟩ := u
              obtain ⟨v1, v2⟩ := v
              simp only at cm cm' cp cp'
              have m0 : (1 : Int) ≤ (k2 : Int) := by omega
              have m1 : (0 : Int) ≤ (k2 : Int) := by omega
              have m2 : (k2 : Int) < (d.size : Int) := by omega
              have m3 : (0 : Int) ≤ (k2 : Int) - 1 := by omega
              have m5 : IntKind.i64.wrap ((k2 : Int) - 1) = (k2 : Int) - 1 := IntWalk.i64_in _ (by omega)
              have m6 : ((k2 : Int) - 1).toNat = k2 - 1 := by omega
              have huv : (u1 = v1 ∧ u2 = v2) ∨ (u1 = v1 ∧ ¬ u2 = v2) ∨ ¬ u1 = v1 := by
                by_cases h1 : u1 = v1
                · by_cases h2 : u2 = v2
                  · exact .inl ⟨h1, h2⟩
                  · exact .inr (.inl ⟨h1, h2⟩)
                · exact .inr (.inr h1)
              rcases huv with ⟨rfl, rfl⟩ | huv
              · go_wp2_with fail
                go_region_o
                go_wp2
                go_roundg (d.size - (k + (k2 + 1)))
                case measure => omega
                case rel => exact ⟨kk, k2 + 1, q2 + 1, dk, rfl, by go_num, by omega, by omega, Nat.le_refl _, by rw [W2.out]; rfl, I2.out.skip (keeps_neg (by omega) (by rw [C.out.1, C.out.2]))⟩
              · have huv' : ¬ (u1, u2) = (v1, v2) := by
                  intro h
                  injection h with h1 h2
                  rcases huv with ⟨_, h⟩ | h
                  · exact h h2
                  · exact h h1
                rcases huv with ⟨rfl, hne⟩ | hne
                all_goals
                  go_wp2_with fail
                  go_region_o
                  go_wp2
                  go_roundg (d.size - (k + (k2 + 1)))
                  case measure => omega
                  case rel => exact ⟨kk + 1, k2 + 1, q2 + 1, dk.setIfInBounds kk (_, u2), by go_num, by go_num, by omega, by omega, Nat.le_refl _, store_pair_drew (by omega) W2.out (_, u2), by have := I2.out.keep hlt2 (keeps_pos (by rw [C.out.1, C.out.2]; exact huv')); rwa [C.out.1] at this⟩
            · have hend : k + k2 = d.size := by omega
              have hcl : ∀ ty, (Builtin.clear_ #[82] ty #[.slice (some ⟨blk, off + kk * 2, none⟩) (d.size - kk) (cap - kk)]).run Tryz.prog wr = .ok (.tuple #[]) (wr.setCells blk (off + kk * 2) (List.replicate ((d.size - kk) * 2) (sv []))) := by
                intro ty
                have hcs : ∀ j, j < (d.size - kk) * 2 → (wr.cell? ⟨blk, off + kk * 2 + j, none⟩).isSome = true ∧ wr.frozen? ⟨blk, off + kk * 2 + j, none⟩ = false := by
                  intro j hj
                  obtain ⟨c1, c2, c3, c4⟩ := pcells hHk (i := kk + j / 2) (by omega)
                  rcases (show j % 2 = 0 ∨ j % 2 = 1 by omega) with h | h
                  · rw [show off + kk * 2 + j = off + (kk + j / 2) * 2 by omega, c1, c3]; exact ⟨rfl, rfl⟩
                  · rw [show off + kk * 2 + j = off + (kk + j / 2) * 2 + 1 by omega, c2, c4]; exact ⟨rfl, rfl⟩
                exact run_clear_pairs wr ty blk (off + kk * 2) _ _ (by omega) (fun j hj => (hcs j hj).1) (fun j hj => (hcs j hj).2)
              clear hHk hI
              go_wp2
              go_ret
              have hI := I2.out
              rw [hend] at hI
              refine ⟨by rw [hI.len]; rfl, q2, ?_⟩
              have hz : (List.replicate (d.size - kk) (([], []) : Pr)).flatMap prC = List.replicate ((d.size - kk) * 2) (sv []) := by
                generalize d.size - kk = n
                induction n with
                | zero => rfl
                | succ n ih => rw [List.replicate_succ, List.flatMap_cons, ih, show (n + 1) * 2 = n * 2 + 1 + 1 by omega, List.replicate_succ, List.replicate_succ]; rfl
              rw [hI.len, ← hI.done ([], []), ← putRowK_lay prC_len (by decide) _ blk off _ dk kk (by simp; omega), ← W2.out, hz]
        · have hno' : ¬ (x1, x2) = (y1, y2) := by
            intro h
            injection h with h1 h2
            rcases hno with ⟨_, h⟩ | h
            · exact h h2
            · exact h h1
          have hkeep : keeps d k = true := keeps_pos (by rw [B.out.1, B.out.2]; exact hno')
          have HK := Lib.hid hkeep
          clear hkeep hno'
          rcases hno with ⟨rfl, hne⟩ | hne
          all_goals
            go_wp2_with fail
            go_region_o
            go_wp2
            go_roundg (d.size - (k + 1))
            case measure => omega
            case rel =>
              refine ⟨k + 1, q + 1, by omega, by omega, Nat.le_refl _, by go_num, rfl, fun j hj => ?_⟩
              by_cases e : j = k
              · subst e
                exact HK.out
              · exact A.out j (by omega)
      · have : k = d.size := by omega
        subst this
        have HH := Lib.hid hH
        clear hH
        go_wp2
        go_ret
        obtain ⟨e1, e2⟩ := HS.out q hall
        exact ⟨by rw [e1]; rfl, q, e2⟩

/-- Compact at pairs of the call's own. -/
theorem compactP_own (base c : Nat) (A : Option Addr) (ps : List Pr) (w : World) (h : w.ownsRow base 50 2 (.slice A ps.length c) ps.length (prsC ps)) (hsz : ps.length ≤ 1000000) :
    Calls Tryz.prog 72 #[.slice A ps.length c] w fun e w' => e = .returned (.slice A (Lib.compact ps).length c) ∧ w'.ownsRow base 50 2 (.slice A (Lib.compact ps).length c) (Lib.compact ps).length (prsC (Lib.compact ps)) ∧ w.grownBy w' (Value.slice A ps.length c).ownBlock := by
  rcases h.2 with ⟨hv, hn⟩ | ⟨g, cap, cur, hv, hg, hb, h1, h2, h3, h4⟩
  · have hnil : ps = [] := List.length_eq_zero_iff.1 hn
    subst hnil
    have h' : (0 : Int) < 2 := by omega
    go_enter Tryz.func72, Tryz.ntmps72
    go_wp2
    go_ret
    exact ⟨rfl, h, World.grownBy.refl _ _⟩
  · injection hv with e1 _ e3
    subst e1 e3
    have hle : (Lib.compact ps).length ≤ ps.length := by
      unfold Lib.compact Lib.compactUpTo
      rw [List.length_map]
      exact Nat.le_trans (List.length_filter_le _ _) (by simp)
    have hcon := CompactP_arr g 0 c ps.toArray w (own_holdsK prC_len (by decide) hb h4) (by simpa using hsz) (by simpa using h1)
    simp only [List.size_toArray] at hcon
    refine hcon.mono ?_
    rintro e w' ⟨rfl, q, rfl⟩
    have hc : compactUpTo ps.toArray ps.toArray.size = Lib.compact ps := rfl
    rw [hc, List.size_toArray]
    have hs : (Lib.compact ps ++ List.replicate (ps.length - (Lib.compact ps).length) (([], []) : Pr)).take (Lib.compact ps).length = Lib.compact ps := by
      rw [List.take_append_of_le_length (Nat.le_refl _), List.take_length]
    have ho := own_of_putRowK (os := #[]) (q := q) (n := (Lib.compact ps).length) (ps := Lib.compact ps ++ List.replicate (ps.length - (Lib.compact ps).length) (([], []) : Pr)) prC_len (by decide) hg hb (by omega) h2 h3 (by simp) (by simp; omega)
    rw [hs, grow_empty] at ho
    refine ⟨rfl, ho, ?_⟩
    have := rowk_grownBy (w := w) (g := g) (n := q) (os := #[]) (flatK prC 2 (Lib.compact ps ++ List.replicate (ps.length - (Lib.compact ps).length) (([], []) : Pr)).toArray)
    rw [grow_empty] at this
    exact this
end Od
end Go.Proofs.YtclaoffnfopekaaGreat
end

section
/- Maps of the call's own, as functions from keys (over the library's ownsMap and ranges, each element held as it is). -/
namespace Go.Proofs.YtclaoffnfopekaaGreat
open Go.RowKit Go.Maps

/-- An element read as the value that it is. -/
def idR (v : Value) : Option (DataW Value × List MemPlace) := some (.held v, [])

/-- Keys of a type in Lean, as keys in the program. -/
structure KeyKind (P : Program) (k : TypeId) (α : Type) where
  val : α → Value
  ok : α → Prop
  kl : α → Lit
  law : Keyed P k
  key : ∀ x, ok x → keyOf P k (val x) = some (kl x)
  inj : ∀ x y, val x = val y → x = y
  inv : ∀ v l, keyOf P k v = some l → ∃ x, ok x ∧ v = val x

variable {P : Program} {k : TypeId} {α : Type} {κ : KeyKind P k α} {w w' : World} {b n : Nat} {f : α → Option Value}

theorem KeyKind.kl_inj (κ : KeyKind P k α) {x y : α} (hx : κ.ok x) (hy : κ.ok y) (h : κ.kl x = κ.kl y) : x = y :=
  κ.inj _ _ (κ.law.inj (κ.key x hx) (h ▸ κ.key y hy))
theorem KeyKind.kl_key (κ : KeyKind P k α) {x : α} (hx : κ.ok x) : WideAt.IsKeyLit (κ.kl x) := κ.law.key (κ.key x hx)

/-- What a datum says at each key. -/
def SaysF (κ : KeyKind P k α) (D : DataW Value) (f : α → Option Value) : Prop :=
  ∀ x, κ.ok x → Maps.has D (κ.kl x) = (f x).isSome ∧ ∀ z, D.atKey (κ.kl x) z = ((f x).map DataW.held).getD z

/-- Block b is a map of at most n entries that holds f x at the key x. -/
def MapIs (κ : KeyKind P k α) (w : World) (b n : Nat) (f : α → Option Value) : Prop :=
  ∃ D : DataW Value, w.ownsMap P k idR b n D ∧ SaysF κ D f

theorem MapIs.made (κ : KeyKind P k α) (w : World) : MapIs κ (w.alloc (.map #[] 0)) w.heap.size 0 (fun _ => none) :=
  ⟨.map [], World.ownsMap_made w P k idR, fun _ _ => ⟨rfl, fun z => Maps.atKey_of_not_has (by rfl) z⟩⟩
theorem MapIs.lt (h : MapIs κ w b n f) : b < w.heap.size := by obtain ⟨D, h, _⟩ := h; exact h.lt
theorem MapIs.mono (h : MapIs κ w b n f) {n' : Nat} (hn : n ≤ n') : MapIs κ w b n' f := by obtain ⟨D, h, hf⟩ := h; exact ⟨D, h.mono hn, hf⟩
theorem MapIs.same (h : MapIs κ w b n f) (he : w'.heap[b]? = w.heap[b]?) : MapIs κ w' b n f := by
  obtain ⟨D, ⟨es, c, hb, r⟩, hf⟩ := h
  exact ⟨D, ⟨es, c, he.trans hb, r⟩, hf⟩
theorem MapIs.on (h : MapIs κ w b n f) (hb : Below w.heap.size w w') : MapIs κ w' b n f := h.same (hb.block b h.lt)
theorem MapIs.alloc (h : MapIs κ w b n f) (o : Obj) : MapIs κ (w.alloc o) b n f := by obtain ⟨D, h, hf⟩ := h; exact ⟨D, h.alloc o, hf⟩
theorem MapIs.drew (h : MapIs κ w b n f) : MapIs κ w.drew b n f := h
theorem MapIs.kept {row : Option Nat} (h : MapIs κ w b n f) (hg : w.grownBy w' row) (hne : some b ≠ row) : MapIs κ w' b n f := by obtain ⟨D, h, hf⟩ := h; exact ⟨D, h.kept hg hne, hf⟩

theorem MapIs.lookup {t e : TypeId} {z : Value} (h : MapIs κ w b n f) (ht : P.underlying t = some (.map k e)) (hz : (zeroValue e).run P w = .ok z w) {x : α} (hx : κ.ok x) :
    (Instr.lookup t (.map (some b)) (κ.val x) false).run P w = .ok ((f x).getD z) w := by
  obtain ⟨D, h, hf⟩ := h
  obtain ⟨v, ps, hrun, hv⟩ := h.lookup κ.law ht hz (zd := .held z) (zp := []) rfl (κ.key x hx)
  rw [(hf x hx).2] at hv
  rw [hrun]
  cases hfx : f x
  · rw [hfx] at hv
    simp only [idR, Option.map_none, Option.getD_none, Option.some.injEq, Prod.mk.injEq, DataW.held.injEq] at hv
    rw [hv.1]; rfl
  · rw [hfx] at hv
    simp only [idR, Option.map_some, Option.getD_some, Option.some.injEq, Prod.mk.injEq, DataW.held.injEq] at hv
    rw [hv.1]; rfl

open Classical in
theorem MapIs.update {t e : TypeId} (h : MapIs κ w b n f) (ht : P.underlying t = some (.map k e)) (hn : n < maxLen) {x : α} (hx : κ.ok x) (v : Value) :
    ∃ w', (Instr.mapUpdate t (.map (some b)) (κ.val x) v).run P w = .ok () w' ∧ MapIs κ w' b (n + 1) (fun y => if y = x then some v else f y) ∧ w.grownBy w' (some b) := by
  obtain ⟨D, h, hf⟩ := h
  have him := h.isMap
  obtain ⟨w', hrun, h', hg⟩ := h.update κ.law ht hn (key := κ.val x) (val := v) (d := .held v) (ps := []) (κ.key x hx) rfl
  refine ⟨w', hrun, ⟨_, h', fun y hy => ?_⟩, hg⟩
  by_cases hyx : y = x
  · subst hyx
    exact ⟨by rw [Maps.has_put_same him (κ.kl_key hy)]; simp, fun z => by rw [Maps.atKey_put_same him (κ.kl_key hy)]; simp⟩
  · have hne : κ.kl y ≠ κ.kl x := fun e => hyx (κ.kl_inj hy hx e)
    have hkx := κ.kl_key hx
    exact ⟨by rw [Maps.has_put_other hne]; simp [hyx, hf y hy], fun z => by rw [Maps.atKey_put_other hne]; simp [hyx, hf y hy]⟩

/-- 'for k := range m' under way: f: what the map holds; left: which keys are still to come. -/
def RangeIs (κ : KeyKind P k α) (w : World) (b r n : Nat) (f : α → Option Value) (left : α → Bool) (cnt : Nat) : Prop :=
  ∃ (D : DataW Value) (L : Lit → Bool), w.ranges P k idR b r n D L cnt ∧ SaysF κ D f ∧ ∀ x, κ.ok x → L (κ.kl x) = left x

variable {r cnt : Nat} {left : α → Bool}
theorem RangeIs.map (h : RangeIs κ w b r n f left cnt) : MapIs κ w b n f := by obtain ⟨D, L, h, hf, _⟩ := h; exact ⟨D, h.owns, hf⟩
theorem RangeIs.left_eq (h : RangeIs κ w b r n f left cnt) : w.rangeLeft b r = cnt := by obtain ⟨D, L, h, _⟩ := h; exact h.left_eq
theorem RangeIs.lt (h : RangeIs κ w b r n f left cnt) : r < w.heap.size := by obtain ⟨D, L, h, _⟩ := h; exact h.lt
theorem RangeIs.ne (h : RangeIs κ w b r n f left cnt) : r ≠ b := by obtain ⟨D, L, h, _⟩ := h; exact h.ne
theorem RangeIs.same (h : RangeIs κ w b r n f left cnt) (hb : w'.heap[b]? = w.heap[b]?) (hr : w'.heap[r]? = w.heap[r]?) : RangeIs κ w' b r n f left cnt := by
  obtain ⟨D, L, ⟨es, clock, since, seen, c0, h1, h2, h3, h4, h5, h6⟩, hf, hl⟩ := h
  exact ⟨D, L, ⟨es, clock, since, seen, c0, hb.trans h1, h2, h3, h4, hr.trans h5, h6⟩, hf, hl⟩
theorem RangeIs.on (h : RangeIs κ w b r n f left cnt) (hb : Below w.heap.size w w') : RangeIs κ w' b r n f left cnt := h.same (hb.block b h.map.lt) (hb.block r h.lt)
theorem RangeIs.kept {row : Option Nat} (h : RangeIs κ w b r n f left cnt) (hg : w.grownBy w' row) (hb : some b ≠ row) (hr : some r ≠ row) : RangeIs κ w' b r n f left cnt := by
  obtain ⟨D, L, h, hf, hl⟩ := h
  exact ⟨D, L, h.kept hg hb hr, hf, hl⟩

theorem MapIs.range {t e : TypeId} (h : MapIs κ w b n f) (ht : P.underlying t = some (.map k e)) :
    ∃ w', (Instr.range t (.map (some b))).run P w = .ok (.pointer (some ⟨w.heap.size, 0, none⟩)) w' ∧ (∃ cnt, RangeIs κ w' b w.heap.size n f (fun x => (f x).isSome) cnt) ∧ w.grownBy w' none ∧ w'.heap.size = w.heap.size + 1 := by
  obtain ⟨D, h, hf⟩ := h
  obtain ⟨w', hrun, h1, h2, h3⟩ := h.range κ.law ht
  exact ⟨w', hrun, ⟨_, D, _, h1, hf, fun x hx => (hf x hx).1⟩, h2, h3⟩

open Classical in
theorem RangeIs.next (h : RangeIs κ w b r n f left cnt) (ty : TypeId) :
    (cnt = 0 ∧ (∀ x, κ.ok x → left x = false) ∧ (Instr.next (.pointer (some ⟨r, 0, none⟩)) false ty).run P w = .ok (.tuple #[.bool false]) w) ∨
    ∃ x v w' cnt', κ.ok x ∧ left x = true ∧ f x = some v ∧ (Instr.next (.pointer (some ⟨r, 0, none⟩)) false ty).run P w = .ok (.tuple #[.bool true, κ.val x, v]) w' ∧
      RangeIs κ w' b r n f (fun y => left y && decide (y ≠ x)) cnt' ∧ cnt' < cnt ∧ w.grownBy w' (some r) ∧ w'.heap.size = w.heap.size ∧ (Instr.entry (.pointer (some ⟨r, 0, none⟩))).run P w' = .ok (.tuple #[κ.val x, v]) w' := by
  obtain ⟨D, L, h, hf, hl⟩ := h
  rcases h.next κ.law ty with ⟨h0, hL, hrun⟩ | ⟨key, v, kl, y, w', cnt', hkey, hLk, hv, hat, hrun, hrg, hlt, hgr, hsz, hen⟩
  · exact .inl ⟨h0, fun x hx => by rw [← hl x hx]; exact hL _, hrun⟩
  · obtain ⟨x, hx, rfl⟩ := κ.inv key kl hkey
    have hkl : κ.kl x = kl := Option.some.inj ((κ.key x hx).symm.trans hkey)
    subst hkl
    have hy : y = (.held v, []) := (Option.some.inj hv).symm
    subst hy
    have hfx : f x = some v := by
      have h1 := hat .nil
      rw [(hf x hx).2] at h1
      cases hfx : f x with
      | none => rw [hfx] at h1; cases h1
      | some v' => rw [hfx] at h1; cases h1; rfl
    refine .inr ⟨x, v, w', cnt', hx, by rw [← hl x hx]; exact hLk, hfx, hrun, ⟨D, _, hrg, hf, fun z hz => ?_⟩, hlt, hgr, hsz, hen⟩
    show (L (κ.kl z) && !(κ.kl z).sameKey (κ.kl x)) = _
    rw [hl z hz]
    by_cases hzx : z = x
    · subst hzx
      rw [WideAt.sameKey_self (κ.kl_key hz)]
      simp
    · rw [Maps.sameKey_ne (fun e => hzx (κ.kl_inj hz hx e))]
      simp [hzx]

section
variable {ops : Array Oper} {rest : List Oper} {o : Oper} {a : Act} {Q : Exit → Act → World → Prop} (w : World)

theorem wpList_lookup_is (hg : o.guard = none) (m x : Operand) (t : TypeId) (hop : o.op = Op.lookup t m x false) (e : TypeId) (ht : P.underlying t = some (.map k e)) (z : Value) (hz : (zeroValue e).run P w = .ok z w)
    (b n : Nat) (f : α → Option Value) (hm : a.eval m = .map (some b)) (h : MapIs κ w b n f) (key : α) (hx : a.eval x = κ.val key) (hk : κ.ok key)
    (hK : wpList P ops Q rest (a.put o.dst ((f key).getD z)) w) : wpList P ops Q (o :: rest) a w := by
  refine wpList_plain hg fun K' hK' => ?_
  have hrun := h.lookup ht hz hk
  unfold Oper.wp
  simp [execOp, hop, hm, hx, hrun, Result.andThen]
  exact hK' _ _ hK

open Classical in
theorem wpList_update_is (hg : o.guard = none) (m x v : Operand) (t : TypeId) (hop : o.op = Op.mapUpdate t m x v) (e : TypeId) (ht : P.underlying t = some (.map k e))
    (b n : Nat) (f : α → Option Value) (hm : a.eval m = .map (some b)) (h : MapIs κ w b n f) (hn : n < maxLen) (key : α) (val : Value) (hx : a.eval x = κ.val key) (hv : a.eval v = val) (hk : κ.ok key)
    (hK : ∀ w', MapIs κ w' b (n + 1) (fun y => if y = key then some val else f y) → w.grownBy w' (some b) → wpList P ops Q rest (a.put o.dst undef) w') : wpList P ops Q (o :: rest) a w := by
  refine wpList_plain hg fun K' hK' => ?_
  obtain ⟨w', hrun, h1, h2⟩ := h.update ht hn hk val
  unfold Oper.wp
  simp [execOp, hop, hm, hx, hv, hrun, Result.andThen]
  exact hK' _ _ (hK w' h1 h2)

theorem wpList_range_is (hg : o.guard = none) (m : Operand) (t : TypeId) (hop : o.op = Op.range t m) (e : TypeId) (ht : P.underlying t = some (.map k e)) (b n : Nat) (f : α → Option Value)
    (hm : a.eval m = .map (some b)) (h : MapIs κ w b n f)
    (hK : ∀ w' cnt, RangeIs κ w' b w.heap.size n f (fun x => (f x).isSome) cnt → w.grownBy w' none → w'.heap.size = w.heap.size + 1 → wpList P ops Q rest (a.put o.dst (.pointer (some ⟨w.heap.size, 0, none⟩))) w') :
    wpList P ops Q (o :: rest) a w := by
  refine wpList_plain hg fun K' hK' => ?_
  obtain ⟨w', hrun, ⟨cnt, r1⟩, r2, r3⟩ := h.range (t := t) ht
  unfold Oper.wp
  simp [execOp, hop, hm, hrun, Result.andThen]
  exact hK' _ _ (hK w' cnt r1 r2 r3)

open Classical in
theorem wpList_next_is (hg : o.guard = none) (it : Operand) (hop : o.op = Op.next it false) (b r n : Nat) (f : α → Option Value) (left : α → Bool) (cnt : Nat) (hit : a.eval it = .pointer (some ⟨r, 0, none⟩)) (h : RangeIs κ w b r n f left cnt)
    (hDone : (∀ x, κ.ok x → left x = false) → wpList P ops Q rest (a.put o.dst (.tuple #[.bool false])) w)
    (hMore : ∀ (x : α) (v : Value) (w' : World) (cnt' : Nat), κ.ok x → left x = true → f x = some v → RangeIs κ w' b r n f (fun y => left y && decide (y ≠ x)) cnt' → cnt' < cnt → w.grownBy w' (some r) → w'.heap.size = w.heap.size →
      (Instr.entry (.pointer (some ⟨r, 0, none⟩))).run P w' = .ok (.tuple #[κ.val x, v]) w' → wpList P ops Q rest (a.put o.dst (.tuple #[.bool true, κ.val x, v])) w') :
    wpList P ops Q (o :: rest) a w := by
  refine wpList_plain hg fun K' hK' => ?_
  unfold Oper.wp
  rcases h.next o.type with ⟨_, hl, hrun⟩ | ⟨x, v, w', cnt', hx, hlx, hfx, hrun, hrg, hlt, hgr, hsz, hen⟩
  · simp [execOp, hop, hit, hrun, Result.andThen]
    exact hK' _ _ (hDone hl)
  · simp [execOp, hop, hit, hrun, Result.andThen]
    exact hK' _ _ (hMore x v w' cnt' hx hlx hfx hrg hlt hgr hsz hen)
end

/-- Texts as keys. -/
def strKind {P : Program} {k : TypeId} (hk : P.underlying k = some .string) : KeyKind P k Str where
  val := sv
  ok s := s.length ≤ maxLen
  kl s := .string s
  law := string_keyed hk
  key s hs := by
    have h : (⟨s.toArray⟩ : ByteArray).size ≤ maxLen := by simpa [ByteArray.size] using hs
    simp [keyOf, hk, mapKey, h]
  inj x y h := by simpa using h
  inv v l h := by
    cases v <;> simp [keyOf, hk, mapKey] at h
    rename_i s
    refine ⟨s.data.toList, by simpa using h.1, by simp⟩
end Go.Proofs.YtclaoffnfopekaaGreat
end

section
/- The keys of the program's maps: texts, and pairs of texts. -/
namespace Go.Proofs.YtclaoffnfopekaaGreat
open Go.RowKit Go.Maps

namespace Od
theorem laidOut' : laidOutB Tryz.prog = true := by kernel_rfl
theorem rowP : (50 : TypeId) < Tryz.prog.types.size := of_decide_eq_true (by kernel_rfl)
theorem wideP : (match Tryz.prog.underlying 50 with | some (.array _ _) | some (.struct _) => true | _ => false) = true := by rw [Tryz.underlying50]
theorem keyAtP : Tryz.prog.keyTypeAt 3 50 = true := by kernel_rfl
set_option maxRecDepth 100000 in
theorem lawP : Keyed Tryz.prog 50 := Keyed.of_law (deep_law_laid laidOut' (m := 3) (by omega) rowP keyAtP wideP)
theorem cellsP : Tryz.prog.cellsOf 50 = 2 := by kernel_rfl
theorem keyTypeP : Tryz.prog.keyType 50 = true := by kernel_rfl
theorem cellsS : Tryz.prog.cellsOf 9 = 1 := by kernel_rfl
theorem sizeP : Tryz.prog.types.size = (Tryz.prog.types.size - 1) + 1 := by kernel_rfl
theorem sizeP2 : Tryz.prog.types.size - 1 = (Tryz.prog.types.size - 2) + 1 := by kernel_rfl
theorem keyLits_s (d : Nat) (s : Str) (hs : s.length ≤ maxLen) : Tryz.prog.keyLits (d + 1) 9 [sv s] = some [.string s] := by
  have h : (⟨s.toArray⟩ : ByteArray).size ≤ maxLen := by simpa [ByteArray.size] using hs
  simp [Program.keyLits, Tryz.underlying9, h]
def plit (p : Pr) : Lit := .string (keyBytes [.string p.1, .string p.2])
theorem keyOf_pair (p : Pr) (h1 : p.1.length ≤ maxLen) (h2 : p.2.length ≤ maxLen) : keyOf Tryz.prog 50 (.agg #[sv p.1, sv p.2]) = some (plit p) := by
  have hu := Tryz.underlying50
  have hform : (Value.agg #[sv p.1, sv p.2]).formed Tryz.prog 50 = true := by simp [Value.formed, hu, cellsP]
  unfold keyOf
  rw [hu]
  simp only [keyTypeP, hform, Bool.and_self, if_true]
  rw [sizeP, sizeP2]
  unfold Program.keyLits
  rw [hu]
  simp only [Value.cells, cellsP]
  simp [keyLits_s, h1, h2, cellsS, plit]

theorem keyLits_s_inv {d : Nat} {cs : List Value} {l : List Lit} (h : Tryz.prog.keyLits d 9 cs = some l) : ∃ s : Str, s.length ≤ maxLen ∧ cs = [sv s] ∧ l = [.string s] := by
  cases d with
  | zero => simp [Program.keyLits] at h
  | succ d =>
    unfold Program.keyLits at h
    simp only [Tryz.underlying9] at h
    split at h
    all_goals simp_all
    rename_i s
    exact ⟨s.data.toList, by rw [Array.length_toList]; exact h.1, by simp, h.2.symm⟩
theorem keyOf_pair_inv (v : Value) (l : Lit) (h : keyOf Tryz.prog 50 v = some l) : ∃ p : Pr, (p.1.length ≤ maxLen ∧ p.2.length ≤ maxLen) ∧ v = .agg #[sv p.1, sv p.2] := by
  have hu := Tryz.underlying50
  unfold keyOf at h
  simp only [hu, keyTypeP, Bool.true_and] at h
  split at h
  · rename_i hf
    cases v with
    | agg cs =>
      rw [sizeP] at h
      unfold Program.keyLits at h
      simp only [hu] at h
      simp [Value.formed, hu, cellsP] at hf
      simp only [Value.cells, cellsP] at h
      obtain ⟨xs⟩ := cs
      have hx : xs.length = 2 := by simpa using hf
      obtain ⟨x, y, rfl⟩ : ∃ x y, xs = [x, y] := by
        match xs, hx with
        | [x, y], _ => exact ⟨x, y, rfl⟩
      simp only [List.mapM_cons, List.mapM_nil, cellsS, List.drop_zero, List.take_succ_cons, List.take_zero, List.drop_succ_cons] at h
      cases h1 : Tryz.prog.keyLits (Tryz.prog.types.size - 1 + 1) 9 [x] with
      | none => rw [h1] at h; split at h <;> cases h
      | some l1 =>
        cases h2 : Tryz.prog.keyLits (Tryz.prog.types.size - 1 + 1) 9 [y] with
        | none => rw [h1, h2] at h; split at h <;> cases h
        | some l2 =>
          obtain ⟨s1, hs1, e1, _⟩ := keyLits_s_inv h1
          obtain ⟨s2, hs2, e2, _⟩ := keyLits_s_inv h2
          cases e1
          cases e2
          exact ⟨(s1, s2), ⟨hs1, hs2⟩, rfl⟩
    | _ => simp [Value.formed, hu] at hf
  · cases h
noncomputable def pairKind : KeyKind Tryz.prog 50 Pr where
  val p := .agg #[sv p.1, sv p.2]
  ok p := p.1.length ≤ maxLen ∧ p.2.length ≤ maxLen
  kl := plit
  law := lawP
  key p hp := keyOf_pair p hp.1 hp.2
  inj x y h := by
    obtain ⟨a, b⟩ := x
    obtain ⟨c, d⟩ := y
    simp only [Value.agg.injEq] at h
    have h1 := congrArg (fun z : Array Value => z.toList) h
    simp at h1
    simp [h1]
  inv := keyOf_pair_inv
noncomputable def strK : KeyKind Tryz.prog 9 Str := strKind Tryz.underlying9
end Od
end Go.Proofs.YtclaoffnfopekaaGreat
end

section
/- Plain mathematics: the search through pairs, a row of units that are still to be looked at. No program. -/
namespace Go.Proofs.YtclaoffnfopekaaGreat
namespace Od
/-- Whom pairs lead to from one, directly. -/
def succ (l : List Pr) (s : Str) : List Str := (l.filter (fun p => p.1 == s)).map Prod.snd
theorem mem_succ {l : List Pr} {s t : Str} : t ∈ succ l s ↔ (s, t) ∈ l := by
  unfold succ
  rw [List.mem_map]
  constructor
  · rintro ⟨⟨x, y⟩, h, rfl⟩
    obtain ⟨h1, h2⟩ := List.mem_filter.1 h
    have : x = s := by simpa using h2
    subst this
    exact h1
  · intro h
    exact ⟨(s, t), List.mem_filter.2 ⟨h, by simp⟩, rfl⟩
theorem succ_nil (s : Str) : succ [] s = [] := rfl
theorem succ_app (l : List Pr) (p : Pr) (s : Str) : succ (l ++ [p]) s = succ l s ++ (if p.1 = s then [p.2] else []) := by
  unfold succ
  rw [List.filter_append, List.map_append]
  congr 1
  by_cases h : p.1 = s <;> simp [h]
theorem succ_len (l : List Pr) (s : Str) : (succ l s).length ≤ l.length := by
  unfold succ; rw [List.length_map]; exact List.length_filter_le _ _

structure Bfs (l : List Pr) (a : Str) (D T : List Str) : Prop where
  done : ∀ b, b ∈ D → R l a b
  todo : ∀ b, b ∈ T → R l a b
  first : ∀ b, b ∈ succ l a → b ∈ D ∨ b ∈ T
  next : ∀ x, x ∈ D → ∀ y, y ∈ succ l x → y ∈ D ∨ y ∈ T
/-- What is left to do. -/
def mea (l : List Pr) (D T : List Str) : Nat := (l.filter (fun p => !decide (p.1 ∈ D))).length + T.length
theorem Bfs.start (l : List Pr) (a : Str) : Bfs l a [] (succ l a) where
  done := by simp
  todo b hb := .one (mem_succ.1 hb)
  first b hb := .inr hb
  next := by simp
theorem Bfs.skip {l : List Pr} {a b : Str} {D T : List Str} (h : Bfs l a D (b :: T)) (hb : b ∈ D) : Bfs l a D T where
  done := h.done
  todo x hx := h.todo x (.tail _ hx)
  first x hx := by
    rcases h.first x hx with e | e
    · exact .inl e
    · rcases List.mem_cons.1 e with e | e
      · exact .inl (e ▸ hb)
      · exact .inr e
  next x hx y hy := by
    rcases h.next x hx y hy with e | e
    · exact .inl e
    · rcases List.mem_cons.1 e with e | e
      · exact .inl (e ▸ hb)
      · exact .inr e
theorem Bfs.take {l : List Pr} {a b : Str} {D T : List Str} (h : Bfs l a D (b :: T)) : Bfs l a (b :: D) (T ++ succ l b) where
  done x hx := by
    rcases List.mem_cons.1 hx with e | e
    · subst e; exact h.todo _ (.head _)
    · exact h.done x e
  todo x hx := by
    rcases List.mem_append.1 hx with e | e
    · exact h.todo x (.tail _ e)
    · exact (h.todo b (.head _)).snoc (mem_succ.1 e)
  first x hx := by
    rcases h.first x hx with e | e
    · exact .inl (.tail _ e)
    · rcases List.mem_cons.1 e with e | e
      · exact .inl (e ▸ .head _)
      · exact .inr (List.mem_append_left _ e)
  next x hx y hy := by
    rcases List.mem_cons.1 hx with e | e
    · subst e; exact .inr (List.mem_append_right _ hy)
    · rcases h.next x e y hy with e | e
      · exact .inl (.tail _ e)
      · rcases List.mem_cons.1 e with e | e
        · exact .inl (e ▸ .head _)
        · exact .inr (List.mem_append_left _ e)
theorem mea_skip (l : List Pr) (b : Str) (D T : List Str) : mea l D (b :: T) = mea l D T + 1 := by simp [mea]; omega
theorem mea_take {l : List Pr} {b : Str} {D T : List Str} (hb : ¬ b ∈ D) : mea l D (b :: T) = mea l (b :: D) (T ++ succ l b) + 1 := by
  unfold mea succ
  rw [List.length_append, List.length_map, List.length_cons]
  suffices h : (l.filter (fun p => !decide (p.1 ∈ D))).length = (l.filter (fun p => !decide (p.1 ∈ b :: D))).length + (l.filter (fun p => p.1 == b)).length by omega
  simp only [List.mem_cons]
  induction l with
  | nil => rfl
  | cons p l ih =>
    by_cases h1 : p.1 = b
    · have h2 : ¬ p.1 ∈ D := h1 ▸ hb
      simp only [List.filter_cons, h1, true_or, decide_true, Bool.not_true, Bool.false_eq_true, if_false, beq_self_eq_true, if_true, List.length_cons]
      rw [if_pos (by simpa using hb)]
      simp only [List.length_cons, ih]
      omega
    · have h3 : (p.1 == b) = false := by simpa using h1
      by_cases h2 : p.1 ∈ D <;> simp [h1, h2, h3, ih] <;> omega
theorem Bfs.end {l : List Pr} {a : Str} {D : List Str} (h : Bfs l a D []) (b : Str) : b ∈ D ↔ b ∈ reachL l a := by
  rw [mem_reachL]
  refine ⟨h.done b, fun hr => ?_⟩
  refine Closed.all (l := l) (a := a) (S := D) (fun p hp hq => ?_) hr
  rcases hq with e | e
  · rcases h.first p.2 (mem_succ.2 (e ▸ hp)) with e | e
    · exact e
    · simp at e
  · rcases h.next p.1 e p.2 (mem_succ.2 hp) with e | e
    · exact e
    · simp at e
theorem mea_start (l : List Pr) (a : Str) : mea l [] (succ l a) ≤ 2 * l.length := by
  unfold mea
  have := succ_len l a
  have := List.length_filter_le (fun p : Pr => !decide (p.1 ∈ ([] : List Str))) l
  omega
end Od
end Go.Proofs.YtclaoffnfopekaaGreat
end
