/- My texts, joined for the claim: GReach GOrder Kit3 GName Shelf2 NChars GInfo NKind NMay QBase PMath. -/
import Derived.Test.YtbllehjhmfehbaaGreatZU1
import Derived.Lib.IndexLaws
import Derived.Lib.LastIndexByte
import Derived.Lib.IndexAny
import Derived.Shelf.Small.Bits
import Derived.Shelf.Small.Strs
import Derived.Shelf.Small.Wraps
import Derived.Shelf.Strconv.Itoa0
import Derived.Shelf.Strings.Search1
import Derived.Shelf.Strings.Search2
import Derived.Shelf.Strings.Cut
import Derived.Shelf.LaysM
import Derived.Shelf.Strings.Shaped
import Derived.Shelf.Sort.Plain
import Derived.Shelf.Strings.LastIndex
import Derived.Shelf.Strings.LastIndexAll
import Derived.Shelf.Slices.Turned
import Derived.Ground.Names2Prog
import Derived.Shelf.Slices.Clone
import Derived.Shelf.Slices.CompactS
import Derived.Shelf.Slices.SearchI
import Derived.Shelf.Slices.Delete
import Derived.Shelf.Slices.Cells
import Derived.Shelf.Slices.In.SortNone
import Derived.Shelf.Slices.Empties
import Derived.Ground.SlgnProg
import Derived.Shelf.SlicesE.Delete
import Derived.Shelf.SlicesE.Clone
import Derived.Ground.PaProg
import Derived.Shelf.Path.Small
import Derived.Test.YtbllehjhmfehbaaGreatProg
import Derived.Test.YtbllehjhmfehbaaGreatRows
import Derived.Shelf.Abstract
import Derived.WalkKit

section
/- Plain mathematics: what one leads to by pairs, directly or through others. No program. -/
namespace Go.Proofs.YtbllehjhmfehbaaGreat

section
variable {α : Type} [DecidableEq α] {lt : α → α → Bool}
theorem insL_of_mem (T : TO lt) {x : α} : ∀ {l : List α}, SS lt l → x ∈ l → insL lt x l = l
 | y :: r, h, hx => by
  obtain ⟨hy, hr⟩ := List.pairwise_cons.1 h
  unfold insL
  rcases List.mem_cons.1 hx with e | e
  ·subst e; rw [T.irrefl]; simp
  ·rw [hy x e, if_pos rfl, insL_of_mem T hr e]
theorem insL_len (T : TO lt) {x : α} : ∀ {l : List α}, SS lt l → x ∉ l → (insL lt x l).length = l.length + 1
 | [], _, _ => rfl
 | y :: r, h, hx => by
  obtain ⟨hy, hr⟩ := List.pairwise_cons.1 h
  unfold insL
  split
  ·simp [insL_len T hr (fun e => hx (.tail _ e))]
  ·split
   ·rename_i e; subst e; exact absurd (.head _) hx
   ·simp
theorem SS.sublist_of_subset (T : TO lt) : ∀ {l l' : List α}, SS lt l → SS lt l' → (∀ x, x ∈ l → x ∈ l') → l.Sublist l'
 | [], _, _, _, _ => List.nil_sublist _
 | x :: r, [], _, _, h => absurd (h x (.head _)) (by simp)
 | x :: r, y :: r', h1, h2, h => by
  obtain ⟨hx, hr⟩ := List.pairwise_cons.1 h1
  obtain ⟨hy, hr'⟩ := List.pairwise_cons.1 h2
  by_cases e : x = y
  ·subst e
   refine List.Sublist.cons_cons _ (SS.sublist_of_subset T hr hr' fun z hz => ?_)
   rcases List.mem_cons.1 (h z (.tail _ hz)) with e | e
   ·subst e; have := hx z hz; rw [T.irrefl] at this; cases this
   ·exact e
  ·have hxr : x ∈ r' := by
    rcases List.mem_cons.1 (h x (.head _)) with e' | e'
    ·exact absurd e' e
    ·exact e'
   have hyx := hy x hxr
   refine List.Sublist.cons _ (SS.sublist_of_subset T h1 hr' fun z hz => ?_)
   rcases List.mem_cons.1 (h z hz) with e' | e'
   ·subst e'
    rcases List.mem_cons.1 hz with e2 | e2
    ·exact absurd e2.symm e
    ·have := T.trans hyx (hx z e2); rw [T.irrefl] at this; cases this
   ·exact e'
end

namespace Od
/-- One leads to another by pairs, directly or through others. -/
def R (l : List Pr) (a b : Str) : Prop := Relation.TransGen (fun x y => (x, y) ∈ l) a b
theorem R.one {l : List Pr} {a b : Str} (h : (a, b) ∈ l) : R l a b := .single h
theorem R.snoc {l : List Pr} {a b c : Str} (h : R l a b) (h' : (b, c) ∈ l) : R l a c := .tail h h'
theorem R.trans {l : List Pr} {a b c : Str} (h : R l a b) (h' : R l b c) : R l a c := by
 induction h' with
 | single h1 => exact .tail h h1
 | tail _ h2 ih => exact .tail ih h2
theorem R.mono {l l' : List Pr} (hs : ∀ p, p ∈ l → p ∈ l') {a b : Str} (h : R l a b) : R l' a b := by
 induction h with
 | single h1 => exact .single (hs _ h1)
 | tail _ h2 ih => exact .tail ih (hs _ h2)
theorem R.head {l : List Pr} {a c : Str} (h : R l a c) : ∃ b, (a, b) ∈ l ∧ (b = c ∨ R l b c) := by
 induction h with
 | single h1 => exact ⟨_, h1, .inl rfl⟩
 | tail h1 h2 ih =>
  obtain ⟨b, hb, e | e⟩ := ih
  ·subst e; exact ⟨_, hb, .inr (.single h2)⟩
  ·exact ⟨_, hb, .inr (e.snoc h2)⟩
theorem R.last {l : List Pr} {a c : Str} (h : R l a c) : ∃ b, (b, c) ∈ l ∧ (a = b ∨ R l a b) := by
 cases h with
 | single h1 => exact ⟨_, h1, .inl rfl⟩
 | tail h1 h2 => exact ⟨_, h2, .inr h1⟩

def Closed (l : List Pr) (a : Str) (S : List Str) : Prop := ∀ p, p ∈ l → (p.1 = a ∨ p.1 ∈ S) → p.2 ∈ S
theorem Closed.all {l : List Pr} {a b : Str} {S : List Str} (hc : Closed l a S) (h : R l a b) : b ∈ S := by
 induction h with
 | single h1 => exact hc _ h1 (.inl rfl)
 | tail _ h2 ih => exact hc _ h2 (.inr ih)

/-- A list that is what one leads to. -/
def Reached (l : List Pr) (a : Str) (S : List Str) : Prop := SS ltS S ∧ ∀ b, b ∈ S ↔ R l a b
theorem Reached.of {l : List Pr} {a : Str} {S : List Str} (h1 : SS ltS S) (h2 : ∀ b, b ∈ S → R l a b) (h3 : Closed l a S) : Reached l a S :=
 ⟨h1, fun b => ⟨h2 b, h3.all⟩⟩

def stepL (l : List Pr) (a : Str) (S : List Str) : List Str := l.foldl (fun S p => if p.1 = a ∨ p.1 ∈ S then insL ltS p.2 S else S) S
def iterL (l : List Pr) (a : Str) : Nat → List Str
 | 0 => []
 | n + 1 => stepL l a (iterL l a n)
def reachL (l : List Pr) (a : Str) : List Str := iterL l a (l.length + 1)

theorem step_fold (L : List Pr) (a : Str) : ∀ (l : List Pr) (S : List Str), (∀ p, p ∈ l → p ∈ L) → SS ltS S → (∀ b, b ∈ S → R L a b) →
  SS ltS (l.foldl (fun S p => if p.1 = a ∨ p.1 ∈ S then insL ltS p.2 S else S) S) ∧ (∀ b, b ∈ l.foldl (fun S p => if p.1 = a ∨ p.1 ∈ S then insL ltS p.2 S else S) S → R L a b) ∧
  S.length ≤ (l.foldl (fun S p => if p.1 = a ∨ p.1 ∈ S then insL ltS p.2 S else S) S).length ∧
  ((l.foldl (fun S p => if p.1 = a ∨ p.1 ∈ S then insL ltS p.2 S else S) S).length = S.length → l.foldl (fun S p => if p.1 = a ∨ p.1 ∈ S then insL ltS p.2 S else S) S = S ∧ ∀ p, p ∈ l → (p.1 = a ∨ p.1 ∈ S) → p.2 ∈ S)
 | [], S, _, h2, h3 => ⟨h2, h3, Nat.le_refl _, fun _ => ⟨rfl, by simp⟩⟩
 | p :: l, S, h1, h2, h3 => by
  rw [List.foldl_cons]
  by_cases hn : p.1 = a ∨ p.1 ∈ S
  ·rw [if_pos hn]
   have hR : R L a p.2 := by
    rcases hn with e | e
    ·exact .one (e ▸ h1 p (.head _))
    ·exact (h3 _ e).snoc (h1 p (.head _))
   have hIns : ∀ b, b ∈ insL ltS p.2 S → R L a b := fun b hb => by
    rcases mem_insL.1 hb with e | e
    ·exact e ▸ hR
    ·exact h3 b e
   obtain ⟨i1, i2, i3, i4⟩ := step_fold L a l (insL ltS p.2 S) (fun q hq => h1 q (.tail _ hq)) (h2.insL toS) hIns
   by_cases hm : p.2 ∈ S
   ·rw [insL_of_mem toS h2 hm] at *
    refine ⟨i1, i2, i3, fun e => ?_⟩
    obtain ⟨j1, j2⟩ := i4 e
    refine ⟨j1, fun q hq hq2 => ?_⟩
    rcases List.mem_cons.1 hq with e' | e'
    ·rw [e']; exact hm
    ·exact j2 q e' hq2
   ·have hl := insL_len toS h2 hm
    exact ⟨i1, i2, by omega, fun e => by omega⟩
  ·rw [if_neg hn]
   obtain ⟨i1, i2, i3, i4⟩ := step_fold L a l S (fun q hq => h1 q (.tail _ hq)) h2 h3
   refine ⟨i1, i2, i3, fun e => ?_⟩
   obtain ⟨j1, j2⟩ := i4 e
   refine ⟨j1, fun q hq hq2 => ?_⟩
   rcases List.mem_cons.1 hq with e' | e'
   ·rw [e'] at hq2; exact absurd hq2 hn
   ·exact j2 q e' hq2

theorem iter_ok (l : List Pr) (a : Str) : ∀ n, SS ltS (iterL l a n) ∧ (∀ b, b ∈ iterL l a n → R l a b) ∧ (Closed l a (iterL l a n) ∨ n ≤ (iterL l a n).length)
 | 0 => ⟨List.Pairwise.nil, by simp [iterL], .inr (Nat.zero_le _)⟩
 | n + 1 => by
  obtain ⟨h1, h2, h3⟩ := iter_ok l a n
  obtain ⟨i1, i2, i3, i4⟩ := step_fold l a l (iterL l a n) (fun _ h => h) h1 h2
  refine ⟨i1, i2, ?_⟩
  rcases Nat.lt_or_ge (iterL l a n).length (stepL l a (iterL l a n)).length with h | h
  ·rcases h3 with h3 | h3
   ·left
    intro p hp hn
    have hmem : ∀ b, b ∈ stepL l a (iterL l a n) → b ∈ iterL l a n := fun b hb => h3.all (i2 b hb)
    have h4 : (stepL l a (iterL l a n)).Sublist (iterL l a n) := SS.sublist_of_subset toS i1 h1 hmem
    have := h4.length_le
    omega
   ·right
    show n + 1 ≤ (stepL l a (iterL l a n)).length
    omega
  ·obtain ⟨j1, j2⟩ := i4 (Nat.le_antisymm h i3)
   left
   show Closed l a (stepL l a (iterL l a n))
   intro p hp hn
   rw [show stepL l a (iterL l a n) = iterL l a n from j1] at *
   exact j2 p hp hn
theorem R.in_snds {l : List Pr} {a b : Str} (h : R l a b) : b ∈ l.map Prod.snd := by
 obtain ⟨x, hx, _⟩ := h.last
 exact List.mem_map.2 ⟨_, hx, rfl⟩
theorem reached_len {l : List Pr} {a : Str} {S : List Str} (h1 : SS ltS S) (h2 : ∀ b, b ∈ S → R l a b) : S.length ≤ l.length := by
 have h3 : S.Sublist (canon ltS (l.map Prod.snd)) := SS.sublist_of_subset toS h1 (canon_ss toS _) fun b hb => (mem_canon toS).2 (h2 b hb).in_snds
 have := h3.length_le
 have := canon_len (lt := ltS) (l.map Prod.snd)
 simp at this
 omega
theorem reachL_ok (l : List Pr) (a : Str) : Reached l a (reachL l a) := by
 obtain ⟨h1, h2, h3⟩ := iter_ok l a (l.length + 1)
 refine Reached.of h1 h2 ?_
 rcases h3 with h3 | h3
 ·exact h3
 ·have := reached_len h1 h2
  omega
theorem mem_reachL {l : List Pr} {a b : Str} : b ∈ reachL l a ↔ R l a b := (reachL_ok l a).2 b
theorem Reached.eq {l : List Pr} {a : Str} {S : List Str} (h : Reached l a S) : S = reachL l a :=
 SS.unique toS h.1 (reachL_ok l a).1 fun b => by rw [h.2, mem_reachL]
theorem Reached.same {l l' : List Pr} {a : Str} (hs : ∀ p, p ∈ l ↔ p ∈ l') : reachL l a = reachL l' a :=
 SS.unique toS (reachL_ok l a).1 (reachL_ok l' a).1 fun b => by
  rw [mem_reachL, mem_reachL]
  exact ⟨R.mono fun p hp => (hs p).1 hp, R.mono fun p hp => (hs p).2 hp⟩
end Od
end Go.Proofs.YtbllehjhmfehbaaGreat
end

section
/- Plain mathematics of chapter 16: pairs, what stays, what is straight. No program. -/
namespace Go.Proofs.YtbllehjhmfehbaaGreat
namespace Od
/-- The pair that an edge says: the first one ahead of the second one. -/
def pairE (e : Ed) : Option Pr := if e.2.2 = 8 then some (e.2.1, e.1) else if e.2.2 = 7 then some (e.1, e.2.1) else none
/-- All pairs, rising, each once. -/
def prsL (es : List Ed) : List Pr := canon ltP (es.filterMap pairE)
def hasE (es : List Ed) (a b : Str) (r : Int) : Bool := es.any (· == (a, b, r))
def needsB (es : List Ed) (p : Pr) : Bool := hasE es p.2 p.1 1 || hasE es p.2 p.1 4

def Acyclic (l : List Pr) : Prop := ∀ a, ¬ R l a a
theorem Acyclic.mono {l l' : List Pr} (h : Acyclic l') (hs : ∀ p, p ∈ l → p ∈ l') : Acyclic l := fun a ha => h a (ha.mono hs)
def keepB (es : List Ed) (first : Bool) (acc : List Pr) (p : Pr) : Bool := needsB es p == first && (!(p.1 == p.2) && !(decide (p.1 ∈ reachL acc p.2)))
def phase (es : List Ed) (first : Bool) (acc l : List Pr) : List Pr := l.foldl (fun acc p => if keepB es first acc p = true then acc ++ [p] else acc) acc
/-- The pairs that stay, as they were put. -/
def keptL (es : List Ed) : List Pr := phase es false (phase es true [] (prsL es)) (prsL es)
/-- Does an edge stay? -/
def stays (es : List Ed) (e : Ed) : Bool := match pairE e with | none => true | some p => decide (p ∈ keptL es)
def straight (es : List Ed) : List Ed := es.filter (stays es)
def gone (es : List Ed) : List Ed := es.filter (fun e => !stays es e)
/-- Does nothing go round? -/
def isB (es : List Ed) : Bool := !(prsL es).any (fun p => p.1 == p.2 || decide (p.1 ∈ reachL (prsL es) p.2))
end Od
end Go.Proofs.YtbllehjhmfehbaaGreat
end

section
/- Words for walks by check points: the world at hand under a name of its own, and all that is known of it carried over by one 'Below'. -/
namespace Go.Proofs.YtbllehjhmfehbaaGreat
open Go.RowKit

/-- The world at hand under a name. -/
theorem wp_named {P : Program} {c : Code} {Q : Exit → Act → World → Prop} {a : Act} {w : World} (h : ∀ W, W = w → c.wp P Q a W) : c.wp P Q a w := h w rfl
theorem calls_named {P : Program} {f : FuncId} {args : Array Value} {w : World} {Q : Ending → World → Prop} (h : ∀ W, W = w → Calls P f args W Q) : Calls P f args w Q := h w rfl
section
variable {w w' w2 : World} {B k n : Nat} {A : Option Addr} {xs : List Value}
/-- What reads as a list in a world still does in a later one. -/
theorem Rd.at (h : Rd w w.heap.size k A n xs) (hb : Below w.heap.size w w') : Rd w' w'.heap.size k A n xs := (h.on (Nat.le_refl _) hb).more hb.size
theorem Rd.at' (h : Rd w B k A n xs) (hB : B ≤ w.heap.size) (hb : Below w.heap.size w w') : Rd w' w'.heap.size k A n xs := (h.on hB hb).more (Nat.le_trans hB hb.size)
/-- First one, then what a call made of it. -/
theorem lift (h : Below w.heap.size w w') (g : Below w'.heap.size w' w2) : Below w.heap.size w w2 := h.trans (g.mono h.size)
theorem cellAt {b o : Nat} {v : Value} (c : w.cell? ⟨b, o, none⟩ = some v) (hb : Below w.heap.size w w') (n : b < w.heap.size) : w'.cell? ⟨b, o, none⟩ = some v := (hb.cell (p := ⟨b, o, none⟩) n).trans c
theorem froAt {b o : Nat} (c : w.frozen? ⟨b, o, none⟩ = false) (hb : Below w.heap.size w w') (n : b < w.heap.size) : w'.frozen? ⟨b, o, none⟩ = false := (hb.frozen (p := ⟨b, o, none⟩) n).trans c
theorem ltAt {b : Nat} (n : b < w.heap.size) (hb : Below w.heap.size w w') : b < w'.heap.size := Nat.lt_of_lt_of_le n hb.size
theorem leAt {b : Nat} (n : b ≤ w.heap.size) (hb : Below w.heap.size w w') : b ≤ w'.heap.size := Nat.le_trans n hb.size
end
end Go.Proofs.YtbllehjhmfehbaaGreat
end

section
/- Names of units as texts: what package name says of them. No program. -/
namespace Go.Proofs.YtbllehjhmfehbaaGreat
open Go.RowKit
namespace Od
/-- Up to the last point, and behind it. -/
def nameCut (s : Str) : Str × Str := if Lib.lastIndexByte ⟨s.toArray⟩ 46 < 0 then ([], []) else (s.take (Lib.lastIndexByte ⟨s.toArray⟩ 46).toNat, s.drop ((Lib.lastIndexByte ⟨s.toArray⟩ 46).toNat + 1))
/-- Up to the first at, and behind it. -/
def atCut (s : Str) : Str × Str := if 0 ≤ Lib.indexByte s 64 then (s.take (Lib.indexByte s 64).toNat, s.drop ((Lib.indexByte s 64).toNat + 1)) else (s, [])
def moreS : Str := [58, 45, 95, 46, 92]
def letterB (c : Int) : Bool := (decide (97 ≤ c) && decide (c ≤ 122)) || (decide (65 ≤ c) && decide (c ≤ 90))
def digitB (c : Int) : Bool := decide (48 ≤ c) && decide (c ≤ 57)
def inB (t : Str) (c : Int) : Bool := decide (0 ≤ Lib.indexByte t c.toNat.toUInt8)
def okB (c : Int) : Bool := letterB c || (digitB c || inB moreS c)
def allB (p : Int → Bool) (s : Str) : Bool := s.all (fun c => p (c.toNat : Int))
def sufS (k : Int) : Str := if k = 1 then [115, 101, 114, 118, 105, 99, 101] else if k = 2 then [115, 111, 99, 107, 101, 116] else if k = 3 then [116, 105, 109, 101, 114] else if k = 4 then [116, 97, 114, 103, 101, 116] else []
/-- The kind of a suffix. -/
def sufK (t : Str) : Int := if sufS 1 = t then 1 else if sufS 2 = t then 2 else if sufS 3 = t then 3 else if sufS 4 = t then 4 else 0
def badName (s : Str) : Bool := decide (60 < (s.length : Int)) || ((atCut (nameCut s).1).1 == ([] : Str) || (!allB okB (atCut (nameCut s).1).1 || !allB okB (atCut (nameCut s).1).2))
/-- A name's kind. -/
def kindS (s : Str) : Int := if badName s then 0 else sufK (nameCut s).2
theorem atCut_le (s : Str) : (atCut s).1.length ≤ s.length ∧ (atCut s).2.length ≤ s.length := by
 unfold atCut; split <;> simp
 omega
theorem nameCut_le (s : Str) : (nameCut s).1.length ≤ s.length ∧ (nameCut s).2.length ≤ s.length := by
 unfold nameCut; split <;> simp
 omega
end Od
end Go.Proofs.YtbllehjhmfehbaaGreat
end

section
/-
 DERIVED: THE SHELF's CONTRACTS AT THIS DUMP, IN PLAIN WORDS (tools/lay-plain.mjs out of 'TryzShelf.lean', which tools/lay-shelf.mjs wrote): THE SAME DECLARATIONS UNDER THE SAME NAMES: 'import', 'namespace', 'open', 'def', 'theorem' AND NOTHING ELSE: no command of the shelf's: FOR A HAND-IN. Each laying: the table of numbers ('.._ren') and one theorem, a field a fact of the dump's own or the kernel's comparison; each contract: ONE APPLICATION.
-/
namespace Go.Proofs.YtbllehjhmfehbaaGreat
open Go.Shelf
def Tryz.lays217_ren : Go.Shelf.Ren := ⟨fun | 217 => 236 | 266 => 243 | n => n, fun | 9 => 9 | 5 => 5 | 3 => 3 | n => n, fun | n => n⟩
theorem Tryz.lays217 : Go.Proofs.Lays.n217 Tryz.prog Tryz.lays217_ren := {
 mixed := by kernel_rfl
 f217 := Tryz.func236.trans (congrArg some (by kernel_rfl))
 f266 := Tryz.func243.trans (congrArg some (by kernel_rfl))
 t3 := Tryz.underlying3
 a3 := Tryz.isAgg3
 z3 := Tryz.sizeOf3
 v3 := Tryz.zeroValue3
 t5 := Tryz.underlying5
 a5 := Tryz.isAgg5
 z5 := Tryz.sizeOf5
 v5 := Tryz.zeroValue5
 t9 := Tryz.underlying9
 a9 := Tryz.isAgg9
 z9 := Tryz.sizeOf9
 v9 := Tryz.zeroValue9 }
open Go.RowKit Go.Lib in
/-- internal/stringslite.IndexByte (what strings.IndexByte calls): IT RETURNS 'Lib.indexByte s c'; the world is as it was. (LAID: no walk: one application.) -/
theorem Tryz.stringslite_IndexByte (s : ByteArray) (c : Int) (w : World) :
  Calls Tryz.prog 236 #[.string s, .int .u8 c] w fun e w' => e = .returned (.int .i64 (Lib.indexByte s.data.toList c.toNat.toUInt8)) ∧ w' = w := Any.stringslite_IndexByte Tryz.lays217 s c w
end Go.Proofs.YtbllehjhmfehbaaGreat
end

section
/- The walks of package chars that names ask: kinds of bytes. -/
namespace Go.Proofs.YtbllehjhmfehbaaGreat
open Go.RowKit

namespace Od
set_option maxHeartbeats 1000000 in
theorem Letter_any (c : Int) (w : World) : Calls Tryz.prog 190 #[.int .u8 c] w fun e w' => e = .returned (.bool (letterB c)) ∧ w = w' := by
 by_cases h1 : (97 : Int) ≤ c
 ·have d1 : decide ((97 : Int) ≤ c) = true := by simpa using h1
  have e3 : decide ((65 : Int) ≤ c) = true := by simp; omega
  by_cases h2 : c ≤ (122 : Int)
  ·have d2 : decide (c ≤ (122 : Int)) = true := by simpa using h2
   go_enter Tryz.func190, Tryz.ntmps190
   go_wp2
   go_ret
   exact ⟨ret_bool (by simp [letterB, d1, d2]), rfl⟩
  ·have d2 : decide (c ≤ (122 : Int)) = false := by simpa using h2
   have d4 : decide (c ≤ (90 : Int)) = false := by simp; omega
   go_enter Tryz.func190, Tryz.ntmps190
   go_wp2
   go_ret
   exact ⟨ret_bool (by simp [letterB, d1, d2, e3, d4]), rfl⟩
 ·have d1 : decide ((97 : Int) ≤ c) = false := by simpa using h1
  by_cases h3 : (65 : Int) ≤ c
  ·have d3 : decide ((65 : Int) ≤ c) = true := by simpa using h3
   go_enter Tryz.func190, Tryz.ntmps190
   go_wp2
   go_ret
   exact ⟨ret_bool (by simp [letterB, d1, d3]), rfl⟩
  ·have d3 : decide ((65 : Int) ≤ c) = false := by simpa using h3
   go_enter Tryz.func190, Tryz.ntmps190
   go_wp2
   go_ret
   exact ⟨ret_bool (by simp [letterB, d1, d3]), rfl⟩
set_option maxHeartbeats 1000000 in
theorem Digit_any (c : Int) (w : World) : Calls Tryz.prog 191 #[.int .u8 c] w fun e w' => e = .returned (.bool (digitB c)) ∧ w = w' := by
 by_cases h1 : (48 : Int) ≤ c
 ·have d1 : decide ((48 : Int) ≤ c) = true := by simpa using h1
  go_enter Tryz.func191, Tryz.ntmps191
  go_wp2
  go_ret
  exact ⟨ret_bool (by simp [digitB, d1]), rfl⟩
 ·have d1 : decide ((48 : Int) ≤ c) = false := by simpa using h1
  go_enter Tryz.func191, Tryz.ntmps191
  go_wp2
  go_ret
  exact ⟨ret_bool (by simp [digitB, d1]), rfl⟩
set_option maxHeartbeats 1000000 in
theorem In1_any (c : Int) (p : Nat) (t : Str) (w : World) (hp : w.cell? ⟨p, 0, none⟩ = some (sv t)) : Calls Tryz.prog 220 #[.int .u8 c, .pointer (some ⟨p, 0, none⟩)] w fun e w' => e = .returned (.bool (inB t c)) ∧ w = w' := by
 go_enter Tryz.func220, Tryz.ntmps220
 go_wp2_with fail
 refine (Tryz.strings_IndexByte _ c w).mono ?_
 rintro e w1 ⟨rfl, rfl⟩
 go_wp2_with fail
 go_ret
 exact ⟨ret_bool (by simp [inB]), rfl⟩
set_option maxHeartbeats 1000000 in
theorem In_any (t : Str) (w : World) : Calls Tryz.prog 192 #[sv t] w fun e w' => e = .returned (.func (.func 220) #[] #[.pointer (some ⟨w.heap.size, 0, none⟩)]) ∧ w' = w.alloc (.cells #[sv t] 9) := by
 go_enter Tryz.func192, Tryz.ntmps192
 go_wp2_with fail
 go_ret
 exact ⟨rfl, rfl⟩

/-- A function value that says of a byte whether p, whatever has been made since. -/
structure SaysB (g : Nat) (caps : Array Value) (p : Int → Bool) (w : World) : Prop where
 enters : ∀ (args : Array Value) (W : World), (callFunc g args).run Tryz.prog W = .ok (.enter g args) W
 says : ∀ (W : World) (c : Int), Below w.heap.size w W → Calls Tryz.prog g (#[.int .u8 c] ++ caps) W fun e w' => e = .returned (.bool (p c)) ∧ Below W.heap.size W w'
theorem says_letter (w : World) : SaysB 190 #[] letterB w where
 enters := enters_of Tryz.func190 (by kernel_rfl) rfl
 says := fun W c _ => (Letter_any c W).mono fun e w' ⟨h1, h2⟩ => ⟨h1, h2 ▸ Below.refl _ _⟩
theorem says_digit (w : World) : SaysB 191 #[] digitB w where
 enters := enters_of Tryz.func191 (by kernel_rfl) rfl
 says := fun W c _ => (Digit_any c W).mono fun e w' ⟨h1, h2⟩ => ⟨h1, h2 ▸ Below.refl _ _⟩
theorem says_in (p : Nat) (t : Str) (w : World) (hp : w.cell? ⟨p, 0, none⟩ = some (sv t)) : SaysB 220 #[.pointer (some ⟨p, 0, none⟩)] (inB t) w where
 enters := enters_of Tryz.func220 (by kernel_rfl) rfl
 says := fun W c h => (In1_any c p t W ((h.cell (p := ⟨p, 0, none⟩) (cell_blk hp)).trans hp)).mono fun e w' ⟨h1, h2⟩ => ⟨h1, h2 ▸ Below.refl _ _⟩

set_option maxRecDepth 100000 in
set_option maxHeartbeats 4000000 in
theorem All_any (s : Str) (g : Nat) (caps : Array Value) (p : Int → Bool) (w : World) (hl : s.length ≤ maxLen) (hp : SaysB g caps p w) :
  Calls Tryz.prog 188 #[sv s, .func (.func g) #[] caps] w fun e w' => e = .returned (.bool (allB p s)) ∧ Below w.heap.size w w' := by
 unfold maxLen at hl
 have Hp := Lib.hid hp
 have eg := hp.enters
 clear hp
 go_enter Tryz.func188, Tryz.ntmps188
 go_wp2_with fail
 go_loopw [8] (fun i wr => ∃ k : Nat, k ≤ s.length ∧ i = .int .i64 k ∧ Hid (allB p (s.take k) = true) ∧ Below w.heap.size w wr) (fun i _ => s.length - (intOf i).toNat)
 case atStart => exact ⟨0, Nat.zero_le _, rfl, by simp [Hid, allB], Below.refl _ _⟩
 case round =>
  obtain ⟨k, hk, rfl, hall, hb⟩ := hrel
  have HB := Lib.hid hb
  clear hb
  by_cases hlt : k < s.length
  ·have hcall := Hp.out.says wr (s[k].toNat : Int) HB.out
   have h1 : allB p (s.take (k + 1)) = (allB p (s.take k) && p (s[k].toNat : Int)) := by
    unfold allB; rw [List.take_succ_eq_append_getElem hlt, List.all_append]; simp
   have h2 : p (s[k].toNat : Int) = false → allB p s = false := fun h => by
    unfold allB; rw [List.all_eq_false]; exact ⟨s[k], List.getElem_mem hlt, by simp [h]⟩
   have Hcall := Lib.hid hcall
   have H1 := Lib.hid h1
   have H2 := Lib.hid h2
   clear hcall h1 h2
   go_wp2_with fail
   refine Hcall.out.mono ?_
   rintro e w2 ⟨rfl, hb2⟩
   have HB2 := Lib.hid (HB.out.trans (hb2.mono HB.out.size))
   clear hb2
   cases hpc : p (s[k].toNat : Int)
   ·have H3 := Lib.hid (H2.out hpc)
    go_wp2_with fail
    go_ret
    exact ⟨ret_bool H3.out.symm, HB2.out⟩
   ·have H3 := Lib.hid hpc
    go_wp2_with fail
    go_roundw
    case rel => exact ⟨k + 1, by omega, by go_num, by show _ = true; rw [H1.out, hall.out, H3.out]; rfl, HB2.out⟩
    case measure => simp [intOf]; omega
  ·have hkn : k = s.length := by omega
   subst hkn
   go_wp2_with fail
   go_ret
   have h := hall.out
   rw [List.take_length] at h
   exact ⟨ret_bool h.symm, HB.out⟩
end Od
end Go.Proofs.YtbllehjhmfehbaaGreat
end

section
/- The rows of the program's table of types that appends ask for. -/
namespace Go.Proofs.YtbllehjhmfehbaaGreat
open Go.RowKit
namespace Od
theorem inS : (Tryz.prog.info? 9).map (fun i => (i.zero, i.size, i.bytes)) = some (some (.string ⟨#[]⟩), 1, 16) := by kernel_rfl
end Od
end Go.Proofs.YtbllehjhmfehbaaGreat
end

section
/- The walks of package name: a name's kind. -/
namespace Go.Proofs.YtbllehjhmfehbaaGreat
open Go.RowKit

namespace Od
def okK (c : Int) : Nat → Bool
 | 0 => false
 | 1 => letterB c
 | 2 => letterB c || digitB c
 | _ => okB c
set_option maxRecDepth 100000 in
set_option maxHeartbeats 4000000 in
theorem Any1_any (c : Int) (pl b pi : Nat) (w : World) (h0 : w.cell? ⟨pl, 0, none⟩ = some (.slice (some ⟨b, 0, none⟩) 3 3)) (hf0 : w.cell? ⟨b, 0, none⟩ = some (.func (.func 190) #[] #[])) (hf1 : w.cell? ⟨b, 1, none⟩ = some (.func (.func 191) #[] #[]))
  (hf2 : w.cell? ⟨b, 2, none⟩ = some (.func (.func 220) #[] #[.pointer (some ⟨pi, 0, none⟩)])) (hpi : w.cell? ⟨pi, 0, none⟩ = some (sv moreS)) :
  Calls Tryz.prog 219 #[.int .u8 c, .pointer (some ⟨pl, 0, none⟩)] w fun e w' => e = .returned (.bool (okB c)) ∧ Below w.heap.size w w' := by
 have hb0 : b < w.heap.size := cell_blk hf0
 have hpl : pl < w.heap.size := cell_blk h0
 have hstep : ∀ k : Nat, k < 3 → ∃ (g : Nat) (caps : Array Value) (p : Int → Bool), w.cell? ⟨b, k, none⟩ = some (.func (.func g) #[] caps) ∧ SaysB g caps p w ∧ okK c (k + 1) = (okK c k || p c) := by
  intro k hk
  rcases (show k = 0 ∨ k = 1 ∨ k = 2 by omega) with rfl | rfl | rfl
  ·exact ⟨_, _, _, hf0, says_letter w, rfl⟩
  ·exact ⟨_, _, _, hf1, says_digit w, rfl⟩
  ·exact ⟨_, _, _, hf2, says_in pi moreS w hpi, by simp [okK, okB, Bool.or_assoc]⟩
 have HSt := Lib.hid hstep
 clear hstep hf0 hf1 hf2 hpi
 go_enter Tryz.func219, Tryz.ntmps219
 go_wp2_with fail
 go_loopw [8] (fun i wr => ∃ k : Nat, k ≤ 3 ∧ i = .int .i64 k ∧ Hid (okK c k = false) ∧ Below w.heap.size w wr) (fun i _ => 3 - (intOf i).toNat)
 case atStart => exact ⟨0, by omega, rfl, rfl, Below.refl _ _⟩
 case round =>
  obtain ⟨k, hk, rfl, hall, hb⟩ := hrel
  have HB := Lib.hid hb
  clear hb
  by_cases hlt : k < 3
  ·have hdk : decide ((k : Int) < 3) = true := by simp; omega
   obtain ⟨g, caps, p, hc, hs, ho⟩ := HSt.out k hlt
   have hcr := cellAt hc HB.out hb0
   have Hs := Lib.hid hs
   have Ho := Lib.hid ho
   have eg := hs.enters
   clear hc hs ho
   go_wp2_with fail
   refine (Hs.out.says wr c HB.out).mono ?_
   rintro e w2 ⟨rfl, hb2⟩
   have HB2 := Lib.hid (HB.out.trans (hb2.mono HB.out.size))
   clear hb2
   cases hp : p c
   ·have HP := Lib.hid hp
    go_wp2_with fail
    go_roundw
    case rel => exact ⟨k + 1, by omega, by go_num, by show _ = false; rw [Ho.out, hall.out, HP.out]; rfl, HB2.out⟩
    case measure => simp [intOf]; omega
   ·have HP := Lib.hid hp
    go_wp2_with fail
    go_ret
    refine ⟨ret_bool ?_, HB2.out⟩
    have h1 : okK c (k + 1) = true := by rw [Ho.out, HP.out, Bool.or_true]
    rcases (show k = 0 ∨ k = 1 ∨ k = 2 by omega) with rfl | rfl | rfl
    ·simp only [okK] at h1; simp [okB, h1]
    ·simp only [okK] at h1; unfold okB; rw [← Bool.or_assoc, h1]; rfl
    ·exact h1.symm
  ·have hk3 : k = 3 := by omega
   have hdk : decide ((k : Int) < 3) = false := by simp; omega
   have h3 := hall.out
   rw [hk3] at h3
   have H3 := Lib.hid h3
   clear hk3 h3
   go_wp2_with fail
   go_ret
   exact ⟨ret_bool H3.out.symm, HB.out⟩

set_option maxRecDepth 100000 in
set_option maxHeartbeats 4000000 in
theorem Anyc_any (A : Option Addr) (w : World) : Calls Tryz.prog 189 #[.slice A 3 3] w fun e w' => e = .returned (.func (.func 219) #[] #[.pointer (some ⟨w.heap.size, 0, none⟩)]) ∧ w' = w.alloc (.cells #[.slice A 3 3] 251) := by
 go_enter Tryz.func189, Tryz.ntmps189
 go_wp2_with fail
 go_ret
 exact ⟨rfl, rfl⟩
theorem says_any (pl b pi : Nat) (w : World) (h0 : w.cell? ⟨pl, 0, none⟩ = some (.slice (some ⟨b, 0, none⟩) 3 3)) (hf0 : w.cell? ⟨b, 0, none⟩ = some (.func (.func 190) #[] #[])) (hf1 : w.cell? ⟨b, 1, none⟩ = some (.func (.func 191) #[] #[]))
  (hf2 : w.cell? ⟨b, 2, none⟩ = some (.func (.func 220) #[] #[.pointer (some ⟨pi, 0, none⟩)])) (hpi : w.cell? ⟨pi, 0, none⟩ = some (sv moreS)) : SaysB 219 #[.pointer (some ⟨pl, 0, none⟩)] okB w where
 enters := enters_of Tryz.func219 (by kernel_rfl) rfl
 says := fun W c h => Any1_any c pl b pi W (cellAt h0 h (cell_blk h0)) (cellAt hf0 h (cell_blk hf0)) (cellAt hf1 h (cell_blk hf0)) (cellAt hf2 h (cell_blk hf0)) (cellAt hpi h (cell_blk hpi))
set_option maxRecDepth 100000 in
set_option maxHeartbeats 4000000 in
theorem plain_any (s : Str) (w : World) (hl : s.length ≤ 140737488355328) : Calls Tryz.prog 142 #[sv s] w fun e w' => e = .returned (.bool (allB okB s)) ∧ Below w.heap.size w w' := by
 have hm : s.length ≤ maxLen := by unfold maxLen; omega
 go_enter Tryz.func142, Tryz.ntmps142
 go_wp2_with fail
 refine (In_any moreS w).mono ?_
 rintro e w1 ⟨rfl, rfl⟩
 go_wp2_with fail
 refine (Anyc_any _ _).mono ?_
 rintro e w2 ⟨rfl, rfl⟩
 go_wp2_with fail
 refine (All_any s _ _ okB _ hm (says_any _ (w.heap.size + 1) w.heap.size _ (by go_simp) (by go_simp) (by go_simp) (by go_simp) (by go_simp))).mono ?_
 rintro e w3 ⟨rfl, hb⟩
 go_wp2_with fail
 go_ret
 exact ⟨rfl, lift bq hb⟩

theorem Suffix_any (k : Int) (w : World) : Calls Tryz.prog 143 #[.int .i64 k] w fun e w' => e = .returned (sv (sufS k)) ∧ w' = w := by
 by_cases h1 : k = 1
 ·subst h1
  go_enter Tryz.func143, Tryz.ntmps143
  go_wp2
  go_ret
  exact ⟨rfl, rfl⟩
 by_cases h2 : k = 2
 ·subst h2
  go_enter Tryz.func143, Tryz.ntmps143
  go_wp2
  go_ret
  exact ⟨rfl, rfl⟩
 by_cases h3 : k = 3
 ·subst h3
  go_enter Tryz.func143, Tryz.ntmps143
  go_wp2
  go_ret
  exact ⟨rfl, rfl⟩
 by_cases h4 : k = 4
 ·subst h4
  go_enter Tryz.func143, Tryz.ntmps143
  go_wp2
  go_ret
  exact ⟨rfl, rfl⟩
 ·have b1 : (k == 1) = false := by simpa using h1
  have b2 : (k == 2) = false := by simpa using h2
  have b3 : (k == 3) = false := by simpa using h3
  have b4 : (k == 4) = false := by simpa using h4
  have e : sufS k = [] := by simp [sufS, h1, h2, h3, h4]
  have E := Lib.hid e
  clear h1 h2 h3 h4 e
  go_enter Tryz.func143, Tryz.ntmps143
  go_wp2
  go_ret
  exact ⟨by rw [E.out]; rfl, rfl⟩
theorem extract_str (s : Str) (a b : Nat) : (ByteArray.extract ⟨s.toArray⟩ a b) = ⟨((s.take b).drop a).toArray⟩ := by
 apply ByteArray.ext
 apply Array.ext'
 rw [Lib.extract_data]
 simp [List.drop_take]
theorem lastdot_any (s : Str) (w : World) (hl : s.length ≤ 140737488355328) : Calls Tryz.prog 186 #[sv s, .string ⟨#[46]⟩] w fun e w' => e = .returned (.int .i64 (Lib.lastIndexByte ⟨s.toArray⟩ 46)) ∧ w' = w :=
 Tryz.strings_LastIndex_one ⟨s.toArray⟩ ⟨#[46]⟩ rfl (by simp [ByteArray.size]; omega) w
set_option maxRecDepth 100000 in
set_option maxHeartbeats 4000000 in
theorem cutname_any (s : Str) (w : World) (hl : s.length ≤ 140737488355328) : Calls Tryz.prog 140 #[sv s] w fun e w' => e = .returned (.tuple #[sv (nameCut s).1, sv (nameCut s).2]) ∧ Below w.heap.size w w' := by
 have hsp := Lib.lastIndexByte_spec ⟨s.toArray⟩ 46
 unfold nameCut
 generalize hv : Lib.lastIndexByte ⟨s.toArray⟩ 46 = v at *
 rcases hsp with ⟨rfl, _⟩ | ⟨i, hi, rfl, _, _⟩
 ·have HV := Lib.hid hv
  clear hv
  go_enter Tryz.func140, Tryz.ntmps140
  go_wp2_with fail
  refine (lastdot_any s w hl).mono ?_
  rintro e w1 ⟨rfl, rfl⟩
  rw [HV.out]
  go_wp2_with fail
  go_ret2
  exact ⟨rfl, Below.refl _ _⟩
 ·have HV := Lib.hid hv
  have hi' : i < s.length := by simpa [ByteArray.size] using hi
  clear hv hi
  have k1 : ¬ ((i : Int) < 0) := by omega
  have k2 : (0 : Int) ≤ (i : Int) := by omega
  have k3 : (i : Int) ≤ (s.length : Int) := by omega
  have k4 : (0 : Int) ≤ (i : Int) + 1 := by omega
  have k5 : (i : Int) + 1 ≤ (s.length : Int) := by omega
  have k6 : IntKind.i64.wrap ((i : Int) + 1) = (i : Int) + 1 := IntWalk.i64_in _ (by omega)
  have k7 : ((i : Int) + 1).toNat = i + 1 := by omega
  rw [if_neg k1]
  go_enter Tryz.func140, Tryz.ntmps140
  go_wp2_with fail
  refine (lastdot_any s w hl).mono ?_
  rintro e w1 ⟨rfl, rfl⟩
  rw [HV.out]
  go_wp2_with fail
  try go_wp2_with fail
  refine wp_region_held_drew (S := fun w' => Below w1.heap.size w1 w') (by kernel_rfl) (Below.drew (Below.refl _ _)) (fun hHeld => ?_)
  refine tV 0 ?_ ?zq ?_; (case zq => rintro _ -; go_simp; try with_reducible rfl); try simp only [Act.put, zn1, zn2, zn3]
  refine tV 1 ?_ ?zq ?_; (case zq => rintro _ -; go_simp; try with_reducible rfl); try simp only [Act.put, zn1, zn2, zn3]
  refine tV 2 ?_ ?zq ?_; (case zq => rintro _ -; go_simp; try with_reducible rfl); try simp only [Act.put, zn1, zn2, zn3]
  refine tV 3 ?_ ?zq ?_; (case zq => rintro _ -; go_simp; try with_reducible rfl); try simp only [Act.put, zn1, zn2, zn3]
  refine tV 4 ?_ ?zq ?_; (case zq => rintro _ -; go_simp; try with_reducible rfl); try simp only [Act.put, zn1, zn2, zn3]
  refine tV 5 ?_ ?zq ?_; (case zq => rintro _ -; go_simp; try with_reducible rfl); try simp only [Act.put, zn1, zn2, zn3]
  refine tV 6 ?_ ?zq ?_; (case zq => rintro _ -; go_simp; try with_reducible rfl); try simp only [Act.put, zn1, zn2, zn3]
  refine tV 7 ?_ ?zq ?_; (case zq => rintro _ -; go_simp; try with_reducible rfl); try simp only [Act.put, zn1, zn2, zn3]
  refine tV 8 ?_ ?zq ?_; (case zq => rintro _ -; go_simp; try with_reducible rfl); try simp only [Act.put, zn1, zn2, zn3]
  refine wpAnyH_done (by kernel_rfl) ?_ _
  go_wp2_with fail
  go_ret2
  refine ⟨?_, hHeld⟩
  show Ending.returned (.tuple #[.string (ByteArray.extract ⟨s.toArray⟩ 0 i), .string (ByteArray.extract ⟨s.toArray⟩ (i + 1) s.length)]) = _
  rw [extract_str, extract_str]
  simp
set_option maxHeartbeats 1000000 in
theorem Index_at (s : Str) (w : World) : Calls Tryz.prog 218 #[sv s, .string ⟨#[64]⟩] w fun e w' => e = .returned (.int .i64 (Lib.indexByte s 64)) ∧ w = w' := by
 cases hse : (([64] : Str) == s)
 ·have Hse := Lib.hid hse
  go_enter Tryz.func218, Tryz.ntmps218
  go_wp2_with fail
  refine (Tryz.stringslite_IndexByte ⟨s.toArray⟩ 64 w).mono ?_
  rintro e w1 ⟨rfl, rfl⟩
  go_wp2_with fail
  go_ret
  exact ⟨rfl, rfl⟩
 ·have hs : ([64] : Str) = s := by simpa using hse
  have h0 : Lib.indexByte s 64 = 0 := by rw [← hs]; rfl
  have H0 := Lib.hid h0
  clear hs h0
  go_enter Tryz.func218, Tryz.ntmps218
  go_wp2_with fail
  go_ret
  exact ⟨ret_int H0.out.symm, rfl⟩
def cutV (s : Str) : Value := .tuple #[sv (atCut s).1, sv (atCut s).2, .bool (decide (0 ≤ Lib.indexByte s 64))]
set_option maxRecDepth 100000 in
set_option maxHeartbeats 4000000 in
theorem Cutl_at (s : Str) (w : World) (hl : s.length ≤ 140737488355328) : Calls Tryz.prog 187 #[sv s, .string ⟨#[64]⟩] w fun e w' => e = .returned (cutV s) ∧ Below w.heap.size w w' := by
 have hge := Lib.indexByte_ge s 64
 have hcv : cutV s = .tuple #[sv (if 0 ≤ Lib.indexByte s 64 then (s.take (Lib.indexByte s 64).toNat, s.drop ((Lib.indexByte s 64).toNat + 1)) else (s, [])).1, sv (if 0 ≤ Lib.indexByte s 64 then (s.take (Lib.indexByte s 64).toNat, s.drop ((Lib.indexByte s 64).toNat + 1)) else (s, [])).2, .bool (decide (0 ≤ Lib.indexByte s 64))] := rfl
 generalize hv : Lib.indexByte s 64 = v at *
 by_cases h0 : 0 ≤ v
 ·obtain ⟨i, rfl⟩ : ∃ i : Nat, v = i := ⟨v.toNat, by omega⟩
  have hsp := (Lib.indexByte_some hv).1
  have hi : i < s.length := by
   rcases Nat.lt_or_ge i s.length with h | h
   ·exact h
   ·rw [List.getElem?_eq_none h] at hsp; cases hsp
  have HV := Lib.hid hv
  have k2 : (0 : Int) ≤ (i : Int) := by omega
  have k3 : (i : Int) ≤ (s.length : Int) := by omega
  have k4 : (0 : Int) ≤ (i : Int) + 1 := by omega
  have k5 : (i : Int) + 1 ≤ (s.length : Int) := by omega
  have k6 : IntKind.i64.wrap ((i : Int) + 1) = (i : Int) + 1 := IntWalk.i64_in _ (by omega)
  have k7 : ((i : Int) + 1).toNat = i + 1 := by omega
  have k8 : decide ((0 : Int) ≤ (i : Int)) = true := by simp
  rw [if_pos h0, k8, Int.toNat_natCast] at hcv
  have HCV := Lib.hid hcv
  clear hv hge hsp h0 hcv
  go_enter Tryz.func187, Tryz.ntmps187
  go_wp2_with fail
  refine (Index_at s w).mono ?_
  rintro e w1 ⟨rfl, rfl⟩
  rw [HV.out]
  go_wp2_with fail
  try go_wp2_with fail
  refine wp_region_held_drew (S := fun w' => Below w.heap.size w w') (by kernel_rfl) (Below.drew (Below.refl _ _)) (fun hHeld => ?_)
  refine tV 0 ?_ ?zq ?_; (case zq => rintro _ -; go_simp; try with_reducible rfl); try simp only [Act.put, zn1, zn2, zn3]
  refine tV 1 ?_ ?zq ?_; (case zq => rintro _ -; go_simp; try with_reducible rfl); try simp only [Act.put, zn1, zn2, zn3]
  refine tV 2 ?_ ?zq ?_; (case zq => rintro _ -; go_simp; try with_reducible rfl); try simp only [Act.put, zn1, zn2, zn3]
  refine tV 3 ?_ ?zq ?_; (case zq => rintro _ -; go_simp; try with_reducible rfl); try simp only [Act.put, zn1, zn2, zn3]
  refine tV 4 ?_ ?zq ?_; (case zq => rintro _ -; go_simp; try with_reducible rfl); try simp only [Act.put, zn1, zn2, zn3]
  refine tV 5 ?_ ?zq ?_; (case zq => rintro _ -; go_simp; try with_reducible rfl); try simp only [Act.put, zn1, zn2, zn3]
  refine tV 6 ?_ ?zq ?_; (case zq => rintro _ -; go_simp; try with_reducible rfl); try simp only [Act.put, zn1, zn2, zn3]
  refine tV 7 ?_ ?zq ?_; (case zq => rintro _ -; go_simp; try with_reducible rfl); try simp only [Act.put, zn1, zn2, zn3]
  refine tV 8 ?_ ?zq ?_; (case zq => rintro _ -; go_simp; try with_reducible rfl); try simp only [Act.put, zn1, zn2, zn3]
  refine tV 9 ?_ ?zq ?_; (case zq => rintro _ -; go_simp; try with_reducible rfl); try simp only [Act.put, zn1, zn2, zn3]
  refine tV 10 ?_ ?zq ?_; (case zq => rintro _ -; go_simp; try with_reducible rfl); try simp only [Act.put, zn1, zn2, zn3]
  refine tV 11 ?_ ?zq ?_; (case zq => rintro _ -; go_simp; try with_reducible rfl); try simp only [Act.put, zn1, zn2, zn3]
  refine wpAnyH_done (by kernel_rfl) ?_ _
  go_wp2_with fail
  go_ret3
  refine ⟨?_, hHeld⟩
  rw [HCV.out]
  show Ending.returned (.tuple #[.string (ByteArray.extract ⟨s.toArray⟩ 0 i), .string (ByteArray.extract ⟨s.toArray⟩ (i + 1) s.length), .bool true]) = _
  rw [extract_str, extract_str]
  simp
 ·have HV := Lib.hid hv
  have k8 : decide ((0 : Int) ≤ v) = false := by simpa using h0
  rw [if_neg h0, k8] at hcv
  have HCV := Lib.hid hcv
  clear hv hge h0 hcv
  go_enter Tryz.func187, Tryz.ntmps187
  go_wp2_with fail
  refine (Index_at s w).mono ?_
  rintro e w1 ⟨rfl, rfl⟩
  rw [HV.out]
  go_wp2_with fail
  go_ret3
  exact ⟨by rw [HCV.out]; rfl, Below.refl _ _⟩
set_option maxHeartbeats 1000000 in
theorem Cut_at (s : Str) (w : World) (hl : s.length ≤ 140737488355328) : Calls Tryz.prog 141 #[sv s, .string ⟨#[64]⟩] w fun e w' => e = .returned (cutV s) ∧ Below w.heap.size w w' := by
 go_enter Tryz.func141, Tryz.ntmps141
 go_wp2_with fail
 refine (Cutl_at s w hl).mono ?_
 rintro e w1 ⟨rfl, hb⟩
 have hcv : cutV s = .tuple #[sv (atCut s).1, sv (atCut s).2, .bool (decide (0 ≤ Lib.indexByte s 64))] := rfl
 have HCV := Lib.hid hcv
 rw [hcv]
 clear hcv
 go_wp2_with fail
 go_ret3
 exact ⟨HCV.out ▸ rfl, hb⟩
theorem sufK_at {t : Str} {k : Nat} (h1 : 1 ≤ k) (h2 : k ≤ 4) (ha : ∀ j : Nat, 1 ≤ j → j < k → sufS j ≠ t) (h : sufS k = t) : sufK t = k := by
 unfold sufK
 rcases (show k = 1 ∨ k = 2 ∨ k = 3 ∨ k = 4 by omega) with rfl | rfl | rfl | rfl
 ·rw [if_pos (show sufS 1 = t from h)]; rfl
 ·rw [if_neg (show sufS 1 ≠ t from ha 1 (by omega) (by omega)), if_pos (show sufS 2 = t from h)]; rfl
 ·rw [if_neg (show sufS 1 ≠ t from ha 1 (by omega) (by omega)), if_neg (show sufS 2 ≠ t from ha 2 (by omega) (by omega)), if_pos (show sufS 3 = t from h)]; rfl
 ·rw [if_neg (show sufS 1 ≠ t from ha 1 (by omega) (by omega)), if_neg (show sufS 2 ≠ t from ha 2 (by omega) (by omega)), if_neg (show sufS 3 ≠ t from ha 3 (by omega) (by omega)), if_pos (show sufS 4 = t from h)]; rfl
theorem sufK_none {t : Str} (ha : ∀ j : Nat, 1 ≤ j → j < 5 → sufS j ≠ t) : sufK t = 0 := by
 unfold sufK
 rw [if_neg (show sufS 1 ≠ t from ha 1 (by omega) (by omega)), if_neg (show sufS 2 ≠ t from ha 2 (by omega) (by omega)), if_neg (show sufS 3 ≠ t from ha 3 (by omega) (by omega)), if_neg (show sufS 4 ≠ t from ha 4 (by omega) (by omega))]
set_option maxRecDepth 100000 in
set_option maxHeartbeats 4000000 in
theorem Kind_any (s : Str) (w : World) (hl : s.length ≤ 140737488355328) : Calls Tryz.prog 103 #[sv s] w fun e w' => e = .returned (.int .i64 (kindS s)) ∧ Below w.heap.size w w' := by
 have hcl := nameCut_le s
 have hal := atCut_le (nameCut s).1
 have hbad : badName s = (decide (60 < (s.length : Int)) || ((atCut (nameCut s).1).1 == ([] : Str) || (!allB okB (atCut (nameCut s).1).1 || !allB okB (atCut (nameCut s).1).2))) := rfl
 have hkind : kindS s = if badName s then 0 else sufK (nameCut s).2 := rfl
 have hcv : cutV (nameCut s).1 = .tuple #[sv (atCut (nameCut s).1).1, sv (atCut (nameCut s).1).2, .bool (decide (0 ≤ Lib.indexByte (nameCut s).1 64))] := rfl
 rw [hbad] at hkind
 have HK := Lib.hid hkind
 have HCV := Lib.hid hcv
 clear hbad hkind hcv
 have hlh : (nameCut s).1.length ≤ 140737488355328 := by omega
 have hlp : (atCut (nameCut s).1).1.length ≤ 140737488355328 := by omega
 have hli : (atCut (nameCut s).1).2.length ≤ 140737488355328 := by omega
 go_enter Tryz.func103, Tryz.ntmps103
 go_wp2_with fail
 refine (cutname_any s w hl).mono ?_
 rintro e w1 ⟨rfl, hb1⟩
 have HB1 := Lib.hid hb1
 clear hb1
 go_wp2_with fail
 refine (Cut_at (nameCut s).1 w1 hlh).mono ?_
 rintro e w2 ⟨rfl, hb2⟩
 have HB2 := Lib.hid (lift HB1.out hb2)
 clear hb2
 rw [HCV.out]
 generalize hpre : (atCut (nameCut s).1).1 = pre at *
 generalize hins : (atCut (nameCut s).1).2 = ins at *
 generalize hsuf : (nameCut s).2 = suf at *
 have HX := Lib.hid (And.intro hpre (And.intro hins hsuf))
 clear hpre hins hsuf hcl hal
 by_cases h60 : (60 : Int) < (s.length : Int)
 ·have d60 : decide ((60 : Int) < (s.length : Int)) = true := by simpa using h60
  have D60 := Lib.hid d60
  go_wp2_with fail
  go_ret
  exact ⟨ret_int (by rw [HK.out]; simp [D60.out]), HB2.out⟩
 ·have d60 : decide ((60 : Int) < (s.length : Int)) = false := by simpa using h60
  have D60 := Lib.hid d60
  cases hp0 : (pre == ([] : Str))
  ·have HP0 := Lib.hid hp0
   go_wp2_with fail
   refine (plain_any pre w2 hlp).mono ?_
   rintro e w3 ⟨rfl, hb3⟩
   have HB3 := Lib.hid (lift HB2.out hb3)
   clear hb3
   cases hq1 : allB okB pre
   ·have HQ1 := Lib.hid hq1
    go_wp2_with fail
    go_ret
    exact ⟨ret_int (by rw [HK.out]; simp [HQ1.out]), HB3.out⟩
   ·have HQ1 := Lib.hid hq1
    go_wp2_with fail
    refine (plain_any ins w3 hli).mono ?_
    rintro e w4 ⟨rfl, hb4⟩
    have HB4 := Lib.hid (lift HB3.out hb4)
    clear hb4
    cases hq2 : allB okB ins
    ·have HQ2 := Lib.hid hq2
     go_wp2_with fail
     go_ret
     exact ⟨ret_int (by rw [HK.out]; simp [HQ2.out]), HB4.out⟩
    ·have HQ2 := Lib.hid hq2
     go_wp2_with fail
     go_loopw [8] (fun i wr => ∃ k : Nat, 1 ≤ k ∧ k ≤ 5 ∧ i = .int .i64 k ∧ Hid (∀ j : Nat, 1 ≤ j → j < k → sufS j ≠ suf) ∧ Below w.heap.size w wr) (fun i _ => 5 - (intOf i).toNat)
     case atStart => exact ⟨1, by omega, by omega, rfl, fun j h1 h2 => by omega, HB4.out⟩
     case round =>
      obtain ⟨k, hk1, hk5, rfl, hall, hb⟩ := hrel
      have HB := Lib.hid hb
      clear hb
      by_cases hlt : k ≤ 4
      ·have dk : decide ((k : Int) ≤ 4) = true := by simp; omega
       go_wp2_with fail
       refine (Suffix_any k wr).mono ?_
       rintro e w5 ⟨rfl, rfl⟩
       cases hs : (sufS k == suf)
       ·have Hs := Lib.hid hs
        go_wp2_with fail
        go_roundw
        case rel =>
         refine ⟨k + 1, by omega, by omega, by go_num, fun j h1 h2 => ?_, HB.out⟩
         by_cases e : j = k
         ·subst e; have := Hs.out; simpa using this
         ·exact hall.out j h1 (by omega)
        case measure => simp [intOf]; omega
       ·have Hs := Lib.hid (sufK_at hk1 hlt hall.out (by simpa using hs))
        go_wp2_with fail
        go_ret
        exact ⟨ret_int (by rw [HK.out]; simp [D60.out, HP0.out, HQ1.out, HQ2.out, Hs.out]), HB.out⟩
      ·have dk : decide ((k : Int) ≤ 4) = false := by simp; omega
       have Hs := Lib.hid (sufK_none fun j h1 h2 => hall.out j h1 (by omega))
       go_wp2_with fail
       go_ret
       exact ⟨ret_int (by rw [HK.out]; simp [D60.out, HP0.out, HQ1.out, HQ2.out, Hs.out]), HB.out⟩
  ·have HP0 := Lib.hid hp0
   go_wp2_with fail
   go_ret
   exact ⟨ret_int (by rw [HK.out]; simp [HP0.out]), HB2.out⟩
set_option maxHeartbeats 1000000 in
theorem May_any (s : Str) (w : World) (hl : s.length ≤ 140737488355328) : Calls Tryz.prog 102 #[sv s] w fun e w' => e = .returned (.bool (kindS s != 0)) ∧ Below w.heap.size w w' := by
 go_enter Tryz.func102, Tryz.ntmps102
 go_wp2_with fail
 refine (Kind_any s w hl).mono ?_
 rintro e w1 ⟨rfl, hb⟩
 go_wp2_with fail
 go_ret
 exact ⟨rfl, hb⟩
end Od
end Go.Proofs.YtbllehjhmfehbaaGreat
end

section
/- The walks of graph.mayNode and graph.May. -/
namespace Go.Proofs.YtbllehjhmfehbaaGreat
open Go.RowKit

namespace Od
def mayN (n : Nd) : Bool := kindS n.1 != 0 && ((n.2.1 == kindS n.1) && (decide (1 ≤ n.2.2) && decide (n.2.2 ≤ 4)))
set_option maxRecDepth 100000 in
set_option maxHeartbeats 4000000 in
theorem mayNode_any (s : Str) (k r : Int) (w : World) (hl : s.length ≤ 140737488355328) : Calls Tryz.prog 61 #[.agg #[sv s, .int .i64 k, .int .i64 r]] w fun e w' => e = .returned (.bool (mayN (s, k, r))) ∧ Below w.heap.size w w' := by
 have hm : mayN (s, k, r) = (kindS s != 0 && ((k == kindS s) && (decide (1 ≤ r) && decide (r ≤ 4)))) := rfl
 have HM := Lib.hid hm
 clear hm
 go_enter Tryz.func61, Tryz.ntmps61
 go_wp2_with fail
 first | (refine wp_named ?_; intro W1 hW) | (refine calls_named ?_; intro W1 hW)
 have B1 : Below w.heap.size w W1 := by rw [hW]; exact bq
 have n1 : w.heap.size < W1.heap.size := by rw [hW]; simp <;> omega
 have c0 : W1.cell? ⟨w.heap.size, 0, none⟩ = some (sv s) := by rw [hW]; go_simp
 have c1 : W1.cell? ⟨w.heap.size, 1, none⟩ = some (.int .i64 k) := by rw [hW]; go_simp
 have c2 : W1.cell? ⟨w.heap.size, 2, none⟩ = some (.int .i64 r) := by rw [hW]; go_simp
 clear hW
 have HB := Lib.hid B1
 clear B1
 cases h1 : (kindS s != 0)
 ·have H1 := Lib.hid h1
  try go_wp2_with fail
  refine wp_region_held_drew (S := fun w' => Below W1.heap.size W1 w') (by kernel_rfl) (Below.drew (Below.refl _ _)) (fun hHeld => ?_)
  refine tV 0 ?_ ?zq ?_; (case zq => rintro _ -; go_simp; try with_reducible rfl); try simp only [Act.put, zn1, zn2, zn3]
  refine tV 1 ?_ ?zq ?_; (case zq => intro w' hSw; have hCell := fun (b o : Nat) (h : b < W1.heap.size) => hSw.cell (p := ⟨b, o, none⟩) h; clear hSw; go_simp; try with_reducible rfl); try simp only [Act.put, zn1, zn2, zn3]
  refine ready_one (i := 2) rfl (by kernel_rfl) (fun K hK => ?_)
  go_simp
  refine (May_any s _ hl).mono ?_
  rintro e v2 ⟨rfl, hb⟩
  refine hK.out _ _ ?_ (fun hHeld2 => ?_)
  ·(try dsimp only); first | exact Below.trans hHeld (Below.mono hb hHeld.size) | exact hHeld | exact Below.drew hHeld | exact bq
  clear hK K hHeld; have hHeld := hHeld2; clear hHeld2; (try simp only [Act.put, zn1, zn2, zn3])
  refine tV 3 ?_ ?zq ?_; (case zq => rintro _ -; go_simp; try with_reducible rfl); try simp only [Act.put, zn1, zn2, zn3]
  refine tS (i := 4) rfl hHeld ?_; (try simp only [Act.put, zn1, zn2, zn3])
  refine tS (i := 5) rfl hHeld ?_; (try simp only [Act.put, zn1, zn2, zn3])
  refine tS (i := 6) rfl hHeld ?_; (try simp only [Act.put, zn1, zn2, zn3])
  refine tS (i := 7) rfl hHeld ?_; (try simp only [Act.put, zn1, zn2, zn3])
  refine tS (i := 8) rfl hHeld ?_; (try simp only [Act.put, zn1, zn2, zn3])
  refine tS (i := 9) rfl hHeld ?_; (try simp only [Act.put, zn1, zn2, zn3])
  refine tV 10 ?_ ?zq ?_; (case zq => rintro _ -; go_simp; try with_reducible rfl); try simp only [Act.put, zn1, zn2, zn3]
  refine tV 11 ?_ ?zq ?_; (case zq => rintro _ -; go_simp; try with_reducible rfl); try simp only [Act.put, zn1, zn2, zn3]
  refine tS (i := 12) rfl hHeld ?_; (try simp only [Act.put, zn1, zn2, zn3])
  refine tS (i := 13) rfl hHeld ?_; (try simp only [Act.put, zn1, zn2, zn3])
  refine tS (i := 14) rfl hHeld ?_; (try simp only [Act.put, zn1, zn2, zn3])
  refine tV 15 ?_ ?zq ?_; (case zq => rintro _ -; go_simp; try with_reducible rfl); try simp only [Act.put, zn1, zn2, zn3]
  refine tV 16 ?_ ?zq ?_; (case zq => rintro _ -; go_simp; try with_reducible rfl); try simp only [Act.put, zn1, zn2, zn3]
  refine tS (i := 17) rfl hHeld ?_; (try simp only [Act.put, zn1, zn2, zn3])
  refine tS (i := 18) rfl hHeld ?_; (try simp only [Act.put, zn1, zn2, zn3])
  refine tS (i := 19) rfl hHeld ?_; (try simp only [Act.put, zn1, zn2, zn3])
  refine tV 20 ?_ ?zq ?_; (case zq => rintro _ -; go_simp; try with_reducible rfl); try simp only [Act.put, zn1, zn2, zn3]
  refine tV 21 ?_ ?zq ?_; (case zq => rintro _ -; go_simp; try with_reducible rfl); try simp only [Act.put, zn1, zn2, zn3]
  refine wpAnyH_done (by kernel_rfl) ?_ _
  go_wp2_with fail
  go_ret
  exact ⟨ret_bool (by rw [HM.out]; simp [H1.out]), lift HB.out hHeld⟩
 ·have H1 := Lib.hid h1
  cases h2 : (k == kindS s)
  ·have H2 := Lib.hid h2
   try go_wp2_with fail
   refine wp_region_held_drew (S := fun w' => Below W1.heap.size W1 w') (by kernel_rfl) (Below.drew (Below.refl _ _)) (fun hHeld => ?_)
   refine tV 0 ?_ ?zq ?_; (case zq => rintro _ -; go_simp; try with_reducible rfl); try simp only [Act.put, zn1, zn2, zn3]
   refine tV 1 ?_ ?zq ?_; (case zq => intro w' hSw; have hCell := fun (b o : Nat) (h : b < W1.heap.size) => hSw.cell (p := ⟨b, o, none⟩) h; clear hSw; go_simp; try with_reducible rfl); try simp only [Act.put, zn1, zn2, zn3]
   refine ready_one (i := 2) rfl (by kernel_rfl) (fun K hK => ?_)
   go_simp
   refine (May_any s _ hl).mono ?_
   rintro e v2 ⟨rfl, hb⟩
   refine hK.out _ _ ?_ (fun hHeld2 => ?_)
   ·(try dsimp only); first | exact Below.trans hHeld (Below.mono hb hHeld.size) | exact hHeld | exact Below.drew hHeld | exact bq
   clear hK K hHeld; have hHeld := hHeld2; clear hHeld2; (try simp only [Act.put, zn1, zn2, zn3])
   refine tV 3 ?_ ?zq ?_; (case zq => rintro _ -; go_simp; try with_reducible rfl); try simp only [Act.put, zn1, zn2, zn3]
   refine tV 4 ?_ ?zq ?_; (case zq => rintro _ -; go_simp; try with_reducible rfl); try simp only [Act.put, zn1, zn2, zn3]
   refine tV 5 ?_ ?zq ?_; (case zq => intro w' hSw; have hCell := fun (b o : Nat) (h : b < W1.heap.size) => hSw.cell (p := ⟨b, o, none⟩) h; clear hSw; go_simp; try with_reducible rfl); try simp only [Act.put, zn1, zn2, zn3]
   refine tV 6 ?_ ?zq ?_; (case zq => rintro _ -; go_simp; try with_reducible rfl); try simp only [Act.put, zn1, zn2, zn3]
   refine tV 7 ?_ ?zq ?_; (case zq => intro w' hSw; have hCell := fun (b o : Nat) (h : b < W1.heap.size) => hSw.cell (p := ⟨b, o, none⟩) h; clear hSw; go_simp; try with_reducible rfl); try simp only [Act.put, zn1, zn2, zn3]
   refine ready_one (i := 8) rfl (by kernel_rfl) (fun K hK => ?_)
   go_simp
   refine (Kind_any s _ hl).mono ?_
   rintro e v3 ⟨rfl, hb⟩
   refine hK.out _ _ ?_ (fun hHeld2 => ?_)
   ·(try dsimp only); first | exact Below.trans hHeld (Below.mono hb hHeld.size) | exact hHeld | exact Below.drew hHeld | exact bq
   clear hK K hHeld; have hHeld := hHeld2; clear hHeld2; (try simp only [Act.put, zn1, zn2, zn3])
   refine tV 9 ?_ ?zq ?_; (case zq => rintro _ -; go_simp; try with_reducible rfl); try simp only [Act.put, zn1, zn2, zn3]
   refine tV 10 ?_ ?zq ?_; (case zq => rintro _ -; go_simp; try with_reducible rfl); try simp only [Act.put, zn1, zn2, zn3]
   refine tV 11 ?_ ?zq ?_; (case zq => rintro _ -; go_simp; try with_reducible rfl); try simp only [Act.put, zn1, zn2, zn3]
   refine tS (i := 12) rfl hHeld ?_; (try simp only [Act.put, zn1, zn2, zn3])
   refine tS (i := 13) rfl hHeld ?_; (try simp only [Act.put, zn1, zn2, zn3])
   refine tS (i := 14) rfl hHeld ?_; (try simp only [Act.put, zn1, zn2, zn3])
   refine tV 15 ?_ ?zq ?_; (case zq => rintro _ -; go_simp; try with_reducible rfl); try simp only [Act.put, zn1, zn2, zn3]
   refine tV 16 ?_ ?zq ?_; (case zq => rintro _ -; go_simp; try with_reducible rfl); try simp only [Act.put, zn1, zn2, zn3]
   refine tS (i := 17) rfl hHeld ?_; (try simp only [Act.put, zn1, zn2, zn3])
   refine tS (i := 18) rfl hHeld ?_; (try simp only [Act.put, zn1, zn2, zn3])
   refine tS (i := 19) rfl hHeld ?_; (try simp only [Act.put, zn1, zn2, zn3])
   refine tV 20 ?_ ?zq ?_; (case zq => rintro _ -; go_simp; try with_reducible rfl); try simp only [Act.put, zn1, zn2, zn3]
   refine tV 21 ?_ ?zq ?_; (case zq => rintro _ -; go_simp; try with_reducible rfl); try simp only [Act.put, zn1, zn2, zn3]
   refine wpAnyH_done (by kernel_rfl) ?_ _
   go_wp2_with fail
   go_ret
   exact ⟨ret_bool (by rw [HM.out]; simp [H1.out, H2.out]), lift HB.out hHeld⟩
  ·have H2 := Lib.hid h2
   cases h3 : decide (1 ≤ r)
   ·have H3 := Lib.hid h3
    try go_wp2_with fail
    refine wp_region_held_drew (S := fun w' => Below W1.heap.size W1 w') (by kernel_rfl) (Below.drew (Below.refl _ _)) (fun hHeld => ?_)
    refine tV 0 ?_ ?zq ?_; (case zq => rintro _ -; go_simp; try with_reducible rfl); try simp only [Act.put, zn1, zn2, zn3]
    refine tV 1 ?_ ?zq ?_; (case zq => intro w' hSw; have hCell := fun (b o : Nat) (h : b < W1.heap.size) => hSw.cell (p := ⟨b, o, none⟩) h; clear hSw; go_simp; try with_reducible rfl); try simp only [Act.put, zn1, zn2, zn3]
    refine ready_one (i := 2) rfl (by kernel_rfl) (fun K hK => ?_)
    go_simp
    refine (May_any s _ hl).mono ?_
    rintro e v2 ⟨rfl, hb⟩
    refine hK.out _ _ ?_ (fun hHeld2 => ?_)
    ·(try dsimp only); first | exact Below.trans hHeld (Below.mono hb hHeld.size) | exact hHeld | exact Below.drew hHeld | exact bq
    clear hK K hHeld; have hHeld := hHeld2; clear hHeld2; (try simp only [Act.put, zn1, zn2, zn3])
    refine tV 3 ?_ ?zq ?_; (case zq => rintro _ -; go_simp; try with_reducible rfl); try simp only [Act.put, zn1, zn2, zn3]
    refine tV 4 ?_ ?zq ?_; (case zq => rintro _ -; go_simp; try with_reducible rfl); try simp only [Act.put, zn1, zn2, zn3]
    refine tV 5 ?_ ?zq ?_; (case zq => intro w' hSw; have hCell := fun (b o : Nat) (h : b < W1.heap.size) => hSw.cell (p := ⟨b, o, none⟩) h; clear hSw; go_simp; try with_reducible rfl); try simp only [Act.put, zn1, zn2, zn3]
    refine tV 6 ?_ ?zq ?_; (case zq => rintro _ -; go_simp; try with_reducible rfl); try simp only [Act.put, zn1, zn2, zn3]
    refine tV 7 ?_ ?zq ?_; (case zq => intro w' hSw; have hCell := fun (b o : Nat) (h : b < W1.heap.size) => hSw.cell (p := ⟨b, o, none⟩) h; clear hSw; go_simp; try with_reducible rfl); try simp only [Act.put, zn1, zn2, zn3]
    refine ready_one (i := 8) rfl (by kernel_rfl) (fun K hK => ?_)
    go_simp
    refine (Kind_any s _ hl).mono ?_
    rintro e v3 ⟨rfl, hb⟩
    refine hK.out _ _ ?_ (fun hHeld2 => ?_)
    ·(try dsimp only); first | exact Below.trans hHeld (Below.mono hb hHeld.size) | exact hHeld | exact Below.drew hHeld | exact bq
    clear hK K hHeld; have hHeld := hHeld2; clear hHeld2; (try simp only [Act.put, zn1, zn2, zn3])
    refine tV 9 ?_ ?zq ?_; (case zq => rintro _ -; go_simp; try with_reducible rfl); try simp only [Act.put, zn1, zn2, zn3]
    refine tV 10 ?_ ?zq ?_; (case zq => rintro _ -; go_simp; try with_reducible rfl); try simp only [Act.put, zn1, zn2, zn3]
    refine tV 11 ?_ ?zq ?_; (case zq => rintro _ -; go_simp; try with_reducible rfl); try simp only [Act.put, zn1, zn2, zn3]
    refine tV 12 ?_ ?zq ?_; (case zq => rintro _ -; go_simp; try with_reducible rfl); try simp only [Act.put, zn1, zn2, zn3]
    refine tV 13 ?_ ?zq ?_; (case zq => intro w' hSw; have hCell := fun (b o : Nat) (h : b < W1.heap.size) => hSw.cell (p := ⟨b, o, none⟩) h; clear hSw; go_simp; try with_reducible rfl); try simp only [Act.put, zn1, zn2, zn3]
    refine tV 14 ?_ ?zq ?_; (case zq => rintro _ -; go_simp; try with_reducible rfl); try simp only [Act.put, zn1, zn2, zn3]
    refine tV 15 ?_ ?zq ?_; (case zq => rintro _ -; go_simp; try with_reducible rfl); try simp only [Act.put, zn1, zn2, zn3]
    refine tV 16 ?_ ?zq ?_; (case zq => rintro _ -; go_simp; try with_reducible rfl); try simp only [Act.put, zn1, zn2, zn3]
    refine tS (i := 17) rfl hHeld ?_; (try simp only [Act.put, zn1, zn2, zn3])
    refine tS (i := 18) rfl hHeld ?_; (try simp only [Act.put, zn1, zn2, zn3])
    refine tS (i := 19) rfl hHeld ?_; (try simp only [Act.put, zn1, zn2, zn3])
    refine tV 20 ?_ ?zq ?_; (case zq => rintro _ -; go_simp; try with_reducible rfl); try simp only [Act.put, zn1, zn2, zn3]
    refine tV 21 ?_ ?zq ?_; (case zq => rintro _ -; go_simp; try with_reducible rfl); try simp only [Act.put, zn1, zn2, zn3]
    refine wpAnyH_done (by kernel_rfl) ?_ _
    go_wp2_with fail
    go_ret
    exact ⟨ret_bool (by rw [HM.out]; simp [H1.out, H2.out, H3.out]), lift HB.out hHeld⟩
   ·have H3 := Lib.hid h3
    try go_wp2_with fail
    refine wp_region_held_drew (S := fun w' => Below W1.heap.size W1 w') (by kernel_rfl) (Below.drew (Below.refl _ _)) (fun hHeld => ?_)
    refine tV 0 ?_ ?zq ?_; (case zq => rintro _ -; go_simp; try with_reducible rfl); try simp only [Act.put, zn1, zn2, zn3]
    refine tV 1 ?_ ?zq ?_; (case zq => intro w' hSw; have hCell := fun (b o : Nat) (h : b < W1.heap.size) => hSw.cell (p := ⟨b, o, none⟩) h; clear hSw; go_simp; try with_reducible rfl); try simp only [Act.put, zn1, zn2, zn3]
    refine ready_one (i := 2) rfl (by kernel_rfl) (fun K hK => ?_)
    go_simp
    refine (May_any s _ hl).mono ?_
    rintro e v2 ⟨rfl, hb⟩
    refine hK.out _ _ ?_ (fun hHeld2 => ?_)
    ·(try dsimp only); first | exact Below.trans hHeld (Below.mono hb hHeld.size) | exact hHeld | exact Below.drew hHeld | exact bq
    clear hK K hHeld; have hHeld := hHeld2; clear hHeld2; (try simp only [Act.put, zn1, zn2, zn3])
    refine tV 3 ?_ ?zq ?_; (case zq => rintro _ -; go_simp; try with_reducible rfl); try simp only [Act.put, zn1, zn2, zn3]
    refine tV 4 ?_ ?zq ?_; (case zq => rintro _ -; go_simp; try with_reducible rfl); try simp only [Act.put, zn1, zn2, zn3]
    refine tV 5 ?_ ?zq ?_; (case zq => intro w' hSw; have hCell := fun (b o : Nat) (h : b < W1.heap.size) => hSw.cell (p := ⟨b, o, none⟩) h; clear hSw; go_simp; try with_reducible rfl); try simp only [Act.put, zn1, zn2, zn3]
    refine tV 6 ?_ ?zq ?_; (case zq => rintro _ -; go_simp; try with_reducible rfl); try simp only [Act.put, zn1, zn2, zn3]
    refine tV 7 ?_ ?zq ?_; (case zq => intro w' hSw; have hCell := fun (b o : Nat) (h : b < W1.heap.size) => hSw.cell (p := ⟨b, o, none⟩) h; clear hSw; go_simp; try with_reducible rfl); try simp only [Act.put, zn1, zn2, zn3]
    refine ready_one (i := 8) rfl (by kernel_rfl) (fun K hK => ?_)
    go_simp
    refine (Kind_any s _ hl).mono ?_
    rintro e v3 ⟨rfl, hb⟩
    refine hK.out _ _ ?_ (fun hHeld2 => ?_)
    ·(try dsimp only); first | exact Below.trans hHeld (Below.mono hb hHeld.size) | exact hHeld | exact Below.drew hHeld | exact bq
    clear hK K hHeld; have hHeld := hHeld2; clear hHeld2; (try simp only [Act.put, zn1, zn2, zn3])
    refine tV 9 ?_ ?zq ?_; (case zq => rintro _ -; go_simp; try with_reducible rfl); try simp only [Act.put, zn1, zn2, zn3]
    refine tV 10 ?_ ?zq ?_; (case zq => rintro _ -; go_simp; try with_reducible rfl); try simp only [Act.put, zn1, zn2, zn3]
    refine tV 11 ?_ ?zq ?_; (case zq => rintro _ -; go_simp; try with_reducible rfl); try simp only [Act.put, zn1, zn2, zn3]
    refine tV 12 ?_ ?zq ?_; (case zq => rintro _ -; go_simp; try with_reducible rfl); try simp only [Act.put, zn1, zn2, zn3]
    refine tV 13 ?_ ?zq ?_; (case zq => intro w' hSw; have hCell := fun (b o : Nat) (h : b < W1.heap.size) => hSw.cell (p := ⟨b, o, none⟩) h; clear hSw; go_simp; try with_reducible rfl); try simp only [Act.put, zn1, zn2, zn3]
    refine tV 14 ?_ ?zq ?_; (case zq => rintro _ -; go_simp; try with_reducible rfl); try simp only [Act.put, zn1, zn2, zn3]
    refine tV 15 ?_ ?zq ?_; (case zq => rintro _ -; go_simp; try with_reducible rfl); try simp only [Act.put, zn1, zn2, zn3]
    refine tV 16 ?_ ?zq ?_; (case zq => rintro _ -; go_simp; try with_reducible rfl); try simp only [Act.put, zn1, zn2, zn3]
    refine tV 17 ?_ ?zq ?_; (case zq => rintro _ -; go_simp; try with_reducible rfl); try simp only [Act.put, zn1, zn2, zn3]
    refine tV 18 ?_ ?zq ?_; (case zq => intro w' hSw; have hCell := fun (b o : Nat) (h : b < W1.heap.size) => hSw.cell (p := ⟨b, o, none⟩) h; clear hSw; go_simp; try with_reducible rfl); try simp only [Act.put, zn1, zn2, zn3]
    refine tV 19 ?_ ?zq ?_; (case zq => rintro _ -; go_simp; try with_reducible rfl); try simp only [Act.put, zn1, zn2, zn3]
    refine tV 20 ?_ ?zq ?_; (case zq => rintro _ -; go_simp; try with_reducible rfl); try simp only [Act.put, zn1, zn2, zn3]
    refine tV 21 ?_ ?zq ?_; (case zq => rintro _ -; go_simp; try with_reducible rfl); try simp only [Act.put, zn1, zn2, zn3]
    refine wpAnyH_done (by kernel_rfl) ?_ _
    go_wp2_with fail
    go_ret
    exact ⟨ret_bool (by rw [HM.out]; simp [H1.out, H2.out, H3.out]), lift HB.out hHeld⟩
/-- May an edge stand in a graph with these nodes? -/
def edgeOk (ns : List Nd) (e : Ed) : Bool := (nodeOf ns e.1).isSome && ((nodeOf ns e.2.1).isSome && (!(e.1 == e.2.1) && (((nodeOf ns e.1).getD ([], 0, 0)).2.2 == 1 && (!decide (e.2.2 < 1) && !decide (10 < e.2.2)))))
def mayG (ns : List Nd) (es : List Ed) : Bool := !decide ((64 : Int) < (ns.length : Int)) && (risesB nodeCmp ns && (risesB edgeCmp es && (ns.all mayN && es.all (edgeOk ns))))
def OkNs (ns : List Nd) : Prop := ∀ n ∈ ns, n.1.length ≤ 140737488355328
theorem all_take_succ {α : Type} {p : α → Bool} {l : List α} {k : Nat} (hk : k < l.length) : (l.take (k + 1)).all p = ((l.take k).all p && p l[k]) := by
 rw [List.take_succ_eq_append_getElem hk, List.all_append]; simp
theorem all_false_at {α : Type} {p : α → Bool} {l : List α} {k : Nat} (hk : k < l.length) (h : p l[k] = false) : l.all p = false := by
 rw [List.all_eq_false]; exact ⟨l[k], List.getElem_mem hk, by simp [h]⟩
set_option maxRecDepth 100000 in
set_option maxHeartbeats 8000000 in
theorem MayG_any (An Ae : Option Addr) (cn ce : Nat) (ns : List Nd) (es : List Ed) (w : World) (hn : Rd w w.heap.size 3 An ns.length (ndsC ns)) (hr : Rd w w.heap.size 3 Ae es.length (edsC es)) (hln : ns.length ≤ 1000000) (hl : es.length ≤ 1000000) (hok : OkNs ns) :
  Calls Tryz.prog 23 #[gV An ns.length cn Ae es.length ce] w fun e w' => e = .returned (.bool (mayG ns es)) ∧ Below w.heap.size w w' := by
 have Hn := Lib.hid hn
 have Hr := Lib.hid hr
 have HO := Lib.hid hok
 have HM := Lib.hid (show mayG ns es = (!decide ((64 : Int) < (ns.length : Int)) && (risesB nodeCmp ns && (risesB edgeCmp es && (ns.all mayN && es.all (edgeOk ns))))) from rfl)
 clear hn hr hok
 by_cases h64 : (64 : Int) < (ns.length : Int)
 ·have h1 : decide ((64 : Int) < (ns.length : Int)) = true := by simpa using h64
  have H1 := Lib.hid h1
  go_enter Tryz.func23, Tryz.ntmps23
  go_wp2_with fail
  go_ret
  exact ⟨ret_bool (by rw [HM.out, H1.out]; rfl), bq⟩
 ·have h1 : decide ((64 : Int) < (ns.length : Int)) = false := by simpa using h64
  have H1 := Lib.hid h1
  go_enter Tryz.func23, Tryz.ntmps23
  go_wp2_with fail
  first | (refine wp_named ?_; intro W1 hW) | (refine calls_named ?_; intro W1 hW)
  have B1 : Below w.heap.size w W1 := by rw [hW]; exact bq
  replace Hr := Lib.hid (Hr.out.at B1)
  replace Hn := Lib.hid (Hn.out.at B1)
  have n1 : w.heap.size < W1.heap.size := by rw [hW]; simp <;> omega
  have c0 : W1.cell? ⟨w.heap.size, 0, none⟩ = some (.slice An ns.length cn) := by rw [hW]; go_simp
  have c1 : W1.cell? ⟨w.heap.size, 1, none⟩ = some (.slice Ae es.length ce) := by rw [hW]; go_simp
  clear hW
  have HB := Lib.hid B1
  clear B1
  go_wp2_with fail
  refine (risesN_any _ cn ns W1 Hn.out hln).mono ?_
  rintro e v1 ⟨rfl, hb⟩
  replace c0 := cellAt c0 hb (by omega)
  replace c1 := cellAt c1 hb (by omega)
  replace Hr := Lib.hid (Hr.out.at hb)
  replace Hn := Lib.hid (Hn.out.at hb)
  replace n1 : w.heap.size < v1.heap.size := ltAt n1 hb
  replace HB := Lib.hid (lift HB.out hb)
  clear hb
  cases h2 : risesB nodeCmp ns
  ·have H2 := Lib.hid h2
   go_wp2_with fail
   go_ret
   exact ⟨ret_bool (by rw [HM.out, H1.out, H2.out]; simp), HB.out⟩
  ·have H2 := Lib.hid h2
   go_wp2_with fail
   refine (risesE_any _ ce es v1 Hr.out hl).mono ?_
   rintro e v2 ⟨rfl, hb⟩
   replace c0 := cellAt c0 hb (by omega)
   replace c1 := cellAt c1 hb (by omega)
   replace Hr := Lib.hid (Hr.out.at hb)
   replace Hn := Lib.hid (Hn.out.at hb)
   replace n1 : w.heap.size < v2.heap.size := ltAt n1 hb
   replace HB := Lib.hid (lift HB.out hb)
   clear hb
   cases h3 : risesB edgeCmp es
   ·have H3 := Lib.hid h3
    go_wp2_with fail
    go_ret
    exact ⟨ret_bool (by rw [HM.out, H1.out, H2.out, H3.out]; simp), HB.out⟩
   ·have H3 := Lib.hid h3
    go_wp2_with fail
    go_loopw [30] (fun i wr => ∃ k : Nat, k ≤ ns.length ∧ i = .int .i64 k ∧ Hid ((ns.take k).all mayN = true) ∧ Below v2.heap.size v2 wr) (fun i _ => ns.length - (intOf i).toNat)
    case atStart => exact ⟨0, Nat.zero_le _, rfl, by simp [Hid], Below.refl _ _⟩
    case round =>
     obtain ⟨k, hk, rfl, hall, hb⟩ := hrel
     replace c0 := cellAt c0 hb (by omega)
     replace c1 := cellAt c1 hb (by omega)
     replace Hr := Lib.hid (Hr.out.at hb)
     replace Hn := Lib.hid (Hn.out.at hb)
     replace n1 : w.heap.size < wr.heap.size := ltAt n1 hb
     replace HB := Lib.hid (lift HB.out hb)
     have Hb := Lib.hid hb
     clear hb
     by_cases hlt : k < ns.length
     ·obtain ⟨b, o, rfl, hB, x0, x1, x2⟩ := Hn.out.node hlt
      have hat := @all_take_succ Nd mayN ns k hlt
      have haf := @all_false_at Nd mayN ns k hlt
      have hlen := HO.out _ (List.getElem_mem hlt)
      generalize ns[k] = p at x0 x1 x2 hat haf hlen
      obtain ⟨s, u, r⟩ := p
      have HA := Lib.hid (And.intro hat haf)
      simp only at x0 x1 x2 hlen
      clear hat haf
      go_wp2_with fail
      first | (refine wp_named ?_; intro W2 hW) | (refine calls_named ?_; intro W2 hW)
      have B2 : Below wr.heap.size wr W2 := by rw [hW]; exact bq
      replace c0 := cellAt c0 B2 (by omega)
      replace c1 := cellAt c1 B2 (by omega)
      replace Hr := Lib.hid (Hr.out.at B2)
      replace Hn := Lib.hid (Hn.out.at B2)
      replace n1 : w.heap.size < W2.heap.size := ltAt n1 B2
      replace HB := Lib.hid (lift HB.out B2)
      replace hB := ltAt hB B2
      replace Hb := Lib.hid (lift Hb.out B2)
      clear hW
      refine (mayNode_any s u r W2 hlen).mono ?_
      rintro e v3 ⟨rfl, hb⟩
      replace c0 := cellAt c0 hb (by omega)
      replace c1 := cellAt c1 hb (by omega)
      replace Hr := Lib.hid (Hr.out.at hb)
      replace Hn := Lib.hid (Hn.out.at hb)
      replace n1 : w.heap.size < v3.heap.size := ltAt n1 hb
      replace HB := Lib.hid (lift HB.out hb)
      replace hB := ltAt hB hb
      replace Hb := Lib.hid (lift Hb.out hb)
      clear hb B2
      cases hp : mayN (s, u, r)
      ·have HP := Lib.hid (HA.out.2 hp)
       go_wp2_with fail
       go_ret
       exact ⟨ret_bool (by rw [HM.out, H1.out, H2.out, H3.out, HP.out]; simp), HB.out⟩
      ·have HP := Lib.hid hp
       go_wp2_with fail
       go_roundw
       case rel => exact ⟨k + 1, by omega, by go_num, by show _ = true; rw [HA.out.1, hall.out, HP.out]; rfl, Hb.out⟩
       case measure => simp [intOf]; omega
     ·have hkn : k = ns.length := by omega
      have h4 := hall.out
      rw [hkn, List.take_length] at h4
      have H4 := Lib.hid h4
      obtain ⟨w4, rfl⟩ : ∃ wo : World, wo = wr := ⟨_, rfl⟩
      clear hkn h4 Hb
      go_wp2_with fail
      go_loopw [41] (fun i wr => ∃ k : Nat, k ≤ es.length ∧ i = .int .i64 k ∧ Hid ((es.take k).all (edgeOk ns) = true) ∧ Below w4.heap.size w4 wr) (fun i _ => es.length - (intOf i).toNat)
      case atStart => exact ⟨0, Nat.zero_le _, rfl, by simp [Hid], Below.refl _ _⟩
      case round =>
       obtain ⟨k2, hk2, rfl, hall2, hb⟩ := hrel
       replace c0 := cellAt c0 hb (by omega)
       replace c1 := cellAt c1 hb (by omega)
       replace Hr := Lib.hid (Hr.out.at hb)
       replace Hn := Lib.hid (Hn.out.at hb)
       replace n1 : w.heap.size < wr.heap.size := ltAt n1 hb
       replace HB := Lib.hid (lift HB.out hb)
       have Hb := Lib.hid hb
       clear hb
       by_cases hlt2 : k2 < es.length
       ·obtain ⟨b, o, rfl, hB, x0, x1, x2⟩ := Hr.out.edge hlt2
        have hat := @all_take_succ Ed (edgeOk ns) es k2 hlt2
        have haf := @all_false_at Ed (edgeOk ns) es k2 hlt2
        generalize es[k2] = p at x0 x1 x2 hat haf
        obtain ⟨s, d, r⟩ := p
        have HA := Lib.hid (And.intro hat haf)
        simp only at x0 x1 x2
        have hek : edgeOk ns (s, d, r) = ((nodeOf ns s).isSome && ((nodeOf ns d).isSome && (!(s == d) && (((nodeOf ns s).getD ([], 0, 0)).2.2 == 1 && (!decide (r < 1) && !decide (10 < r)))))) := rfl
        have HE := Lib.hid hek
        clear hat haf hek
        go_wp2_with fail
        first | (refine wp_named ?_; intro W2 hW) | (refine calls_named ?_; intro W2 hW)
        have B2 : Below wr.heap.size wr W2 := by rw [hW]; exact bq
        replace c0 := cellAt c0 B2 (by omega)
        replace c1 := cellAt c1 B2 (by omega)
        replace Hr := Lib.hid (Hr.out.at B2)
        replace Hn := Lib.hid (Hn.out.at B2)
        replace n1 : w.heap.size < W2.heap.size := ltAt n1 B2
        replace HB := Lib.hid (lift HB.out B2)
        replace Hb := Lib.hid (lift Hb.out B2)
        have m1 : wr.heap.size < W2.heap.size := by rw [hW]; simp <;> omega
        have e0 : W2.cell? ⟨wr.heap.size, 0, none⟩ = some (sv s) := by rw [hW]; go_simp
        have e1 : W2.cell? ⟨wr.heap.size, 1, none⟩ = some (sv d) := by rw [hW]; go_simp
        have e2 : W2.cell? ⟨wr.heap.size, 2, none⟩ = some (.int .i64 r) := by rw [hW]; go_simp
        clear hW
        clear B2
        refine (Node_any _ _ es.length cn ce ns s W2 Hn.out hln).mono ?_
        rintro e v3 ⟨rfl, hb⟩
        replace c0 := cellAt c0 hb (by omega)
        replace c1 := cellAt c1 hb (by omega)
        replace e0 := cellAt e0 hb (by omega)
        replace e1 := cellAt e1 hb (by omega)
        replace e2 := cellAt e2 hb (by omega)
        replace Hr := Lib.hid (Hr.out.at hb)
        replace Hn := Lib.hid (Hn.out.at hb)
        replace n1 : w.heap.size < v3.heap.size := ltAt n1 hb
        replace HB := Lib.hid (lift HB.out hb)
        replace Hb := Lib.hid (lift Hb.out hb)
        replace m1 : wr.heap.size < v3.heap.size := ltAt m1 hb
        clear hb
        unfold nodeV
        generalize ho1 : nodeOf ns s = o1 at *
        generalize hn1 : o1.getD ([], 0, 0) = nd1
        obtain ⟨nm, kd, st⟩ := nd1
        have HN1 := Lib.hid (And.intro ho1 hn1)
        clear ho1 hn1
        go_wp2_with fail
        first | (refine wp_named ?_; intro W4 hW) | (refine calls_named ?_; intro W4 hW)
        have B4 : Below v3.heap.size v3 W4 := by rw [hW]; exact bq
        replace c0 := cellAt c0 B4 (by omega)
        replace c1 := cellAt c1 B4 (by omega)
        replace e0 := cellAt e0 B4 (by omega)
        replace e1 := cellAt e1 B4 (by omega)
        replace e2 := cellAt e2 B4 (by omega)
        replace Hr := Lib.hid (Hr.out.at B4)
        replace Hn := Lib.hid (Hn.out.at B4)
        replace n1 : w.heap.size < W4.heap.size := ltAt n1 B4
        replace HB := Lib.hid (lift HB.out B4)
        replace Hb := Lib.hid (lift Hb.out B4)
        replace m1 : wr.heap.size < W4.heap.size := ltAt m1 B4
        have m4 : v3.heap.size < W4.heap.size := by rw [hW]; simp <;> omega
        have f0 : W4.cell? ⟨v3.heap.size, 0, none⟩ = some (sv nm) := by rw [hW]; go_simp
        have f1 : W4.cell? ⟨v3.heap.size, 1, none⟩ = some (.int .i64 kd) := by rw [hW]; go_simp
        have f2 : W4.cell? ⟨v3.heap.size, 2, none⟩ = some (.int .i64 st) := by rw [hW]; go_simp
        clear hW
        clear B4
        refine (Node_any _ _ es.length cn ce ns d W4 Hn.out hln).mono ?_
        rintro e v5 ⟨rfl, hb⟩
        replace c0 := cellAt c0 hb (by omega)
        replace c1 := cellAt c1 hb (by omega)
        replace e0 := cellAt e0 hb (by omega)
        replace e1 := cellAt e1 hb (by omega)
        replace e2 := cellAt e2 hb (by omega)
        replace f0 := cellAt f0 hb (by omega)
        replace f1 := cellAt f1 hb (by omega)
        replace f2 := cellAt f2 hb (by omega)
        replace Hr := Lib.hid (Hr.out.at hb)
        replace Hn := Lib.hid (Hn.out.at hb)
        replace n1 : w.heap.size < v5.heap.size := ltAt n1 hb
        replace HB := Lib.hid (lift HB.out hb)
        replace Hb := Lib.hid (lift Hb.out hb)
        replace m1 : wr.heap.size < v5.heap.size := ltAt m1 hb
        replace m4 : v3.heap.size < v5.heap.size := ltAt m4 hb
        clear hb
        unfold nodeV
        generalize ho2 : nodeOf ns d = o2 at *
        have HN2 := Lib.hid ho2
        clear ho2
        cases k1 : o1.isSome
        ·have K1 := Lib.hid k1
         have hno : edgeOk ns (s, d, r) = false := by rw [HE.out, K1.out]; simp
         have HNo := Lib.hid (HA.out.2 hno)
         clear hno
         go_wp2_with fail
         go_ret
         exact ⟨ret_bool (by rw [HM.out, H1.out, H2.out, H3.out, H4.out, HNo.out]; rfl), HB.out.alloc HB.out.size _⟩
        ·have K1 := Lib.hid k1
         cases k2' : o2.isSome
         ·have K2 := Lib.hid k2'
          have hno : edgeOk ns (s, d, r) = false := by rw [HE.out, K2.out]; simp
          have HNo := Lib.hid (HA.out.2 hno)
          clear hno
          go_wp2_with fail
          go_ret
          exact ⟨ret_bool (by rw [HM.out, H1.out, H2.out, H3.out, H4.out, HNo.out]; rfl), HB.out.alloc HB.out.size _⟩
         ·have K2 := Lib.hid k2'
          cases k3 : (s == d)
          ·have K3 := Lib.hid k3
           cases k4 : (st == 1)
           ·have K4 := Lib.hid k4
            have k4' : (st != 1) = true := by rw [bne, k4]; rfl
            have hno : edgeOk ns (s, d, r) = false := by rw [HE.out, HN1.out.2, K4.out]; simp
            have HNo := Lib.hid (HA.out.2 hno)
            clear hno
            go_wp2_with fail
            go_ret
            exact ⟨ret_bool (by rw [HM.out, H1.out, H2.out, H3.out, H4.out, HNo.out]; rfl), HB.out.alloc HB.out.size _⟩
           ·have K4 := Lib.hid k4
            have k4' : (st != 1) = false := by rw [bne, k4]; rfl
            cases k5 : decide (r < 1)
            ·have K5 := Lib.hid k5
             cases k6 : decide (10 < r)
             ·have K6 := Lib.hid k6
              have hyes : edgeOk ns (s, d, r) = true := by rw [HE.out, HN1.out.2, K1.out, K2.out, K3.out, K4.out, K5.out, K6.out]; rfl
              have HY := Lib.hid hyes
              clear hyes
              go_wp2_with fail
              go_roundw
              case rel => exact ⟨k2 + 1, by omega, by go_num, by show _ = true; rw [HA.out.1, hall2.out, HY.out]; rfl, Hb.out.alloc Hb.out.size _⟩
              case measure => simp [intOf]; omega
             ·have K6 := Lib.hid k6
              have p6 : (10 : Int) < r := by simpa using k6
              have hno : edgeOk ns (s, d, r) = false := by rw [HE.out, K6.out]; simp
              have HNo := Lib.hid (HA.out.2 hno)
              clear hno
              go_wp2_with fail
              go_ret
              exact ⟨ret_bool (by rw [HM.out, H1.out, H2.out, H3.out, H4.out, HNo.out]; rfl), HB.out.alloc HB.out.size _⟩
            ·have K5 := Lib.hid k5
             have p5 : r < (1 : Int) := by simpa using k5
             have hno : edgeOk ns (s, d, r) = false := by rw [HE.out, K5.out]; simp
             have HNo := Lib.hid (HA.out.2 hno)
             clear hno
             go_wp2_with fail
             go_ret
             exact ⟨ret_bool (by rw [HM.out, H1.out, H2.out, H3.out, H4.out, HNo.out]; rfl), HB.out.alloc HB.out.size _⟩
          ·have K3 := Lib.hid k3
           have hno : edgeOk ns (s, d, r) = false := by rw [HE.out, K3.out]; simp
           have HNo := Lib.hid (HA.out.2 hno)
           clear hno
           go_wp2_with fail
           go_ret
           exact ⟨ret_bool (by rw [HM.out, H1.out, H2.out, H3.out, H4.out, HNo.out]; rfl), HB.out.alloc HB.out.size _⟩
       ·have hkn2 : k2 = es.length := by omega
        have h5 := hall2.out
        rw [hkn2, List.take_length] at h5
        have H5 := Lib.hid h5
        clear hkn2 h5
        go_wp2_with fail
        go_ret
        exact ⟨ret_bool (by rw [HM.out, H1.out, H2.out, H3.out, H4.out, H5.out]; rfl), HB.out⟩
end Od
end Go.Proofs.YtbllehjhmfehbaaGreat
end

section
/- Texts sorted, each once; slices.Contains, IndexFunc and ContainsFunc at texts; rows that rise. -/
namespace Go.Proofs.YtbllehjhmfehbaaGreat
open Go.RowKit Go.Maps Go.Sort

namespace Od
theorem sortS_le (ss : List Str) : LE ltS (sortS ss) := by
 have h := List.pairwise_mergeSort (le := fun x y : Str => decide (x ≤ y)) (fun a b c h1 h2 => by
  simp only [decide_eq_true_eq] at *
  exact List.le_trans h1 h2) (fun a b => by
  simp only [Bool.or_eq_true, decide_eq_true_eq]
  exact List.le_total a b) ss
 refine h.imp fun {a b} hab => ?_
 rw [ltS_false]
 exact List.not_lt.2 (by simpa using hab)
theorem mem_sortS {ss : List Str} {s : Str} : s ∈ sortS ss ↔ s ∈ ss := (List.mergeSort_perm _ _).mem_iff
theorem onceS_ss (ss : List Str) : SS ltS (onceS ss) := compact_ss toS (sortS_le ss)
theorem mem_onceS {ss : List Str} {s : Str} : s ∈ onceS ss ↔ s ∈ ss := by unfold onceS; rw [mem_compact, mem_sortS]
theorem onceS_canon (ss : List Str) : onceS ss = canon ltS ss := SS.eq_canon toS (onceS_ss ss) fun _ => mem_onceS
theorem idxOf_zs (ss : List Str) (x : Str) : Lib.containsS (ss.map fun s => (⟨s.toArray⟩ : ByteArray)) ⟨x.toArray⟩ = decide (x ∈ ss) := by
 rw [Bool.eq_iff_iff, Lib.containsS_iff, decide_eq_true_eq, List.mem_map]
 constructor
 ·rintro ⟨a, ha, e⟩
  injection e with e
  have : a = x := by simpa using e
  exact this ▸ ha
 ·intro h
  exact ⟨x, h, rfl⟩
theorem mem_outS {es : List Ed} {u s : Str} {rel : Int} : s ∈ outS es u rel ↔ (u, s, rel) ∈ es := by
 unfold outS outRaw
 rw [mem_onceS, List.mem_map]
 constructor
 ·rintro ⟨⟨a, b, c⟩, h, rfl⟩
  obtain ⟨h1, h2⟩ := List.mem_filter.1 h
  have : a = u ∧ c = rel := by simpa [outP] using h2
  rw [← this.1, ← this.2]
  exact h1
 ·intro h
  exact ⟨_, List.mem_filter.2 ⟨h, by simp [outP]⟩, rfl⟩
theorem lessS_lt (a b : Str) : lessS a b = ltS a b := rfl
end Od
end Go.Proofs.YtbllehjhmfehbaaGreat
end

section
/- What comes along with a job, as lists; what is true of it. No program. -/
namespace Go.Proofs.YtbllehjhmfehbaaGreat
set_option linter.unusedSimpArgs false
namespace Od
/-- A unit and a type. -/
abbrev Jp := Str × Int
/-- A job that is brought, and whether it is needed. -/
abbrev Bg := Jp × Bool
def ltJ (a b : Jp) : Bool := ltS a.1 b.1 || (a.1 == b.1 && decide (a.2 < b.2))
theorem toJ : TO ltJ where
 irrefl x := by simp [ltJ, toS.irrefl]
 trans {x y z} h1 h2 := by
  unfold ltJ at *
  rw [Bool.or_eq_true, Bool.and_eq_true, beq_iff_eq, decide_eq_true_eq] at *
  rcases h1 with h1 | ⟨h1, h3⟩
  ·rcases h2 with h2 | ⟨h2, h4⟩
   ·exact .inl (toS.trans h1 h2)
   ·exact .inl (by rw [← h2]; exact h1)
  ·rcases h2 with h2 | ⟨h2, h4⟩
   ·exact .inl (by rw [h1]; exact h2)
   ·exact .inr ⟨by rw [h1, h2], by omega⟩
 total {x y} h1 h2 := by
  unfold ltJ at *
  rw [Bool.or_eq_false_iff, Bool.and_eq_false_iff] at *
  have e := toS.total h1.1 h2.1
  refine Prod.ext e ?_
  rcases h1.2 with h3 | h3
  ·simp [e] at h3
  ·rcases h2.2 with h4 | h4
   ·simp [e] at h4
   ·simp only [decide_eq_false_iff_not] at h3 h4; omega
section
variable (E : Jp → List Bg) (out : Jp → Bool)
/-- What comes along. -/
inductive Rj (first : Jp) : Jp → Prop
 | one : Rj first first
 | more {j : Jp} {b : Bg} : Rj first j → b ∈ E j → out b.1 = false → Rj first b.1
abbrev Ms := List (Jp × Str)
def keysP (m : Ms) : List Jp := m.map (·.1)
def knownP (m : Ms) (k : Jp) : Bool := m.any (fun p => p.1 == k)
def addP (s : Ms × List Jp) (p : Jp × Str) : Ms × List Jp := if (knownP s.1 p.1 || out p.1) = true then s else (s.1 ++ [p], s.2 ++ [p.1])
def brP (j : Jp) : List (Jp × Str) := (E j).map (fun b => (b.1, j.1))
def stepP (m : Ms) (row : List Jp) : Ms × List Jp := (row.flatMap (brP E)).foldl (addP out) (m, [])
def layP : Nat → Ms → List Jp → Ms
 | 0, m, _ => m
 | _ + 1, m, [] => m
 | n + 1, m, j :: r => layP n (stepP E out m (j :: r)).1 (canon ltJ (stepP E out m (j :: r)).2)
end
theorem knownP_iff {m : Ms} {k : Jp} : knownP m k = true ↔ k ∈ keysP m := by
 unfold knownP keysP
 rw [List.any_eq_true, List.mem_map]
 constructor
 ·rintro ⟨p, h, e⟩; exact ⟨p, h, by simpa using e⟩
 ·rintro ⟨p, h, e⟩; exact ⟨p, h, by simpa using e⟩
theorem addP_fold {out : Jp → Bool} : ∀ (l : List (Jp × Str)) (m : Ms) (n : List Jp), (keysP m).Nodup → ∃ xs : Ms, l.foldl (addP out) (m, n) = (m ++ xs, n ++ keysP xs) ∧ (∀ p ∈ xs, p ∈ l ∧ out p.1 = false) ∧ (keysP (m ++ xs)).Nodup ∧ (∀ p ∈ l, out p.1 = false → p.1 ∈ keysP (m ++ xs))
 | [], m, n, h => ⟨[], by simp [keysP], (by simp), (by simpa using h), (by simp)⟩
 | p :: l, m, n, h => by
  rw [List.foldl_cons]
  by_cases hc : (knownP m p.1 || out p.1) = true
  ·have e : addP out (m, n) p = (m, n) := by unfold addP; rw [if_pos hc]
   rw [e]
   obtain ⟨xs, h1, h2, h3, h4⟩ := addP_fold l m n h
   refine ⟨xs, h1, fun q hq => ⟨.tail _ (h2 q hq).1, (h2 q hq).2⟩, h3, fun q hq ho => ?_⟩
   rcases List.mem_cons.1 hq with e2 | hq
   ·subst e2
    rw [ho, Bool.or_false] at hc
    unfold keysP
    rw [List.map_append]
    exact List.mem_append_left _ (knownP_iff.1 hc)
   ·exact h4 q hq ho
  ·have e : addP out (m, n) p = (m ++ [p], n ++ [p.1]) := by unfold addP; rw [if_neg hc]
   rw [e]
   have hc2 : p.1 ∉ keysP m ∧ out p.1 = false := by
    simp only [Bool.or_eq_true, not_or, Bool.not_eq_true] at hc
    exact ⟨fun h => (by rw [knownP_iff.2 h] at hc; cases hc.1), hc.2⟩
   have hnd : (keysP (m ++ [p])).Nodup := by
    unfold keysP at *
    rw [List.map_append, List.nodup_append]
    refine ⟨h, by simp, fun a ha b hb e => ?_⟩
    simp only [List.map_cons, List.map_nil, List.mem_singleton] at hb
    exact hc2.1 (by rw [← hb, ← e]; exact ha)
   obtain ⟨xs, h1, h2, h3, h4⟩ := addP_fold l (m ++ [p]) (n ++ [p.1]) hnd
   have e3 : m ++ [p] ++ xs = m ++ p :: xs := by simp
   rw [e3] at h1 h3 h4
   refine ⟨p :: xs, by rw [h1]; simp [keysP], fun q hq => ?_, h3, fun q hq ho => ?_⟩
   ·rcases List.mem_cons.1 hq with e2 | hq
    ·subst e2; exact And.intro (.head _) hc2.2
    ·exact ⟨.tail _ (h2 q hq).1, (h2 q hq).2⟩
   ·rcases List.mem_cons.1 hq with e2 | hq
    ·subst e2; unfold keysP; simp
    ·exact h4 q hq ho
theorem mem_brs {E : Jp → List Bg} {row : List Jp} {p : Jp × Str} : p ∈ row.flatMap (brP E) ↔ ∃ j ∈ row, ∃ b ∈ E j, p = (b.1, j.1) := by
 unfold brP
 rw [List.mem_flatMap]
 constructor
 ·rintro ⟨j, hj, h⟩
  obtain ⟨b, hb, e⟩ := List.mem_map.1 h
  exact ⟨j, hj, b, hb, e.symm⟩
 ·rintro ⟨j, hj, b, hb, e⟩
  exact ⟨j, hj, List.mem_map.2 ⟨b, hb, e.symm⟩⟩
/-- In the middle of the layers. -/
structure Lay (E : Jp → List Bg) (out : Jp → Bool) (first : Jp) (m : Ms) (row : List Jp) : Prop where
 nd : (keysP m).Nodup
 all : ∀ p ∈ m, Rj E out first p.1
 fst : first ∈ keysP m
 sub : ∀ j ∈ row, j ∈ keysP m
 clo : ∀ j ∈ keysP m, j ∉ row → ∀ b ∈ E j, out b.1 = false → b.1 ∈ keysP m
 by_ : ∀ p ∈ m, p = (first, []) ∨ (out p.1 = false ∧ ∃ j ∈ keysP m, j.1 = p.2 ∧ ∃ b ∈ E j, b.1 = p.1)
theorem Lay.zero {E : Jp → List Bg} {out : Jp → Bool} {first : Jp} : Lay E out first [(first, [])] [first] where
 nd := by simp [keysP]
 all := fun p hp => by rw [List.mem_singleton] at hp; subst hp; exact .one
 fst := by simp [keysP]
 sub := fun j hj => by rw [List.mem_singleton] at hj; subst hj; simp [keysP]
 clo := fun j hj hn => by simp [keysP] at hj hn; exact absurd hj hn
 by_ := fun p hp => .inl (List.mem_singleton.1 hp)
theorem Lay.step {E : Jp → List Bg} {out : Jp → Bool} {first : Jp} {m : Ms} {row : List Jp} (h : Lay E out first m row) : Lay E out first (stepP E out m row).1 (canon ltJ (stepP E out m row).2) ∧ ((stepP E out m row).1.length = m.length + (stepP E out m row).2.length) ∧ (stepP E out m row).2.Nodup := by
 obtain ⟨xs, h1, h2, h3, h4⟩ := addP_fold (out := out) (row.flatMap (brP E)) m [] h.nd
 have e : stepP E out m row = (m ++ xs, keysP xs) := by unfold stepP; rw [h1]; simp
 rw [e]
 have hk : ∀ j, j ∈ keysP (m ++ xs) ↔ j ∈ keysP m ∨ j ∈ keysP xs := fun j => by unfold keysP; rw [List.map_append, List.mem_append]
 have hxs : ∀ p ∈ xs, ∃ j ∈ keysP m, j.1 = p.2 ∧ ∃ b ∈ E j, b.1 = p.1 := fun p hp => by
  obtain ⟨j, hj, b, hb, e⟩ := mem_brs.1 (h2 p hp).1
  exact ⟨j, h.sub j hj, by rw [e], b, hb, by rw [e]⟩
 have hrj : ∀ j ∈ keysP m, Rj E out first j := fun j hj => by
  obtain ⟨p, hp, rfl⟩ := List.mem_map.1 hj
  exact h.all p hp
 refine ⟨⟨h3, fun p hp => ?_, (hk _).2 (.inl h.fst), fun j hj => ?_, fun j hj hn b hb ho => ?_, fun p hp => ?_⟩, ?_, ?_⟩
 ·rcases List.mem_append.1 hp with hp | hp
  ·exact h.all p hp
  ·obtain ⟨j, hj, _, b, hb, e2⟩ := hxs p hp
   rw [← e2]
   exact .more (hrj j hj) hb (by rw [e2]; exact (h2 p hp).2)
 ·exact (hk j).2 (.inr ((mem_canon toJ).1 hj))
 ·have hj2 : j ∈ keysP m := by
   rcases (hk j).1 hj with h5 | h5
   ·exact h5
   ·exact absurd ((mem_canon toJ).2 h5) hn
  by_cases hr : j ∈ row
  ·exact h4 (b.1, j.1) (mem_brs.2 ⟨j, hr, b, hb, rfl⟩) ho
  ·exact (hk _).2 (.inl (h.clo j hj2 hr b hb ho))
 ·rcases List.mem_append.1 hp with hp | hp
  ·rcases h.by_ p hp with h5 | ⟨h5, j, hj, h6⟩
   ·exact .inl h5
   ·exact .inr ⟨h5, j, (hk j).2 (.inl hj), h6⟩
  ·obtain ⟨j, hj, h6⟩ := hxs p hp
   exact .inr ⟨(h2 p hp).2, j, (hk j).2 (.inl hj), h6⟩
 ·simp [keysP]
 ·unfold keysP at h3 ⊢
  rw [List.map_append, List.nodup_append] at h3
  exact h3.2.1
theorem nodup_len : ∀ {l cand : List Jp}, l.Nodup → (∀ j ∈ l, j ∈ cand) → l.length ≤ cand.length
 | [], _, _, _ => Nat.zero_le _
 | a :: l, cand, h, hs => by
  obtain ⟨h1, h2⟩ := List.nodup_cons.1 h
  have ha := hs a (.head _)
  have := nodup_len (cand := cand.erase a) h2 fun j hj => (List.mem_erase_of_ne (fun e : j = a => h1 (by rw [← e]; exact hj))).2 (hs j (.tail _ hj))
  rw [List.length_erase_of_mem ha] at this
  have := List.length_pos_of_mem ha
  simp only [List.length_cons]
  omega
theorem Lay.len {E : Jp → List Bg} {out : Jp → Bool} {first : Jp} {m : Ms} {row : List Jp} (h : Lay E out first m row) {cand : List Jp} (hc : ∀ j b, b ∈ E j → b.1 ∈ cand) : m.length ≤ cand.length + 1 := by
 have h1 : ∀ j ∈ keysP m, j ∈ first :: cand := fun j hj => by
  obtain ⟨p, hp, rfl⟩ := List.mem_map.1 hj
  rcases h.by_ p hp with e | ⟨_, k, _, _, b, hb, e⟩
  ·rw [e]; exact .head _
  ·rw [← e]; exact .tail _ (hc k b hb)
 have := nodup_len h.nd h1
 simpa [keysP] using this
theorem lay_ok {E : Jp → List Bg} {out : Jp → Bool} {first : Jp} {cand : List Jp} (hc : ∀ j b, b ∈ E j → b.1 ∈ cand) : ∀ (n : Nat) (m : Ms) (row : List Jp), Lay E out first m row → (row ≠ [] → cand.length + 2 ≤ n + m.length) → Lay E out first (layP E out n m row) []
 | 0, m, row, h, hn => by
  have h1 := h.len hc
  cases row with
  | nil => exact h
  | cons j r => have := hn (by simp); omega
 | n + 1, m, [], h, _ => h
 | n + 1, m, j :: r, h, hn => by
  obtain ⟨h1, h2, h3⟩ := h.step
  refine lay_ok hc n _ _ h1 fun hne => ?_
  have := hn (by simp)
  have h4 : (stepP E out m (j :: r)).2 ≠ [] := fun e => hne (by rw [e]; rfl)
  have := List.length_pos_iff.2 h4
  omega
/-- What is closed is all. -/
theorem clo_iff {E : Jp → List Bg} {out : Jp → Bool} {first : Jp} {N : List Jp} (h1 : first ∈ N) (h2 : ∀ j ∈ N, Rj E out first j) (h3 : ∀ j ∈ N, ∀ b ∈ E j, out b.1 = false → b.1 ∈ N) (k : Jp) : k ∈ N ↔ Rj E out first k := by
 refine ⟨h2 k, fun h => ?_⟩
 induction h with
 | one => exact h1
 | more _ hb ho ih => exact h3 _ ih _ hb ho
theorem Lay.iff {E : Jp → List Bg} {out : Jp → Bool} {first : Jp} {m : Ms} (h : Lay E out first m []) (k : Jp) : k ∈ keysP m ↔ Rj E out first k :=
 clo_iff h.fst (fun j hj => by obtain ⟨p, hp, rfl⟩ := List.mem_map.1 hj; exact h.all p hp) (fun j hj b hb ho => h.clo j hj (by simp) b hb ho) k
/-- More is brought, less is left out: more comes along. -/
theorem Rj.mono {E E' : Jp → List Bg} {out out' : Jp → Bool} {first : Jp} (hE : ∀ j, Rj E out first j → ∀ b ∈ E j, out b.1 = false → ∃ b' ∈ E' j, b'.1 = b.1) (ho : ∀ j, Rj E out first j → out j = false → out' j = false) {k : Jp} (h : Rj E out first k) : Rj E' out' first k := by
 induction h with
 | one => exact .one
 | more hj hb hx ih =>
  obtain ⟨b', hb', e⟩ := hE _ hj _ hb hx
  rw [← e]
  exact .more ih hb' (by rw [e]; exact ho _ (.more hj hb hx) hx)
/-! What a job brings -/
def inwRaw (es : List Ed) (u : Str) (rel : Int) : List Str := (es.filter (fun e => e.2.1 == u && e.2.2 == rel)).map (·.1)
def inwS (es : List Ed) (u : Str) (rel : Int) : List Str := onceS (inwRaw es u rel)
theorem mem_inwS {es : List Ed} {u s : Str} {rel : Int} : s ∈ inwS es u rel ↔ (s, u, rel) ∈ es := by
 unfold inwS inwRaw
 rw [mem_onceS, List.mem_map]
 constructor
 ·rintro ⟨⟨a, b, c⟩, h, rfl⟩
  obtain ⟨h1, h2⟩ := List.mem_filter.1 h
  simp only [Bool.and_eq_true, beq_iff_eq] at h2
  rw [← h2.1, ← h2.2]
  exact h1
 ·intro h
  exact ⟨(s, u, rel), List.mem_filter.2 ⟨h, by simp⟩, rfl⟩
def eachB (us : List Str) (t : Int) (n : Bool) : List Bg := us.map fun u => ((u, t), n)
theorem mem_eachB {us : List Str} {t : Int} {n : Bool} {b : Bg} : b ∈ eachB us t n ↔ b.1.1 ∈ us ∧ b.1.2 = t ∧ b.2 = n := by
 unfold eachB
 rw [List.mem_map]
 constructor
 ·rintro ⟨u, h, rfl⟩; exact ⟨h, rfl, rfl⟩
 ·rintro ⟨h, rfl, rfl⟩; exact ⟨b.1.1, h, rfl⟩
def startB (es : List Ed) (u : Str) : List Bg := eachB (outS es u 1) 1 true ++ (eachB (outS es u 4) 1 true ++ (eachB (outS es u 2) 1 false ++ (eachB (outS es u 6) 2 true ++ eachB (inwS es u 6) 2 true)))
def upB (up half : List Str) (u : Str) : Bool := hasB up u || hasB half u
def backA (es : List Ed) (u : Str) (t : Int) : List Bg := eachB (inwS es u 1) t true ++ (eachB (inwS es u 4) t true ++ eachB (inwS es u 5) t true)
def backB (es : List Ed) (up half : List Str) (u : Str) (t : Int) : List Bg := (backA es u t).filter (fun b => upB up half b.1.1)
def bringB (es : List Ed) (up half : List Str) (j : Jp) : List Bg :=
 if j.2 = 1 then startB es j.1 else if j.2 = 2 then backB es up half j.1 2 else if j.2 = 3 then startB es j.1 ++ backB es up half j.1 3 else []
def candB (es : List Ed) : List Jp := es.flatMap fun e => [(e.1, 1), (e.1, 2), (e.1, 3), (e.2.1, 1), (e.2.1, 2), (e.2.1, 3)]
theorem candB_len (es : List Ed) : (candB es).length = 6 * es.length := by
 unfold candB
 induction es with
 | nil => rfl
 | cons e r ih => rw [List.flatMap_cons, List.length_append, ih]; simp only [List.length_cons, List.length_nil]; omega
theorem mem_candB {es : List Ed} {u : Str} {t : Int} (h : ∃ e ∈ es, e.1 = u ∨ e.2.1 = u) (ht : t = 1 ∨ t = 2 ∨ t = 3) : (u, t) ∈ candB es := by
 obtain ⟨e, he, h⟩ := h
 refine List.mem_flatMap.2 ⟨e, he, ?_⟩
 rcases h with rfl | rfl <;> rcases ht with rfl | rfl | rfl <;> simp
theorem mem_startB {es : List Ed} {u : Str} {b : Bg} : b ∈ startB es u ↔ (b.1.2 = 1 ∧ b.2 = true ∧ ((u, b.1.1, 1) ∈ es ∨ (u, b.1.1, 4) ∈ es)) ∨ (b.1.2 = 1 ∧ b.2 = false ∧ (u, b.1.1, 2) ∈ es) ∨ (b.1.2 = 2 ∧ b.2 = true ∧ ((u, b.1.1, 6) ∈ es ∨ (b.1.1, u, 6) ∈ es)) := by
 unfold startB
 simp only [List.mem_append, mem_eachB, mem_outS, mem_inwS]
 constructor
 ·rintro (⟨h1, h2, h3⟩ | ⟨h1, h2, h3⟩ | ⟨h1, h2, h3⟩ | ⟨h1, h2, h3⟩ | ⟨h1, h2, h3⟩)
  ·exact .inl ⟨h2, h3, .inl h1⟩
  ·exact .inl ⟨h2, h3, .inr h1⟩
  ·exact .inr (.inl ⟨h2, h3, h1⟩)
  ·exact .inr (.inr ⟨h2, h3, .inl h1⟩)
  ·exact .inr (.inr ⟨h2, h3, .inr h1⟩)
 ·rintro (⟨h2, h3, h1 | h1⟩ | ⟨h2, h3, h1⟩ | ⟨h2, h3, h1 | h1⟩)
  ·exact .inl ⟨h1, h2, h3⟩
  ·exact .inr (.inl ⟨h1, h2, h3⟩)
  ·exact .inr (.inr (.inl ⟨h1, h2, h3⟩))
  ·exact .inr (.inr (.inr (.inl ⟨h1, h2, h3⟩)))
  ·exact .inr (.inr (.inr (.inr ⟨h1, h2, h3⟩)))
theorem mem_backB {es : List Ed} {up half : List Str} {u : Str} {t : Int} {b : Bg} : b ∈ backB es up half u t ↔ b.1.2 = t ∧ b.2 = true ∧ ((b.1.1, u, 1) ∈ es ∨ (b.1.1, u, 4) ∈ es ∨ (b.1.1, u, 5) ∈ es) ∧ upB up half b.1.1 = true := by
 unfold backB backA
 rw [List.mem_filter]
 simp only [List.mem_append, mem_eachB, mem_inwS]
 constructor
 ·rintro ⟨⟨h1, h2, h3⟩ | ⟨h1, h2, h3⟩ | ⟨h1, h2, h3⟩, h4⟩
  ·exact ⟨h2, h3, .inl h1, h4⟩
  ·exact ⟨h2, h3, .inr (.inl h1), h4⟩
  ·exact ⟨h2, h3, .inr (.inr h1), h4⟩
 ·rintro ⟨h2, h3, h1 | h1 | h1, h4⟩
  ·exact ⟨.inl ⟨h1, h2, h3⟩, h4⟩
  ·exact ⟨.inr (.inl ⟨h1, h2, h3⟩), h4⟩
  ·exact ⟨.inr (.inr ⟨h1, h2, h3⟩), h4⟩
theorem mem_bringB {es : List Ed} {up half : List Str} {j : Jp} {b : Bg} : b ∈ bringB es up half j ↔ ((j.2 = 1 ∨ j.2 = 3) ∧ b ∈ startB es j.1) ∨ ((j.2 = 2 ∨ j.2 = 3) ∧ b ∈ backB es up half j.1 j.2) := by
 unfold bringB
 by_cases h1 : j.2 = 1
 ·rw [if_pos h1]; constructor
  ·exact fun h => .inl ⟨.inl h1, h⟩
  ·rintro (⟨_, h⟩ | ⟨h, _⟩)
   ·exact h
   ·omega
 ·rw [if_neg h1]
  by_cases h2 : j.2 = 2
  ·rw [if_pos h2]; constructor
   ·exact fun h => .inr ⟨.inl h2, by rw [h2]; exact h⟩
   ·rintro (⟨h, _⟩ | ⟨_, h⟩)
    ·omega
    ·rw [h2] at h; exact h
  ·rw [if_neg h2]
   by_cases h3 : j.2 = 3
   ·rw [if_pos h3, List.mem_append]; constructor
    ·rintro (h | h)
     ·exact .inl ⟨.inr h3, h⟩
     ·exact .inr ⟨.inr h3, by rw [h3]; exact h⟩
    ·rintro (⟨_, h⟩ | ⟨_, h⟩)
     ·exact .inl h
     ·rw [h3] at h; exact .inr h
   ·rw [if_neg h3]; constructor
    ·intro h; cases h
    ·rintro (⟨h, _⟩ | ⟨h, _⟩) <;> omega
/-- Who is brought is of an edge. -/
theorem bring_edge {es : List Ed} {up half : List Str} {j : Jp} {b : Bg} (h : b ∈ bringB es up half j) : (∃ e ∈ es, e.1 = b.1.1 ∨ e.2.1 = b.1.1) ∧ (b.1.2 = 1 ∨ b.1.2 = 2 ∨ b.1.2 = 3) := by
 rcases mem_bringB.1 h with ⟨hj, h⟩ | ⟨hj, h⟩
 ·rcases mem_startB.1 h with ⟨h1, _, h2 | h2⟩ | ⟨h1, _, h2⟩ | ⟨h1, _, h2 | h2⟩
  ·exact ⟨⟨_, h2, .inr rfl⟩, .inl h1⟩
  ·exact ⟨⟨_, h2, .inr rfl⟩, .inl h1⟩
  ·exact ⟨⟨_, h2, .inr rfl⟩, .inl h1⟩
  ·exact ⟨⟨_, h2, .inr rfl⟩, .inr (.inl h1)⟩
  ·exact ⟨⟨_, h2, .inl rfl⟩, .inr (.inl h1)⟩
 ·obtain ⟨h1, _, h2, _⟩ := mem_backB.1 h
  refine ⟨?_, by omega⟩
  rcases h2 with h2 | h2 | h2 <;> exact ⟨_, h2, .inl rfl⟩
theorem bring_cand {es : List Ed} {up half : List Str} (j : Jp) (b : Bg) (h : b ∈ bringB es up half j) : b.1 ∈ candB es := by
 obtain ⟨h1, h2⟩ := bring_edge h
 exact mem_candB h1 h2
/-! All -/
/-- A pull: the unit, the type, whether it is needed, by whom. -/
abbrev Pl := Str × Int × Bool × Str
def outB (wo : List Pl) (k : Jp) : Bool := wo.any (fun p => p.1 == k.1 && p.2.1 == k.2)
def pullM (es : List Ed) (up half : List Str) (first : Jp) (wo : List Pl) : Ms := layP (bringB es up half) (outB wo) (6 * es.length + 1) [(first, [])] [first]
def needJ (E : Jp → List Bg) (j : Jp) : List Bg := (E j).filter (·.2)
def needM (es : List Ed) (up half : List Str) (first : Jp) (wo : List Pl) : Ms := layP (needJ (bringB es up half)) (outB wo) (6 * es.length + 1) [(first, [])] [first]
def byOf (m : Ms) (k : Jp) : Str := match m.find? (fun p => p.1 == k) with | none => [] | some p => p.2
def plOf (m n : Ms) (k : Jp) : Pl := (k.1, k.2, knownP n k, byOf m k)
def allP (es : List Ed) (up half : List Str) (first : Jp) (wo : List Pl) : List Pl := (canon ltJ (keysP (pullM es up half first wo))).map (plOf (pullM es up half first wo) (needM es up half first wo))
def asksB (ns : List Nd) (first : Jp) : Bool := (nodeOf ns first.1).isSome && (decide (1 ≤ first.2) && decide (first.2 ≤ 4))
def pullQ (ns : List Nd) (es : List Ed) (up half : List Str) (first : Jp) (wo : List Pl) : List Pl := if asksB ns first = true then allP es up half first wo else []
theorem need_cand {es : List Ed} {up half : List Str} (j : Jp) (b : Bg) (h : b ∈ needJ (bringB es up half) j) : b.1 ∈ candB es := bring_cand j b (List.mem_filter.1 h).1
theorem pullM_ok (es : List Ed) (up half : List Str) (first : Jp) (wo : List Pl) : Lay (bringB es up half) (outB wo) first (pullM es up half first wo) [] :=
 lay_ok (bring_cand) _ _ _ .zero (fun _ => by rw [candB_len]; simp <;> omega)
theorem needM_ok (es : List Ed) (up half : List Str) (first : Jp) (wo : List Pl) : Lay (needJ (bringB es up half)) (outB wo) first (needM es up half first wo) [] :=
 lay_ok (need_cand) _ _ _ .zero (fun _ => by rw [candB_len]; simp <;> omega)
theorem mem_pullM {es : List Ed} {up half : List Str} {first : Jp} {wo : List Pl} {k : Jp} : k ∈ keysP (pullM es up half first wo) ↔ Rj (bringB es up half) (outB wo) first k := (pullM_ok es up half first wo).iff k
theorem mem_needM {es : List Ed} {up half : List Str} {first : Jp} {wo : List Pl} {k : Jp} : k ∈ keysP (needM es up half first wo) ↔ Rj (needJ (bringB es up half)) (outB wo) first k := (needM_ok es up half first wo).iff k
theorem pullM_len (es : List Ed) (up half : List Str) (first : Jp) (wo : List Pl) : (pullM es up half first wo).length ≤ 6 * es.length + 1 := by
 have := (pullM_ok es up half first wo).len bring_cand
 rw [candB_len] at this; exact this
theorem allP_len (es : List Ed) (up half : List Str) (first : Jp) (wo : List Pl) : (allP es up half first wo).length ≤ 6 * es.length + 1 := by
 unfold allP
 rw [List.length_map]
 refine Nat.le_trans (canon_len _) ?_
 unfold keysP
 rw [List.length_map]
 exact pullM_len es up half first wo
theorem pullQ_len (ns : List Nd) (es : List Ed) (up half : List Str) (first : Jp) (wo : List Pl) : (pullQ ns es up half first wo).length ≤ 6 * es.length + 1 := by
 unfold pullQ; split
 ·exact allP_len _ _ _ _ _
 ·simp
theorem mem_allP {es : List Ed} {up half : List Str} {first : Jp} {wo : List Pl} {p : Pl} : p ∈ allP es up half first wo ↔ Rj (bringB es up half) (outB wo) first (p.1, p.2.1) ∧ (p.2.2.1 = true ↔ Rj (needJ (bringB es up half)) (outB wo) first (p.1, p.2.1)) ∧ p.2.2.2 = byOf (pullM es up half first wo) (p.1, p.2.1) := by
 unfold allP
 rw [List.mem_map]
 constructor
 ·rintro ⟨k, hk, rfl⟩
  rw [mem_canon toJ, mem_pullM] at hk
  refine ⟨hk, ?_, rfl⟩
  show knownP _ k = true ↔ Rj _ _ _ k
  rw [knownP_iff, mem_needM]
 ·rintro ⟨h1, h2, h3⟩
  refine ⟨(p.1, p.2.1), (mem_canon toJ).2 (mem_pullM.2 h1), ?_⟩
  obtain ⟨a, b, c, d⟩ := p
  simp only at *
  unfold plOf
  simp only
  rw [h3]
  have : knownP (needM es up half first wo) (a, b) = c := by
   rw [Bool.eq_iff_iff, knownP_iff, mem_needM]; exact h2.symm
  rw [this]
theorem allP_ss (es : List Ed) (up half : List Str) (first : Jp) (wo : List Pl) : (allP es up half first wo).Pairwise (fun p q => ltJ (p.1, p.2.1) (q.1, q.2.1) = true) := by
 unfold allP
 rw [List.pairwise_map]
 exact (canon_ss toJ _).imp fun h => h
theorem byOf_mem {m : Ms} (hd : (keysP m).Nodup) {p : Jp × Str} (hp : p ∈ m) : byOf m p.1 = p.2 := by
 unfold byOf
 induction m with
 | nil => cases hp
 | cons q r ih =>
  obtain ⟨h1, h2⟩ := List.nodup_cons.1 (show (q.1 :: keysP r).Nodup from hd)
  rw [List.find?_cons]
  by_cases e : q.1 = p.1
  ·rw [show (q.1 == p.1) = true by simpa using e]
   simp only
   rcases List.mem_cons.1 hp with e2 | hp2
   ·rw [e2]
   ·exact absurd (List.mem_map.2 ⟨p, hp2, e.symm⟩) h1
  ·rw [show (q.1 == p.1) = false by simpa using e]
   simp only
   rcases List.mem_cons.1 hp with e2 | hp2
   ·exact absurd (by rw [e2]) e
   ·exact ih h2 hp2
/-- By whom it was brought. -/
theorem by_cases_ {es : List Ed} {up half : List Str} {first : Jp} {wo : List Pl} {k : Jp} (h : Rj (bringB es up half) (outB wo) first k) :
  (k = first ∧ byOf (pullM es up half first wo) k = []) ∨ (k ≠ first ∧ outB wo k = false ∧ ∃ j, Rj (bringB es up half) (outB wo) first j ∧ j.1 = byOf (pullM es up half first wo) k ∧ ∃ b ∈ bringB es up half j, b.1 = k) := by
 have hl := pullM_ok es up half first wo
 obtain ⟨p, hp, rfl⟩ := List.mem_map.1 (mem_pullM.2 h)
 rw [byOf_mem hl.nd hp]
 rcases hl.by_ p hp with e | ⟨h1, j, hj, h2, b, hb, e⟩
 ·exact .inl ⟨by rw [e], by rw [e]⟩
 ·by_cases hf : p.1 = first
  ·-- the first was known from the beginning
   have h0 : (first, ([] : Str)) ∈ pullM es up half first wo := by
    have hsub : ∀ (n : Nat) (m : Ms) (row : List Jp), (keysP m).Nodup → ∀ x ∈ m, x ∈ layP (bringB es up half) (outB wo) n m row := by
     intro n
     induction n with
     | zero => exact fun m row _ x hx => hx
     | succ n ih =>
      intro m row hd x hx
      cases row with
      | nil => exact hx
      | cons j r =>
       obtain ⟨xs, h5, _, h7, _⟩ := addP_fold (out := outB wo) ((j :: r).flatMap (brP (bringB es up half))) m [] hd
       have e5 : (stepP (bringB es up half) (outB wo) m (j :: r)).1 = m ++ xs := by unfold stepP; rw [h5]
       exact ih _ _ (by rw [e5]; exact h7) x (by rw [e5]; exact List.mem_append_left _ hx)
    exact hsub _ _ _ (by simp [keysP]) _ (.head _)
   have e1 := byOf_mem hl.nd hp
   have e2 := byOf_mem hl.nd h0
   simp only at e2
   rw [hf, e2] at e1
   exact .inl ⟨hf, e1.symm⟩
  ·exact .inr ⟨hf, h1, j, mem_pullM.1 hj, h2, b, hb, e⟩
end Od
end Go.Proofs.YtbllehjhmfehbaaGreat
end
