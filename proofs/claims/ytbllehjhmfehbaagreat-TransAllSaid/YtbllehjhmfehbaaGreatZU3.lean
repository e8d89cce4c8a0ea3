/- My texts, joined for the claim: PNeed PStepM GMap GPair GSortM SortPair OPairs OPairs2 GRowK OComp GBfs GTail GWays OBehind OPairsA OAll GLaw PLaws PWords PKey PAskW GrowB PConcat PIn. -/
import Derived.Test.YtbllehjhmfehbaaGreatZU2
import Derived.Test.YtbllehjhmfehbaaGreatZU1
import Derived.Maps.OwnSet
import Derived.Maps.RangeWalk
import Derived.Test.YtbllehjhmfehbaaGreatRows
import Derived.DeepKeys4
import Derived.Shelf.SlSortCmp.NoneTotal
import Derived.Ground.SlsfProg
import Derived.Test.YtbllehjhmfehbaaGreatProg
import Derived.Shelf.GgSortFunc.RowK
import Derived.Lib.SliceRun
import Derived.Lib.SlicesCompact
import Derived.Sort.OwnSorted
import Derived.Shelf.RegionOpenPlain
import Derived.Deep.LoopGhost
import Derived.Lib.Walk
import Derived.Deep.AppendSrc
import Derived.Deep.Upon
import Derived.Shelf.Spec.SlicesGrow
import Derived.Ground.Names8Prog

section
/- What is needed, as a row that grows; the asked job is never left out. No program. -/
namespace Go.Proofs.YtbllehjhmfehbaaGreat
set_option linter.unusedSimpArgs false
namespace Od
def outF (out : Jp → Bool) (first : Jp) : Jp → Bool := fun k => out k && !(k == first)
theorem addP_mem {out : Jp → Bool} {s : Ms × List Jp} {p : Jp × Str} {k : Jp} (h : k ∈ keysP s.1) : k ∈ keysP (addP out s p).1 := by
 unfold addP
 split
 ·exact h
 ·unfold keysP at h ⊢
  rw [List.map_append]
  exact List.mem_append_left _ h
theorem addP_first {out : Jp → Bool} {first : Jp} {s : Ms × List Jp} (h : first ∈ keysP s.1) (p : Jp × Str) : addP (outF out first) s p = addP out s p := by
 unfold addP outF
 by_cases e : p.1 = first
 ·have hk : knownP s.1 p.1 = true := knownP_iff.2 (by rw [e]; exact h)
  rw [hk]; simp
 ·have e2 : (p.1 == first) = false := by simpa using e
  rw [e2]; simp
theorem fold_first {out : Jp → Bool} {first : Jp} : ∀ (l : List (Jp × Str)) (s : Ms × List Jp), first ∈ keysP s.1 → l.foldl (addP (outF out first)) s = l.foldl (addP out) s ∧ first ∈ keysP (l.foldl (addP out) s).1
 | [], s, h => ⟨rfl, h⟩
 | p :: l, s, h => by
  rw [List.foldl_cons, List.foldl_cons, addP_first h p]
  exact fold_first l _ (addP_mem h)
theorem layP_first {E : Jp → List Bg} {out : Jp → Bool} {first : Jp} : ∀ (n : Nat) (m : Ms) (row : List Jp), first ∈ keysP m → layP E (outF out first) n m row = layP E out n m row
 | 0, _, _, _ => rfl
 | n + 1, m, [], _ => rfl
 | n + 1, m, j :: r, h => by
  have h1 := fold_first (out := out) ((j :: r).flatMap (brP E)) (m, []) h
  show layP E (outF out first) n (stepP E (outF out first) m (j :: r)).1 (canon ltJ (stepP E (outF out first) m (j :: r)).2) = layP E out n (stepP E out m (j :: r)).1 (canon ltJ (stepP E out m (j :: r)).2)
  unfold stepP
  rw [h1.1]
  exact layP_first n _ _ h1.2
theorem Rj_first {E : Jp → List Bg} {out : Jp → Bool} {first k : Jp} : Rj E (outF out first) first k ↔ Rj E out first k := by
 constructor
 ·intro h
  induction h with
  | one => exact .one
  | @more j b _ hb ho ih =>
   by_cases e : b.1 = first
   ·rw [e]; exact .one
   ·refine .more ih hb ?_
    unfold outF at ho
    have e2 : (b.1 == first) = false := by simpa using e
    rw [e2] at ho
    simpa using ho
 ·intro h
  induction h with
  | one => exact .one
  | more _ hb ho ih => exact .more ih hb (by unfold outF; rw [ho]; rfl)
def addN (out : Jp → Bool) (s : List Jp) (b : Bg) : List Jp := if (b.2 && (!out b.1 && !s.contains b.1)) = true then s ++ [b.1] else s
theorem addN_fold {out : Jp → Bool} : ∀ (l : List Bg) (s : List Jp), s.Nodup → ∃ xs : List Jp, l.foldl (addN out) s = s ++ xs ∧ (s ++ xs).Nodup ∧ (∀ k ∈ xs, ∃ b ∈ l, b.2 = true ∧ out b.1 = false ∧ b.1 = k) ∧ (∀ b ∈ l, b.2 = true → out b.1 = false → b.1 ∈ s ++ xs)
 | [], s, h => ⟨[], by simp, (by simpa using h), (by simp), (by simp)⟩
 | b :: l, s, h => by
  rw [List.foldl_cons]
  by_cases hc : (b.2 && (!out b.1 && !s.contains b.1)) = true
  ·have e : addN out s b = s ++ [b.1] := by unfold addN; rw [if_pos hc]
   rw [e]
   rw [Bool.and_eq_true, Bool.and_eq_true] at hc
   obtain ⟨c1, c2, c3⟩ := hc
   have c3' : b.1 ∉ s := by simpa using c3
   have hn : (s ++ [b.1]).Nodup := by
    rw [List.nodup_append]
    refine ⟨h, by simp, fun a ha c hc e => ?_⟩
    rw [List.mem_singleton] at hc
    exact c3' (by rw [← hc, ← e]; exact ha)
   obtain ⟨xs, h1, h2, h3, h4⟩ := addN_fold l (s ++ [b.1]) hn
   refine ⟨b.1 :: xs, by rw [h1]; simp, by simpa using h2, fun k hk => ?_, fun b' hb' t1 t2 => ?_⟩
   ·rcases List.mem_cons.1 hk with e | hk
    ·exact ⟨b, .head _, c1, by simpa using c2, e.symm⟩
    ·obtain ⟨b', hb', r⟩ := h3 k hk
     exact ⟨b', .tail _ hb', r⟩
   ·rcases List.mem_cons.1 hb' with e | hb'
    ·rw [e]; simp
    ·have := h4 b' hb' t1 t2
     simpa using this
  ·have e : addN out s b = s := by unfold addN; rw [if_neg hc]
   rw [e]
   obtain ⟨xs, h1, h2, h3, h4⟩ := addN_fold l s h
   refine ⟨xs, h1, h2, fun k hk => ?_, fun b' hb' t1 t2 => ?_⟩
   ·obtain ⟨b', hb', r⟩ := h3 k hk
    exact ⟨b', .tail _ hb', r⟩
   ·rcases List.mem_cons.1 hb' with e | hb'
    ·rw [e] at t1 t2 ⊢
     rw [t1, t2] at hc
     have : b.1 ∈ s := by simpa using hc
     exact List.mem_append_left _ this
    ·exact h4 b' hb' t1 t2
/-- The row N, of which the first i were asked what they bring. -/
structure NeedQ (E : Jp → List Bg) (out : Jp → Bool) (first : Jp) (N : List Jp) (i : Nat) : Prop where
 nd : N.Nodup
 fst : first ∈ N
 all : ∀ j ∈ N, Rj (needJ E) out first j
 clo : ∀ j ∈ N.take i, ∀ b ∈ needJ E j, out b.1 = false → b.1 ∈ N
 le : i ≤ N.length
theorem NeedQ.zero {E : Jp → List Bg} {out : Jp → Bool} {first : Jp} : NeedQ E out first [first] 0 :=
 ⟨by simp, by simp, (fun j hj => by rw [List.mem_singleton.1 hj]; exact .one), (fun j hj => by simp at hj), by simp⟩
theorem NeedQ.step {E : Jp → List Bg} {out : Jp → Bool} {first : Jp} {N : List Jp} {i : Nat} (h : NeedQ E out first N i) (hi : i < N.length) : ∃ xs, (E N[i]).foldl (addN out) N = N ++ xs ∧ NeedQ E out first (N ++ xs) (i + 1) := by
 obtain ⟨xs, h1, h2, h3, h4⟩ := addN_fold (out := out) (E N[i]) N h.nd
 refine ⟨xs, h1, h2, List.mem_append_left _ h.fst, fun j hj => ?_, fun j hj b hb ho => ?_, by rw [List.length_append]; omega⟩
 ·rcases List.mem_append.1 hj with hj | hj
  ·exact h.all j hj
  ·obtain ⟨b, hb, b1, b2, rfl⟩ := h3 j hj
   exact .more (h.all _ (List.getElem_mem hi)) (List.mem_filter.2 ⟨hb, b1⟩) b2
 ·rw [List.take_append_of_le_length (by omega), List.take_succ_eq_append_getElem hi] at hj
  rcases List.mem_append.1 hj with hj | hj
  ·exact List.mem_append_left _ (h.clo j hj b hb ho)
  ·rw [List.mem_singleton.1 hj] at hb
   obtain ⟨hb1, hb2⟩ := List.mem_filter.1 hb
   exact h4 b hb1 hb2 ho
theorem NeedQ.iff {E : Jp → List Bg} {out : Jp → Bool} {first : Jp} {N : List Jp} (h : NeedQ E out first N N.length) (k : Jp) : k ∈ N ↔ Rj (needJ E) out first k :=
 clo_iff h.fst h.all (fun j hj b hb ho => h.clo j (by rw [List.take_length]; exact hj) b hb ho) k
theorem NeedQ.len {E : Jp → List Bg} {out : Jp → Bool} {first : Jp} {N cand : List Jp} {i : Nat} (h : NeedQ E out first N i) (hc : ∀ j b, b ∈ E j → b.1 ∈ cand) : N.length ≤ cand.length + 1 := by
 have := nodup_len (cand := first :: cand) h.nd fun k hk => by
  cases h.all k hk with
  | one => exact .head _
  | more _ hb _ => exact .tail _ (hc _ _ (List.mem_filter.1 hb).1)
 simpa using this
end Od
end Go.Proofs.YtbllehjhmfehbaaGreat
end

section
/- The maps that the layers fill, as functions; the middle of a layer; the rounds by what is left. No program. -/
namespace Go.Proofs.YtbllehjhmfehbaaGreat
set_option linter.unusedSimpArgs false
namespace Od
def byF (m : Ms) (k : Jp) : Option Str := (m.find? (fun p => p.1 == k)).map (·.2)
theorem byF_some (m : Ms) (k : Jp) : (byF m k).isSome = knownP m k := by
 unfold byF knownP
 rw [Option.isSome_map, Bool.eq_iff_iff, List.find?_isSome, List.any_eq_true]
theorem byF_getD (m : Ms) (k : Jp) : (byF m k).getD [] = byOf m k := by
 unfold byF byOf
 cases m.find? (fun p => p.1 == k) <;> rfl
theorem byF_none {m : Ms} {k : Jp} (h : knownP m k = false) : byF m k = none := by
 have := byF_some m k
 rw [h] at this
 simpa using this
theorem byF_push {m : Ms} {k : Jp} {s : Str} (h : knownP m k = false) : byF (m ++ [(k, s)]) = fun x => if x = k then some s else byF m x := by
 funext x
 have hn : m.find? (fun p => p.1 == k) = none := by
  rw [List.find?_eq_none]
  intro p hp e
  have : knownP m k = true := List.any_eq_true.2 ⟨p, hp, e⟩
  rw [h] at this; cases this
 unfold byF
 rw [List.find?_append]
 by_cases e : x = k
 ·subst e
  rw [hn]; simp
 ·have e2 : (k == x) = false := by simpa using fun h => e h.symm
  simp only [List.find?_cons, e2, List.find?_nil, Option.or_none, if_neg e]
/-- In the middle of a layer: what is known, what is new. -/
structure Mid (first : Jp) (cand : List Jp) (s : Ms × List Jp) : Prop where
 nd : (keysP s.1).Nodup
 inC : ∀ k ∈ keysP s.1, k ∈ first :: cand
 nl : s.2.length ≤ s.1.length
theorem Mid.add {out : Jp → Bool} {first : Jp} {cand : List Jp} {s : Ms × List Jp} (h : Mid first cand s) {p : Jp × Str} (hp : p.1 ∈ cand) : Mid first cand (addP out s p) := by
 unfold addP
 by_cases hc : (knownP s.1 p.1 || out p.1) = true
 ·rw [if_pos hc]; exact h
 ·rw [if_neg hc]
  have hk : p.1 ∉ keysP s.1 := fun hk => by rw [knownP_iff.2 hk] at hc; simp at hc
  refine ⟨?_, fun k hk => ?_, by simp; exact h.nl⟩
  ·unfold keysP at *
   rw [List.map_append, List.nodup_append]
   refine ⟨h.nd, by simp, fun a ha b hb e => ?_⟩
   simp only [List.map_cons, List.map_nil, List.mem_singleton] at hb
   exact hk (by rw [← hb, ← e]; exact ha)
  ·unfold keysP at hk
   rw [List.map_append] at hk
   rcases List.mem_append.1 hk with hk | hk
   ·exact h.inC k hk
   ·simp only [List.map_cons, List.map_nil, List.mem_singleton] at hk
    rw [hk]; exact .tail _ hp
theorem Mid.fold {out : Jp → Bool} {first : Jp} {cand : List Jp} : ∀ (l : List (Jp × Str)) (s : Ms × List Jp), Mid first cand s → (∀ p ∈ l, p.1 ∈ cand) → Mid first cand (l.foldl (addP out) s)
 | [], _, h, _ => h
 | p :: l, _, h, hl => Mid.fold l _ (h.add (hl p (.head _))) fun q hq => hl q (.tail _ hq)
theorem Mid.len {first : Jp} {cand : List Jp} {s : Ms × List Jp} (h : Mid first cand s) : s.1.length ≤ cand.length + 1 := by
 have := nodup_len h.nd h.inC
 simpa [keysP] using this
theorem canon_nil_iff {l : List Jp} : canon ltJ l = [] ↔ l = [] := by
 constructor
 ·intro h
  cases l with
  | nil => rfl
  | cons a l =>
   have : a ∈ canon ltJ (a :: l) := (mem_canon toJ).2 (.head _)
   rw [h] at this; cases this
 ·intro h; subst h; rfl
/-- At the head of a round: n rounds are left at most, the row is not sorted yet. -/
structure Head (E : Jp → List Bg) (out : Jp → Bool) (first : Jp) (cand : List Jp) (fin : Ms) (n : Nat) (m : Ms) (r : List Jp) : Prop where
 eq : layP E out n m (canon ltJ r) = fin
 lay : Lay E out first m (canon ltJ r)
 nd : r.Nodup
 fuel : r ≠ [] → cand.length + 2 ≤ n + m.length
 mid : Mid first cand (m, [])
 rl : r.length ≤ cand.length + 1
theorem Head.zero {E : Jp → List Bg} {out : Jp → Bool} {first : Jp} {cand : List Jp} : Head E out first cand (layP E out (cand.length + 1) [(first, [])] [first]) (cand.length + 1) [(first, [])] [first] where
 eq := by rw [show canon ltJ [first] = [first] from rfl]
 lay := by rw [show canon ltJ [first] = [first] from rfl]; exact .zero
 nd := by simp
 fuel := fun _ => by simp <;> omega
 mid := ⟨by simp [keysP], fun k hk => by simp [keysP] at hk; rw [hk]; exact .head _, by simp⟩
 rl := by simp
theorem Head.done {E : Jp → List Bg} {out : Jp → Bool} {first : Jp} {cand : List Jp} {fin : Ms} {n : Nat} {m : Ms} (h : Head E out first cand fin n m []) : m = fin := by
 have := h.eq
 rw [show canon ltJ [] = [] from rfl] at this
 cases n <;> exact this
theorem Head.next {E : Jp → List Bg} {out : Jp → Bool} {first : Jp} {cand : List Jp} {fin : Ms} {n : Nat} {m : Ms} {r : List Jp} (hc : ∀ j b, b ∈ E j → b.1 ∈ cand) (h : Head E out first cand fin n m r) (hr : r ≠ []) :
  ∃ n', n = n' + 1 ∧ Head E out first cand fin n' (stepP E out m (canon ltJ r)).1 (stepP E out m (canon ltJ r)).2 := by
 have hf := h.fuel hr
 have hml := h.lay.len hc
 cases n with
 | zero => omega
 | succ n =>
  refine ⟨n, rfl, ?_⟩
  have he := h.eq
  have hl := h.lay
  have hne : canon ltJ r ≠ [] := fun e => hr (canon_nil_iff.1 e)
  generalize hR : canon ltJ r = R at *
  cases R with
  | nil => exact absurd rfl hne
  | cons j R =>
   obtain ⟨h1, h2, h3⟩ := hl.step
   have hm2 : Mid first cand (stepP E out m (j :: R)) := by
    unfold stepP
    refine h.mid.fold _ _ fun p hp => ?_
    obtain ⟨j', _, b, hb, e⟩ := mem_brs.1 hp
    rw [e]; exact hc _ _ hb
   refine ⟨he, h1, h3, fun hne2 => ?_, ⟨hm2.nd, hm2.inC, by simp⟩, Nat.le_trans hm2.nl hm2.len⟩
   have := List.length_pos_iff.2 hne2
   omega
end Od
end Go.Proofs.YtbllehjhmfehbaaGreat
end

section
/- Maps of the call's own, as functions from keys (over the library's ownsMap and ranges, each element held as it is). -/
namespace Go.Proofs.YtbllehjhmfehbaaGreat
open Go.RowKit Go.Maps

/-- An element read as the value that it is. -/
def idR (v : Value) : Option (DataW Value × List MemPlace) := some (.held v, [])

/-- Keys of a type in Lean, as keys in the program. -/
structure KeyKind (P : Program) (k : TypeId) (α : Type) where
 val : α → Value
 ok : α → Prop
 kl : α → Lit
 law : Keyed P k
 key : ∀ x, ok x → keyOf P k (val x) = some (kl x)
 inj : ∀ x y, val x = val y → x = y
 inv : ∀ v l, keyOf P k v = some l → ∃ x, ok x ∧ v = val x

variable {P : Program} {k : TypeId} {α : Type} {κ : KeyKind P k α} {w w' : World} {b n : Nat} {f : α → Option Value}

theorem KeyKind.kl_inj (κ : KeyKind P k α) {x y : α} (hx : κ.ok x) (hy : κ.ok y) (h : κ.kl x = κ.kl y) : x = y :=
 κ.inj _ _ (κ.law.inj (κ.key x hx) (h ▸ κ.key y hy))
theorem KeyKind.kl_key (κ : KeyKind P k α) {x : α} (hx : κ.ok x) : WideAt.IsKeyLit (κ.kl x) := κ.law.key (κ.key x hx)

/-- What a datum says at each key. -/
def SaysF (κ : KeyKind P k α) (D : DataW Value) (f : α → Option Value) : Prop :=
 ∀ x, κ.ok x → Maps.has D (κ.kl x) = (f x).isSome ∧ ∀ z, D.atKey (κ.kl x) z = ((f x).map DataW.held).getD z

/-- Block b is a map of at most n entries that holds f x at the key x. -/
def MapIs (κ : KeyKind P k α) (w : World) (b n : Nat) (f : α → Option Value) : Prop :=
 ∃ D : DataW Value, w.ownsMap P k idR b n D ∧ SaysF κ D f

theorem MapIs.made (κ : KeyKind P k α) (w : World) : MapIs κ (w.alloc (.map #[] 0)) w.heap.size 0 (fun _ => none) :=
 ⟨.map [], World.ownsMap_made w P k idR, fun _ _ => ⟨rfl, fun z => Maps.atKey_of_not_has (by rfl) z⟩⟩
theorem MapIs.lt (h : MapIs κ w b n f) : b < w.heap.size := by obtain ⟨D, h, _⟩ := h; exact h.lt
theorem MapIs.mono (h : MapIs κ w b n f) {n' : Nat} (hn : n ≤ n') : MapIs κ w b n' f := by obtain ⟨D, h, hf⟩ := h; exact ⟨D, h.mono hn, hf⟩
theorem MapIs.same (h : MapIs κ w b n f) (he : w'.heap[b]? = w.heap[b]?) : MapIs κ w' b n f := by
 obtain ⟨D, ⟨es, c, hb, r⟩, hf⟩ := h
 exact ⟨D, ⟨es, c, he.trans hb, r⟩, hf⟩
theorem MapIs.on (h : MapIs κ w b n f) (hb : Below w.heap.size w w') : MapIs κ w' b n f := h.same (hb.block b h.lt)
theorem MapIs.alloc (h : MapIs κ w b n f) (o : Obj) : MapIs κ (w.alloc o) b n f := by obtain ⟨D, h, hf⟩ := h; exact ⟨D, h.alloc o, hf⟩
theorem MapIs.drew (h : MapIs κ w b n f) : MapIs κ w.drew b n f := h
theorem MapIs.kept {row : Option Nat} (h : MapIs κ w b n f) (hg : w.grownBy w' row) (hne : some b ≠ row) : MapIs κ w' b n f := by obtain ⟨D, h, hf⟩ := h; exact ⟨D, h.kept hg hne, hf⟩

theorem MapIs.lookup {t e : TypeId} {z : Value} (h : MapIs κ w b n f) (ht : P.underlying t = some (.map k e)) (hz : (zeroValue e).run P w = .ok z w) {x : α} (hx : κ.ok x) :
  (Instr.lookup t (.map (some b)) (κ.val x) false).run P w = .ok ((f x).getD z) w := by
 obtain ⟨D, h, hf⟩ := h
 obtain ⟨v, ps, hrun, hv⟩ := h.lookup κ.law ht hz (zd := .held z) (zp := []) rfl (κ.key x hx)
 rw [(hf x hx).2] at hv
 rw [hrun]
 cases hfx : f x
 ·rw [hfx] at hv
  simp only [idR, Option.map_none, Option.getD_none, Option.some.injEq, Prod.mk.injEq, DataW.held.injEq] at hv
  rw [hv.1]; rfl
 ·rw [hfx] at hv
  simp only [idR, Option.map_some, Option.getD_some, Option.some.injEq, Prod.mk.injEq, DataW.held.injEq] at hv
  rw [hv.1]; rfl

open Classical in
theorem MapIs.update {t e : TypeId} (h : MapIs κ w b n f) (ht : P.underlying t = some (.map k e)) (hn : n < maxLen) {x : α} (hx : κ.ok x) (v : Value) :
  ∃ w', (Instr.mapUpdate t (.map (some b)) (κ.val x) v).run P w = .ok () w' ∧ MapIs κ w' b (n + 1) (fun y => if y = x then some v else f y) ∧ w.grownBy w' (some b) := by
 obtain ⟨D, h, hf⟩ := h
 have him := h.isMap
 obtain ⟨w', hrun, h', hg⟩ := h.update κ.law ht hn (key := κ.val x) (val := v) (d := .held v) (ps := []) (κ.key x hx) rfl
 refine ⟨w', hrun, ⟨_, h', fun y hy => ?_⟩, hg⟩
 by_cases hyx : y = x
 ·subst hyx
  exact ⟨by rw [Maps.has_put_same him (κ.kl_key hy)]; simp, fun z => by rw [Maps.atKey_put_same him (κ.kl_key hy)]; simp⟩
 ·have hne : κ.kl y ≠ κ.kl x := fun e => hyx (κ.kl_inj hy hx e)
  have hkx := κ.kl_key hx
  exact ⟨by rw [Maps.has_put_other hne]; simp [hyx, hf y hy], fun z => by rw [Maps.atKey_put_other hne]; simp [hyx, hf y hy]⟩

/-- 'for k := range m' under way: f: what the map holds; left: which keys are still to come. -/
def RangeIs (κ : KeyKind P k α) (w : World) (b r n : Nat) (f : α → Option Value) (left : α → Bool) (cnt : Nat) : Prop :=
 ∃ (D : DataW Value) (L : Lit → Bool), w.ranges P k idR b r n D L cnt ∧ SaysF κ D f ∧ ∀ x, κ.ok x → L (κ.kl x) = left x

variable {r cnt : Nat} {left : α → Bool}
theorem RangeIs.map (h : RangeIs κ w b r n f left cnt) : MapIs κ w b n f := by obtain ⟨D, L, h, hf, _⟩ := h; exact ⟨D, h.owns, hf⟩
theorem RangeIs.left_eq (h : RangeIs κ w b r n f left cnt) : w.rangeLeft b r = cnt := by obtain ⟨D, L, h, _⟩ := h; exact h.left_eq
theorem RangeIs.lt (h : RangeIs κ w b r n f left cnt) : r < w.heap.size := by obtain ⟨D, L, h, _⟩ := h; exact h.lt
theorem RangeIs.ne (h : RangeIs κ w b r n f left cnt) : r ≠ b := by obtain ⟨D, L, h, _⟩ := h; exact h.ne
theorem RangeIs.same (h : RangeIs κ w b r n f left cnt) (hb : w'.heap[b]? = w.heap[b]?) (hr : w'.heap[r]? = w.heap[r]?) : RangeIs κ w' b r n f left cnt := by
 obtain ⟨D, L, ⟨es, clock, since, seen, c0, h1, h2, h3, h4, h5, h6⟩, hf, hl⟩ := h
 exact ⟨D, L, ⟨es, clock, since, seen, c0, hb.trans h1, h2, h3, h4, hr.trans h5, h6⟩, hf, hl⟩
theorem RangeIs.on (h : RangeIs κ w b r n f left cnt) (hb : Below w.heap.size w w') : RangeIs κ w' b r n f left cnt := h.same (hb.block b h.map.lt) (hb.block r h.lt)
theorem RangeIs.kept {row : Option Nat} (h : RangeIs κ w b r n f left cnt) (hg : w.grownBy w' row) (hb : some b ≠ row) (hr : some r ≠ row) : RangeIs κ w' b r n f left cnt := by
 obtain ⟨D, L, h, hf, hl⟩ := h
 exact ⟨D, L, h.kept hg hb hr, hf, hl⟩

theorem MapIs.range {t e : TypeId} (h : MapIs κ w b n f) (ht : P.underlying t = some (.map k e)) :
  ∃ w', (Instr.range t (.map (some b))).run P w = .ok (.pointer (some ⟨w.heap.size, 0, none⟩)) w' ∧ (∃ cnt, RangeIs κ w' b w.heap.size n f (fun x => (f x).isSome) cnt) ∧ w.grownBy w' none ∧ w'.heap.size = w.heap.size + 1 := by
 obtain ⟨D, h, hf⟩ := h
 obtain ⟨w', hrun, h1, h2, h3⟩ := h.range κ.law ht
 exact ⟨w', hrun, ⟨_, D, _, h1, hf, fun x hx => (hf x hx).1⟩, h2, h3⟩

open Classical in
theorem RangeIs.next (h : RangeIs κ w b r n f left cnt) (ty : TypeId) :
  (cnt = 0 ∧ (∀ x, κ.ok x → left x = false) ∧ (Instr.next (.pointer (some ⟨r, 0, none⟩)) false ty).run P w = .ok (.tuple #[.bool false]) w) ∨
  ∃ x v w' cnt', κ.ok x ∧ left x = true ∧ f x = some v ∧ (Instr.next (.pointer (some ⟨r, 0, none⟩)) false ty).run P w = .ok (.tuple #[.bool true, κ.val x, v]) w' ∧
   RangeIs κ w' b r n f (fun y => left y && decide (y ≠ x)) cnt' ∧ cnt' < cnt ∧ w.grownBy w' (some r) ∧ w'.heap.size = w.heap.size ∧ (Instr.entry (.pointer (some ⟨r, 0, none⟩))).run P w' = .ok (.tuple #[κ.val x, v]) w' := by
 obtain ⟨D, L, h, hf, hl⟩ := h
 rcases h.next κ.law ty with ⟨h0, hL, hrun⟩ | ⟨key, v, kl, y, w', cnt', hkey, hLk, hv, hat, hrun, hrg, hlt, hgr, hsz, hen⟩
 ·exact .inl ⟨h0, fun x hx => by rw [← hl x hx]; exact hL _, hrun⟩
 ·obtain ⟨x, hx, rfl⟩ := κ.inv key kl hkey
  have hkl : κ.kl x = kl := Option.some.inj ((κ.key x hx).symm.trans hkey)
  subst hkl
  have hy : y = (.held v, []) := (Option.some.inj hv).symm
  subst hy
  have hfx : f x = some v := by
   have h1 := hat .nil
   rw [(hf x hx).2] at h1
   cases hfx : f x with
   | none => rw [hfx] at h1; cases h1
   | some v' => rw [hfx] at h1; cases h1; rfl
  refine .inr ⟨x, v, w', cnt', hx, by rw [← hl x hx]; exact hLk, hfx, hrun, ⟨D, _, hrg, hf, fun z hz => ?_⟩, hlt, hgr, hsz, hen⟩
  show (L (κ.kl z) && !(κ.kl z).sameKey (κ.kl x)) = _
  rw [hl z hz]
  by_cases hzx : z = x
  ·subst hzx
   rw [WideAt.sameKey_self (κ.kl_key hz)]
   simp
  ·rw [Maps.sameKey_ne (fun e => hzx (κ.kl_inj hz hx e))]
   simp [hzx]

section
variable {ops : Array Oper} {rest : List Oper} {o : Oper} {a : Act} {Q : Exit → Act → World → Prop} (w : World)

theorem wpList_lookup_is (hg : o.guard = none) (m x : Operand) (t : TypeId) (hop : o.op = Op.lookup t m x false) (e : TypeId) (ht : P.underlying t = some (.map k e)) (z : Value) (hz : (zeroValue e).run P w = .ok z w)
  (b n : Nat) (f : α → Option Value) (hm : a.eval m = .map (some b)) (h : MapIs κ w b n f) (key : α) (hx : a.eval x = κ.val key) (hk : κ.ok key)
  (hK : wpList P ops Q rest (a.put o.dst ((f key).getD z)) w) : wpList P ops Q (o :: rest) a w := by
 refine wpList_plain hg fun K' hK' => ?_
 have hrun := h.lookup ht hz hk
 unfold Oper.wp
 simp [execOp, hop, hm, hx, hrun, Result.andThen]
 exact hK' _ _ hK

open Classical in
theorem wpList_update_is (hg : o.guard = none) (m x v : Operand) (t : TypeId) (hop : o.op = Op.mapUpdate t m x v) (e : TypeId) (ht : P.underlying t = some (.map k e))
  (b n : Nat) (f : α → Option Value) (hm : a.eval m = .map (some b)) (h : MapIs κ w b n f) (hn : n < maxLen) (key : α) (val : Value) (hx : a.eval x = κ.val key) (hv : a.eval v = val) (hk : κ.ok key)
  (hK : ∀ w', MapIs κ w' b (n + 1) (fun y => if y = key then some val else f y) → w.grownBy w' (some b) → wpList P ops Q rest (a.put o.dst undef) w') : wpList P ops Q (o :: rest) a w := by
 refine wpList_plain hg fun K' hK' => ?_
 obtain ⟨w', hrun, h1, h2⟩ := h.update ht hn hk val
 unfold Oper.wp
 simp [execOp, hop, hm, hx, hv, hrun, Result.andThen]
 exact hK' _ _ (hK w' h1 h2)

theorem wpList_range_is (hg : o.guard = none) (m : Operand) (t : TypeId) (hop : o.op = Op.range t m) (e : TypeId) (ht : P.underlying t = some (.map k e)) (b n : Nat) (f : α → Option Value)
  (hm : a.eval m = .map (some b)) (h : MapIs κ w b n f)
  (hK : ∀ w' cnt, RangeIs κ w' b w.heap.size n f (fun x => (f x).isSome) cnt → w.grownBy w' none → w'.heap.size = w.heap.size + 1 → wpList P ops Q rest (a.put o.dst (.pointer (some ⟨w.heap.size, 0, none⟩))) w') :
  wpList P ops Q (o :: rest) a w := by
 refine wpList_plain hg fun K' hK' => ?_
 obtain ⟨w', hrun, ⟨cnt, r1⟩, r2, r3⟩ := h.range (t := t) ht
 unfold Oper.wp
 simp [execOp, hop, hm, hrun, Result.andThen]
 exact hK' _ _ (hK w' cnt r1 r2 r3)

open Classical in
theorem wpList_next_is (hg : o.guard = none) (it : Operand) (hop : o.op = Op.next it false) (b r n : Nat) (f : α → Option Value) (left : α → Bool) (cnt : Nat) (hit : a.eval it = .pointer (some ⟨r, 0, none⟩)) (h : RangeIs κ w b r n f left cnt)
  (hDone : (∀ x, κ.ok x → left x = false) → wpList P ops Q rest (a.put o.dst (.tuple #[.bool false])) w)
  (hMore : ∀ (x : α) (v : Value) (w' : World) (cnt' : Nat), κ.ok x → left x = true → f x = some v → RangeIs κ w' b r n f (fun y => left y && decide (y ≠ x)) cnt' → cnt' < cnt → w.grownBy w' (some r) → w'.heap.size = w.heap.size →
   (Instr.entry (.pointer (some ⟨r, 0, none⟩))).run P w' = .ok (.tuple #[κ.val x, v]) w' → wpList P ops Q rest (a.put o.dst (.tuple #[.bool true, κ.val x, v])) w') :
  wpList P ops Q (o :: rest) a w := by
 refine wpList_plain hg fun K' hK' => ?_
 unfold Oper.wp
 rcases h.next o.type with ⟨_, hl, hrun⟩ | ⟨x, v, w', cnt', hx, hlx, hfx, hrun, hrg, hlt, hgr, hsz, hen⟩
 ·simp [execOp, hop, hit, hrun, Result.andThen]
  exact hK' _ _ (hDone hl)
 ·simp [execOp, hop, hit, hrun, Result.andThen]
  exact hK' _ _ (hMore x v w' cnt' hx hlx hfx hrg hlt hgr hsz hen)
end

/-- Texts as keys. -/
def strKind {P : Program} {k : TypeId} (hk : P.underlying k = some .string) : KeyKind P k Str where
 val := sv
 ok s := s.length ≤ maxLen
 kl s := .string s
 law := string_keyed hk
 key s hs := by
  have h : (⟨s.toArray⟩ : ByteArray).size ≤ maxLen := by simpa [ByteArray.size] using hs
  simp [keyOf, hk, mapKey, h]
 inj x y h := by simpa using h
 inv v l h := by
  cases v <;> simp [keyOf, hk, mapKey] at h
  rename_i s
  refine ⟨s.data.toList, by simpa using h.1, by simp⟩
end Go.Proofs.YtbllehjhmfehbaaGreat
end

section
/- The keys of the program's maps: texts, and pairs of texts. -/
namespace Go.Proofs.YtbllehjhmfehbaaGreat
open Go.RowKit Go.Maps

namespace Od
theorem laidOut' : laidOutB Tryz.prog = true := by kernel_rfl
theorem cellsS : Tryz.prog.cellsOf 9 = 1 := by kernel_rfl
theorem sizeP : Tryz.prog.types.size = (Tryz.prog.types.size - 1) + 1 := by kernel_rfl
theorem sizeP2 : Tryz.prog.types.size - 1 = (Tryz.prog.types.size - 2) + 1 := by kernel_rfl
theorem keyLits_s (d : Nat) (s : Str) (hs : s.length ≤ maxLen) : Tryz.prog.keyLits (d + 1) 9 [sv s] = some [.string s] := by
 have h : (⟨s.toArray⟩ : ByteArray).size ≤ maxLen := by simpa [ByteArray.size] using hs
 simp [Program.keyLits, Tryz.underlying9, h]
theorem keyLits_s_inv {d : Nat} {cs : List Value} {l : List Lit} (h : Tryz.prog.keyLits d 9 cs = some l) : ∃ s : Str, s.length ≤ maxLen ∧ cs = [sv s] ∧ l = [.string s] := by
 cases d with
 | zero => simp [Program.keyLits] at h
 | succ d =>
  unfold Program.keyLits at h
  simp only [Tryz.underlying9] at h
  split at h
  all_goals simp_all
  rename_i s
  exact ⟨s.data.toList, by rw [Array.length_toList]; exact h.1, by simp, h.2.symm⟩
noncomputable def strK : KeyKind Tryz.prog 9 Str := strKind Tryz.underlying9
end Od
end Go.Proofs.YtbllehjhmfehbaaGreat
end

section
/- Units in order: what both sorts come to. No program. -/
namespace Go.Proofs.YtbllehjhmfehbaaGreat
open Go.RowKit
namespace Od
end Od
end Go.Proofs.YtbllehjhmfehbaaGreat
end

section
/-
 DERIVED: THE SHELF's CONTRACTS AT THIS DUMP, IN PLAIN WORDS (tools/lay-plain.mjs out of 'TryzSortPair.lean', which tools/lay-shelf.mjs wrote): THE SAME DECLARATIONS UNDER THE SAME NAMES: 'import', 'namespace', 'open', 'def', 'theorem' AND NOTHING ELSE: no command of the shelf's: FOR A HAND-IN. Each laying: the table of numbers ('.._ren') and one theorem, a field a fact of the dump's own or the kernel's comparison; each contract: ONE APPLICATION.
-/
namespace Go.Proofs.YtbllehjhmfehbaaGreat
open Go.Shelf
end Go.Proofs.YtbllehjhmfehbaaGreat
end

section
/- The walk of what tells which of two pairs stands ahead; the sort of a row of pairs. -/
namespace Go.Proofs.YtbllehjhmfehbaaGreat
open Go.RowKit Go.Sort Go.Lib

namespace Od
theorem grow_drew (w : World) (os : Array Obj) : (grow w os).drew = grow w.drew os := rfl
def GrowInt (v : Int) (w : World) (e : Ending) (w' : World) : Prop := e = .returned (.int .i64 v) ∧ ∃ q os', w' = grow (w.drewN q) os'
end Od
end Go.Proofs.YtbllehjhmfehbaaGreat
end

section
/- The sort of a row of pairs of the call's own. -/
namespace Go.Proofs.YtbllehjhmfehbaaGreat
open Go.RowKit Go.Sort Go.Lib Go.Shelf

namespace Od
theorem heap_row {w : World} {g n : Nat} {os : Array Obj} {cur : Array Value} {e : TypeId} {fr : Nat × Nat} (F : Array Value) (hb : w.heap[g]? = some (.cells cur e fr)) :
  (grow (putRow id (Sort.ahead w n) g 0 F) os).heap[g]? = some (.cells (putCells id 0 F cur) e fr) := by
 have hg : g < w.heap.size := (Array.getElem?_eq_some_iff.1 hb).1
 rw [heap_grow_old _ _ (by simpa using hg)]
 simp [putRow, mapBlock, Sort.ahead, Array.getElem?_modify, hb, onCells]
theorem grownBy_row {w : World} {g n : Nat} {os : Array Obj} (F : Array Value) : w.grownBy (grow (putRow id (Sort.ahead w n) g 0 F) os) (some g) := by
 refine ⟨rfl, rfl, rfl, by simp, fun k hk hne => ?_⟩
 rw [heap_grow_old _ _ (by simpa using hk)]
 have : g ≠ k := fun e => hne (by rw [e])
 simp [putRow, mapBlock, Sort.ahead, Array.getElem?_modify, this]
theorem take_putCellsI (cur : Array Value) (xs : List Value) (h : xs.length ≤ cur.size) : (putCells id 0 xs.toArray cur).toList.take xs.length = xs := by
 apply List.ext_getElem?
 intro j
 by_cases hj : j < xs.length
 ·rw [List.getElem?_take_of_lt hj, Array.getElem?_toList]
  simp [putCells, hj, show j < cur.size by omega]
 ·rw [List.getElem?_take_eq_none (by omega), List.getElem?_eq_none (by omega)]
theorem holds_row {w : World} {g : Nat} {cur : Array Value} {e : TypeId} {xs : List Value} (hb : w.heap[g]? = some (.cells cur e (0, 0))) (ht : cur.toList.take xs.length = xs) : Holds id w g 0 xs.toArray := by
 intro j hj
 have hj' : j < xs.length := by simpa using hj
 refine ⟨?_, by simp [World.frozen?, hb]⟩
 have h1 : (cur.toList.take xs.length)[j]? = xs[j]? := by rw [ht]
 rw [List.getElem?_take_of_lt hj'] at h1
 simp only [World.cell?, hb, Nat.zero_add]
 simp only [Option.isSome_none, Bool.false_eq_true, if_false]
 rw [← Array.getElem?_toList, h1]
 simp [hj']

end Od
end Go.Proofs.YtbllehjhmfehbaaGreat
end

section
/- Rows of elements of several cells, in the sort's words (putRowK, HoldsK) and in the walks' words (ownsRow). No program. -/
namespace Go.Proofs.YtbllehjhmfehbaaGreat
open Go.RowKit Go.Sort Go.Lib

section
variable {α : Type} [Inhabited α] {enc : α → List Value} {k : Nat}

end
end Go.Proofs.YtbllehjhmfehbaaGreat
end

section
/- The walk of slices.Compact at pairs of texts. -/
namespace Go.Proofs.YtbllehjhmfehbaaGreat
open Go.RowKit Go.Sort Go.Lib Go.Shelf

namespace Od
end Od
end Go.Proofs.YtbllehjhmfehbaaGreat
end

section
/- Plain mathematics: the search through pairs, a row of units that are still to be looked at. No program. -/
namespace Go.Proofs.YtbllehjhmfehbaaGreat
namespace Od
/-- Whom pairs lead to from one, directly. -/
def succ (l : List Pr) (s : Str) : List Str := (l.filter (fun p => p.1 == s)).map Prod.snd
theorem mem_succ {l : List Pr} {s t : Str} : t ∈ succ l s ↔ (s, t) ∈ l := by
 unfold succ
 rw [List.mem_map]
 constructor
 ·rintro ⟨⟨x, y⟩, h, rfl⟩
  obtain ⟨h1, h2⟩ := List.mem_filter.1 h
  have : x = s := by simpa using h2
  subst this
  exact h1
 ·intro h
  exact ⟨(s, t), List.mem_filter.2 ⟨h, by simp⟩, rfl⟩
theorem succ_app (l : List Pr) (p : Pr) (s : Str) : succ (l ++ [p]) s = succ l s ++ (if p.1 = s then [p.2] else []) := by
 unfold succ
 rw [List.filter_append, List.map_append]
 congr 1
 by_cases h : p.1 = s <;> simp [h]
structure Bfs (l : List Pr) (a : Str) (D T : List Str) : Prop where
 done : ∀ b, b ∈ D → R l a b
 todo : ∀ b, b ∈ T → R l a b
 first : ∀ b, b ∈ succ l a → b ∈ D ∨ b ∈ T
 next : ∀ x, x ∈ D → ∀ y, y ∈ succ l x → y ∈ D ∨ y ∈ T
theorem Bfs.start (l : List Pr) (a : Str) : Bfs l a [] (succ l a) where
 done := by simp
 todo b hb := .one (mem_succ.1 hb)
 first b hb := .inr hb
 next := by simp
theorem Bfs.skip {l : List Pr} {a b : Str} {D T : List Str} (h : Bfs l a D (b :: T)) (hb : b ∈ D) : Bfs l a D T where
 done := h.done
 todo x hx := h.todo x (.tail _ hx)
 first x hx := by
  rcases h.first x hx with e | e
  ·exact .inl e
  ·rcases List.mem_cons.1 e with e | e
   ·exact .inl (e ▸ hb)
   ·exact .inr e
 next x hx y hy := by
  rcases h.next x hx y hy with e | e
  ·exact .inl e
  ·rcases List.mem_cons.1 e with e | e
   ·exact .inl (e ▸ hb)
   ·exact .inr e
theorem Bfs.take {l : List Pr} {a b : Str} {D T : List Str} (h : Bfs l a D (b :: T)) : Bfs l a (b :: D) (T ++ succ l b) where
 done x hx := by
  rcases List.mem_cons.1 hx with e | e
  ·subst e; exact h.todo _ (.head _)
  ·exact h.done x e
 todo x hx := by
  rcases List.mem_append.1 hx with e | e
  ·exact h.todo x (.tail _ e)
  ·exact (h.todo b (.head _)).snoc (mem_succ.1 e)
 first x hx := by
  rcases h.first x hx with e | e
  ·exact .inl (.tail _ e)
  ·rcases List.mem_cons.1 e with e | e
   ·exact .inl (e ▸ .head _)
   ·exact .inr (List.mem_append_left _ e)
 next x hx y hy := by
  rcases List.mem_cons.1 hx with e | e
  ·subst e; exact .inr (List.mem_append_right _ hy)
  ·rcases h.next x e y hy with e | e
   ·exact .inl (.tail _ e)
   ·rcases List.mem_cons.1 e with e | e
    ·exact .inl (e ▸ .head _)
    ·exact .inr (List.mem_append_left _ e)
theorem Bfs.end {l : List Pr} {a : Str} {D : List Str} (h : Bfs l a D []) (b : Str) : b ∈ D ↔ b ∈ reachL l a := by
 rw [mem_reachL]
 refine ⟨h.done b, fun hr => ?_⟩
 refine Closed.all (l := l) (a := a) (S := D) (fun p hp hq => ?_) hr
 rcases hq with e | e
 ·rcases h.first p.2 (mem_succ.2 (e ▸ hp)) with e | e
  ·exact e
  ·simp at e
 ·rcases h.next p.1 e p.2 (mem_succ.2 hp) with e | e
  ·exact e
  ·simp at e
end Od
end Go.Proofs.YtbllehjhmfehbaaGreat
end

section
/- A slice of the call's own that may start anywhere in its block: cut in front, appended to behind. No program. -/
namespace Go.Proofs.YtbllehjhmfehbaaGreat
open Go.RowKit

theorem setCells_size (b : Nat) : ∀ (vs : List Value) (o : Nat) (w : World), (w.setCells b o vs).heap.size = w.heap.size
 | [], _, _ => rfl
 | v :: r, o, w => by simp only [World.setCells]; rw [setCells_size b r]; simp
theorem setCells_tape (b : Nat) : ∀ (vs : List Value) (o : Nat) (w : World), (w.setCells b o vs).tape = w.tape
 | [], _, _ => rfl
 | v :: r, o, w => by simp only [World.setCells]; rw [setCells_tape b r]; simp
/-- The value v holds the n elements xs in a block of the call's own, from whatever cell on; or it is nil. -/
def Tail (w : World) (base size : Nat) (v : Value) (n : Nat) (xs : List Value) : Prop :=
 xs.length = n * size ∧ ((v = .slice none 0 0 ∧ n = 0) ∨ ∃ g off cap, v = .slice (some ⟨g, off, none⟩) n cap ∧ base ≤ g ∧ g < w.heap.size ∧ n ≤ cap ∧ cap ≤ maxLen ∧
  (∀ j, j < n * size → w.cell? ⟨g, off + j, none⟩ = xs[j]?) ∧ ∀ j, j < cap * size → (w.cell? ⟨g, off + j, none⟩).isSome = true ∧ w.frozen? ⟨g, off + j, none⟩ = false)

section
variable {w w' : World} {base size n : Nat} {v : Value} {xs : List Value}
theorem Tail.shape (h : Tail w base size v n xs) : ∃ A c, v = .slice A n c := by
 rcases h.2 with ⟨h1, h2⟩ | ⟨g, off, cap, h1, _⟩
 ·exact ⟨none, 0, by rw [h1, h2]⟩
 ·exact ⟨_, _, h1⟩
theorem Tail.lt (h : Tail w base size v n xs) {g : Nat} (hg : v.ownBlock = some g) : base ≤ g ∧ g < w.heap.size := by
 rcases h.2 with ⟨h1, h2⟩ | ⟨g', off, cap, h1, h3, h4, _⟩
 ·rw [h1] at hg; cases hg
 ·rw [h1] at hg; cases hg; exact ⟨h3, h4⟩
theorem Tail.rd {A : Option Addr} {m c : Nat} (h : Tail w base size (.slice A m c) n xs) : Rd w w.heap.size size A n xs := by
 refine ⟨h.1, fun hn => ?_⟩
 rcases h.2 with ⟨h1, h2⟩ | ⟨g, off, cap, h1, h3, h4, _, _, h5, _⟩
 ·omega
 ·injection h1 with e1 _ _
  exact ⟨_, e1, h4, rfl, h5⟩
theorem Tail.cap {A : Option Addr} {m c : Nat} (h : Tail w base size (.slice A m c) n xs) : n ≤ c ∧ c ≤ maxLen ∧ m = n := by
 rcases h.2 with ⟨h1, h2⟩ | ⟨g, off, cap, h1, h3, h4, h5, h6, _⟩
 ·injection h1 with _ e2 e3; subst e3; subst e2; exact ⟨by omega, by decide, h2.symm⟩
 ·injection h1 with _ e2 e3; subst e3; subst e2; exact ⟨h5, h6, rfl⟩
theorem Tail.same (h : Tail w base size v n xs) (hs : w.heap.size ≤ w'.heap.size) (hb : ∀ g, v.ownBlock = some g → w'.heap[g]? = w.heap[g]?) : Tail w' base size v n xs := by
 refine ⟨h.1, h.2.imp id ?_⟩
 rintro ⟨g, off, cap, rfl, h3, h4, h5, h6, h7, h8⟩
 have hb' := hb g rfl
 exact ⟨g, off, cap, rfl, h3, by omega, h5, h6, fun j hj => (World.cell?_of_block (a := ⟨g, off + j, none⟩) hb').trans (h7 j hj), fun j hj => ⟨by rw [World.cell?_of_block (a := ⟨g, off + j, none⟩) hb']; exact (h8 j hj).1, (World.frozen?_of_block (a := ⟨g, off + j, none⟩) hb').trans (h8 j hj).2⟩⟩
theorem Tail.on (h : Tail w base size v n xs) (hb : Below w.heap.size w w') : Tail w' base size v n xs := h.same hb.size fun g hg => hb.block g (h.lt hg).2
theorem Tail.alloc (h : Tail w base size v n xs) (o : Obj) : Tail (w.alloc o) base size v n xs := h.on (below_alloc (Nat.le_refl _) (Below.refl _ _))
theorem Tail.kept {row : Option Nat} (h : Tail w base size v n xs) (hg : w.grownBy w' row) (hne : ∀ g, v.ownBlock = some g → some g ≠ row) : Tail w' base size v n xs := h.same hg.size fun g h1 => hg.block g (h.lt h1).2 (hne g h1)
theorem Tail.low {base' : Nat} (h : Tail w base size v n xs) (hb : base' ≤ base) : Tail w base' size v n xs := by
 refine ⟨h.1, h.2.imp id ?_⟩
 rintro ⟨g, off, cap, h1, h3, r⟩
 exact ⟨g, off, cap, h1, by omega, r⟩
theorem Tail.nil (w : World) (base size : Nat) : Tail w base size (.slice none 0 0) 0 [] := ⟨by simp, .inl ⟨rfl, rfl⟩⟩
theorem Tail.own {e : TypeId} (h : w.ownsRow base e size v n xs) : Tail w base size v n xs := by
 have h0 := h
 obtain ⟨hl, ⟨h1, h2⟩ | ⟨g, cap, cur, h1, h3, h4, h5, h6, h7, h8⟩⟩ := h
 ·exact ⟨hl, .inl ⟨h1, h2⟩⟩
 ·subst h1
  have hg : g < w.heap.size := (h0.lt g rfl).2
  obtain ⟨A, c, hv, hr⟩ := own_rd h0
  injection hv with e1 _ e3
  subst e1
  refine ⟨hl, .inr ⟨g, 0, cap, rfl, h3, hg, h5, h6, fun j hj => ?_, fun j hj => ⟨?_, ?_⟩⟩⟩
  ·obtain ⟨ad, e, _, _, hc⟩ := hr.2 (by rcases Nat.eq_zero_or_pos n with h | h; (subst h; omega); exact h)
   injection e with e
   subst e
   exact hc j hj
  ·have : j < cur.size := by rw [h7]; exact hj
   simp [World.cell?, h4, this]
  ·simp [World.frozen?, h4]
/-- One element less in front, as the walk writes it. -/
theorem Tail.drop {A : Option Addr} {c m : Nat} (h : Tail w base size (.slice A n c) n xs) (hm : m ≤ n) (hc : m < c) : Tail w base size (.slice (A.map fun x => { block := x.block, off := x.off + m * size }) (n - m) (c - m)) (n - m) (xs.drop (m * size)) := by
 rcases h.2 with ⟨h1, h2⟩ | ⟨g, off, cap, h1, h3, h4, h5, h6, h7, h8⟩
 ·injection h1 with e1 _ e3; omega
 ·injection h1 with e1 _ e3
  subst e1 e3
  have hmk : m * size ≤ n * size := Nat.mul_le_mul_right _ hm
  refine ⟨by rw [List.length_drop, h.1, Nat.sub_mul], .inr ⟨g, off + m * size, c - m, rfl, h3, h4, by omega, by omega, fun j hj => ?_, fun j hj => ?_⟩⟩
  ·rw [Nat.sub_mul] at hj
   rw [List.getElem?_drop, ← h7 (m * size + j) (by omega), Nat.add_assoc]
  ·rw [Nat.sub_mul] at hj
   have := h8 (m * size + j) (by omega)
   rw [← Nat.add_assoc] at this
   exact this
end

section
variable {P : Program}
theorem src_rd {w : World} {size : Nat} {tx e' : TypeId} (hk : P.underlying tx = some (.slice e')) {B : Nat} {A : Option Addr} {m c : Nat} {news : List Value} (hr : Rd w B size A m news) (h1 : ∀ u ∈ news, u.oneCell' = true) (hn : A = none → m = 0) : Src P size tx (.slice A m c) m news w := by
 cases A with
 | none =>
  have hm := hn rfl
  subst hm
  have hn : news = [] := List.eq_nil_of_length_eq_zero (by simpa using hr.1)
  subst hn
  exact Src.ofNil w hk c
 | some ad =>
  refine Src.ofSlice w hk ad m c news hr.1 (fun j u hu => ?_) h1
  have hj : j < news.length := by
   rcases Nat.lt_or_ge j news.length with h | h
   ·exact h
   ·rw [List.getElem?_eq_none h] at hu; cases hu
  have hm0 : 0 < m := by
   rcases Nat.eq_zero_or_pos m with h0 | h0
   ·have := hr.1; rw [h0, Nat.zero_mul] at this; omega
   ·exact h0
  obtain ⟨ad', he, _, hs, hc⟩ := hr.2 hm0
  injection he with he
  subst he
  have hadd : ad.add j = ⟨ad.block, ad.off + j, none⟩ := by
   unfold Addr.add
   split
   ·rename_i h0; subst h0; cases ad; simp_all
   ·rfl
  rw [hadd, hc j (by rw [← hr.1]; exact hj), hu]

theorem run_append_tail (w : World) (base : Nat) (t ty e : TypeId) (i : TypeInfo) (z : Value) (size bytes : Nat) (ht : P.underlying t = some (.slice e)) (hi : P.info? e = some i) (hz : i.zero = some z)
  (hsize : i.size = size) (hby : i.bytes = bytes) (hzs : z.cells.size = size) (v : Value) (n : Nat) (xs : List Value) (hown : Tail w base size v n xs)
  (x : Value) (m : Nat) (news : List Value) (hs : Src P size t x m news w) (h63 : n + m ≤ maxLen) (hbytes : (n + m) * bytes ≤ 140737488355328) (hbase : base ≤ w.heap.size) :
  ∃ A' c' w', (Builtin.append_ #[t, t] ty #[v, x]).run P w = .ok (.slice A' (n + m) c') w' ∧ Tail w' base size (.slice A' (n + m) c') (n + m) (xs ++ news) ∧ w.grownBy w' v.ownBlock ∧
   ((Value.slice A' (n + m) c').ownBlock = v.ownBlock ∨ (Value.slice A' (n + m) c').ownBlock = some w.heap.size) := by
 subst hsize
 subst hby
 have hnl := hs.newsLen
 have hlen : (xs ++ news).length = (n + m) * i.size := by rw [List.length_append, hown.1, hnl, Nat.add_mul]
 have hsmall : n + m ≤ 9223372036854775807 := by simp only [maxLen] at h63; omega
 have grow : ∀ (bs : Option Addr) (sc : Nat), v = .slice bs n sc → sc < n + m →
   (Builtin.firstCells i.size n (.slice bs n sc)).run P w.drew = .ok xs.toArray w.drew →
   ∃ A' c' w', (Builtin.append_ #[t, t] ty #[v, x]).run P w = .ok (.slice A' (n + m) c') w' ∧ Tail w' base i.size (.slice A' (n + m) c') (n + m) (xs ++ news) ∧ w.grownBy w' v.ownBlock ∧
    ((Value.slice A' (n + m) c').ownBlock = v.ownBlock ∨ (Value.slice A' (n + m) c').ownBlock = some w.heap.size) := by
  rintro bs sc rfl hg hold
  have hrun := run_append_grow_src (P := P) w t t ty e i z ht hi hz bs n sc xs hold x m news hs hg (by omega) (growslice_fits hg hbytes)
  have hge := grownCap_ge w (n + m) sc e
  have hcm := grownCap_le_maxLen w (n + m) sc e h63
  have hblk : ∀ k, k < w.heap.size → (w.drew.alloc (.cells ((xs ++ news).toArray ++ Builtin.zeroCells z.cells (grownCap w (n + m) sc e - (n + m))) e)).heap[k]? = w.heap[k]? := fun k hk => Below.heap_alloc w.drew _ k hk
  have hcell : ∀ j, (w.drew.alloc (.cells ((xs ++ news).toArray ++ Builtin.zeroCells z.cells (grownCap w (n + m) sc e - (n + m))) e)).cell? ⟨w.heap.size, j, none⟩ = ((xs ++ news).toArray ++ Builtin.zeroCells z.cells (grownCap w (n + m) sc e - (n + m)))[j]? := fun j => World.cell?_alloc_new w.drew _ _ j
  refine ⟨_, _, _, hrun, ⟨hlen, .inr ⟨w.heap.size, 0, _, rfl, hbase, by simp, by omega, hcm, fun j hj => ?_, fun j hj => ⟨?_, ?_⟩⟩⟩, ⟨rfl, rfl, rfl, by simp, fun k hk _ => hblk k hk⟩, .inr rfl⟩
  ·rw [Nat.zero_add, hcell, Array.getElem?_append_left (by simp only [List.size_toArray]; rw [hlen]; exact hj), List.getElem?_toArray]
  ·rw [Nat.zero_add, hcell]
   have hsz : ((xs ++ news).toArray ++ Builtin.zeroCells z.cells (grownCap w (n + m) sc e - (n + m))).size = grownCap w (n + m) sc e * i.size := by
    rw [Array.size_append, List.size_toArray, hlen, size_zeroCells, hzs, ← Nat.add_mul]
    congr 1
    omega
   rw [Array.getElem?_eq_getElem (by rw [hsz]; exact hj)]
   rfl
  ·rw [Nat.zero_add]; exact World.frozen?_alloc_new w.drew _ _ j
 have hown' := hown
 rcases hown.2 with ⟨rfl, rfl⟩ | ⟨g, off, cap, rfl, h3, h4, h5, h6, h7, h8⟩
 ·have hx : xs = [] := List.eq_nil_of_length_eq_zero (by simpa using hown.1)
  subst hx
  rcases Nat.eq_zero_or_pos m with h0 | h0
  ·subst h0
   have hn : news = [] := List.eq_nil_of_length_eq_zero (by simpa using hnl)
   subst hn
   exact ⟨none, 0, w, run_append_nothing (P := P) w t t ty e i ht hi none 0 0 (Nat.le_refl _) x hs, Tail.nil _ _ _, World.grownBy.refl _ _, .inl rfl⟩
  ·exact grow none 0 rfl (by omega) (run_firstCells_none w.drew i.size 0 0 0)
 ·by_cases hfit : n + m ≤ cap
  ·have hrc : (n + m) * i.size ≤ cap * i.size := Nat.mul_le_mul_right _ hfit
   rw [Nat.add_mul] at hrc
   have hsome : ∀ j, j < news.length → (w.cell? ⟨g, off + n * i.size + j, none⟩).isSome = true := fun j hj => by
    have := (h8 (n * i.size + j) (by omega)).1
    rwa [← Nat.add_assoc] at this
   have hfro : ∀ j, j < news.length → w.frozen? ⟨g, off + n * i.size + j, none⟩ = false := fun j hj => by
    have := (h8 (n * i.size + j) (by omega)).2
    rwa [← Nat.add_assoc] at this
   have hrun := run_append_room_src (P := P) w t t ty e i ht hi g off n cap x m news hs hfit hsome hfro
   refine ⟨_, _, _, hrun, ⟨hlen, .inr ⟨g, off, cap, rfl, h3, by rw [setCells_size]; exact h4, hfit, h6, fun j hj => ?_, fun j hj => ⟨?_, (World.frozen?_setCells g _ _ _ _).trans (h8 j hj).2⟩⟩⟩, ⟨World.os_setCells _ _ _ _, setCells_tape _ _ _ _, World.output_setCells _ _ _ _, by rw [setCells_size]; exact Nat.le_refl _, fun k hk hne => World.heap_setCells_other w g _ news hk (fun e => hne (by rw [e]; rfl))⟩, .inl rfl⟩
   ·rw [Nat.add_mul] at hj
    by_cases hjo : j < n * i.size
    ·rw [World.cell?_setCells_out g _ _ _ _ (fun _ _ => Or.inl (by show off + j < off + n * i.size; omega)), List.getElem?_append_left (by rw [hown.1]; exact hjo)]
     exact h7 j hjo
    ·have ht' : j - n * i.size < news.length := by omega
     have := World.cell?_setCells_in g news (off + n * i.size) w hsome (j - n * i.size) ht'
     rw [show off + n * i.size + (j - n * i.size) = off + j by omega] at this
     rw [this, List.getElem?_append_right (by rw [hown.1]; omega), hown.1, List.getElem?_eq_getElem ht']
   ·by_cases hin : n * i.size ≤ j ∧ j < n * i.size + news.length
    ·have := World.cell?_setCells_in g news (off + n * i.size) w hsome (j - n * i.size) (by omega)
     rw [show off + n * i.size + (j - n * i.size) = off + j by omega] at this
     rw [this]; rfl
    ·rw [World.cell?_setCells_out g _ _ _ _ (fun _ _ => by show off + j < off + n * i.size ∨ off + n * i.size + news.length ≤ off + j; omega)]
     exact (h8 j hj).1
  ·refine grow (some ⟨g, off, none⟩) cap rfl (by omega) ?_
   refine run_firstCells_some w.drew i.size n ⟨g, off, none⟩ n cap xs hown.1 (fun j u hu => ?_)
   rw [Addr.add_lit]
   have hj : j < n * i.size := by
    have := (List.getElem?_eq_some_iff.1 hu).1
    rw [hown.1] at this
    exact this
   exact (h7 j hj).trans hu

/-- For the walk. -/
theorem wpList_append_tail (w : World) {ops : Array Oper} {rest : List Oper} {o : Oper} {a : Act} {Q : Exit → Act → World → Prop} (hgd : o.guard = none) (s x : Operand) (t : TypeId)
  (ho : o.op = .call { callee := .builtin .append, args := #[s, x], argTypes := #[t, t] })
  (base : Nat) (e : TypeId) (i : TypeInfo) (z : Value) (size bytes : Nat) (ht : P.underlying t = some (.slice e)) (hi : P.info? e = some i) (hz : i.zero = some z)
  (hsize : i.size = size) (hby : i.bytes = bytes) (hzs : z.cells.size = size)
  (v : Value) (n : Nat) (xs : List Value) (hs : a.eval s = v) (hown : Tail w base size v n xs)
  (xv : Value) (m : Nat) (news : List Value) (hx : a.eval x = xv) (hsrc : Src P size t xv m news w)
  (h63 : n + m ≤ maxLen) (hbytes : (n + m) * bytes ≤ 140737488355328) (hbase : base ≤ w.heap.size)
  (h : ∀ A' c' w', Tail w' base size (.slice A' (n + m) c') (n + m) (xs ++ news) → w.grownBy w' v.ownBlock →
   ((Value.slice A' (n + m) c').ownBlock = v.ownBlock ∨ (Value.slice A' (n + m) c').ownBlock = some w.heap.size) → wpList P ops Q rest (a.put o.dst (.slice A' (n + m) c')) w') : wpList P ops Q (o :: rest) a w := by
 refine wpList_plain hgd fun K hK => ?_
 obtain ⟨A', c', w', hrun, h2, h3, h4⟩ := run_append_tail (P := P) w base t o.type e i z size bytes ht hi hz hsize hby hzs v n xs hown xv m news hsrc h63 hbytes hbase
 unfold Oper.wp execOp
 simp only [ho, resolve, invoke, builtin, Sem.run_bind, Sem.run_pure, Result.andThen_ok, List.map_toArray, List.map_cons, List.map_nil, hs, hx, hrun]
 exact hK _ _ (h A' c' w' h2 h3 h4)
end
end Go.Proofs.YtbllehjhmfehbaaGreat
end

section
/- A map from texts to rows of texts, all the call's own: what is put, in words of pairs. -/
namespace Go.Proofs.YtbllehjhmfehbaaGreat
open Go.RowKit Go.Maps

section
variable {P : Program} {k : TypeId} {α : Type} {κ : KeyKind P k α} {ops : Array Oper} {o : Oper} {a : Act} {K : Act → World → Prop} {Q : Exit → Act → World → Prop} {E : Prop} (w : World)
/-- A look-up at a step of a region that draws its order. -/
theorem step_lookup_is (hw : Region.wanted o (yielded ops a.tmps) = true) (m x : Operand) (t : TypeId) (hop : o.op = Op.lookup t m x false) (e : TypeId) (ht : P.underlying t = some (.map k e)) (z : Value) (hz : (zeroValue e).run P w = .ok z w)
  (b n : Nat) (f : α → Option Value) (hm : a.eval m = .map (some b)) (h : MapIs κ w b n f) (key : α) (hx : a.eval x = κ.val key) (hk : κ.ok key)
  (hK : K (a.put o.dst ((f key).getD z)) w) : if Region.wanted o (yielded ops a.tmps) = true then Oper.wp P o a w K Q else E := by
 rw [if_pos hw]
 have hrun := h.lookup ht hz hk
 unfold Oper.wp
 simp [execOp, hop, hm, hx, hrun, Result.andThen]
 exact hK
open Classical in
theorem step_update_is (hw : Region.wanted o (yielded ops a.tmps) = true) (m x v : Operand) (t : TypeId) (hop : o.op = Op.mapUpdate t m x v) (e : TypeId) (ht : P.underlying t = some (.map k e))
  (b n : Nat) (f : α → Option Value) (hm : a.eval m = .map (some b)) (h : MapIs κ w b n f) (hn : n < maxLen) (key : α) (val : Value) (hx : a.eval x = κ.val key) (hv : a.eval v = val) (hk : κ.ok key)
  (hK : ∀ w', MapIs κ w' b (n + 1) (fun y => if y = key then some val else f y) → w.grownBy w' (some b) → K (a.put o.dst undef) w') :
  if Region.wanted o (yielded ops a.tmps) = true then Oper.wp P o a w K Q else E := by
 rw [if_pos hw]
 obtain ⟨w', hrun, h1, h2⟩ := h.update ht hn hk val
 unfold Oper.wp
 simp [execOp, hop, hm, hx, hv, hrun, Result.andThen]
 exact hK w' h1 h2
end

namespace Od
abbrev okS (s : Str) : Prop := s.length ≤ maxLen
abbrev rowV (o : Option Value) : Value := o.getD (.slice none 0 0)
/-- The map in block m holds, for each text, a row of the call's own with those that pairs lead to; f: the rows. -/
structure WaysFn (w : World) (base m : Nat) (l : List Pr) (f : Str → Option Value) : Prop where
 map : MapIs strK w m l.length f
 low : base ≤ m
 row : ∀ s, okS s → w.ownsRow base 9 1 (rowV (f s)) (succ l s).length (svs (succ l s))
 sep : ∀ s t, okS s → okS t → s ≠ t → Sep (rowV (f s)) (rowV (f t))
 off : ∀ s, okS s → ∀ g, (rowV (f s)).ownBlock = some g → g ≠ m
def WaysIs (w : World) (base m : Nat) (l : List Pr) : Prop := ∃ f, WaysFn w base m l f
section
variable {w w' : World} {base m : Nat} {l : List Pr} {f : Str → Option Value} {X : Nat → Prop}
theorem WaysFn.lt (h : WaysFn w base m l f) : m < w.heap.size := h.map.lt
theorem WaysFn.on (h : WaysFn w base m l f) (hb : Below w.heap.size w w') : WaysFn w' base m l f :=
 ⟨h.map.on hb, h.low, fun s hs => own_on (h.row s hs) hb, h.sep, h.off⟩
theorem WaysFn.alloc (h : WaysFn w base m l f) (o : Obj) : WaysFn (w.alloc o) base m l f := h.on (below_alloc (Nat.le_refl _) (Below.refl _ _))
theorem WaysFn.drew (h : WaysFn w base m l f) : WaysFn w.drew base m l f := h.on (Below.drew (Below.refl _ _))
theorem WaysIs.lt (h : WaysIs w base m l) : m < w.heap.size := by obtain ⟨f, h⟩ := h; exact h.lt
theorem WaysIs.on (h : WaysIs w base m l) (hb : Below w.heap.size w w') : WaysIs w' base m l := by obtain ⟨f, h⟩ := h; exact ⟨f, h.on hb⟩
theorem WaysIs.low (h : WaysIs w base m l) : base ≤ m := by obtain ⟨f, h⟩ := h; exact WaysFn.low h
/-- What a call leaves as it was: the blocks of X. -/
structure Keeps (X : Nat → Prop) (w w' : World) : Prop where
 os : w'.os = w.os
 tape : w'.tape = w.tape
 output : w'.output = w.output
 size : w.heap.size ≤ w'.heap.size
 block : ∀ j, X j → w'.heap[j]? = w.heap[j]?
theorem Keeps.below {X : Nat → Prop} {w w' : World} (h : Keeps X w w') {B : Nat} (hB : ∀ j, j < B → X j) : Below B w w' := ⟨h.os, h.tape, h.output, h.size, fun j hj => h.block j (hB j hj)⟩
/-- The same, none of its blocks among those of X. -/
def WaysX (w : World) (X : Nat → Prop) (m : Nat) (l : List Pr) : Prop := ∃ f, WaysFn w 0 m l f ∧ ¬ X m ∧ ∀ s, okS s → ∀ g, (rowV (f s)).ownBlock = some g → ¬ X g
theorem WaysX.is (h : WaysX w X m l) : WaysIs w 0 m l := by obtain ⟨f, h, _⟩ := h; exact ⟨f, h⟩
theorem WaysX.on {X : Nat → Prop} (h : WaysX w X m l) (hb : Below w.heap.size w w') : WaysX w' X m l := by obtain ⟨f, h, r⟩ := h; exact ⟨f, h.on hb, r⟩
theorem WaysX.more {X Y : Nat → Prop} (h : WaysX w X m l) (hXY : ∀ j, j < w.heap.size → Y j → X j) : WaysX w Y m l := by
 obtain ⟨f, h, h1, h2⟩ := h
 exact ⟨f, h, fun hy => h1 (hXY _ h.lt hy), fun s hs g hg hy => h2 s hs g hg (hXY _ ((h.row s hs).lt g hg).2 hy)⟩
theorem WaysX.made (w : World) : WaysX (w.alloc (.map #[] 0)) (fun j => j < w.heap.size) w.heap.size [] :=
 ⟨fun _ => none, ⟨MapIs.made strK w, Nat.zero_le _, fun s _ => World.ownsRow_nil _ _ _ _, fun _ _ _ _ _ => .inl rfl, fun _ _ g h => by simp [Value.ownBlock] at h⟩, Nat.lt_irrefl _, fun _ _ g h => by simp [Value.ownBlock] at h⟩
theorem WaysIs.made (w : World) : WaysIs (w.alloc (.map #[] 0)) w.heap.size w.heap.size [] :=
 ⟨fun _ => none, MapIs.made strK w, Nat.le_refl _, fun s _ => World.ownsRow_nil _ _ _ _, fun _ _ _ _ _ => .inl rfl, fun _ _ g h => by simp [Value.ownBlock] at h⟩

/-- One pair more: the row of its first text has grown, then the map has been written. -/
theorem WaysFn.put (h : WaysFn w base m l f) {a b : Str} (ha : okS a) {w1 w2 w3 : World} {v' : Value} {f' : Str → Option Value} (hfa : f' a = some v') (hfo : ∀ y, y ≠ a → f' y = f y) (hw : Below w.heap.size w w1)
  (hown : w2.ownsRow base 9 1 v' ((succ l a).length + 1) (svs (succ l a) ++ [sv b])) (hg : w1.grownBy w2 (rowV (f a)).ownBlock) (hat : v'.ownBlock = (rowV (f a)).ownBlock ∨ ∃ k, w.heap.size ≤ k ∧ v'.ownBlock = some k)
  (hm3 : MapIs strK w2 m l.length f → MapIs strK w3 m (l.length + 1) f') (hg3 : w2.grownBy w3 (some m)) : WaysFn w3 base m (l ++ [(a, b)]) f' := by
 have h1 := h.on hw
 have hne : some m ≠ (rowV (f a)).ownBlock := fun e => h.off a ha m e.symm rfl
 have hm2 : MapIs strK w2 m l.length f := h1.map.kept hg hne
 have hsame : succ (l ++ [(a, b)]) a = succ l a ++ [b] := by rw [succ_app]; simp
 have hoth : ∀ s, s ≠ a → succ (l ++ [(a, b)]) s = succ l s := fun s hs => by rw [succ_app, if_neg (fun e => hs e.symm)]; simp
 have hblk : ∀ g, v'.ownBlock = some g → g ≠ m := by
  intro g hgv
  rcases hat with e | ⟨k, hk, e⟩
  ·exact h.off a ha g (e ▸ hgv)
  ·have := h.lt
   rw [e] at hgv
   cases hgv
   omega
 have hkeep : ∀ (v : Value) (n : Nat) (xs : List Value), w2.ownsRow base 9 1 v n xs → (∀ g, v.ownBlock = some g → g ≠ m) → w3.ownsRow base 9 1 v n xs := by
  intro v n xs hv hnm
  refine hv.kept hg3 ?_
  cases hvb : v.ownBlock with
  | none => exact .inl rfl
  | some g => exact .inr (fun e => hnm g hvb (Option.some.inj e))
 refine ⟨by simpa using hm3 hm2, h.low, fun s hs => ?_, fun s t hs ht hst => ?_, fun s hs => ?_⟩
 ·by_cases e : s = a
  ·subst e
   rw [hsame, hfa]
   have := hkeep _ _ _ hown hblk
   simpa [svs] using this
  ·rw [hoth s e, hfo s e]
   exact hkeep _ _ _ ((h.sep a s ha hs (Ne.symm e)).kept (h1.row s hs) hg) (h.off s hs)
 ·have hsep : ∀ t, okS t → t ≠ a → Sep v' (rowV (f t)) := by
   intro t ht hta
   rcases hat with e | ⟨k, hk, e⟩
   ·have := h.sep a t ha ht (Ne.symm hta)
    unfold Sep at *
    rw [e]; exact this
   ·cases hv : (rowV (f t)).ownBlock with
    | none => exact .inr (.inl hv)
    | some g =>
     have := ((h.row t ht).lt g hv).2
     exact .inr (.inr (by rw [e, hv]; simp; omega))
  by_cases es : s = a
  ·have et : t ≠ a := fun e => hst (es.trans e.symm)
   rw [es, hfa, hfo t et]
   exact hsep t ht et
  ·by_cases et : t = a
   ·rw [et, hfa, hfo s es]
    exact (hsep s hs es).symm
   ·rw [hfo s es, hfo t et]
    exact h.sep s t hs ht hst
 ·by_cases e : s = a
  ·rw [e, hfa]; exact hblk
  ·rw [hfo s e]; exact h.off s hs
end

end Od
end Go.Proofs.YtbllehjhmfehbaaGreat
end

section
/- The walk of (order.ways).behind: all that one leads to. -/
namespace Go.Proofs.YtbllehjhmfehbaaGreat
open Go.RowKit Go.Maps Go.Sort

namespace Od
theorem zeroB (w : World) : (zeroValue 4).run Tryz.prog w = .ok (.bool false) w := Tryz.zeroValue4 w

end Od
end Go.Proofs.YtbllehjhmfehbaaGreat
end

section
/- The walk of order.pairs: all that edges say, each once, by rising units. -/
namespace Go.Proofs.YtbllehjhmfehbaaGreat
open Go.RowKit Go.Sort

namespace Od
end Od
end Go.Proofs.YtbllehjhmfehbaaGreat
end

section
/- The walks of order.all, order.Is, order.Behind. -/
namespace Go.Proofs.YtbllehjhmfehbaaGreat
open Go.RowKit Go.Maps Go.Sort

namespace Od
section
variable {X : Nat → Prop} {w w1 w2 : World}
theorem Keeps.refl (X : Nat → Prop) (w : World) : Keeps X w w := ⟨rfl, rfl, rfl, Nat.le_refl _, fun _ _ => rfl⟩
theorem Keeps.trans (h : Keeps X w w1) (h' : Keeps X w1 w2) : Keeps X w w2 :=
 ⟨h'.os.trans h.os, h'.tape.trans h.tape, h'.output.trans h.output, Nat.le_trans h.size h'.size, fun j hj => (h'.block j hj).trans (h.block j hj)⟩
theorem Keeps.of_below (hX : ∀ j, X j → j < w.heap.size) (h : Below w.heap.size w w1) : Keeps X w w1 := ⟨h.os, h.tape, h.output, h.size, fun j hj => h.block j (hX j hj)⟩
theorem Keeps.then (h : Keeps X w w1) (hX : ∀ j, X j → j < w.heap.size) (h' : Below w1.heap.size w1 w2) : Keeps X w w2 :=
 h.trans (Keeps.of_below (fun j hj => Nat.lt_of_lt_of_le (hX j hj) h.size) h')
theorem Keeps.own (h : Keeps X w w1) {base e k n : Nat} {v : Value} {xs : List Value} (ho : w.ownsRow base e k v n xs) (hX : ∀ g, v.ownBlock = some g → X g) : w1.ownsRow base e k v n xs := by
 obtain ⟨hl, ⟨rfl, rfl⟩ | ⟨g, cap, cur, rfl, hg, hh, r⟩⟩ := ho
 ·exact ⟨hl, .inl ⟨rfl, rfl⟩⟩
 ·exact ⟨hl, .inr ⟨g, cap, cur, rfl, hg, (h.block g (hX g rfl)).trans hh, r⟩⟩
theorem Keeps.map {k : TypeId} {α : Type} {κ : KeyKind Tryz.prog k α} {b n : Nat} {f : α → Option Value} (h : Keeps X w w1) (hm : MapIs κ w b n f) (hX : X b) : MapIs κ w1 b n f := hm.same (h.block b hX)
theorem Keeps.rd (h : Keeps X w w1) {B k n : Nat} {A : Option Addr} {xs : List Value} (hr : Rd w B k A n xs) (hX : ∀ j, j < B → X j) : Rd w1 B k A n xs := hr.keep fun p hp => World.cell?_of_block (h.block p.block (hX _ hp))
end
theorem WaysX.empty {w w' : World} (hb : Below (w.alloc (.map #[] 0)).heap.size (w.alloc (.map #[] 0)) w') : WaysX w' (fun j => j < w'.heap.size ∧ j ≠ w.heap.size) w.heap.size [] :=
 ⟨fun _ => none, ⟨(MapIs.made strK w).on hb, Nat.zero_le _, fun s _ => World.ownsRow_nil _ _ _ _, fun _ _ _ _ _ => .inl rfl, fun _ _ g h => by simp [Value.ownBlock] at h⟩, fun h => h.2 rfl, fun _ _ g h => by simp [Value.ownBlock] at h⟩

/-- Texts of edges are texts. -/
def OkE (es : List Ed) : Prop := ∀ e, e ∈ es → okS e.1 ∧ okS e.2.1
end Od
end Go.Proofs.YtbllehjhmfehbaaGreat
end

section
/- Plain laws of chapter 16: what the statements OrderStraight, OrderMost, OrderRow, OrderBehind, OrderPut say of lists. No program. -/
namespace Go.Proofs.YtbllehjhmfehbaaGreat
set_option linter.unusedSimpArgs false
namespace Od
/-- The order of edges. -/
def ltE (e f : Ed) : Bool := ltS e.1 f.1 || (e.1 == f.1 && (ltS e.2.1 f.2.1 || (e.2.1 == f.2.1 && decide (e.2.2 < f.2.2))))
theorem ltE_iff {e f : Ed} : ltE e f = true ↔ ltS e.1 f.1 = true ∨ (e.1 = f.1 ∧ (ltS e.2.1 f.2.1 = true ∨ (e.2.1 = f.2.1 ∧ e.2.2 < f.2.2))) := by
 simp [ltE]
theorem toE : TO ltE where
 irrefl x := by simp [ltE, toS.irrefl]
 trans {x y z} h1 h2 := by
  rw [ltE_iff] at *
  rcases h1 with h1 | ⟨a1, h1⟩
  ·rcases h2 with h2 | ⟨a2, h2⟩
   ·exact .inl (toS.trans h1 h2)
   ·exact .inl (a2 ▸ h1)
  ·rcases h2 with h2 | ⟨a2, h2⟩
   ·exact .inl (a1 ▸ h2)
   ·refine .inr ⟨a1.trans a2, ?_⟩
    rcases h1 with h1 | ⟨b1, h1⟩
    ·rcases h2 with h2 | ⟨b2, h2⟩
     ·exact .inl (toS.trans h1 h2)
     ·exact .inl (b2 ▸ h1)
    ·rcases h2 with h2 | ⟨b2, h2⟩
     ·exact .inl (b1 ▸ h2)
     ·exact .inr ⟨b1.trans b2, Int.lt_trans h1 h2⟩
 total {x y} h1 h2 := by
  have g1 : ¬ ltE x y = true := by simp [h1]
  have g2 : ¬ ltE y x = true := by simp [h2]
  rw [ltE_iff] at g1 g2
  simp only [not_or, not_and] at g1 g2
  have e1 : x.1 = y.1 := toS.total (by simpa using g1.1) (by simpa using g2.1)
  have k1 := g1.2 e1
  have k2 := g2.2 e1.symm
  have e2 : x.2.1 = y.2.1 := toS.total (by simpa using k1.1) (by simpa using k2.1)
  have l1 := k1.2 e2
  have l2 := k2.2 e2.symm
  exact Prod.ext e1 (Prod.ext e2 (by omega))
theorem lessS_eq (a b : Str) : lessS a b = ltS a b := rfl
theorem orI_one (x : Int) : orI [x] = x := by
 by_cases h : x = 0
 ·subst h; rfl
 ·exact orI_cons h []
theorem edgeCmp_lt {e f : Ed} : edgeCmp e f < 0 ↔ ltE e f = true := by
 rw [ltE_iff]
 unfold edgeCmp
 by_cases h1 : e.1 = f.1
 ·have c1 : cmpS e.1 f.1 = 0 := by unfold cmpS; rw [lessS_eq, h1, toS.irrefl]; simp
  rw [c1, orI_cons0]
  have n1 : ¬ ltS e.1 f.1 = true := by rw [h1, toS.irrefl]; simp
  by_cases h2 : e.2.1 = f.2.1
  ·have c2 : cmpS e.2.1 f.2.1 = 0 := by unfold cmpS; rw [lessS_eq, h2, toS.irrefl]; simp
   rw [c2, orI_cons0, orI_one]
   have n2 : ¬ ltS e.2.1 f.2.1 = true := by rw [h2, toS.irrefl]; simp
   simp only [n1, n2, h1, h2, false_or, true_and]
   unfold cmpI
   split
   ·simp_all
   ·split <;> simp_all
  ·have c2 : cmpS e.2.1 f.2.1 ≠ 0 := by unfold cmpS; split <;> simp_all
   rw [orI_cons c2]
   simp only [n1, h1, h2, false_or, true_and, false_and, or_false]
   unfold cmpS
   rw [lessS_eq]
   split <;> simp_all
 ·have c1 : cmpS e.1 f.1 ≠ 0 := by unfold cmpS; split <;> simp_all
  rw [orI_cons c1]
  simp only [h1, false_and, or_false]
  unfold cmpS
  rw [lessS_eq]
  split <;> simp_all
theorem rises_pairwise {α : Type} {c : α → α → Int} (ht : ∀ x y z, c x y < 0 → c y z < 0 → c x z < 0) : ∀ {l : List α}, risesB c l = true → l.Pairwise (fun x y => c x y < 0)
 | [], _ => .nil
 | [x], _ => List.pairwise_singleton _ _
 | x :: y :: r, h => by
  unfold risesB at h
  rw [Bool.and_eq_true, decide_eq_true_eq] at h
  have ih := rises_pairwise ht h.2
  refine List.pairwise_cons.2 ⟨fun z hz => ?_, ih⟩
  rcases List.mem_cons.1 hz with e | e
  ·rw [e]; exact h.1
  ·exact ht _ _ _ h.1 ((List.pairwise_cons.1 ih).1 z e)
theorem pairwise_rises {α : Type} {c : α → α → Int} : ∀ {l : List α}, l.Pairwise (fun x y => c x y < 0) → risesB c l = true
 | [], _ => rfl
 | [x], _ => rfl
 | x :: y :: r, h => by
  unfold risesB
  obtain ⟨h1, h2⟩ := List.pairwise_cons.1 h
  rw [Bool.and_eq_true, decide_eq_true_eq]
  exact ⟨h1 y (.head _), pairwise_rises h2⟩
theorem risesE_iff {es : List Ed} : risesB edgeCmp es = true ↔ SS ltE es := by
 constructor
 ·intro h
  exact (rises_pairwise (c := edgeCmp) (fun x y z h1 h2 => edgeCmp_lt.2 (toE.trans (edgeCmp_lt.1 h1) (edgeCmp_lt.1 h2))) h).imp fun {a b} h => edgeCmp_lt.1 h
 ·intro h
  exact pairwise_rises (h.imp fun {a b} h => edgeCmp_lt.2 h)
theorem mayG_iff {ns : List Nd} {es : List Ed} : mayG ns es = true ↔ ns.length ≤ 64 ∧ risesB nodeCmp ns = true ∧ SS ltE es ∧ ns.all mayN = true ∧ ∀ e ∈ es, edgeOk ns e = true := by
 unfold mayG
 rw [← risesE_iff]
 simp only [Bool.and_eq_true, Bool.not_eq_true', decide_eq_false_iff_not, List.all_eq_true]
 constructor
 ·rintro ⟨h1, h2, h3, h4, h5⟩; exact ⟨by omega, h2, h3, h4, h5⟩
 ·rintro ⟨h1, h2, h3, h4, h5⟩; exact ⟨by omega, h2, h3, h4, h5⟩
/-- The two that an edge parts: the first one ahead. -/
def turned (e : Ed) : Pr := if e.2.2 = 8 then (e.2.1, e.1) else (e.1, e.2.1)
/-! Sorting -/
/-! Putting one edge in -/
end Od
end Go.Proofs.YtbllehjhmfehbaaGreat
end

section
/- What the laws of pull say, of lists. No program. -/
namespace Go.Proofs.YtbllehjhmfehbaaGreat
set_option linter.unusedSimpArgs false
namespace Od
theorem nodeOf_iff {ns : List Nd} {s : Str} : (nodeOf ns s).isSome = true ↔ s ∈ ns.map (·.1) := by
 unfold nodeOf
 rw [List.find?_isSome, List.mem_map]
 constructor
 ·rintro ⟨n, h, e⟩; exact ⟨n, h, by simpa using e⟩
 ·rintro ⟨n, h, e⟩; exact ⟨n, h, by simpa using e⟩
theorem may_ends {ns : List Nd} {es : List Ed} (hm : mayG ns es = true) {e : Ed} (he : e ∈ es) : (nodeOf ns e.1).isSome = true ∧ (nodeOf ns e.2.1).isSome = true := by
 have h := (mayG_iff.1 hm).2.2.2.2 e he
 unfold edgeOk at h
 simp only [Bool.and_eq_true] at h
 exact ⟨h.1, h.2.1⟩
theorem may_name {ns : List Nd} {es : List Ed} (hm : mayG ns es = true) {s : Str} (h : (nodeOf ns s).isSome = true) : s ≠ [] := by
 obtain ⟨n, hn, rfl⟩ := List.mem_map.1 (nodeOf_iff.1 h)
 have h2 := (mayG_iff.1 hm).2.2.2.1
 rw [List.all_eq_true] at h2
 have h3 := h2 n hn
 intro e
 unfold mayN at h3
 rw [e] at h3
 revert h3
 have : kindS [] = 0 := by decide +kernel
 rw [this]
 simp
def keyP (p : Pl) : Jp := (p.1, p.2.1)
theorem asksB_iff {ns : List Nd} {first : Jp} : asksB ns first = true ↔ (nodeOf ns first.1).isSome = true ∧ 1 ≤ first.2 ∧ first.2 ≤ 4 := by
 unfold asksB; simp only [Bool.and_eq_true, decide_eq_true_eq]
theorem mem_pullQ {ns : List Nd} {es : List Ed} {up half : List Str} {first : Jp} {wo : List Pl} {p : Pl} : p ∈ pullQ ns es up half first wo ↔ asksB ns first = true ∧ p ∈ allP es up half first wo := by
 unfold pullQ
 split
 ·rename_i h; exact ⟨fun hp => ⟨h, hp⟩, fun hp => hp.2⟩
 ·rename_i h; exact ⟨fun hp => (by cases hp), fun hp => absurd hp.1 h⟩
theorem pullQ_ss (ns : List Nd) (es : List Ed) (up half : List Str) (first : Jp) (wo : List Pl) : (pullQ ns es up half first wo).Pairwise (fun p q => ltJ (keyP p) (keyP q) = true) := by
 unfold pullQ; split
 ·exact allP_ss _ _ _ _ _
 ·exact .nil
/-- What is pulled is of a node. -/
theorem reach_node {ns : List Nd} {es : List Ed} {up half : List Str} {first : Jp} {wo : List Pl} (hm : mayG ns es = true) (h0 : asksB ns first = true) {k : Jp} (h : Rj (bringB es up half) (outB wo) first k) : (nodeOf ns k.1).isSome = true ∧ 1 ≤ k.2 ∧ k.2 ≤ 4 := by
 cases h with
 | one => exact asksB_iff.1 h0
 | more _ hb _ =>
  obtain ⟨⟨e, he, h1⟩, h2⟩ := bring_edge hb
  refine ⟨?_, by omega, by omega⟩
  rcases h1 with h1 | h1
  ·rw [← h1]; exact (may_ends hm he).1
  ·rw [← h1]; exact (may_ends hm he).2
theorem mem_pull {ns : List Nd} {es : List Ed} {up half : List Str} {first : Jp} {wo : List Pl} (h0 : asksB ns first = true) {k : Jp} (h : Rj (bringB es up half) (outB wo) first k) : ∃ p ∈ pullQ ns es up half first wo, keyP p = k ∧ (p.2.2.1 = true ↔ Rj (needJ (bringB es up half)) (outB wo) first k) ∧ p.2.2.2 = byOf (pullM es up half first wo) k := by
 refine ⟨plOf (pullM es up half first wo) (needM es up half first wo) k, mem_pullQ.2 ⟨h0, List.mem_map.2 ⟨k, (mem_canon toJ).2 (mem_pullM.2 h), rfl⟩⟩, rfl, ?_, rfl⟩
 show knownP _ k = true ↔ _
 rw [knownP_iff, mem_needM]
/-! Each was brought by one (PullBy) -/
theorem pull_by {ns : List Nd} {es : List Ed} {up half : List Str} {first : Jp} {wo : List Pl} (hm : mayG ns es = true) {p : Pl} (hp : p ∈ pullQ ns es up half first wo) :
  (p.2.2.2 = [] ↔ keyP p = first) ∧ (keyP p = first → p.2.2.1 = true) ∧ (p.2.2.2 ≠ [] → ∃ q ∈ pullQ ns es up half first wo, q.1 = p.2.2.2) := by
 obtain ⟨h0, h⟩ := mem_pullQ.1 hp
 obtain ⟨h1, h2, h3⟩ := mem_allP.1 h
 have hne : ∀ j : Jp, Rj (bringB es up half) (outB wo) first j → j.1 ≠ [] := fun j hj => may_name hm (reach_node hm h0 hj).1
 refine ⟨?_, fun e => ?_, fun hb => ?_⟩
 ·rcases by_cases_ h1 with ⟨e1, e2⟩ | ⟨e1, _, j, hj, e2, _⟩
  ·rw [h3]; exact ⟨fun _ => e1, fun _ => e2⟩
  ·rw [h3, ← e2]; exact ⟨fun e => absurd e (hne j hj), fun e => absurd e e1⟩
 ·rw [h2]
  have e' : (p.1, p.2.1) = first := e
  rw [e']; exact .one
 ·rcases by_cases_ h1 with ⟨e1, e2⟩ | ⟨e1, _, j, hj, e2, _⟩
  ·exact absurd (h3.trans e2) hb
  ·obtain ⟨q, hq, e, _⟩ := mem_pull h0 hj
   exact ⟨q, hq, by rw [h3, ← e2, ← e]; rfl⟩
/-! Left out (PullLess) -/
/-! Whatever is brought comes along (PullClosed) -/
/-! The more is up (PullMore) -/
/-! A start (PullStart) -/
end Od
end Go.Proofs.YtbllehjhmfehbaaGreat
end

section
/- Units with types, jobs that are brought and jobs that come along, as cells. No program. -/
namespace Go.Proofs.YtbllehjhmfehbaaGreat
open Go.RowKit
namespace Od
def jpC (j : Jp) : List Value := [sv j.1, .int .i64 j.2]
def jpsC (l : List Jp) : List Value := l.flatMap jpC
def brC (b : Bg) : List Value := [sv b.1.1, .int .i64 b.1.2, .bool b.2]
def brsC (l : List Bg) : List Value := l.flatMap brC
def plC (p : Pl) : List Value := [sv p.1, .int .i64 p.2.1, .bool p.2.2.1, sv p.2.2.2]
def plsC (l : List Pl) : List Value := l.flatMap plC
theorem flat_take {α : Type} (c : α → List Value) (k : Nat) (hc : ∀ x, (c x).length = k) (l : List α) (n : Nat) : (l.take n).flatMap c = (l.flatMap c).take (n * k) := by
 induction l generalizing n with
 | nil => simp
 | cons x l ih =>
  cases n with
  | zero => simp
  | succ n =>
   have h := ih n
   simp only [List.take_succ_cons, List.flatMap_cons, h]
   have e : (c x).take ((n + 1) * k) = c x := List.take_of_length_le (by rw [hc, Nat.add_mul]; omega)
   rw [List.take_append, e, hc, show (n + 1) * k - k = n * k by rw [Nat.add_mul]; omega]
theorem flat_drop {α : Type} (c : α → List Value) (k : Nat) (hc : ∀ x, (c x).length = k) (l : List α) (n : Nat) : (l.drop n).flatMap c = (l.flatMap c).drop (n * k) := by
 induction l generalizing n with
 | nil => simp
 | cons x l ih =>
  cases n with
  | zero => simp
  | succ n =>
   have h := ih n
   simp only [List.drop_succ_cons, List.flatMap_cons, h]
   have e : (c x).drop ((n + 1) * k) = [] := List.drop_eq_nil_of_le (by rw [hc, Nat.add_mul]; omega)
   rw [List.drop_append, e, hc, show (n + 1) * k - k = n * k by rw [Nat.add_mul]; omega]
   rfl
theorem jpC_len (j : Jp) : (jpC j).length = 2 := rfl
theorem brC_len (b : Bg) : (brC b).length = 3 := rfl
theorem plC_len (p : Pl) : (plC p).length = 4 := rfl
theorem jpsC_len (l : List Jp) : (jpsC l).length = l.length * 2 := flat_len jpC 2 jpC_len l
theorem brsC_len (l : List Bg) : (brsC l).length = l.length * 3 := flat_len brC 3 brC_len l
theorem plsC_len (l : List Pl) : (plsC l).length = l.length * 4 := flat_len plC 4 plC_len l
theorem jpsC_app (a b : List Jp) : jpsC (a ++ b) = jpsC a ++ jpsC b := by simp [jpsC]
theorem brsC_app (a b : List Bg) : brsC (a ++ b) = brsC a ++ brsC b := by simp [brsC]
theorem plsC_app (a b : List Pl) : plsC (a ++ b) = plsC a ++ plsC b := by simp [plsC]
theorem jpsC_one (j : Jp) : jpsC [j] = jpC j := by simp [jpsC]
theorem brsC_one (b : Bg) : brsC [b] = brC b := by simp [brsC]
theorem plsC_one (p : Pl) : plsC [p] = plC p := by simp [plsC]
theorem one_jpC (j : Jp) : ∀ u ∈ jpC j, u.oneCell' = true := fun u hu => by
 simp only [jpC, List.mem_cons, List.not_mem_nil, or_false] at hu
 rcases hu with rfl | rfl <;> rfl
theorem one_brC (j : Bg) : ∀ u ∈ brC j, u.oneCell' = true := fun u hu => by
 simp only [brC, List.mem_cons, List.not_mem_nil, or_false] at hu
 rcases hu with rfl | rfl | rfl <;> rfl
theorem one_plC (j : Pl) : ∀ u ∈ plC j, u.oneCell' = true := fun u hu => by
 simp only [plC, List.mem_cons, List.not_mem_nil, or_false] at hu
 rcases hu with rfl | rfl | rfl | rfl <;> rfl
theorem one_jpsC (l : List Jp) : ∀ u ∈ jpsC l, u.oneCell' = true := fun u hu => by
 obtain ⟨j, _, hj⟩ := List.mem_flatMap.1 hu
 exact one_jpC j u hj
theorem one_brsC (l : List Bg) : ∀ u ∈ brsC l, u.oneCell' = true := fun u hu => by
 obtain ⟨j, _, hj⟩ := List.mem_flatMap.1 hu
 exact one_brC j u hj
theorem one_plsC (l : List Pl) : ∀ u ∈ plsC l, u.oneCell' = true := fun u hu => by
 obtain ⟨j, _, hj⟩ := List.mem_flatMap.1 hu
 exact one_plC j u hj
end Od
open Od
theorem Rd.jp {w : World} {B : Nat} {A : Option Addr} {q : List Jp} (h : Rd w B 2 A q.length (jpsC q)) {i : Nat} (hi : i < q.length) :
  ∃ b o : Nat, A = some ⟨b, o, none⟩ ∧ b < B ∧ w.cell? ⟨b, o + i * 2, none⟩ = some (sv q[i].1) ∧ w.cell? ⟨b, o + i * 2 + 1, none⟩ = some (.int .i64 q[i].2) := by
 obtain ⟨b, o, e, hb, hc⟩ := h.open (by omega)
 have h0 := flat_at jpC 2 jpC_len q i 0 hi (by omega)
 have h1 := flat_at jpC 2 jpC_len q i 1 hi (by omega)
 exact ⟨b, o, e, hb, (hc (i * 2) (by omega)).trans h0, (hc (i * 2 + 1) (by omega)).trans h1⟩
theorem Rd.br {w : World} {B : Nat} {A : Option Addr} {q : List Bg} (h : Rd w B 3 A q.length (brsC q)) {i : Nat} (hi : i < q.length) :
  ∃ b o : Nat, A = some ⟨b, o, none⟩ ∧ b < B ∧ w.cell? ⟨b, o + i * 3, none⟩ = some (sv q[i].1.1) ∧ w.cell? ⟨b, o + i * 3 + 1, none⟩ = some (.int .i64 q[i].1.2) ∧ w.cell? ⟨b, o + i * 3 + 2, none⟩ = some (.bool q[i].2) := by
 obtain ⟨b, o, e, hb, hc⟩ := h.open (by omega)
 have h0 := flat_at brC 3 brC_len q i 0 hi (by omega)
 have h1 := flat_at brC 3 brC_len q i 1 hi (by omega)
 have h2 := flat_at brC 3 brC_len q i 2 hi (by omega)
 exact ⟨b, o, e, hb, (hc (i * 3) (by omega)).trans h0, (hc (i * 3 + 1) (by omega)).trans h1, (hc (i * 3 + 2) (by omega)).trans h2⟩
theorem Rd.pl {w : World} {B : Nat} {A : Option Addr} {q : List Pl} (h : Rd w B 4 A q.length (plsC q)) {i : Nat} (hi : i < q.length) :
  ∃ b o : Nat, A = some ⟨b, o, none⟩ ∧ b < B ∧ w.cell? ⟨b, o + i * 4, none⟩ = some (sv q[i].1) ∧ w.cell? ⟨b, o + i * 4 + 1, none⟩ = some (.int .i64 q[i].2.1) ∧ w.cell? ⟨b, o + i * 4 + 2, none⟩ = some (.bool q[i].2.2.1) ∧ w.cell? ⟨b, o + i * 4 + 3, none⟩ = some (sv q[i].2.2.2) := by
 obtain ⟨b, o, e, hb, hc⟩ := h.open (by omega)
 have h0 := flat_at plC 4 plC_len q i 0 hi (by omega)
 have h1 := flat_at plC 4 plC_len q i 1 hi (by omega)
 have h2 := flat_at plC 4 plC_len q i 2 hi (by omega)
 have h3 := flat_at plC 4 plC_len q i 3 hi (by omega)
 exact ⟨b, o, e, hb, (hc (i * 4) (by omega)).trans h0, (hc (i * 4 + 1) (by omega)).trans h1, (hc (i * 4 + 2) (by omega)).trans h2, (hc (i * 4 + 3) (by omega)).trans h3⟩
end Go.Proofs.YtbllehjhmfehbaaGreat
end

section
/- Jobs as keys of maps: pull's and the reference's. -/
namespace Go.Proofs.YtbllehjhmfehbaaGreat
open Go.RowKit Go.Maps
namespace Od
def jlit (p : Jp) : Lit := .string (keyBytes [.string p.1, .int .i64 p.2])
theorem keyLits_i (d : Nat) (n : Int) (h : (Lit.int .i64 n).wf = true) : Tryz.prog.keyLits (d + 1) 3 [.int .i64 n] = some [.int .i64 n] := by
 simp [Program.keyLits, Tryz.underlying3, h]
theorem keyLits_i_inv {d : Nat} {cs : List Value} {l : List Lit} (h : Tryz.prog.keyLits d 3 cs = some l) : ∃ n : Int, (Lit.int .i64 n).wf = true ∧ cs = [.int .i64 n] ∧ l = [.int .i64 n] := by
 cases d with
 | zero => simp [Program.keyLits] at h
 | succ d =>
  unfold Program.keyLits at h
  simp only [Tryz.underlying3] at h
  split at h
  all_goals simp_all
  exact ⟨_, h.1.2, rfl, h.2.symm⟩
theorem cellsI : Tryz.prog.cellsOf 3 = 1 := by kernel_rfl
theorem rowJ : (73 : TypeId) < Tryz.prog.types.size := of_decide_eq_true (by kernel_rfl)
theorem wideJ : (match Tryz.prog.underlying 73 with | some (.array _ _) | some (.struct _) => true | _ => false) = true := by rw [Tryz.underlying73]
theorem keyAtJ : Tryz.prog.keyTypeAt 3 73 = true := by kernel_rfl
set_option maxRecDepth 100000 in
theorem lawJ : Keyed Tryz.prog 73 := Keyed.of_law (deep_law_laid laidOut' (m := 3) (by omega) rowJ keyAtJ wideJ)
theorem cellsJ : Tryz.prog.cellsOf 73 = 2 := by kernel_rfl
theorem keyTypeJ : Tryz.prog.keyType 73 = true := by kernel_rfl
theorem keyOfJ (p : Jp) (h1 : p.1.length ≤ maxLen) (h2 : (Lit.int .i64 p.2).wf = true) : keyOf Tryz.prog 73 (.agg #[sv p.1, .int .i64 p.2]) = some (jlit p) := by
 have hu := Tryz.underlying73
 have hform : (Value.agg #[sv p.1, .int .i64 p.2]).formed Tryz.prog 73 = true := by simp [Value.formed, hu, cellsJ]
 unfold keyOf
 rw [hu]
 simp only [keyTypeJ, hform, Bool.and_self, if_true]
 rw [sizeP, sizeP2]
 unfold Program.keyLits
 rw [hu]
 simp only [Value.cells, cellsJ]
 simp [keyLits_s, keyLits_i, h1, h2, cellsS, cellsI, jlit]
theorem keyInvJ (v : Value) (l : Lit) (h : keyOf Tryz.prog 73 v = some l) : ∃ p : Jp, (p.1.length ≤ maxLen ∧ (Lit.int .i64 p.2).wf = true) ∧ v = .agg #[sv p.1, .int .i64 p.2] := by
 have hu := Tryz.underlying73
 unfold keyOf at h
 simp only [hu, keyTypeJ, Bool.true_and] at h
 split at h
 ·rename_i hf
  cases v with
  | agg cs =>
   rw [sizeP] at h
   unfold Program.keyLits at h
   simp only [hu] at h
   simp [Value.formed, hu, cellsJ] at hf
   simp only [Value.cells, cellsJ] at h
   obtain ⟨xs⟩ := cs
   have hx : xs.length = 2 := by simpa using hf
   obtain ⟨x, y, rfl⟩ : ∃ x y, xs = [x, y] := by
    match xs, hx with
    | [x, y], _ => exact ⟨x, y, rfl⟩
   simp only [List.mapM_cons, List.mapM_nil, cellsS, cellsI, List.drop_zero, List.take_succ_cons, List.take_zero, List.drop_succ_cons] at h
   cases h1 : Tryz.prog.keyLits (Tryz.prog.types.size - 1 + 1) 9 [x] with
   | none => rw [h1] at h; split at h <;> cases h
   | some l1 =>
    cases h2 : Tryz.prog.keyLits (Tryz.prog.types.size - 1 + 1) 3 [y] with
    | none => rw [h1, h2] at h; split at h <;> cases h
    | some l2 =>
     obtain ⟨s1, hs1, e1, _⟩ := keyLits_s_inv h1
     obtain ⟨n2, hs2, e2, _⟩ := keyLits_i_inv h2
     cases e1
     cases e2
     exact ⟨(s1, n2), ⟨hs1, hs2⟩, rfl⟩
  | _ => simp [Value.formed, hu] at hf
 ·cases h
noncomputable def kindJ : KeyKind Tryz.prog 73 Jp where
 val p := .agg #[sv p.1, .int .i64 p.2]
 ok p := p.1.length ≤ maxLen ∧ (Lit.int .i64 p.2).wf = true
 kl := jlit
 law := lawJ
 key p hp := keyOfJ p hp.1 hp.2
 inj x y h := by
  obtain ⟨a, b⟩ := x
  obtain ⟨c, d⟩ := y
  simp only [Value.agg.injEq] at h
  have h1 := congrArg (fun z : Array Value => z.toList) h
  simp at h1
  simp [h1]
 inv := keyInvJ
theorem rowR : (86 : TypeId) < Tryz.prog.types.size := of_decide_eq_true (by kernel_rfl)
theorem wideR : (match Tryz.prog.underlying 86 with | some (.array _ _) | some (.struct _) => true | _ => false) = true := by rw [Tryz.underlying86]
theorem keyAtR : Tryz.prog.keyTypeAt 3 86 = true := by kernel_rfl
set_option maxRecDepth 100000 in
theorem lawR : Keyed Tryz.prog 86 := Keyed.of_law (deep_law_laid laidOut' (m := 3) (by omega) rowR keyAtR wideR)
theorem cellsR : Tryz.prog.cellsOf 86 = 2 := by kernel_rfl
theorem keyTypeR : Tryz.prog.keyType 86 = true := by kernel_rfl
theorem keyOfR (p : Jp) (h1 : p.1.length ≤ maxLen) (h2 : (Lit.int .i64 p.2).wf = true) : keyOf Tryz.prog 86 (.agg #[sv p.1, .int .i64 p.2]) = some (jlit p) := by
 have hu := Tryz.underlying86
 have hform : (Value.agg #[sv p.1, .int .i64 p.2]).formed Tryz.prog 86 = true := by simp [Value.formed, hu, cellsR]
 unfold keyOf
 rw [hu]
 simp only [keyTypeR, hform, Bool.and_self, if_true]
 rw [sizeP, sizeP2]
 unfold Program.keyLits
 rw [hu]
 simp only [Value.cells, cellsR]
 simp [keyLits_s, keyLits_i, h1, h2, cellsS, cellsI, jlit]
theorem keyInvR (v : Value) (l : Lit) (h : keyOf Tryz.prog 86 v = some l) : ∃ p : Jp, (p.1.length ≤ maxLen ∧ (Lit.int .i64 p.2).wf = true) ∧ v = .agg #[sv p.1, .int .i64 p.2] := by
 have hu := Tryz.underlying86
 unfold keyOf at h
 simp only [hu, keyTypeR, Bool.true_and] at h
 split at h
 ·rename_i hf
  cases v with
  | agg cs =>
   rw [sizeP] at h
   unfold Program.keyLits at h
   simp only [hu] at h
   simp [Value.formed, hu, cellsR] at hf
   simp only [Value.cells, cellsR] at h
   obtain ⟨xs⟩ := cs
   have hx : xs.length = 2 := by simpa using hf
   obtain ⟨x, y, rfl⟩ : ∃ x y, xs = [x, y] := by
    match xs, hx with
    | [x, y], _ => exact ⟨x, y, rfl⟩
   simp only [List.mapM_cons, List.mapM_nil, cellsS, cellsI, List.drop_zero, List.take_succ_cons, List.take_zero, List.drop_succ_cons] at h
   cases h1 : Tryz.prog.keyLits (Tryz.prog.types.size - 1 + 1) 9 [x] with
   | none => rw [h1] at h; split at h <;> cases h
   | some l1 =>
    cases h2 : Tryz.prog.keyLits (Tryz.prog.types.size - 1 + 1) 3 [y] with
    | none => rw [h1, h2] at h; split at h <;> cases h
    | some l2 =>
     obtain ⟨s1, hs1, e1, _⟩ := keyLits_s_inv h1
     obtain ⟨n2, hs2, e2, _⟩ := keyLits_i_inv h2
     cases e1
     cases e2
     exact ⟨(s1, n2), ⟨hs1, hs2⟩, rfl⟩
  | _ => simp [Value.formed, hu] at hf
 ·cases h
noncomputable def kindR : KeyKind Tryz.prog 86 Jp where
 val p := .agg #[sv p.1, .int .i64 p.2]
 ok p := p.1.length ≤ maxLen ∧ (Lit.int .i64 p.2).wf = true
 kl := jlit
 law := lawR
 key p hp := keyOfR p hp.1 hp.2
 inj x y h := by
  obtain ⟨a, b⟩ := x
  obtain ⟨c, d⟩ := y
  simp only [Value.agg.injEq] at h
  have h1 := congrArg (fun z : Array Value => z.toList) h
  simp at h1
  simp [h1]
 inv := keyInvR
end Od
end Go.Proofs.YtbllehjhmfehbaaGreat
end

section
/- slices.Contains at long rows; (asker).there; some: jobs of some units. (bel2) -/
namespace Go.Proofs.YtbllehjhmfehbaaGreat
open Go.RowKit
set_option linter.unusedSimpArgs false
namespace Od
theorem containsS_big (A : Option Addr) (c : Nat) (ss : List Str) (x : Str) (w : World) (hr : Rd w w.heap.size 1 A ss.length (svs ss)) (hl : ss.length ≤ 140737488355328) :
  Calls Tryz.prog 108 #[.slice A ss.length c, sv x] w fun e w' => e = .returned (.bool (hasB ss x)) ∧ w' = w := by
 have he : hasB ss x = decide (x ∈ ss) := by
  rw [Bool.eq_iff_iff, hasB_iff, decide_eq_true_eq]
 rw [he]
 rcases Nat.eq_zero_or_pos ss.length with h0 | h0
 ·have hn := List.length_eq_zero_iff.1 h0
  subst hn
  refine (Tryz.slices_Contains_string_empty A c _ w).mono ?_
  rintro e w' ⟨rfl, rfl⟩
  exact ⟨by simp, rfl⟩
 ·obtain ⟨b, o, rfl, hb, hc⟩ := hr.open h0
  refine (Tryz.slices_Contains_string b o ss.length c (ss.map fun s => ⟨s.toArray⟩) ⟨x.toArray⟩ w (by simp) (by omega) (fun j hj => ?_)).mono ?_
  ·have hj' : j < ss.length := by simpa using hj
   rw [hc j (by omega)]
   simp [svs, hj']
  ·rintro e w' ⟨rfl, rfl⟩
   exact ⟨by rw [List.take_of_length_le (by simp), idxOf_zs], rfl⟩
/-- A row of texts that was handed in. -/
structure SIn (w : World) (A : Option Addr) (ss : List Str) : Prop where
 rd : Rd w w.heap.size 1 A ss.length (svs ss)
 len : ss.length ≤ 140737488355328
theorem SIn.at {w w' : World} {A : Option Addr} {ss : List Str} (h : SIn w A ss) (hb : Below w.heap.size w w') : SIn w' A ss := ⟨h.rd.at hb, h.len⟩
abbrev askV (An : Option Addr) (nn cn : Nat) (Ae : Option Addr) (ne ce : Nat) (Au : Option Addr) (nu cu : Nat) (Ah : Option Addr) (nh ch : Nat) : Value := .agg #[.slice An nn cn, .slice Ae ne ce, .slice Au nu cu, .slice Ah nh ch]
set_option maxHeartbeats 1000000 in
theorem there_any (An Ae Au Ah : Option Addr) (nn cn ne ce cu ch : Nat) (up half : List Str) (u : Str) (w : World) (hu : SIn w Au up) (hh : SIn w Ah half) :
  Calls Tryz.prog 214 #[askV An nn cn Ae ne ce Au up.length cu Ah half.length ch, sv u] w fun e w' => e = .returned (.bool (upB up half u)) ∧ Below w.heap.size w w' := by
 have Hu := Lib.hid hu
 have Hh := Lib.hid hh
 clear hu hh
 have hb : Below w.heap.size w (w.alloc (.cells #[.slice An nn cn, .slice Ae ne ce, .slice Au up.length cu, .slice Ah half.length ch] 76)) := (Below.refl _ _).alloc (Nat.le_refl _) _
 have H1 := Lib.hid (Hu.out.at hb)
 have H2 := Lib.hid (Hh.out.at hb)
 have HB := Lib.hid hb
 clear hb
 go_enter Tryz.func214, Tryz.ntmps214
 cases h1 : hasB up u
 ·cases h2 : hasB half u
  ·have h3 : upB up half u = false := by unfold upB; rw [h1, h2]; rfl
   go_wp2_with fail
   refine (containsS_big _ _ _ _ _ H1.out.rd H1.out.len).mono ?_
   rintro e w' ⟨rfl, rfl⟩
   rw [h1]
   go_wp2_with fail
   refine (containsS_big _ _ _ _ _ H2.out.rd H2.out.len).mono ?_
   rintro e w' ⟨rfl, rfl⟩
   rw [h2]
   go_wp2_with fail
   go_ret
   exact ⟨by rw [h3]; rfl, HB.out⟩
  ·have h3 : upB up half u = true := by unfold upB; rw [h1, h2]; rfl
   go_wp2_with fail
   refine (containsS_big _ _ _ _ _ H1.out.rd H1.out.len).mono ?_
   rintro e w' ⟨rfl, rfl⟩
   rw [h1]
   go_wp2_with fail
   refine (containsS_big _ _ _ _ _ H2.out.rd H2.out.len).mono ?_
   rintro e w' ⟨rfl, rfl⟩
   rw [h2]
   go_wp2_with fail
   go_ret
   exact ⟨by rw [h3]; rfl, HB.out⟩
 ·have h3 : upB up half u = true := by unfold upB; rw [h1]; rfl
  go_wp2_with fail
  refine (containsS_big _ _ _ _ _ H1.out.rd H1.out.len).mono ?_
  rintro e w' ⟨rfl, rfl⟩
  rw [h1]
  go_wp2_with fail
  go_ret
  exact ⟨by rw [h3]; rfl, HB.out⟩
def OwnB (l : List Bg) (w : World) (e : Ending) (w' : World) : Prop := ∃ A c, e = .returned (.slice A l.length c) ∧ w'.ownsRow w.heap.size 145 3 (.slice A l.length c) l.length (brsC l) ∧ Below w.heap.size w w'
theorem infoBr : (Tryz.prog.info? 145).map (fun i => (i.zero, i.size, i.bytes)) = some (some (.agg #[.string ⟨#[]⟩, .int .i64 0, .bool false]), 3, 32) := by kernel_rfl
theorem eachB_take {us : List Str} {t : Int} {n : Bool} {k : Nat} (hk : k < us.length) : eachB (us.take (k + 1)) t n = eachB (us.take k) t n ++ [((us[k], t), n)] := by
 unfold eachB
 rw [List.take_succ_eq_append_getElem hk, List.map_append]
 rfl
theorem eachB_len (us : List Str) (t : Int) (n : Bool) : (eachB us t n).length = us.length := by simp [eachB]
set_option maxRecDepth 100000 in
set_option maxHeartbeats 1000000 in
theorem some_any (A : Option Addr) (c : Nat) (us : List Str) (t : Int) (n : Bool) (w : World) (hr : Rd w w.heap.size 1 A us.length (svs us)) (hl : us.length ≤ 1000000) :
  Calls Tryz.prog 210 #[.slice A us.length c, .int .i64 t, .bool n] w (OwnB (eachB us t n) w) := by
 obtain ⟨i0, hi, hz0, hz1, hz2⟩ := info_parts infoBr
 have Hr := Lib.hid hr
 clear hr
 go_enter Tryz.func210, Tryz.ntmps210
 go_wp2_with fail
 go_loopw [7, 12] (fun v i wr => ∃ k : Nat, k ≤ us.length ∧ i = .int .i64 k ∧ wr.ownsRow w.heap.size 145 3 v k (brsC (eachB (us.take k) t n)) ∧ Below w.heap.size w wr) (fun _ i _ => us.length - (intOf i).toNat)
 case atStart => exact ⟨0, Nat.zero_le _, rfl, World.ownsRow_nil _ _ _ _, Below.refl _ _⟩
 case round =>
  obtain ⟨k, hk, rfl, hown, hbel⟩ := hrel
  by_cases hlt : k < us.length
  ·obtain ⟨bb, o, rfl, hB, hc0⟩ := (Hr.out.on (Nat.le_refl _) hbel).str hlt
   have hz := hbel.size
   have n1 : bb < wr.heap.size := by omega
   have h63 : k + 1 ≤ maxLen := by unfold maxLen; omega
   have hby : (k + 1) * 32 ≤ 140737488355328 := by omega
   have hft := eachB_take (t := t) (n := n) hlt
   generalize hx : us[k] = x at hc0 hft
   clear hx
   have Hbel := Lib.hid hbel
   have Hown := Lib.hid hown
   have Hft := Lib.hid hft
   clear hbel hown hft
   go_wp2_with (first | (at_builtin; refine wpList_pushm w wr (by rfl) _ _ 175 (by rfl) w.heap.size 145 i0 _ 3 32 Tryz.underlying175 hi hz0 hz1 hz2 rfl (by decide) _ _ _ (by rfl) Hown.out [sv x, .int .i64 t, .bool n] (wr.heap.size) (by simp) (by rfl) rfl (by simp [Value.oneCell']) h63 hby hz Hbel.out ?_; intro A1 c1 w1 hown1 hbel1 hg1 hat1) | fail)
   go_roundw
   case rel => exact ⟨k + 1, by omega, by go_num, by rw [Hft.out, brsC_app, brsC_one]; exact hown1, hbel1⟩
   case measure => simp [intOf]; omega
  ·have hkl : k = us.length := by omega
   subst hkl
   rw [List.take_length] at hown
   obtain ⟨A1, c1, rfl, _⟩ := own_rd hown
   have Hown := Lib.hid hown
   have Hbel := Lib.hid hbel
   clear hown hbel
   go_wp2_with fail
   go_ret
   exact ⟨A1, c1, by rw [eachB_len]; rfl, by rw [eachB_len]; exact Hown.out, Hbel.out⟩
end Od
end Go.Proofs.YtbllehjhmfehbaaGreat
end

section
/-
 DERIVED: THE SHELF's CONTRACTS AT THIS DUMP, IN PLAIN WORDS (tools/lay-plain.mjs out of 'TryzGrowB.lean', which tools/lay-shelf.mjs wrote): THE SAME DECLARATIONS UNDER THE SAME NAMES: 'import', 'namespace', 'open', 'def', 'theorem' AND NOTHING ELSE: no command of the shelf's: FOR A HAND-IN. Each laying: the table of numbers ('.._ren') and one theorem, a field a fact of the dump's own or the kernel's comparison; each contract: ONE APPLICATION.
-/
namespace Go.Proofs.YtbllehjhmfehbaaGreat
open Go.Shelf
def Tryz.growB_ren : Go.Shelf.Ren := ⟨fun | 4 => 233 | n => n, fun | 22 => 175 | 25 => 145 | 3 => 3 | 4 => 4 | 9 => 9 | 20 => 20 | 0 => 0 | n => n, fun | n => n⟩
theorem Tryz.growB : Go.Proofs.Lays8.n4 Tryz.prog Tryz.growB_ren := {
 mixed := by kernel_rfl
 f4 := ⟨Tryz.f233.name, by decide, Tryz.func233.trans (congrArg some (by kernel_rfl))⟩
 t0 := Tryz.underlying0
 a0 := Tryz.isAgg0
 z0 := Tryz.sizeOf0
 v0 := Tryz.zeroValue0
 t3 := Tryz.underlying3
 a3 := Tryz.isAgg3
 z3 := Tryz.sizeOf3
 v3 := Tryz.zeroValue3
 t4 := Tryz.underlying4
 a4 := Tryz.isAgg4
 z4 := Tryz.sizeOf4
 v4 := Tryz.zeroValue4
 t9 := Tryz.underlying9
 a9 := Tryz.isAgg9
 z9 := Tryz.sizeOf9
 v9 := Tryz.zeroValue9
 t20 := Tryz.underlying20
 a20 := Tryz.isAgg20
 z20 := Tryz.sizeOf20
 v20 := Tryz.zeroValue20
 t22 := Tryz.underlying175
 a22 := Tryz.isAgg175
 z22 := Tryz.sizeOf175
 v22 := Tryz.zeroValue175 }
end Go.Proofs.YtbllehjhmfehbaaGreat
end

section
/- slices.Concat of rows of jobs that are brought. (bel2) -/
namespace Go.Proofs.YtbllehjhmfehbaaGreat
open Go.RowKit Go.Sort
set_option linter.unusedSimpArgs false
namespace Od
abbrev BRow := Option Addr × Nat × List Bg
def rowsF (rows : List BRow) : List Bg := rows.flatMap (·.2.2)
theorem rowsF_take {rows : List BRow} {k : Nat} (hk : k < rows.length) : rowsF (rows.take (k + 1)) = rowsF (rows.take k) ++ rows[k].2.2 := by
 unfold rowsF
 rw [List.take_succ_eq_append_getElem hk, List.flatMap_append]
 simp
theorem rowsF_le {rows : List BRow} (k : Nat) : (rowsF (rows.take k)).length ≤ (rowsF rows).length := by
 have h : rowsF rows = rowsF (rows.take k) ++ rowsF (rows.drop k) := by
  unfold rowsF
  rw [← List.flatMap_append, List.take_append_drop]
 rw [h, List.length_append]; omega
/-- The rows to be joined, as they lie behind a slice. -/
structure BRows (w : World) (b : Nat) (rows : List BRow) : Prop where
 cell : ∀ i, ∀ hi : i < rows.length, w.cell? ⟨b, i, none⟩ = some (.slice rows[i].1 rows[i].2.2.length rows[i].2.1)
 rd : ∀ i, ∀ hi : i < rows.length, Rd w w.heap.size 3 rows[i].1 rows[i].2.2.length (brsC rows[i].2.2)
 lt : b < w.heap.size
theorem BRows.at {w w' : World} {b : Nat} {rows : List BRow} (h : BRows w b rows) (hb : Below w.heap.size w w') : BRows w' b rows :=
 ⟨fun i hi => (hb.cell (p := ⟨b, i, none⟩) h.lt).trans (h.cell i hi), fun i hi => (h.rd i hi).at hb, Nat.lt_of_lt_of_le h.lt hb.size⟩
theorem GrowB_own (n : Nat) (w : World) (hn : n ≤ 1000000) : Calls Tryz.prog 233 #[.slice none 0 0, .int .i64 n] w fun e w' => ∃ A c, e = .returned (.slice A 0 c) ∧ w'.ownsRow w.heap.size 145 3 (.slice A 0 c) 0 [] ∧ Below w.heap.size w w' := by
 obtain ⟨i0, hi, hz0, hz1, hz2⟩ := info_parts infoBr
 rcases Nat.eq_zero_or_pos n with h0 | h0
 ·subst h0
  refine (show Calls Tryz.prog 233 _ w _ from Go.Proofs.Any8.slices_Grow_room (P := Tryz.prog) Tryz.growB none 0 0 0 w (by omega) (by omega) (by omega) (by omega)).mono ?_
  rintro e w' ⟨rfl, rfl⟩
  exact ⟨none, 0, rfl, World.ownsRow_nil _ _ _ _, Below.refl _ _⟩
 ·refine (show Calls Tryz.prog 233 _ w _ from Go.Proofs.Any8.slices_Grow_grow (P := Tryz.prog) Tryz.growB i0 (.agg #[.string ⟨#[]⟩, .int .i64 0, .bool false]) hi hz0 (by rw [hz1]; omega) none 0 0 n [] w (by omega) (by omega) (by rw [hz2]; omega) (by omega) (by simp) (fun _ => rfl) (fun a h => by cases h)).mono ?_
  rintro e w' ⟨rfl, rfl⟩
  have hle := grownCap_le_maxLen w (0 + n) 0 145 (by unfold maxLen; omega)
  refine ⟨_, _, rfl, ⟨rfl, .inr ⟨w.heap.size, _, _, rfl, Nat.le_refl _, by show (w.heap.push _)[w.heap.size]? = _; exact Array.getElem?_push_size, Nat.zero_le _, hle, ?_, by simp⟩⟩, (Below.drew (Below.refl _ _)).alloc (Nat.le_refl _) _⟩
  have hge2 := grownCap_ge w n 0 (Tryz.growB_ren.t 25)
  simp [size_zeroCells, Value.cells]
  omega
set_option maxRecDepth 100000 in
set_option maxHeartbeats 8000000 in
theorem ConcatB_any (b : Nat) (rows : List BRow) (w : World) (h : BRows w b rows) (hl : (rowsF rows).length ≤ 1000000) (hr : rows.length ≤ 100) :
  Calls Tryz.prog 209 #[.slice (some ⟨b, 0, none⟩) rows.length rows.length] w (OwnB (rowsF rows) w) := by
 obtain ⟨i0, hi, hz0, hz1, hz2⟩ := info_parts infoBr
 have H := Lib.hid h
 clear h
 go_enter Tryz.func209, Tryz.ntmps209
 go_wp2_with fail
 go_loop [3, 11] (fun s i => ∃ k : Nat, k ≤ rows.length ∧ i = .int .i64 k ∧ s = .int .i64 ((rowsF (rows.take k)).length : Nat)) (fun _ i => rows.length - (intOf i).toNat)
 case atStart => exact ⟨0, Nat.zero_le _, rfl, rfl⟩
 case round =>
  obtain ⟨k, hk, rfl, rfl⟩ := hrel
  by_cases hlt : k < rows.length
  ·have hc := H.out.cell k hlt
   have hft := congrArg List.length (rowsF_take hlt)
   have hle := rowsF_le (rows := rows) (k + 1)
   rw [hft] at hle
   rw [List.length_append] at hft hle
   generalize (rowsF (rows.take k)).length = m at hft hle
   generalize rows[k] = x at hc hft hle
   obtain ⟨A, c, l⟩ := x
   simp only at hc hft hle
   have hw1 : IntKind.i64.wrap ((m : Int) + (l.length : Int)) = ((m : Int) + (l.length : Int)) := IntWalk.i64_in _ (by omega)
   have hn1 : decide ((m : Int) + (l.length : Int) < 0) = false := by rw [decide_eq_false_iff_not]; omega
   have Hft := Lib.hid hft
   clear hft hle
   go_wp2_with fail
   go_round
   case rel => exact ⟨k + 1, by omega, by go_num, by rw [Hft.out]; simp⟩
   case measure => simp [intOf]; omega
  ·have hkl : k = rows.length := by omega
   subst hkl
   rw [List.take_length]
   go_wp2_with fail
   refine (GrowB_own (rowsF rows).length w hl).mono ?_
   rintro e w2 ⟨A, c, rfl, ho, hb⟩
   have HO := Lib.hid ho
   have HB := Lib.hid hb
   clear hb ho
   go_wp2_with fail
   go_loopw [6, 27] (fun v i wr => ∃ k : Nat, k ≤ rows.length ∧ i = .int .i64 k ∧ wr.ownsRow w.heap.size 145 3 v (rowsF (rows.take k)).length (brsC (rowsF (rows.take k))) ∧ Below w.heap.size w wr) (fun _ i _ => rows.length - (intOf i).toNat)
   case atStart => exact ⟨0, Nat.zero_le _, rfl, HO.out, HB.out⟩
   case round =>
    obtain ⟨k, hk, rfl, hown, hbel⟩ := hrel
    clear HO HB
    obtain ⟨A6, c6, rfl, _⟩ := own_rd hown
    have hsz : w.heap.size ≤ wr.heap.size := hbel.size
    have HR := Lib.hid (H.out.at hbel)
    by_cases hlt : k < rows.length
    ·have hc := HR.out.cell k hlt
     have hrd := HR.out.rd k hlt
     have hft := rowsF_take hlt
     have hle := rowsF_le (rows := rows) (k + 1)
     rw [hft, List.length_append] at hle
     generalize rowsF (rows.take k) = L at hft hle hown
     generalize rows[k] = x at hc hft hle hrd
     obtain ⟨Ax, cx, l⟩ := x
     simp only at hc hft hle hrd
     have h63 : L.length + l.length ≤ maxLen := by unfold maxLen; omega
     have hby : (L.length + l.length) * 32 ≤ 140737488355328 := by omega
     have Hft := Lib.hid hft
     have Hrd := Lib.hid hrd
     have HOr := Lib.hid hown
     have HBr := Lib.hid hbel
     clear hft hrd hown hbel
     go_wp2_with (first
      | (at_builtin; refine wpList_append_rd _ (by rfl) (.tmp 31) (.tmp 32) 175 (by rfl) w.heap.size 145 i0 _ 3 32 Tryz.underlying175 hi hz0 hz1 hz2 rfl (by decide) _ L.length (brsC L) (by rfl) HOr.out _ Ax l.length cx (brsC l) (by rfl) Hrd.out (one_brsC l) h63 hby hsz ?_; intro A7 c7 w7 ho7 hg7 hat7)
      | fail)
     go_roundw
     case rel => exact ⟨k + 1, by omega, by go_num, by rw [Hft.out, List.length_append, brsC_app]; exact ho7, HBr.out.grown hg7 hsz (fun j hj => (HOr.out.lt j hj).1)⟩
     case measure => simp [intOf]; omega
    ·have hkl : k = rows.length := by omega
     subst hkl
     rw [List.take_length] at hown ⊢
     have HOr := Lib.hid hown
     have HBr := Lib.hid hbel
     clear hown hbel
     go_wp2_with fail
     go_ret
     exact ⟨A6, c6, rfl, HOr.out, HBr.out⟩
end Od
end Go.Proofs.YtbllehjhmfehbaaGreat
end

section
/- The walk of graph.In. -/
namespace Go.Proofs.YtbllehjhmfehbaaGreat
open Go.RowKit Go.Sort
namespace Od
def inwP (u : Str) (rel : Int) (e : Ed) : Bool := e.2.1 == u && e.2.2 == rel
theorem inwRaw_is (es : List Ed) (u : Str) (rel : Int) : inwRaw es u rel = (es.filter (inwP u rel)).map (fun e => e.1) := rfl
theorem inwRaw_len (es : List Ed) (u : Str) (rel : Int) : (inwRaw es u rel).length ≤ es.length := by
 rw [inwRaw_is, List.length_map]; exact List.length_filter_le _ _
set_option maxRecDepth 100000 in
set_option maxHeartbeats 2000000 in
theorem GIn_any (An Ae : Option Addr) (nn cn ce : Nat) (es : List Ed) (u : Str) (rel : Int) (w : World) (hr : Rd w w.heap.size 3 Ae es.length (edsC es)) (hl : es.length ≤ 1000000) :
  Calls Tryz.prog 211 #[gV An nn cn Ae es.length ce, sv u, .int .i64 rel] w (OwnS (inwS es u rel) w) := by
 obtain ⟨i0, hi, hz0, hz1, hz2⟩ := info_parts infoS
 have Hr := Lib.hid hr
 clear hr
 go_enter Tryz.func211, Tryz.ntmps211
 go_wp2_with fail
 go_loopw [7, 13] (fun v i wr => ∃ k : Nat, k ≤ es.length ∧ i = .int .i64 k ∧ wr.ownsRow w.heap.size 9 1 v (inwRaw (es.take k) u rel).length (svs (inwRaw (es.take k) u rel)) ∧ Below w.heap.size w wr) (fun _ i _ => es.length - (intOf i).toNat)
 case atStart => exact ⟨0, Nat.zero_le _, rfl, World.ownsRow_nil _ _ _ _, (Below.refl _ _).alloc (Nat.le_refl _) _⟩
 case round =>
  obtain ⟨k, hk, rfl, hown, hbel⟩ := hrel
  by_cases hlt : k < es.length
  ·obtain ⟨bb, o, rfl, hB, hc0, hc1, hc2⟩ := (Hr.out.on (Nat.le_refl _) hbel).edge hlt
   have hz := hbel.size
   have n1 : bb < wr.heap.size := by omega
   have Hbel := Lib.hid (hbel.alloc hz (.cells #[sv es[k].1, sv es[k].2.1, .int .i64 es[k].2.2] 45))
   have Hown := Lib.hid (hown.alloc (.cells #[sv es[k].1, sv es[k].2.1, .int .i64 es[k].2.2] 45))
   have hln : (inwRaw (es.take k) u rel).length ≤ k := Nat.le_trans (inwRaw_len _ _ _) (by simp; omega)
   have h63 : (inwRaw (es.take k) u rel).length + 1 ≤ maxLen := by unfold maxLen; omega
   have hby : ((inwRaw (es.take k) u rel).length + 1) * 16 ≤ 140737488355328 := by omega
   have hft : inwRaw (es.take (k + 1)) u rel = inwRaw (es.take k) u rel ++ (if inwP u rel es[k] then [es[k].1] else []) := by
    rw [inwRaw_is, inwRaw_is, filter_take_succ hlt, List.map_append]; split <;> simp
   clear hbel hown
   generalize hx : es[k] = x at hc0 hc1 hc2 hft Hbel Hown
   obtain ⟨s, d, r⟩ := x
   clear hx
   simp only at hc0 hc1 hc2 Hbel Hown
   have hsz : w.heap.size ≤ (wr.alloc (.cells #[sv s, sv d, .int .i64 r] 45)).heap.size := by simp; omega
   cases hp : inwP u rel (s, d, r)
   ·rw [hp] at hft
    simp only [Bool.false_eq_true, if_false, List.append_nil] at hft
    have Hft := Lib.hid hft
    clear hft
    have hp' : (d == u) = false ∨ ((d == u) = true ∧ (r == rel) = false) := by
     unfold inwP at hp
     cases h1 : (d == u)
     ·exact .inl rfl
     ·simp only [h1, Bool.true_and] at hp; exact .inr ⟨rfl, hp⟩
    rcases hp' with h1 | ⟨h1, h2⟩
    ·have h1' : ¬ d = u := by simpa using h1
     go_wp2_with fail
     go_roundw
     case rel => exact ⟨k + 1, by omega, by go_num, by rw [Hft.out]; exact Hown.out, Hbel.out⟩
     case measure => simp [intOf]; omega
    ·have h1' : d = u := by simpa using h1
     subst h1'
     have h2' : ¬ r = rel := by simpa using h2
     go_wp2_with fail
     go_roundw
     case rel => exact ⟨k + 1, by omega, by go_num, by rw [Hft.out]; exact Hown.out, Hbel.out⟩
     case measure => simp [intOf]; omega
   ·rw [hp] at hft
    simp only [if_true] at hft
    have Hft := Lib.hid hft
    clear hft
    have hp2 : d = u ∧ r = rel := by simpa [inwP] using hp
    obtain ⟨rfl, rfl⟩ := hp2
    go_wp2_with (at_builtin; refine wpList_pushm w (wr.alloc (.cells #[sv s, sv d, .int .i64 r] 45)) (by rfl) _ _ 26 (by rfl) w.heap.size 9 i0 (.string ⟨#[]⟩) 1 16 Tryz.underlying26 hi hz0 hz1 hz2 rfl (by decide) _ _ _ (by rfl) Hown.out [sv s] (wr.heap.size + 1) (by simp) (by rfl) rfl (by simp [Value.oneCell']) h63 hby hsz Hbel.out ?_; intro A1 c1 w1 hown1 hbel1 hg1 hat1)
    go_roundw
    case rel => exact ⟨k + 1, by omega, by go_num, by rw [Hft.out]; simpa [svs] using hown1, hbel1⟩
    case measure => simp [intOf]; omega
  ·have hkl : k = es.length := by omega
   subst hkl
   rw [List.take_length] at hown
   obtain ⟨A, c, rfl, _⟩ := own_rd hown
   have Hown := Lib.hid hown
   have Hbel := Lib.hid hbel
   clear hown hbel
   have hln := inwRaw_len es u rel
   go_wp2_with fail
   refine (once_own _ c A (inwRaw es u rel) _ Hown.out (by omega)).mono ?_
   rintro e w2 ⟨rfl, h2, g2⟩
   have H2 := Lib.hid h2
   have G2 := Lib.hid g2
   clear h2 g2
   go_wp2_with fail
   go_ret
   exact ⟨A, c, rfl, H2.out, Hbel.out.grown G2.out Hbel.out.size (fun j hj => (Hown.out.lt j hj).1)⟩
end Od
end Go.Proofs.YtbllehjhmfehbaaGreat
end
