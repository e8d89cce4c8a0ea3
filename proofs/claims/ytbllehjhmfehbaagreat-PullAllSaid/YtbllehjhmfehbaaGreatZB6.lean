/- My texts, joined for the claim: GSortM SortPair OPairs OPairs2 GRowK OComp GBfs. -/
import Derived.Test.YtbllehjhmfehbaaGreatZB2
import Derived.Shelf.SlSortCmp.NoneTotal
import Derived.Ground.SlsfProg
import Derived.Test.YtbllehjhmfehbaaGreatProg
import Derived.Test.YtbllehjhmfehbaaGreatZB0
import Derived.Shelf.GgSortFunc.RowK
import Derived.Lib.SliceRun
import Derived.Lib.SlicesCompact
import Derived.Sort.OwnSorted
import Derived.Test.YtbllehjhmfehbaaGreatRows
import Derived.Shelf.RegionOpenPlain
import Derived.Deep.LoopGhost
import Derived.Lib.Walk

section
/- Units in order: what both sorts come to. No program. -/
namespace Go.Proofs.YtbllehjhmfehbaaGreat
open Go.RowKit
namespace Od
def pairAh (a b : Str) (e : Ed) : Bool := pairE e == some (a, b)
/-- Is one of left directly ahead of b? -/
def waitsB (es : List Ed) (left : List Str) (b : Str) : Bool := left.any (fun a => es.any (pairAh a b))
def freeAt (es : List Ed) (left : List Str) : Option Nat := left.findIdx? (fun b => !waitsB es left b)
def sortGo (es : List Ed) : Nat → List Str → List Str → Option (List Str)
  | _, [], out => some out
  | 0, _ :: _, _ => none
  | n + 1, x :: r, out => match freeAt es (x :: r) with
    | none => none
    | some i => sortGo es n ((x :: r).eraseIdx i) (out ++ [(x :: r).getD i []])
def sortU (es : List Ed) (units : List Str) : Option (List Str) := sortGo es (canon ltS units).length (canon ltS units) []
theorem sortGo_nil (es : List Ed) (n : Nat) (out : List Str) : sortGo es n [] out = some out := by cases n <;> rfl
theorem sortGo_none {es : List Ed} {left out : List Str} (h0 : 0 < left.length) (h : ∀ j (hj : j < left.length), waitsB es left left[j] = true) : sortGo es left.length left out = none := by
  cases left with
  | nil => simp at h0
  | cons x r =>
    have hf : freeAt es (x :: r) = none := by
      unfold freeAt
      rw [List.findIdx?_eq_none_iff]
      intro y hy
      obtain ⟨j, hj, e⟩ := List.mem_iff_getElem.1 hy
      have := h j hj
      rw [e] at this
      simp [this]
    show sortGo es (r.length + 1) (x :: r) out = none
    simp only [sortGo, hf]
theorem sortGo_some {es : List Ed} {left out : List Str} {k : Nat} (hk : k < left.length) (h : ∀ j (hj : j < left.length), j < k → waitsB es left left[j] = true) (hw : waitsB es left left[k] = false) :
    sortGo es left.length left out = sortGo es (left.eraseIdx k).length (left.eraseIdx k) (out ++ [left[k]]) := by
  cases left with
  | nil => simp at hk
  | cons x r =>
    have hf : freeAt es (x :: r) = some k := by
      unfold freeAt
      rw [List.findIdx?_eq_some_iff_getElem]
      refine ⟨hk, by simp [hw], fun j hj => ?_⟩
      have := h j (by omega) hj
      simp [this]
    have hl : ((x :: r).eraseIdx k).length = r.length := by rw [List.length_eraseIdx, if_pos hk]; simp
    rw [hl]
    show sortGo es (r.length + 1) (x :: r) out = _
    simp only [sortGo, hf]
    rw [List.getD_eq_getElem?_getD, List.getElem?_eq_getElem hk]
    rfl
theorem erase_cut {l : List Str} (k : Nat) : l.eraseIdx k = l.take k ++ l.drop (k + 1) := List.eraseIdx_eq_take_drop_succ l k
end Od
end Go.Proofs.YtbllehjhmfehbaaGreat
end

section
/-
  DERIVED: THE SHELF's CONTRACTS AT THIS DUMP, IN PLAIN WORDS (tools/lay-plain.mjs out of 'TryzSortPair.lean', which tools/lay-shelf.mjs wrote): THE SAME DECLARATIONS UNDER THE SAME NAMES: 'import', 'namespace', 'open', 'def', 'theorem' AND NOTHING ELSE: no command of the shelf's: FOR A HAND-IN. Each laying: the table of numbers ('.._ren') and one theorem, a field a fact of the dump's own or the kernel's comparison; each contract: ONE APPLICATION.
-/
namespace Go.Proofs.YtbllehjhmfehbaaGreat
open Go.Shelf
def Tryz.sortPair_ren : Go.Shelf.Ren := ⟨fun | 6 => 159 | 15 => 92 | 14 => 202 | 28 => 134 | 29 => 135 | 20 => 223 | 21 => 224 | 22 => 225 | 23 => 226 | 24 => 227 | 25 => 228 | 26 => 229 | 27 => 230 | 46 => 240 | 47 => 182 | 48 => 183 | 49 => 241 | 50 => 242 | 57 => 245 | n => n, fun | 22 => 169 | 24 => 137 | 25 => 207 | 3 => 3 | 39 => 150 | 0 => 0 | 53 => 185 | 55 => 187 | 4 => 4 | 46 => 179 | 45 => 178 | 50 => 63 | 5 => 5 | 9 => 9 | 66 => 222 | 70 => 226 | 76 => 247 | 77 => 248 | n => n, fun | n => n⟩
theorem Tryz.sortPair : Go.Proofs.SlLaysF0.n6 Tryz.prog Tryz.sortPair_ren := {
  mixed := by kernel_rfl
  f6 := ⟨Tryz.f159.name, by decide, Tryz.func159.trans (congrArg some (by kernel_rfl))⟩
  f14 := ⟨Tryz.f202.name, by decide, Tryz.func202.trans (congrArg some (by kernel_rfl))⟩
  f15 := Tryz.func92.trans (congrArg some (by kernel_rfl))
  f20 := ⟨Tryz.f223.name, by decide, Tryz.func223.trans (congrArg some (by kernel_rfl))⟩
  f21 := ⟨Tryz.f224.name, by decide, Tryz.func224.trans (congrArg some (by kernel_rfl))⟩
  f22 := ⟨Tryz.f225.name, by decide, Tryz.func225.trans (congrArg some (by kernel_rfl))⟩
  f23 := ⟨Tryz.f226.name, by decide, Tryz.func226.trans (congrArg some (by kernel_rfl))⟩
  f24 := ⟨Tryz.f227.name, by decide, Tryz.func227.trans (congrArg some (by kernel_rfl))⟩
  f25 := ⟨Tryz.f228.name, by decide, Tryz.func228.trans (congrArg some (by kernel_rfl))⟩
  f26 := ⟨Tryz.f229.name, by decide, Tryz.func229.trans (congrArg some (by kernel_rfl))⟩
  f27 := ⟨Tryz.f230.name, by decide, Tryz.func230.trans (congrArg some (by kernel_rfl))⟩
  f28 := Tryz.func134.trans (congrArg some (by kernel_rfl))
  f29 := Tryz.func135.trans (congrArg some (by kernel_rfl))
  f46 := ⟨Tryz.f240.name, by decide, Tryz.func240.trans (congrArg some (by kernel_rfl))⟩
  f47 := Tryz.func182.trans (congrArg some (by kernel_rfl))
  f48 := Tryz.func183.trans (congrArg some (by kernel_rfl))
  f49 := ⟨Tryz.f241.name, by decide, Tryz.func241.trans (congrArg some (by kernel_rfl))⟩
  f50 := ⟨Tryz.f242.name, by decide, Tryz.func242.trans (congrArg some (by kernel_rfl))⟩
  f57 := ⟨Tryz.f245.name, by decide, Tryz.func245.trans (congrArg some (by kernel_rfl))⟩
  t0 := Tryz.underlying0
  a0 := Tryz.isAgg0
  z0 := Tryz.sizeOf0
  v0 := Tryz.zeroValue0
  t3 := Tryz.underlying3
  a3 := Tryz.isAgg3
  z3 := Tryz.sizeOf3
  v3 := Tryz.zeroValue3
  t4 := Tryz.underlying4
  a4 := Tryz.isAgg4
  z4 := Tryz.sizeOf4
  v4 := Tryz.zeroValue4
  t5 := Tryz.underlying5
  a5 := Tryz.isAgg5
  z5 := Tryz.sizeOf5
  v5 := Tryz.zeroValue5
  t9 := Tryz.underlying9
  a9 := Tryz.isAgg9
  z9 := Tryz.sizeOf9
  v9 := Tryz.zeroValue9
  t22 := Tryz.underlying169
  a22 := Tryz.isAgg169
  z22 := Tryz.sizeOf169
  v22 := Tryz.zeroValue169
  t25 := Tryz.underlying207
  a25 := Tryz.isAgg207
  z25 := Tryz.sizeOf207
  v25 := Tryz.zeroValue207
  t39 := Tryz.underlying150
  a39 := Tryz.isAgg150
  z39 := Tryz.sizeOf150
  v39 := Tryz.zeroValue150
  t45 := Tryz.underlying178
  a45 := Tryz.isAgg178
  z45 := Tryz.sizeOf178
  v45 := Tryz.zeroValue178
  t46 := Tryz.underlying179
  a46 := Tryz.isAgg179
  z46 := Tryz.sizeOf179
  v46 := Tryz.zeroValue179
  t50 := Tryz.underlying63
  a50 := Tryz.isAgg63
  z50 := Tryz.sizeOf63
  v50 := Tryz.zeroValue63
  t53 := Tryz.underlying185
  a53 := Tryz.isAgg185
  z53 := Tryz.sizeOf185
  v53 := Tryz.zeroValue185
  t55 := Tryz.underlying187
  a55 := Tryz.isAgg187
  z55 := Tryz.sizeOf187
  v55 := Tryz.zeroValue187
  t66 := Tryz.underlying222
  a66 := Tryz.isAgg222
  z66 := Tryz.sizeOf222
  v66 := Tryz.zeroValue222
  t70 := Tryz.underlying226
  a70 := Tryz.isAgg226
  z70 := Tryz.sizeOf226
  v70 := Tryz.zeroValue226
  t76 := Tryz.underlying247
  a76 := Tryz.isAgg247
  z76 := Tryz.sizeOf247
  v76 := Tryz.zeroValue247
  t77 := Tryz.underlying248
  a77 := Tryz.isAgg248
  z77 := Tryz.sizeOf248
  v77 := Tryz.zeroValue248 }
end Go.Proofs.YtbllehjhmfehbaaGreat
end

section
/- The walk of what tells which of two pairs stands ahead; the sort of a row of pairs. -/
namespace Go.Proofs.YtbllehjhmfehbaaGreat
open Go.RowKit Go.Sort Go.Lib

namespace Od
def pairCmp (p q : Pr) : Int := orI [cmpS p.1 q.1, cmpS p.2 q.2]
theorem grow_drew (w : World) (os : Array Obj) : (grow w os).drew = grow w.drew os := rfl
def GrowInt (v : Int) (w : World) (e : Ending) (w' : World) : Prop := e = .returned (.int .i64 v) ∧ ∃ q os', w' = grow (w.drewN q) os'
set_option maxRecDepth 100000 in
set_option maxHeartbeats 1000000 in
theorem pairs1_any (a b a' b' : Str) (w : World) :
    Calls Tryz.prog 160 #[.agg #[sv a, sv b], .agg #[sv a', sv b']] w (GrowInt (pairCmp (a, b) (a', b')) w) := by
  have h3 : Rd ((((w.alloc (.cells #[sv a, sv b] 137)).alloc (.cells #[sv a', sv b'] 137)).alloc (.cells #[.int .i64 (cmpS a a'), .int .i64 (cmpS b b')] 3)).drew) ((((w.alloc (.cells #[sv a, sv b] 137)).alloc (.cells #[sv a', sv b'] 137)).alloc (.cells #[.int .i64 (cmpS a a'), .int .i64 (cmpS b b')] 3)).drew).heap.size 1 (some ⟨w.heap.size + 1 + 1, 0, none⟩) 2 (ints [cmpS a a', cmpS b b']) := by
    have h := (Rd.lit ((w.alloc (.cells #[sv a, sv b] 137)).alloc (.cells #[sv a', sv b'] 137)) (ints [cmpS a a', cmpS b b']) 3 1 2 rfl).drew
    simp only [World.size_alloc] at h
    exact h.more (by simp)
  have H3 := Lib.hid h3
  clear h3
  go_enter Tryz.func160, Tryz.ntmps160
  go_wp2_with fail
  go_region_held3 (fun w' => w'.cell? ⟨w.heap.size, 0, none⟩ = some (sv a) ∧ w'.cell? ⟨w.heap.size, 1, none⟩ = some (sv b) ∧ w'.cell? ⟨w.heap.size + 1, 0, none⟩ = some (sv a') ∧ w'.cell? ⟨w.heap.size + 1, 1, none⟩ = some (sv b')) (go_keep)
    (first | (go_at_call 68; refine (CompareS_any _ _ _).mono ?_; rintro e w' ⟨rfl, rfl⟩) | (go_at_call 93; refine (Or_any (some ⟨w.heap.size + 1 + 1, 0, none⟩) 2 [cmpS a a', cmpS b b'] _ H3.out (by simp)).mono ?_; rintro e w' ⟨rfl, rfl⟩))
  go_wp2_with fail
  go_ret
  exact ⟨rfl, 1, _, by rw [alloc_eq_grow, alloc_eq_grow, alloc_eq_grow, grow_grow, grow_grow, grow_drew]; rfl⟩
theorem pairCmp_lt (p q : Pr) : ltOf pairCmp p q = ltP p q := by
  unfold ltOf pairCmp ltP
  have hs : ∀ a b : Str, cmpS a b = if ltS a b = true then -1 else if a = b then 0 else 1 := fun _ _ => rfl
  rw [hs, hs]
  by_cases h1 : ltS p.1 q.1 = true
  · simp [h1, orI]
  · by_cases h2 : p.1 = q.1
    · rw [h2] at h1
      by_cases h3 : ltS p.2 q.2 = true
      · simp [h1, h2, h3, orI]
      · by_cases h4 : p.2 = q.2
        · rw [h4] at h3
          simp [h1, h2, h3, h4, orI]
        · simp [h1, h2, h3, h4, orI]
    · simp [h1, h2, orI]
theorem pairCmp_fun : ltOf pairCmp = ltP := by funext p q; exact pairCmp_lt p q
theorem swoP : SWO (ltOf pairCmp) where
  irrefl x := by rw [pairCmp_fun]; exact toP.irrefl x
  trans x y z h1 h2 := by rw [pairCmp_fun] at *; exact toP.trans h1 h2
  ntrans x y z h1 h2 := by
    rw [pairCmp_fun] at *
    cases h : ltP x z
    · rfl
    · exfalso
      cases h3 : ltP y x
      · rw [toP.total h1 h3] at h; rw [h] at h2; cases h2
      · have := toP.trans h3 h; rw [this] at h2; cases h2
end Od
end Go.Proofs.YtbllehjhmfehbaaGreat
end

section
/- The sort of a row of pairs of the call's own. -/
namespace Go.Proofs.YtbllehjhmfehbaaGreat
open Go.RowKit Go.Sort Go.Lib Go.Shelf

namespace Od
theorem prsC_len (ps : List Pr) : (prsC ps).length = ps.length * 2 := flat_len prC 2 prC_len ps
theorem flatK_prs (ps : List Pr) : flatK prC 2 ps.toArray = (prsC ps).toArray := by
  refine ext_get! (by simp [prsC_len]) fun t ht => ?_
  have ht' : t < ps.length * 2 := by simpa using ht
  rw [get_flatK _ _ _ t (by simpa using ht')]
  have hi : t / 2 < ps.length := by omega
  have h := flat_at prC 2 prC_len ps (t / 2) (t % 2) hi (by omega)
  rw [show t / 2 * 2 + t % 2 = t by omega] at h
  have e1 : ps.toArray[t / 2]! = ps[t / 2] := by simp [hi]
  rw [e1]
  have e2 : (prsC ps).toArray[t]! = ((prsC ps)[t]?).getD default := by simp [List.getElem!_eq_getElem?_getD]
  rw [e2, show (prsC ps)[t]? = (prC ps[t / 2])[t % 2]? from h]
  simp [List.getElem!_eq_getElem?_getD]

theorem heap_row {w : World} {g n : Nat} {os : Array Obj} {cur : Array Value} {e : TypeId} {fr : Nat × Nat} (F : Array Value) (hb : w.heap[g]? = some (.cells cur e fr)) :
    (grow (putRow id (Sort.ahead w n) g 0 F) os).heap[g]? = some (.cells (putCells id 0 F cur) e fr) := by
  have hg : g < w.heap.size := (Array.getElem?_eq_some_iff.1 hb).1
  rw [heap_grow_old _ _ (by simpa using hg)]
  simp [putRow, mapBlock, Sort.ahead, Array.getElem?_modify, hb, onCells]
theorem grownBy_row {w : World} {g n : Nat} {os : Array Obj} (F : Array Value) : w.grownBy (grow (putRow id (Sort.ahead w n) g 0 F) os) (some g) := by
  refine ⟨rfl, rfl, rfl, by simp, fun k hk hne => ?_⟩
  rw [heap_grow_old _ _ (by simpa using hk)]
  have : g ≠ k := fun e => hne (by rw [e])
  simp [putRow, mapBlock, Sort.ahead, Array.getElem?_modify, this]
theorem take_putCellsI (cur : Array Value) (xs : List Value) (h : xs.length ≤ cur.size) : (putCells id 0 xs.toArray cur).toList.take xs.length = xs := by
  apply List.ext_getElem?
  intro j
  by_cases hj : j < xs.length
  · rw [List.getElem?_take_of_lt hj, Array.getElem?_toList]
    simp [putCells, hj, show j < cur.size by omega]
  · rw [List.getElem?_take_eq_none (by omega), List.getElem?_eq_none (by omega)]
theorem holds_row {w : World} {g : Nat} {cur : Array Value} {e : TypeId} {xs : List Value} (hb : w.heap[g]? = some (.cells cur e (0, 0))) (ht : cur.toList.take xs.length = xs) : Holds id w g 0 xs.toArray := by
  intro j hj
  have hj' : j < xs.length := by simpa using hj
  refine ⟨?_, by simp [World.frozen?, hb]⟩
  have h1 : (cur.toList.take xs.length)[j]? = xs[j]? := by rw [ht]
  rw [List.getElem?_take_of_lt hj'] at h1
  simp only [World.cell?, hb, Nat.zero_add]
  simp only [Option.isSome_none, Bool.false_eq_true, if_false]
  rw [← Array.getElem?_toList, h1]
  simp [hj']

def sortP (ps : List Pr) : List Pr := ps.mergeSort fun x y => !ltP y x
theorem sortP_len (ps : List Pr) : (sortP ps).length = ps.length := by simp [sortP]
theorem mem_sortP {ps : List Pr} {p : Pr} : p ∈ sortP ps ↔ p ∈ ps := (List.mergeSort_perm _ _).mem_iff
theorem sortP_le (ps : List Pr) : LE ltP (sortP ps) := by
  have h := List.pairwise_mergeSort (le := fun x y => !ltP y x) (fun a b c h1 h2 => by
    simp only [Bool.not_eq_true'] at *
    have := swoP.ntrans (x := c) (y := b) (z := a)
    rw [pairCmp_fun] at this
    exact this h2 h1) (fun a b => by
    cases h1 : ltP b a
    · simp
    · cases h2 : ltP a b
      · simp
      · have := toP.trans h1 h2; rw [toP.irrefl] at this; cases this) ps
  exact h.imp fun {a b} hab => by simpa using hab

set_option maxHeartbeats 1000000 in
theorem sortP_own (base c : Nat) (A : Option Addr) (ps : List Pr) (w : World) (h : w.ownsRow base 137 2 (.slice A ps.length c) ps.length (prsC ps)) (hsz : ps.length ≤ 1000000) :
    Calls Tryz.prog 159 #[.slice A ps.length c, .func (.func 160) #[] #[]] w fun e w' => e = .returned (.tuple #[]) ∧ w'.ownsRow base 137 2 (.slice A ps.length c) ps.length (prsC (sortP ps)) ∧ w.grownBy w' (Value.slice A ps.length c).ownBlock := by
  rcases h.2 with ⟨hv, hn⟩ | ⟨g, cap, cur, hv, hg, hb, h1, h2, h3, h4⟩
  · have hnil : ps = [] := List.length_eq_zero_iff.1 hn
    subst hnil
    refine (show Calls Tryz.prog 159 _ w _ from AnyF.slices_SortFunc_none Tryz.sortPair A c _ w).mono ?_
    rintro e w' ⟨rfl, rfl⟩
    exact ⟨rfl, by simpa [sortP] using h, World.grownBy.refl _ _⟩
  · injection hv with e1 _ e3
    subst e1 e3
    have hgl : g < w.heap.size := (Array.getElem?_eq_some_iff.1 hb).1
    have hlen := prsC_len ps
    have eg : ∀ args w, (callFunc 160 args).run Tryz.prog w = .ok (.enter 160 args) w := enters_of Tryz.func160 (by kernel_rfl) rfl
    have hH : HoldsK prC 2 w g 0 ps.toArray := by
      unfold HoldsK
      rw [flatK_prs]
      exact holds_row hb (by rw [hlen]; exact h4)
    have hcon := AnyQ.slices_SortFunc_total (P := Tryz.prog) Tryz.sortPair 2 (by intro w; exact Tryz.isAgg137 w) (by intro w; exact Tryz.sizeOf137 w) prC prC_len (fun x v hv => by simp [prC] at hv; rcases hv with rfl | rfl <;> rfl) pairCmp swoP 160 #[] g 0 c ps.toArray w eg
      (fun _ _ _ _ x y => pairs1_any x.1 x.2 y.1 y.2 _) hH hgl (by simp; omega) (by intro x y hx hy; rw [pairCmp_fun] at hx hy; exact toP.total hx hy)
    change Calls Tryz.prog 159 _ _ _ at hcon
    simp only [List.size_toArray] at hcon
    refine hcon.mono ?_
    rintro e w' ⟨rfl, n, os, rfl⟩
    have hsort : (ps.mergeSort fun x y => !(ltOf pairCmp) y x) = sortP ps := by rw [pairCmp_fun]; rfl
    unfold sortWorldK putRowK
    rw [hsort, flatK_prs]
    have hl2 : (prsC (sortP ps)).length = ps.length * 2 := by rw [prsC_len, sortP_len]
    refine ⟨rfl, ⟨hl2, .inr ⟨g, c, _, rfl, hg, heap_row _ hb, h1, h2, by simp [putCells, h3], ?_⟩⟩, grownBy_row _⟩
    rw [← hl2]
    exact take_putCellsI cur _ (by omega)
end Od
end Go.Proofs.YtbllehjhmfehbaaGreat
end

section
/- Rows of elements of several cells, in the sort's words (putRowK, HoldsK) and in the walks' words (ownsRow). No program. -/
namespace Go.Proofs.YtbllehjhmfehbaaGreat
open Go.RowKit Go.Sort Go.Lib

section
variable {α : Type} [Inhabited α] {enc : α → List Value} {k : Nat}

theorem flatK_list (hk : ∀ x, (enc x).length = k) (hk0 : 0 < k) (ps : List α) : flatK enc k ps.toArray = (ps.flatMap enc).toArray := by
  have hl := flat_len enc k hk ps
  refine ext_get! (by simp [hl]) fun t ht => ?_
  have ht' : t < ps.length * k := by simpa using ht
  rw [get_flatK _ _ _ t (by simpa using ht')]
  have hi : t / k < ps.length := by rw [Nat.div_lt_iff_lt_mul hk0]; exact ht'
  have hm : t % k < k := Nat.mod_lt _ hk0
  have h := flat_at enc k hk ps (t / k) (t % k) hi hm
  rw [show t / k * k + t % k = t from by rw [Nat.mul_comm]; exact Nat.div_add_mod t k] at h
  have e1 : ps.toArray[t / k]! = ps[t / k] := by simp [hi]
  rw [e1]
  have e2 : (ps.flatMap enc).toArray[t]! = ((ps.flatMap enc)[t]?).getD default := by simp [List.getElem!_eq_getElem?_getD]
  rw [e2, h]
  simp [List.getElem!_eq_getElem?_getD]
theorem rowk_heap {w : World} {g n : Nat} {os : Array Obj} {cur : Array Value} {e : TypeId} {fr : Nat × Nat} (F : Array Value) (hb : w.heap[g]? = some (.cells cur e fr)) :
    (grow (putRow id (Sort.ahead w n) g 0 F) os).heap[g]? = some (.cells (putCells id 0 F cur) e fr) := by
  have hg : g < w.heap.size := (Array.getElem?_eq_some_iff.1 hb).1
  rw [heap_grow_old _ _ (by simpa using hg)]
  simp [putRow, mapBlock, Sort.ahead, Array.getElem?_modify, hb, onCells]
theorem rowk_grownBy {w : World} {g n : Nat} {os : Array Obj} (F : Array Value) : w.grownBy (grow (putRow id (Sort.ahead w n) g 0 F) os) (some g) := by
  refine ⟨rfl, rfl, rfl, by simp, fun k hk hne => ?_⟩
  rw [heap_grow_old _ _ (by simpa using hk)]
  have : g ≠ k := fun e => hne (by rw [e])
  simp [putRow, mapBlock, Sort.ahead, Array.getElem?_modify, this]
theorem rowk_take (cur : Array Value) (xs : List Value) (h : xs.length ≤ cur.size) : (putCells id 0 xs.toArray cur).toList.take xs.length = xs := by
  apply List.ext_getElem?
  intro j
  by_cases hj : j < xs.length
  · rw [List.getElem?_take_of_lt hj, Array.getElem?_toList]
    simp [putCells, hj, show j < cur.size by omega]
  · rw [List.getElem?_take_eq_none (by omega), List.getElem?_eq_none (by omega)]
theorem rowk_holds {w : World} {g : Nat} {cur : Array Value} {e : TypeId} {xs : List Value} (hb : w.heap[g]? = some (.cells cur e (0, 0))) (ht : cur.toList.take xs.length = xs) : Holds id w g 0 xs.toArray := by
  intro j hj
  have hj' : j < xs.length := by simpa using hj
  refine ⟨?_, by simp [World.frozen?, hb]⟩
  have h1 : (cur.toList.take xs.length)[j]? = xs[j]? := by rw [ht]
  rw [List.getElem?_take_of_lt hj'] at h1
  simp only [World.cell?, hb, Nat.zero_add]
  simp only [Option.isSome_none, Bool.false_eq_true, if_false]
  rw [← Array.getElem?_toList, h1]
  simp [hj']

theorem setMany_row (hk : ∀ x, (enc x).length = k) (hk0 : 0 < k) (d : Array α) (i : Nat) (hi : i < d.size) (x : α) : setMany (flatK enc k d) (i * k) (enc x) = flatK enc k (d.setIfInBounds i x) := by
  refine ext_get! (by simp) fun t ht => ?_
  have ht' : t < d.size * k := by simpa using ht
  rw [get_setMany _ _ _ t (by simpa using ht'), get_flatK _ _ _ t ht', get_flatK _ _ _ t (by simpa using ht')]
  rw [hk]
  have hdm := Nat.div_add_mod t k
  have hm : t % k < k := Nat.mod_lt _ hk0
  by_cases h : t / k = i
  · subst h
    rw [Nat.mul_comm] at hdm
    rw [if_pos (by omega), getElem!_set_same d _ x hi]
    congr 1
    omega
  · rw [getElem!_set_other d i (t / k) x h, if_neg]
    intro hc
    apply h
    have h1 : i ≤ t / k := (Nat.le_div_iff_mul_le hk0).2 hc.1
    have h2 : t / k < i + 1 := by rw [Nat.div_lt_iff_lt_mul hk0, Nat.add_mul]; omega
    omega
theorem putRowK_store (hk : ∀ x, (enc x).length = k) (hk0 : 0 < k) {W wr : World} {blk off : Nat} {dk : Array α} {i : Nat} (hi : i < dk.size) (hwr : wr = putRowK enc k W blk off dk) (x : α) :
    wr.setCells blk (off + i * k) (enc x) = putRowK enc k W blk off (dk.setIfInBounds i x) := by
  subst hwr
  unfold putRowK
  rw [setCells_putRow _ _ _ _ _ _ (by rw [hk, size_flatK]; calc i * k + k = (i + 1) * k := by rw [Nat.add_mul]; omega
    _ ≤ dk.size * k := Nat.mul_le_mul_right _ hi), setMany_row hk hk0 dk i hi x]
theorem setCells_app (w : World) (b : Nat) : ∀ (xs ys : List Value) (o : Nat), w.setCells b o (xs ++ ys) = (w.setCells b o xs).setCells b (o + xs.length) ys := by
  intro xs
  induction xs generalizing w with
  | nil => intro ys o; simp [World.setCells]
  | cons x r ih => intro ys o; simp only [List.cons_append, World.setCells, List.length_cons]; rw [ih, show o + 1 + r.length = o + (r.length + 1) by omega]
theorem putRowK_lay (hk : ∀ x, (enc x).length = k) (hk0 : 0 < k) (W : World) (blk off : Nat) : ∀ (xs : List α) (dk : Array α) (i : Nat), i + xs.length ≤ dk.size → (putRowK enc k W blk off dk).setCells blk (off + i * k) (xs.flatMap enc) = putRowK enc k W blk off (lay dk i xs)
  | [], _, _, _ => by simp [World.setCells, lay]
  | x :: r, dk, i, h => by
    have hl : i + (r.length + 1) ≤ dk.size := by simpa using h
    rw [List.flatMap_cons, setCells_app, putRowK_store hk hk0 (by omega) rfl x, hk, show off + i * k + k = off + (i + 1) * k from by rw [Nat.add_mul]; omega, putRowK_lay hk hk0 W blk off r _ (i + 1) (by simp; omega), lay]

/-- What is owned, in the sort's words. -/
theorem own_holdsK (hk : ∀ x, (enc x).length = k) (hk0 : 0 < k) {w : World} {g : Nat} {cur : Array Value} {e : TypeId} {ps : List α} (hb : w.heap[g]? = some (.cells cur e (0, 0))) (ht : cur.toList.take (ps.length * k) = ps.flatMap enc) : HoldsK enc k w g 0 ps.toArray := by
  unfold HoldsK
  rw [flatK_list hk hk0]
  exact rowk_holds hb (by rw [flat_len enc k hk]; exact ht)
/-- What the sort's words leave, owned: the first m elements of what was laid. -/
theorem own_of_putRowK (hk : ∀ x, (enc x).length = k) (hk0 : 0 < k) {w : World} {base g c n q : Nat} {e : TypeId} {cur : Array Value} {ps : List α} {os : Array Obj} (hg : base ≤ g) (hb : w.heap[g]? = some (.cells cur e (0, 0))) (hc : n ≤ c) (hm : c ≤ maxLen) (hs : cur.size = c * k)
    (hn : n ≤ ps.length) (hp : ps.length ≤ c) : (grow (putRowK enc k (Sort.ahead w q) g 0 ps.toArray) os).ownsRow base e k (.slice (some ⟨g, 0, none⟩) n c) n ((ps.take n).flatMap enc) := by
  have hl := flat_len enc k hk ps
  have hl2 := flat_len enc k hk (ps.take n)
  rw [List.length_take, Nat.min_eq_left hn] at hl2
  unfold putRowK
  rw [flatK_list hk hk0]
  refine ⟨hl2, .inr ⟨g, c, _, rfl, hg, rowk_heap _ hb, hc, hm, by simp [putCells, hs], ?_⟩⟩
  have h1 := rowk_take cur (ps.flatMap enc) (by rw [hl, hs]; exact Nat.mul_le_mul_right _ hp)
  have h2 := congrArg (List.take (n * k)) h1
  have hle : n * k ≤ ps.length * k := Nat.mul_le_mul_right _ hn
  rw [List.take_take, Nat.min_eq_left (by omega)] at h2
  rw [h2]
  have : ps.flatMap enc = (ps.take n).flatMap enc ++ (ps.drop n).flatMap enc := by rw [← List.flatMap_append, List.take_append_drop]
  rw [this, List.take_append_of_le_length (by omega), List.take_of_length_le (by omega)]
end
end Go.Proofs.YtbllehjhmfehbaaGreat
end

section
/- The walk of slices.Compact at pairs of texts. -/
namespace Go.Proofs.YtbllehjhmfehbaaGreat
open Go.RowKit Go.Sort Go.Lib Go.Shelf

namespace Od
theorem mixed_ : Tryz.prog.follows .mixedOrders = true := by kernel_rfl
theorem run_clear_pairs (w : World) (ty : TypeId) (b o n c : Nat) (hn : 0 < n) (hc : ∀ j, j < n * 2 → (w.cell? ⟨b, o + j, none⟩).isSome = true) (hf : ∀ j, j < n * 2 → w.frozen? ⟨b, o + j, none⟩ = false) :
    (Builtin.clear_ #[169] ty #[.slice (some ⟨b, o, none⟩) n c]).run Tryz.prog w = .ok (.tuple #[]) (w.setCells b o (List.replicate (n * 2) (sv []))) := by
  have hzc : (Builtin.zeroCells #[sv [], sv []] n).toList = List.replicate (n * 2) (sv []) := by
    simp [Builtin.zeroCells]
    apply List.ext_getElem
    · simp
    · intro i h1 h2
      rcases (show i % 2 = 0 ∨ i % 2 = 1 by omega) with h | h <;> simp [h]
  have hst := run_storeCells_cells (P := Tryz.prog) b o (List.replicate (n * 2) (sv [])) 0 w (by simpa using hc) (by simpa using hf) (by intro v hv'; rw [List.eq_of_mem_replicate hv']; rfl)
  simp only [Nat.add_zero] at hst
  have hzv : ∀ W, (zeroValue 137).run Tryz.prog W = .ok (.agg #[sv [], sv []]) W := fun W => Tryz.zeroValue137 W
  obtain ⟨m, rfl⟩ : ∃ m, n = m + 1 := ⟨n - 1, by omega⟩
  simp [Builtin.clear_, run_underlying Tryz.underlying169, hzv, Value.cells, hzc, hst]

theorem pcells {w : World} {blk off : Nat} {d : Array Pr} (h : HoldsK prC 2 w blk off d) {i : Nat} (hi : i < d.size) :
    w.cell? ⟨blk, off + i * 2, none⟩ = some (sv d[i]!.1) ∧ w.cell? ⟨blk, off + i * 2 + 1, none⟩ = some (sv d[i]!.2) ∧ w.frozen? ⟨blk, off + i * 2, none⟩ = false ∧ w.frozen? ⟨blk, off + i * 2 + 1, none⟩ = false :=
  ⟨(h.cell hi (c := 0) (by omega)).1, (h.cell hi (c := 1) (by omega)).1, (h.cell hi (c := 0) (by omega)).2, (h.cell hi (c := 1) (by omega)).2⟩

theorem store_pair_drew {w wr : World} {n blk off : Nat} {dk : Array Pr} {i : Nat} (hi : i < dk.size) (hwr : wr = putRowK prC 2 (Sort.ahead w n) blk off dk) (x : Pr) :
    ((wr.setCell ⟨blk, off + i * 2, none⟩ (sv x.1)).setCell ⟨blk, off + i * 2 + 1, none⟩ (sv x.2)).drew = putRowK prC 2 (Sort.ahead w (n + 1)) blk off (dk.setIfInBounds i x) := by
  show (wr.setCells blk (off + i * 2) (prC x)).drew = _
  rw [putRowK_store prC_len (by decide) hi hwr x]
  rfl

def CompactPost (blk off cap : Nat) (d : Array Pr) (w : World) (e : Ending) (w' : World) : Prop :=
  e = .returned (.slice (some ⟨blk, off, none⟩) (compactUpTo d d.size).length cap) ∧ ∃ q, w' = putRowK prC 2 (Sort.ahead w q) blk off (compactUpTo d d.size ++ List.replicate (d.size - (compactUpTo d d.size).length) ([], [])).toArray

set_option maxRecDepth 100000 in
set_option maxHeartbeats 4000000 in
theorem CompactP_arr (blk off cap : Nat) (d : Array Pr) (w : World) (hH : HoldsK prC 2 w blk off d) (hsz : d.size ≤ 1000000) (hcap : d.size ≤ cap) :
    Calls Tryz.prog 161 #[.slice (some ⟨blk, off, none⟩) d.size cap] w (CompactPost blk off cap d w) := by
  have same : ∀ q, (∀ j, j < d.size → keeps d j = true) → (compactUpTo d d.size).length = d.size ∧ w.drewN q = putRowK prC 2 (Sort.ahead w q) blk off (compactUpTo d d.size ++ List.replicate (d.size - (compactUpTo d d.size).length) ([], [])).toArray := by
    intro q hall
    have e : compactUpTo d d.size = d.toList := by rw [compactUpTo_all d _ hall, range_map_get]
    rw [e]
    refine ⟨by simp, ?_⟩
    simp only [Array.length_toList, Nat.sub_self, List.replicate_zero, List.append_nil, Array.toArray_toList]
    exact (putRowK_self prC 2 (Sort.ahead w q) blk off d (holdsK_ahead prC 2 w q blk off d hH)).symm
  have HS := Lib.hid same
  clear same
  by_cases h2 : d.size < 2
  · have h2' : (d.size : Int) < 2 := by omega
    have HH := Lib.hid hH
    clear hH
    go_enter Tryz.func161, Tryz.ntmps161
    go_wp2
    go_ret
    obtain ⟨e1, e2⟩ := HS.out 0 (fun j hj => keeps_lt_one d j (by omega))
    exact ⟨by rw [e1]; rfl, 0, e2⟩
  · have h2' : ¬ (d.size : Int) < 2 := by omega
    have mixed := mixed_
    go_enter Tryz.func161, Tryz.ntmps161
    go_wp2
    go_loopg [3] d.size (fun g s3 wr => ∃ k q : Nat, 1 ≤ k ∧ k ≤ d.size ∧ d.size - k ≤ g ∧ s3 = .int .i64 k ∧ wr = w.drewN q ∧ ∀ j, j < k → keeps d j = true)
    case atStart => exact ⟨1, 0, Nat.le_refl _, by omega, by omega, rfl, rfl, keeps_lt_one d⟩
    case round =>
      obtain ⟨k, q, hk1, hk, hg, rfl, rfl, hall⟩ := hrel
      by_cases hlt : k < d.size
      · obtain ⟨c1, c1', _, _⟩ := pcells hH hlt
        obtain ⟨c0, c0', _, _⟩ := pcells (i := k - 1) hH (by omega)
        have A := Lib.hid hall
        have HH := Lib.hid hH
        clear hall hH
        generalize hx : d[k]! = x at c1 c1'
        generalize hy : d[k - 1]! = y at c0 c0'
        have B := Lib.hid (And.intro hx hy)
        clear hx hy
        obtain ⟨x1, x2⟩ := x
        obtain ⟨y1, y2⟩ := y
        simp only at c1 c1' c0 c0'
        have k0 : (1 : Int) ≤ (k : Int) := by omega
        have k1 : (0 : Int) ≤ (k : Int) := by omega
        have k2 : (k : Int) < (d.size : Int) := by omega
        have k3 : (0 : Int) ≤ (k : Int) - 1 := by omega
        have k4 : (k : Int) - 1 < (d.size : Int) := by omega
        have k5 : IntKind.i64.wrap ((k : Int) - 1) = (k : Int) - 1 := IntWalk.i64_in _ (by omega)
        have k6 : ((k : Int) - 1).toNat = k - 1 := by omega
        have hdup : (x1 = y1 ∧ x2 = y2) ∨ (x1 = y1 ∧ ¬ x2 = y2) ∨ ¬ x1 = y1 := by
          by_cases h1 : x1 = y1
          · by_cases h2 : x2 = y2
            · exact .inl ⟨h1, h2⟩
            · exact .inr (.inl ⟨h1, h2⟩)
          · exact .inr (.inr h1)
        rcases hdup with ⟨rfl, rfl⟩ | hno
        · go_wp2_with fail
          go_region_o
          go_wp2
          clear c0 c0' c1 c1'
          go_loopg [3, 5] d.size (fun g s3 s5 wr => ∃ (kk k2 q2 : Nat) (dk : Array Pr), s3 = .int .i64 kk ∧ s5 = .int .i64 k2 ∧ 1 ≤ k2 ∧ k + k2 ≤ d.size ∧ d.size - (k + k2) ≤ g ∧ wr = putRowK prC 2 (Sort.ahead w q2) blk off dk ∧ CompInv d (k + k2) kk dk)
          case atStart => exact ⟨k, 1, q + 1, d, rfl, rfl, Nat.le_refl _, by omega, by omega, (putRowK_self prC 2 (Sort.ahead w (q + 1)) blk off d (holdsK_ahead prC 2 w (q + 1) blk off d HH.out)).symm, CompInv.start A.out (keeps_neg (by omega) (by rw [B.out.1, B.out.2]))⟩
          case round =>
            obtain ⟨kk, k2, q2, dk, rfl, rfl, h1, hle, hg2, hwr, hI⟩ := hrel
            have hkk := hI.lt
            have hds := hI.size
            have hHk : HoldsK prC 2 wr blk off dk := by rw [hwr]; exact holdsK_putRowK prC 2 _ blk off d dk (holdsK_ahead prC 2 w q2 blk off d HH.out) hds
            have W2 := Lib.hid hwr
            have I2 := Lib.hid hI
            clear hwr
            by_cases hlt2 : k + k2 < d.size
            · obtain ⟨cm, cm', _, _⟩ := pcells hHk (i := k + k2) (by omega)
              obtain ⟨cp, cp', _, _⟩ := pcells hHk (i := k + k2 - 1) (by omega)
              obtain ⟨ck, ck', fk, fk'⟩ := pcells hHk (i := kk) (by omega)
              rw [hI.high (k + k2) (by omega), show off + (k + k2) * 2 = off + k * 2 + k2 * 2 by omega] at cm cm'
              rw [hI.high (k + k2 - 1) (by omega), show off + (k + k2 - 1) * 2 = off + k * 2 + (k2 - 1) * 2 by omega] at cp cp'
              clear hHk hI
              generalize hu : d[k + k2]! = u at cm cm'
              generalize hv : d[k + k2 - 1]! = v at cp cp'
              generalize dk[kk]! = old at ck ck'
              have C := Lib.hid (And.intro hu hv)
              clear hu hv
              obtain ⟨u1, u2⟩ := u
              obtain ⟨v1, v2⟩ := v
              simp only at cm cm' cp cp'
              have m0 : (1 : Int) ≤ (k2 : Int) := by omega
              have m1 : (0 : Int) ≤ (k2 : Int) := by omega
              have m2 : (k2 : Int) < (d.size : Int) := by omega
              have m3 : (0 : Int) ≤ (k2 : Int) - 1 := by omega
              have m5 : IntKind.i64.wrap ((k2 : Int) - 1) = (k2 : Int) - 1 := IntWalk.i64_in _ (by omega)
              have m6 : ((k2 : Int) - 1).toNat = k2 - 1 := by omega
              have huv : (u1 = v1 ∧ u2 = v2) ∨ (u1 = v1 ∧ ¬ u2 = v2) ∨ ¬ u1 = v1 := by
                by_cases h1 : u1 = v1
                · by_cases h2 : u2 = v2
                  · exact .inl ⟨h1, h2⟩
                  · exact .inr (.inl ⟨h1, h2⟩)
                · exact .inr (.inr h1)
              rcases huv with ⟨rfl, rfl⟩ | huv
              · go_wp2_with fail
                go_region_o
                go_wp2
                go_roundg (d.size - (k + (k2 + 1)))
                case measure => omega
                case rel => exact ⟨kk, k2 + 1, q2 + 1, dk, rfl, by go_num, by omega, by omega, Nat.le_refl _, by rw [W2.out]; rfl, I2.out.skip (keeps_neg (by omega) (by rw [C.out.1, C.out.2]))⟩
              · have huv' : ¬ (u1, u2) = (v1, v2) := by
                  intro h
                  injection h with h1 h2
                  rcases huv with ⟨_, h⟩ | h
                  · exact h h2
                  · exact h h1
                rcases huv with ⟨rfl, hne⟩ | hne
                all_goals
                  go_wp2_with fail
                  go_region_o
                  go_wp2
                  go_roundg (d.size - (k + (k2 + 1)))
                  case measure => omega
                  case rel => exact ⟨kk + 1, k2 + 1, q2 + 1, dk.setIfInBounds kk (_, u2), by go_num, by go_num, by omega, by omega, Nat.le_refl _, store_pair_drew (by omega) W2.out (_, u2), by have := I2.out.keep hlt2 (keeps_pos (by rw [C.out.1, C.out.2]; exact huv')); rwa [C.out.1] at this⟩
            · have hend : k + k2 = d.size := by omega
              have hcl : ∀ ty, (Builtin.clear_ #[169] ty #[.slice (some ⟨blk, off + kk * 2, none⟩) (d.size - kk) (cap - kk)]).run Tryz.prog wr = .ok (.tuple #[]) (wr.setCells blk (off + kk * 2) (List.replicate ((d.size - kk) * 2) (sv []))) := by
                intro ty
                have hcs : ∀ j, j < (d.size - kk) * 2 → (wr.cell? ⟨blk, off + kk * 2 + j, none⟩).isSome = true ∧ wr.frozen? ⟨blk, off + kk * 2 + j, none⟩ = false := by
                  intro j hj
                  obtain ⟨c1, c2, c3, c4⟩ := pcells hHk (i := kk + j / 2) (by omega)
                  rcases (show j % 2 = 0 ∨ j % 2 = 1 by omega) with h | h
                  · rw [show off + kk * 2 + j = off + (kk + j / 2) * 2 by omega, c1, c3]; exact ⟨rfl, rfl⟩
                  · rw [show off + kk * 2 + j = off + (kk + j / 2) * 2 + 1 by omega, c2, c4]; exact ⟨rfl, rfl⟩
                exact run_clear_pairs wr ty blk (off + kk * 2) _ _ (by omega) (fun j hj => (hcs j hj).1) (fun j hj => (hcs j hj).2)
              clear hHk hI
              go_wp2
              go_ret
              have hI := I2.out
              rw [hend] at hI
              refine ⟨by rw [hI.len]; rfl, q2, ?_⟩
              have hz : (List.replicate (d.size - kk) (([], []) : Pr)).flatMap prC = List.replicate ((d.size - kk) * 2) (sv []) := by
                generalize d.size - kk = n
                induction n with
                | zero => rfl
                | succ n ih => rw [List.replicate_succ, List.flatMap_cons, ih, show (n + 1) * 2 = n * 2 + 1 + 1 by omega, List.replicate_succ, List.replicate_succ]; rfl
              rw [hI.len, ← hI.done ([], []), ← putRowK_lay prC_len (by decide) _ blk off _ dk kk (by simp; omega), ← W2.out, hz]
        · have hno' : ¬ (x1, x2) = (y1, y2) := by
            intro h
            injection h with h1 h2
            rcases hno with ⟨_, h⟩ | h
            · exact h h2
            · exact h h1
          have hkeep : keeps d k = true := keeps_pos (by rw [B.out.1, B.out.2]; exact hno')
          have HK := Lib.hid hkeep
          clear hkeep hno'
          rcases hno with ⟨rfl, hne⟩ | hne
          all_goals
            go_wp2_with fail
            go_region_o
            go_wp2
            go_roundg (d.size - (k + 1))
            case measure => omega
            case rel =>
              refine ⟨k + 1, q + 1, by omega, by omega, Nat.le_refl _, by go_num, rfl, fun j hj => ?_⟩
              by_cases e : j = k
              · subst e
                exact HK.out
              · exact A.out j (by omega)
      · have : k = d.size := by omega
        subst this
        have HH := Lib.hid hH
        clear hH
        go_wp2
        go_ret
        obtain ⟨e1, e2⟩ := HS.out q hall
        exact ⟨by rw [e1]; rfl, q, e2⟩

/-- Compact at pairs of the call's own. -/
theorem compactP_own (base c : Nat) (A : Option Addr) (ps : List Pr) (w : World) (h : w.ownsRow base 137 2 (.slice A ps.length c) ps.length (prsC ps)) (hsz : ps.length ≤ 1000000) :
    Calls Tryz.prog 161 #[.slice A ps.length c] w fun e w' => e = .returned (.slice A (Lib.compact ps).length c) ∧ w'.ownsRow base 137 2 (.slice A (Lib.compact ps).length c) (Lib.compact ps).length (prsC (Lib.compact ps)) ∧ w.grownBy w' (Value.slice A ps.length c).ownBlock := by
  rcases h.2 with ⟨hv, hn⟩ | ⟨g, cap, cur, hv, hg, hb, h1, h2, h3, h4⟩
  · have hnil : ps = [] := List.length_eq_zero_iff.1 hn
    subst hnil
    have h' : (0 : Int) < 2 := by omega
    go_enter Tryz.func161, Tryz.ntmps161
    go_wp2
    go_ret
    exact ⟨rfl, h, World.grownBy.refl _ _⟩
  · injection hv with e1 _ e3
    subst e1 e3
    have hle : (Lib.compact ps).length ≤ ps.length := by
      unfold Lib.compact Lib.compactUpTo
      rw [List.length_map]
      exact Nat.le_trans (List.length_filter_le _ _) (by simp)
    have hcon := CompactP_arr g 0 c ps.toArray w (own_holdsK prC_len (by decide) hb h4) (by simpa using hsz) (by simpa using h1)
    simp only [List.size_toArray] at hcon
    refine hcon.mono ?_
    rintro e w' ⟨rfl, q, rfl⟩
    have hc : compactUpTo ps.toArray ps.toArray.size = Lib.compact ps := rfl
    rw [hc, List.size_toArray]
    have hs : (Lib.compact ps ++ List.replicate (ps.length - (Lib.compact ps).length) (([], []) : Pr)).take (Lib.compact ps).length = Lib.compact ps := by
      rw [List.take_append_of_le_length (Nat.le_refl _), List.take_length]
    have ho := own_of_putRowK (os := #[]) (q := q) (n := (Lib.compact ps).length) (ps := Lib.compact ps ++ List.replicate (ps.length - (Lib.compact ps).length) (([], []) : Pr)) prC_len (by decide) hg hb (by omega) h2 h3 (by simp) (by simp; omega)
    rw [hs, grow_empty] at ho
    refine ⟨rfl, ho, ?_⟩
    have := rowk_grownBy (w := w) (g := g) (n := q) (os := #[]) (flatK prC 2 (Lib.compact ps ++ List.replicate (ps.length - (Lib.compact ps).length) (([], []) : Pr)).toArray)
    rw [grow_empty] at this
    exact this
end Od
end Go.Proofs.YtbllehjhmfehbaaGreat
end

section
/- Plain mathematics: the search through pairs, a row of units that are still to be looked at. No program. -/
namespace Go.Proofs.YtbllehjhmfehbaaGreat
namespace Od
/-- Whom pairs lead to from one, directly. -/
def succ (l : List Pr) (s : Str) : List Str := (l.filter (fun p => p.1 == s)).map Prod.snd
theorem mem_succ {l : List Pr} {s t : Str} : t ∈ succ l s ↔ (s, t) ∈ l := by
  unfold succ
  rw [List.mem_map]
  constructor
  · rintro ⟨⟨x, y⟩, h, rfl⟩
    obtain ⟨h1, h2⟩ := List.mem_filter.1 h
    have : x = s := by simpa using h2
    subst this
    exact h1
  · intro h
    exact ⟨(s, t), List.mem_filter.2 ⟨h, by simp⟩, rfl⟩
theorem succ_nil (s : Str) : succ [] s = [] := rfl
theorem succ_app (l : List Pr) (p : Pr) (s : Str) : succ (l ++ [p]) s = succ l s ++ (if p.1 = s then [p.2] else []) := by
  unfold succ
  rw [List.filter_append, List.map_append]
  congr 1
  by_cases h : p.1 = s <;> simp [h]
theorem succ_len (l : List Pr) (s : Str) : (succ l s).length ≤ l.length := by
  unfold succ; rw [List.length_map]; exact List.length_filter_le _ _

structure Bfs (l : List Pr) (a : Str) (D T : List Str) : Prop where
  done : ∀ b, b ∈ D → R l a b
  todo : ∀ b, b ∈ T → R l a b
  first : ∀ b, b ∈ succ l a → b ∈ D ∨ b ∈ T
  next : ∀ x, x ∈ D → ∀ y, y ∈ succ l x → y ∈ D ∨ y ∈ T
/-- What is left to do. -/
def mea (l : List Pr) (D T : List Str) : Nat := (l.filter (fun p => !decide (p.1 ∈ D))).length + T.length
theorem Bfs.start (l : List Pr) (a : Str) : Bfs l a [] (succ l a) where
  done := by simp
  todo b hb := .one (mem_succ.1 hb)
  first b hb := .inr hb
  next := by simp
theorem Bfs.skip {l : List Pr} {a b : Str} {D T : List Str} (h : Bfs l a D (b :: T)) (hb : b ∈ D) : Bfs l a D T where
  done := h.done
  todo x hx := h.todo x (.tail _ hx)
  first x hx := by
    rcases h.first x hx with e | e
    · exact .inl e
    · rcases List.mem_cons.1 e with e | e
      · exact .inl (e ▸ hb)
      · exact .inr e
  next x hx y hy := by
    rcases h.next x hx y hy with e | e
    · exact .inl e
    · rcases List.mem_cons.1 e with e | e
      · exact .inl (e ▸ hb)
      · exact .inr e
theorem Bfs.take {l : List Pr} {a b : Str} {D T : List Str} (h : Bfs l a D (b :: T)) : Bfs l a (b :: D) (T ++ succ l b) where
  done x hx := by
    rcases List.mem_cons.1 hx with e | e
    · subst e; exact h.todo _ (.head _)
    · exact h.done x e
  todo x hx := by
    rcases List.mem_append.1 hx with e | e
    · exact h.todo x (.tail _ e)
    · exact (h.todo b (.head _)).snoc (mem_succ.1 e)
  first x hx := by
    rcases h.first x hx with e | e
    · exact .inl (.tail _ e)
    · rcases List.mem_cons.1 e with e | e
      · exact .inl (e ▸ .head _)
      · exact .inr (List.mem_append_left _ e)
  next x hx y hy := by
    rcases List.mem_cons.1 hx with e | e
    · subst e; exact .inr (List.mem_append_right _ hy)
    · rcases h.next x e y hy with e | e
      · exact .inl (.tail _ e)
      · rcases List.mem_cons.1 e with e | e
        · exact .inl (e ▸ .head _)
        · exact .inr (List.mem_append_left _ e)
theorem mea_skip (l : List Pr) (b : Str) (D T : List Str) : mea l D (b :: T) = mea l D T + 1 := by simp [mea]; omega
theorem mea_take {l : List Pr} {b : Str} {D T : List Str} (hb : ¬ b ∈ D) : mea l D (b :: T) = mea l (b :: D) (T ++ succ l b) + 1 := by
  unfold mea succ
  rw [List.length_append, List.length_map, List.length_cons]
  suffices h : (l.filter (fun p => !decide (p.1 ∈ D))).length = (l.filter (fun p => !decide (p.1 ∈ b :: D))).length + (l.filter (fun p => p.1 == b)).length by omega
  simp only [List.mem_cons]
  induction l with
  | nil => rfl
  | cons p l ih =>
    by_cases h1 : p.1 = b
    · have h2 : ¬ p.1 ∈ D := h1 ▸ hb
      simp only [List.filter_cons, h1, true_or, decide_true, Bool.not_true, Bool.false_eq_true, if_false, beq_self_eq_true, if_true, List.length_cons]
      rw [if_pos (by simpa using hb)]
      simp only [List.length_cons, ih]
      omega
    · have h3 : (p.1 == b) = false := by simpa using h1
      by_cases h2 : p.1 ∈ D <;> simp [h1, h2, h3, ih] <;> omega
theorem Bfs.end {l : List Pr} {a : Str} {D : List Str} (h : Bfs l a D []) (b : Str) : b ∈ D ↔ b ∈ reachL l a := by
  rw [mem_reachL]
  refine ⟨h.done b, fun hr => ?_⟩
  refine Closed.all (l := l) (a := a) (S := D) (fun p hp hq => ?_) hr
  rcases hq with e | e
  · rcases h.first p.2 (mem_succ.2 (e ▸ hp)) with e | e
    · exact e
    · simp at e
  · rcases h.next p.1 e p.2 (mem_succ.2 hp) with e | e
    · exact e
    · simp at e
theorem mea_start (l : List Pr) (a : Str) : mea l [] (succ l a) ≤ 2 * l.length := by
  unfold mea
  have := succ_len l a
  have := List.length_filter_le (fun p : Pr => !decide (p.1 ∈ ([] : List Str))) l
  omega
end Od
end Go.Proofs.YtbllehjhmfehbaaGreat
end
