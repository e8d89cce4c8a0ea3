/- My texts, joined for the claim: SortPair OPairs OPairs2 GRowK OComp GMap GPair GBfs GWays. -/
import Derived.Shelf.SlSortCmp.NoneTotal
import Derived.Ground.SlsfProg
import Derived.Test.YtmlogmcnblgnbaaGreatProg
import Derived.Test.YtmlogmcnblgnbaaGreatZB3
import Derived.Test.YtmlogmcnblgnbaaGreatZB0
import Derived.Shelf.GgSortFunc.RowK
import Derived.Lib.SliceRun
import Derived.Lib.SlicesCompact
import Derived.Sort.OwnSorted
import Derived.Test.YtmlogmcnblgnbaaGreatRows
import Derived.Shelf.RegionOpenPlain
import Derived.Deep.LoopGhost
import Derived.Lib.Walk
import Derived.Maps.OwnSet
import Derived.Maps.RangeWalk
import Derived.DeepKeys4
import Derived.Test.YtmlogmcnblgnbaaGreatZB7
import Derived.Test.YtmlogmcnblgnbaaGreatZB1

section
/-
  DERIVED: THE SHELF's CONTRACTS AT THIS DUMP, IN PLAIN WORDS (tools/lay-plain.mjs out of 'TryzSortPair.lean', which tools/lay-shelf.mjs wrote): THE SAME DECLARATIONS UNDER THE SAME NAMES: 'import', 'namespace', 'open', 'def', 'theorem' AND NOTHING ELSE: no command of the shelf's: FOR A HAND-IN. Each laying: the table of numbers ('.._ren') and one theorem, a field a fact of the dump's own or the kernel's comparison; each contract: ONE APPLICATION.
-/
namespace Go.Proofs.YtmlogmcnblgnbaaGreat
open Go.Shelf
def Tryz.sortPair_ren : Go.Shelf.Ren := ⟨fun | 6 => 151 | 15 => 81 | 14 => 165 | 28 => 113 | 29 => 114 | 20 => 173 | 21 => 174 | 22 => 175 | 23 => 176 | 24 => 177 | 25 => 178 | 26 => 179 | 27 => 180 | 46 => 186 | 47 => 138 | 48 => 139 | 49 => 187 | 50 => 188 | 57 => 191 | n => n, fun | 22 => 152 | 24 => 87 | 25 => 171 | 3 => 3 | 39 => 108 | 0 => 0 | 53 => 139 | 55 => 141 | 4 => 4 | 46 => 132 | 45 => 131 | 50 => 111 | 5 => 5 | 9 => 9 | 66 => 159 | 70 => 163 | 76 => 173 | 77 => 174 | n => n, fun | n => n⟩
theorem Tryz.sortPair : Go.Proofs.SlLaysF0.n6 Tryz.prog Tryz.sortPair_ren := {
  mixed := by kernel_rfl
  f6 := ⟨Tryz.f151.name, by decide, Tryz.func151.trans (congrArg some (by kernel_rfl))⟩
  f14 := ⟨Tryz.f165.name, by decide, Tryz.func165.trans (congrArg some (by kernel_rfl))⟩
  f15 := Tryz.func81.trans (congrArg some (by kernel_rfl))
  f20 := ⟨Tryz.f173.name, by decide, Tryz.func173.trans (congrArg some (by kernel_rfl))⟩
  f21 := ⟨Tryz.f174.name, by decide, Tryz.func174.trans (congrArg some (by kernel_rfl))⟩
  f22 := ⟨Tryz.f175.name, by decide, Tryz.func175.trans (congrArg some (by kernel_rfl))⟩
  f23 := ⟨Tryz.f176.name, by decide, Tryz.func176.trans (congrArg some (by kernel_rfl))⟩
  f24 := ⟨Tryz.f177.name, by decide, Tryz.func177.trans (congrArg some (by kernel_rfl))⟩
  f25 := ⟨Tryz.f178.name, by decide, Tryz.func178.trans (congrArg some (by kernel_rfl))⟩
  f26 := ⟨Tryz.f179.name, by decide, Tryz.func179.trans (congrArg some (by kernel_rfl))⟩
  f27 := ⟨Tryz.f180.name, by decide, Tryz.func180.trans (congrArg some (by kernel_rfl))⟩
  f28 := Tryz.func113.trans (congrArg some (by kernel_rfl))
  f29 := Tryz.func114.trans (congrArg some (by kernel_rfl))
  f46 := ⟨Tryz.f186.name, by decide, Tryz.func186.trans (congrArg some (by kernel_rfl))⟩
  f47 := Tryz.func138.trans (congrArg some (by kernel_rfl))
  f48 := Tryz.func139.trans (congrArg some (by kernel_rfl))
  f49 := ⟨Tryz.f187.name, by decide, Tryz.func187.trans (congrArg some (by kernel_rfl))⟩
  f50 := ⟨Tryz.f188.name, by decide, Tryz.func188.trans (congrArg some (by kernel_rfl))⟩
  f57 := ⟨Tryz.f191.name, by decide, Tryz.func191.trans (congrArg some (by kernel_rfl))⟩
  t0 := Tryz.underlying0
  a0 := Tryz.isAgg0
  z0 := Tryz.sizeOf0
  v0 := Tryz.zeroValue0
  t3 := Tryz.underlying3
  a3 := Tryz.isAgg3
  z3 := Tryz.sizeOf3
  v3 := Tryz.zeroValue3
  t4 := Tryz.underlying4
  a4 := Tryz.isAgg4
  z4 := Tryz.sizeOf4
  v4 := Tryz.zeroValue4
  t5 := Tryz.underlying5
  a5 := Tryz.isAgg5
  z5 := Tryz.sizeOf5
  v5 := Tryz.zeroValue5
  t9 := Tryz.underlying9
  a9 := Tryz.isAgg9
  z9 := Tryz.sizeOf9
  v9 := Tryz.zeroValue9
  t22 := Tryz.underlying152
  a22 := Tryz.isAgg152
  z22 := Tryz.sizeOf152
  v22 := Tryz.zeroValue152
  t25 := Tryz.underlying171
  a25 := Tryz.isAgg171
  z25 := Tryz.sizeOf171
  v25 := Tryz.zeroValue171
  t39 := Tryz.underlying108
  a39 := Tryz.isAgg108
  z39 := Tryz.sizeOf108
  v39 := Tryz.zeroValue108
  t45 := Tryz.underlying131
  a45 := Tryz.isAgg131
  z45 := Tryz.sizeOf131
  v45 := Tryz.zeroValue131
  t46 := Tryz.underlying132
  a46 := Tryz.isAgg132
  z46 := Tryz.sizeOf132
  v46 := Tryz.zeroValue132
  t50 := Tryz.underlying111
  a50 := Tryz.isAgg111
  z50 := Tryz.sizeOf111
  v50 := Tryz.zeroValue111
  t53 := Tryz.underlying139
  a53 := Tryz.isAgg139
  z53 := Tryz.sizeOf139
  v53 := Tryz.zeroValue139
  t55 := Tryz.underlying141
  a55 := Tryz.isAgg141
  z55 := Tryz.sizeOf141
  v55 := Tryz.zeroValue141
  t66 := Tryz.underlying159
  a66 := Tryz.isAgg159
  z66 := Tryz.sizeOf159
  v66 := Tryz.zeroValue159
  t70 := Tryz.underlying163
  a70 := Tryz.isAgg163
  z70 := Tryz.sizeOf163
  v70 := Tryz.zeroValue163
  t76 := Tryz.underlying173
  a76 := Tryz.isAgg173
  z76 := Tryz.sizeOf173
  v76 := Tryz.zeroValue173
  t77 := Tryz.underlying174
  a77 := Tryz.isAgg174
  z77 := Tryz.sizeOf174
  v77 := Tryz.zeroValue174 }
end Go.Proofs.YtmlogmcnblgnbaaGreat
end

section
/- The walk of what tells which of two pairs stands ahead; the sort of a row of pairs. -/
namespace Go.Proofs.YtmlogmcnblgnbaaGreat
open Go.RowKit Go.Sort Go.Lib

namespace Od
def pairCmp (p q : Pr) : Int := orI [cmpS p.1 q.1, cmpS p.2 q.2]
theorem grow_drew (w : World) (os : Array Obj) : (grow w os).drew = grow w.drew os := rfl
def GrowInt (v : Int) (w : World) (e : Ending) (w' : World) : Prop := e = .returned (.int .i64 v) ∧ ∃ q os', w' = grow (w.drewN q) os'
set_option maxRecDepth 100000 in
set_option maxHeartbeats 1000000 in
theorem pairs1_any (a b a' b' : Str) (w : World) :
    Calls Tryz.prog 152 #[.agg #[sv a, sv b], .agg #[sv a', sv b']] w (GrowInt (pairCmp (a, b) (a', b')) w) := by
  have h3 : Rd ((((w.alloc (.cells #[sv a, sv b] 87)).alloc (.cells #[sv a', sv b'] 87)).alloc (.cells #[.int .i64 (cmpS a a'), .int .i64 (cmpS b b')] 3)).drew) ((((w.alloc (.cells #[sv a, sv b] 87)).alloc (.cells #[sv a', sv b'] 87)).alloc (.cells #[.int .i64 (cmpS a a'), .int .i64 (cmpS b b')] 3)).drew).heap.size 1 (some ⟨w.heap.size + 1 + 1, 0, none⟩) 2 (ints [cmpS a a', cmpS b b']) := by
    have h := (Rd.lit ((w.alloc (.cells #[sv a, sv b] 87)).alloc (.cells #[sv a', sv b'] 87)) (ints [cmpS a a', cmpS b b']) 3 1 2 rfl).drew
    simp only [World.size_alloc] at h
    exact h.more (by simp)
  have H3 := Lib.hid h3
  clear h3
  go_enter Tryz.func152, Tryz.ntmps152
  go_wp2_with fail
  go_region_held3 (fun w' => w'.cell? ⟨w.heap.size, 0, none⟩ = some (sv a) ∧ w'.cell? ⟨w.heap.size, 1, none⟩ = some (sv b) ∧ w'.cell? ⟨w.heap.size + 1, 0, none⟩ = some (sv a') ∧ w'.cell? ⟨w.heap.size + 1, 1, none⟩ = some (sv b')) (go_keep)
    (first | (go_at_call 121; refine (CompareS_any _ _ _).mono ?_; rintro e w' ⟨rfl, rfl⟩) | (go_at_call 122; refine (Or_any (some ⟨w.heap.size + 1 + 1, 0, none⟩) 2 [cmpS a a', cmpS b b'] _ H3.out (by simp)).mono ?_; rintro e w' ⟨rfl, rfl⟩))
  go_wp2_with fail
  go_ret
  exact ⟨rfl, 1, _, by rw [alloc_eq_grow, alloc_eq_grow, alloc_eq_grow, grow_grow, grow_grow, grow_drew]; rfl⟩
theorem pairCmp_lt (p q : Pr) : ltOf pairCmp p q = ltP p q := by
  unfold ltOf pairCmp ltP
  have hs : ∀ a b : Str, cmpS a b = if ltS a b = true then -1 else if a = b then 0 else 1 := fun _ _ => rfl
  rw [hs, hs]
  by_cases h1 : ltS p.1 q.1 = true
  · simp [h1, orI]
  · by_cases h2 : p.1 = q.1
    · rw [h2] at h1
      by_cases h3 : ltS p.2 q.2 = true
      · simp [h1, h2, h3, orI]
      · by_cases h4 : p.2 = q.2
        · rw [h4] at h3
          simp [h1, h2, h3, h4, orI]
        · simp [h1, h2, h3, h4, orI]
    · simp [h1, h2, orI]
theorem pairCmp_fun : ltOf pairCmp = ltP := by funext p q; exact pairCmp_lt p q
theorem swoP : SWO (ltOf pairCmp) where
  irrefl x := by rw [pairCmp_fun]; exact toP.irrefl x
  trans x y z h1 h2 := by rw [pairCmp_fun] at *; exact toP.trans h1 h2
  ntrans x y z h1 h2 := by
    rw [pairCmp_fun] at *
    cases h : ltP x z
    · rfl
    · exfalso
      cases h3 : ltP y x
      · rw [toP.total h1 h3] at h; rw [h] at h2; cases h2
      · have := toP.trans h3 h; rw [this] at h2; cases h2
end Od
end Go.Proofs.YtmlogmcnblgnbaaGreat
end

section
/- The sort of a row of pairs of the call's own. -/
namespace Go.Proofs.YtmlogmcnblgnbaaGreat
open Go.RowKit Go.Sort Go.Lib Go.Shelf

namespace Od
theorem prsC_len (ps : List Pr) : (prsC ps).length = ps.length * 2 := flat_len prC 2 prC_len ps
theorem flatK_prs (ps : List Pr) : flatK prC 2 ps.toArray = (prsC ps).toArray := by
  refine ext_get! (by simp [prsC_len]) fun t ht => ?_
  have ht' : t < ps.length * 2 := by simpa using ht
  rw [get_flatK _ _ _ t (by simpa using ht')]
  have hi : t / 2 < ps.length := by omega
  have h := flat_at prC 2 prC_len ps (t / 2) (t % 2) hi (by omega)
  rw [show t / 2 * 2 + t % 2 = t by omega] at h
  have e1 : ps.toArray[t / 2]! = ps[t / 2] := by simp [hi]
  rw [e1]
  have e2 : (prsC ps).toArray[t]! = ((prsC ps)[t]?).getD default := by simp [List.getElem!_eq_getElem?_getD]
  rw [e2, show (prsC ps)[t]? = (prC ps[t / 2])[t % 2]? from h]
  simp [List.getElem!_eq_getElem?_getD]

theorem heap_row {w : World} {g n : Nat} {os : Array Obj} {cur : Array Value} {e : TypeId} {fr : Nat × Nat} (F : Array Value) (hb : w.heap[g]? = some (.cells cur e fr)) :
    (grow (putRow id (Sort.ahead w n) g 0 F) os).heap[g]? = some (.cells (putCells id 0 F cur) e fr) := by
  have hg : g < w.heap.size := (Array.getElem?_eq_some_iff.1 hb).1
  rw [heap_grow_old _ _ (by simpa using hg)]
  simp [putRow, mapBlock, Sort.ahead, Array.getElem?_modify, hb, onCells]
theorem grownBy_row {w : World} {g n : Nat} {os : Array Obj} (F : Array Value) : w.grownBy (grow (putRow id (Sort.ahead w n) g 0 F) os) (some g) := by
  refine ⟨rfl, rfl, rfl, by simp, fun k hk hne => ?_⟩
  rw [heap_grow_old _ _ (by simpa using hk)]
  have : g ≠ k := fun e => hne (by rw [e])
  simp [putRow, mapBlock, Sort.ahead, Array.getElem?_modify, this]
theorem take_putCellsI (cur : Array Value) (xs : List Value) (h : xs.length ≤ cur.size) : (putCells id 0 xs.toArray cur).toList.take xs.length = xs := by
  apply List.ext_getElem?
  intro j
  by_cases hj : j < xs.length
  · rw [List.getElem?_take_of_lt hj, Array.getElem?_toList]
    simp [putCells, hj, show j < cur.size by omega]
  · rw [List.getElem?_take_eq_none (by omega), List.getElem?_eq_none (by omega)]
theorem holds_row {w : World} {g : Nat} {cur : Array Value} {e : TypeId} {xs : List Value} (hb : w.heap[g]? = some (.cells cur e (0, 0))) (ht : cur.toList.take xs.length = xs) : Holds id w g 0 xs.toArray := by
  intro j hj
  have hj' : j < xs.length := by simpa using hj
  refine ⟨?_, by simp [World.frozen?, hb]⟩
  have h1 : (cur.toList.take xs.length)[j]? = xs[j]? := by rw [ht]
  rw [List.getElem?_take_of_lt hj'] at h1
  simp only [World.cell?, hb, Nat.zero_add]
  simp only [Option.isSome_none, Bool.false_eq_true, if_false]
  rw [← Array.getElem?_toList, h1]
  simp [hj']

def sortP (ps : List Pr) : List Pr := ps.mergeSort fun x y => !ltP y x
theorem sortP_len (ps : List Pr) : (sortP ps).length = ps.length := by simp [sortP]
theorem mem_sortP {ps : List Pr} {p : Pr} : p ∈ sortP ps ↔ p ∈ ps := (List.mergeSort_perm _ _).mem_iff
theorem sortP_le (ps : List Pr) : LE ltP (sortP ps) := by
  have h := List.pairwise_mergeSort (le := fun x y => !ltP y x) (fun a b c h1 h2 => by
    simp only [Bool.not_eq_true'] at *
    have := swoP.ntrans (x := c) (y := b) (z := a)
    rw [pairCmp_fun] at this
    exact this h2 h1) (fun a b => by
    cases h1 : ltP b a
    · simp
    · cases h2 : ltP a b
      · simp
      · have := toP.trans h1 h2; rw [toP.irrefl] at this; cases this) ps
  exact h.imp fun {a b} hab => by simpa using hab

set_option maxHeartbeats 1000000 in
theorem sortP_own (base c : Nat) (A : Option Addr) (ps : List Pr) (w : World) (h : w.ownsRow base 87 2 (.slice A ps.length c) ps.length (prsC ps)) (hsz : ps.length ≤ 1000000) :
    Calls Tryz.prog 151 #[.slice A ps.length c, .func (.func 152) #[] #[]] w fun e w' => e = .returned (.tuple #[]) ∧ w'.ownsRow base 87 2 (.slice A ps.length c) ps.length (prsC (sortP ps)) ∧ w.grownBy w' (Value.slice A ps.length c).ownBlock := by
  rcases h.2 with ⟨hv, hn⟩ | ⟨g, cap, cur, hv, hg, hb, h1, h2, h3, h4⟩
  · have hnil : ps = [] := List.length_eq_zero_iff.1 hn
    subst hnil
    refine (show Calls Tryz.prog 151 _ w _ from AnyF.slices_SortFunc_none Tryz.sortPair A c _ w).mono ?_
    rintro e w' ⟨rfl, rfl⟩
    exact ⟨rfl, by simpa [sortP] using h, World.grownBy.refl _ _⟩
  · injection hv with e1 _ e3
    subst e1 e3
    have hgl : g < w.heap.size := (Array.getElem?_eq_some_iff.1 hb).1
    have hlen := prsC_len ps
    have eg : ∀ args w, (callFunc 152 args).run Tryz.prog w = .ok (.enter 152 args) w := enters_of Tryz.func152 (by kernel_rfl) rfl
    have hH : HoldsK prC 2 w g 0 ps.toArray := by
      unfold HoldsK
      rw [flatK_prs]
      exact holds_row hb (by rw [hlen]; exact h4)
    have hcon := AnyQ.slices_SortFunc_total (P := Tryz.prog) Tryz.sortPair 2 (by intro w; exact Tryz.isAgg87 w) (by intro w; exact Tryz.sizeOf87 w) prC prC_len (fun x v hv => by simp [prC] at hv; rcases hv with rfl | rfl <;> rfl) pairCmp swoP 152 #[] g 0 c ps.toArray w eg
      (fun _ _ _ _ x y => pairs1_any x.1 x.2 y.1 y.2 _) hH hgl (by simp; omega) (by intro x y hx hy; rw [pairCmp_fun] at hx hy; exact toP.total hx hy)
    change Calls Tryz.prog 151 _ _ _ at hcon
    simp only [List.size_toArray] at hcon
    refine hcon.mono ?_
    rintro e w' ⟨rfl, n, os, rfl⟩
    have hsort : (ps.mergeSort fun x y => !(ltOf pairCmp) y x) = sortP ps := by rw [pairCmp_fun]; rfl
    unfold sortWorldK putRowK
    rw [hsort, flatK_prs]
    have hl2 : (prsC (sortP ps)).length = ps.length * 2 := by rw [prsC_len, sortP_len]
    refine ⟨rfl, ⟨hl2, .inr ⟨g, c, _, rfl, hg, heap_row _ hb, h1, h2, by simp [putCells, h3], ?_⟩⟩, grownBy_row _⟩
    rw [← hl2]
    exact take_putCellsI cur _ (by omega)
end Od
end Go.Proofs.YtmlogmcnblgnbaaGreat
end

section
/- Rows of elements of several cells, in the sort's words (putRowK, HoldsK) and in the walks' words (ownsRow). No program. -/
namespace Go.Proofs.YtmlogmcnblgnbaaGreat
open Go.RowKit Go.Sort Go.Lib

section
variable {α : Type} [Inhabited α] {enc : α → List Value} {k : Nat}

theorem flatK_list (hk : ∀ x, (enc x).length = k) (hk0 : 0 < k) (ps : List α) : flatK enc k ps.toArray = (ps.flatMap enc).toArray := by
  have hl := flat_len enc k hk ps
  refine ext_get! (by simp [hl]) fun t ht => ?_
  have ht' : t < ps.length * k := by simpa using ht
  rw [get_flatK _ _ _ t (by simpa using ht')]
  have hi : t / k < ps.length := by rw [Nat.div_lt_iff_lt_mul hk0]; exact ht'
  have hm : t % k < k := Nat.mod_lt _ hk0
  have h := flat_at enc k hk ps (t / k) (t % k) hi hm
  rw [show t / k * k + t % k = t from by rw [Nat.mul_comm]; exact Nat.div_add_mod t k] at h
  have e1 : ps.toArray[t / k]! = ps[t / k] := by simp [hi]
  rw [e1]
  have e2 : (ps.flatMap enc).toArray[t]! = ((ps.flatMap enc)[t]?).getD default := by simp [List.getElem!_eq_getElem?_getD]
  rw [e2, h]
  simp [List.getElem!_eq_getElem?_getD]
theorem rowk_heap {w : World} {g n : Nat} {os : Array Obj} {cur : Array Value} {e : TypeId} {fr : Nat × Nat} (F : Array Value) (hb : w.heap[g]? = some (.cells cur e fr)) :
    (grow (putRow id (Sort.ahead w n) g 0 F) os).heap[g]? = some (.cells (putCells id 0 F cur) e fr) := by
  have hg : g < w.heap.size := (Array.getElem?_eq_some_iff.1 hb).1
  rw [heap_grow_old _ _ (by simpa using hg)]
  simp [putRow, mapBlock, Sort.ahead, Array.getElem?_modify, hb, onCells]
theorem rowk_grownBy {w : World} {g n : Nat} {os : Array Obj} (F : Array Value) : w.grownBy (grow (putRow id (Sort.ahead w n) g 0 F) os) (some g) := by
  refine ⟨rfl, rfl, rfl, by simp, fun k hk hne => ?_⟩
  rw [heap_grow_old _ _ (by simpa using hk)]
  have : g ≠ k := fun e => hne (by rw [e])
  simp [putRow, mapBlock, Sort.ahead, Array.getElem?_modify, this]
theorem rowk_take (cur : Array Value) (xs : List Value) (h : xs.length ≤ cur.size) : (putCells id 0 xs.toArray cur).toList.take xs.length = xs := by
  apply List.ext_getElem?
  intro j
  by_cases hj : j < xs.length
  · rw [List.getElem?_take_of_lt hj, Array.getElem?_toList]
    simp [putCells, hj, show j < cur.size by omega]
  · rw [List.getElem?_take_eq_none (by omega), List.getElem?_eq_none (by omega)]
theorem rowk_holds {w : World} {g : Nat} {cur : Array Value} {e : TypeId} {xs : List Value} (hb : w.heap[g]? = some (.cells cur e (0, 0))) (ht : cur.toList.take xs.length = xs) : Holds id w g 0 xs.toArray := by
  intro j hj
  have hj' : j < xs.length := by simpa using hj
  refine ⟨?_, by simp [World.frozen?, hb]⟩
  have h1 : (cur.toList.take xs.length)[j]? = xs[j]? := by rw [ht]
  rw [List.getElem?_take_of_lt hj'] at h1
  simp only [World.cell?, hb, Nat.zero_add]
  simp only [Option.isSome_none, Bool.false_eq_true, if_false]
  rw [← Array.getElem?_toList, h1]
  simp [hj']

theorem setMany_row (hk : ∀ x, (enc x).length = k) (hk0 : 0 < k) (d : Array α) (i : Nat) (hi : i < d.size) (x : α) : setMany (flatK enc k d) (i * k) (enc x) = flatK enc k (d.setIfInBounds i x) := by
  refine ext_get! (by simp) fun t ht => ?_
  have ht' : t < d.size * k := by simpa using ht
  rw [get_setMany _ _ _ t (by simpa using ht'), get_flatK _ _ _ t ht', get_flatK _ _ _ t (by simpa using ht')]
  rw [hk]
  have hdm := Nat.div_add_mod t k
  have hm : t % k < k := Nat.mod_lt _ hk0
  by_cases h : t / k = i
  · subst h
    rw [Nat.mul_comm] at hdm
    rw [if_pos (by omega), getElem!_set_same d _ x hi]
    congr 1
    omega
  · rw [getElem!_set_other d i (t / k) x h, if_neg]
    intro hc
    apply h
    have h1 : i ≤ t / k := (Nat.le_div_iff_mul_le hk0).2 hc.1
    have h2 : t / k < i + 1 := by rw [Nat.div_lt_iff_lt_mul hk0, Nat.add_mul]; omega
    omega
theorem putRowK_store (hk : ∀ x, (enc x).length = k) (hk0 : 0 < k) {W wr : World} {blk off : Nat} {dk : Array α} {i : Nat} (hi : i < dk.size) (hwr : wr = putRowK enc k W blk off dk) (x : α) :
    wr.setCells blk (off + i * k) (enc x) = putRowK enc k W blk off (dk.setIfInBounds i x) := by
  subst hwr
  unfold putRowK
  rw [setCells_putRow _ _ _ _ _ _ (by rw [hk, size_flatK]; calc i * k + k = (i + 1) * k := by rw [Nat.add_mul]; omega
    _ ≤ dk.size * k := Nat.mul_le_mul_right _ hi), setMany_row hk hk0 dk i hi x]
theorem setCells_app (w : World) (b : Nat) : ∀ (xs ys : List Value) (o : Nat), w.setCells b o (xs ++ ys) = (w.setCells b o xs).setCells b (o + xs.length) ys := by
  intro xs
  induction xs generalizing w with
  | nil => intro ys o; simp [World.setCells]
  | cons x r ih => intro ys o; simp only [List.cons_append, World.setCells, List.length_cons]; rw [ih, show o + 1 + r.length = o + (r.length + 1) by omega]
theorem putRowK_lay (hk : ∀ x, (enc x).length = k) (hk0 : 0 < k) (W : World) (blk off : Nat) : ∀ (xs : List α) (dk : Array α) (i : Nat), i + xs.length ≤ dk.size → (putRowK enc k W blk off dk).setCells blk (off + i * k) (xs.flatMap enc) = putRowK enc k W blk off (lay dk i xs)
  | [], _, _, _ => by simp [World.setCells, lay]
  | x :: r, dk, i, h => by
    have hl : i + (r.length + 1) ≤ dk.size := by simpa using h
    rw [List.flatMap_cons, setCells_app, putRowK_store hk hk0 (by omega) rfl x, hk, show off + i * k + k = off + (i + 1) * k from by rw [Nat.add_mul]; omega, putRowK_lay hk hk0 W blk off r _ (i + 1) (by simp; omega), lay]

/-- What is owned, in the sort's words. -/
theorem own_holdsK (hk : ∀ x, (enc x).length = k) (hk0 : 0 < k) {w : World} {g : Nat} {cur : Array Value} {e : TypeId} {ps : List α} (hb : w.heap[g]? = some (.cells cur e (0, 0))) (ht : cur.toList.take (ps.length * k) = ps.flatMap enc) : HoldsK enc k w g 0 ps.toArray := by
  unfold HoldsK
  rw [flatK_list hk hk0]
  exact rowk_holds hb (by rw [flat_len enc k hk]; exact ht)
/-- What the sort's words leave, owned: the first m elements of what was laid. -/
theorem own_of_putRowK (hk : ∀ x, (enc x).length = k) (hk0 : 0 < k) {w : World} {base g c n q : Nat} {e : TypeId} {cur : Array Value} {ps : List α} {os : Array Obj} (hg : base ≤ g) (hb : w.heap[g]? = some (.cells cur e (0, 0))) (hc : n ≤ c) (hm : c ≤ maxLen) (hs : cur.size = c * k)
    (hn : n ≤ ps.length) (hp : ps.length ≤ c) : (grow (putRowK enc k (Sort.ahead w q) g 0 ps.toArray) os).ownsRow base e k (.slice (some ⟨g, 0, none⟩) n c) n ((ps.take n).flatMap enc) := by
  have hl := flat_len enc k hk ps
  have hl2 := flat_len enc k hk (ps.take n)
  rw [List.length_take, Nat.min_eq_left hn] at hl2
  unfold putRowK
  rw [flatK_list hk hk0]
  refine ⟨hl2, .inr ⟨g, c, _, rfl, hg, rowk_heap _ hb, hc, hm, by simp [putCells, hs], ?_⟩⟩
  have h1 := rowk_take cur (ps.flatMap enc) (by rw [hl, hs]; exact Nat.mul_le_mul_right _ hp)
  have h2 := congrArg (List.take (n * k)) h1
  have hle : n * k ≤ ps.length * k := Nat.mul_le_mul_right _ hn
  rw [List.take_take, Nat.min_eq_left (by omega)] at h2
  rw [h2]
  have : ps.flatMap enc = (ps.take n).flatMap enc ++ (ps.drop n).flatMap enc := by rw [← List.flatMap_append, List.take_append_drop]
  rw [this, List.take_append_of_le_length (by omega), List.take_of_length_le (by omega)]
end
end Go.Proofs.YtmlogmcnblgnbaaGreat
end

section
/- The walk of slices.Compact at pairs of texts. -/
namespace Go.Proofs.YtmlogmcnblgnbaaGreat
open Go.RowKit Go.Sort Go.Lib Go.Shelf

namespace Od
theorem mixed_ : Tryz.prog.follows .mixedOrders = true := by kernel_rfl
theorem run_clear_pairs (w : World) (ty : TypeId) (b o n c : Nat) (hn : 0 < n) (hc : ∀ j, j < n * 2 → (w.cell? ⟨b, o + j, none⟩).isSome = true) (hf : ∀ j, j < n * 2 → w.frozen? ⟨b, o + j, none⟩ = false) :
    (Builtin.clear_ #[152] ty #[.slice (some ⟨b, o, none⟩) n c]).run Tryz.prog w = .ok (.tuple #[]) (w.setCells b o (List.replicate (n * 2) (sv []))) := by
  have hzc : (Builtin.zeroCells #[sv [], sv []] n).toList = List.replicate (n * 2) (sv []) := by
    simp [Builtin.zeroCells]
    apply List.ext_getElem
    · simp
    · intro i h1 h2
      rcases (show i % 2 = 0 ∨ i % 2 = 1 by omega) with h | h <;> simp [h]
  have hst := run_storeCells_cells (P := Tryz.prog) b o (List.replicate (n * 2) (sv [])) 0 w (by simpa using hc) (by simpa using hf) (by intro v hv'; rw [List.eq_of_mem_replicate hv']; rfl)
  simp only [Nat.add_zero] at hst
  have hzv : ∀ W, (zeroValue 87).run Tryz.prog W = .ok (.agg #[sv [], sv []]) W := fun W => Tryz.zeroValue87 W
  obtain ⟨m, rfl⟩ : ∃ m, n = m + 1 := ⟨n - 1, by omega⟩
  simp [Builtin.clear_, run_underlying Tryz.underlying152, hzv, Value.cells, hzc, hst]

theorem pcells {w : World} {blk off : Nat} {d : Array Pr} (h : HoldsK prC 2 w blk off d) {i : Nat} (hi : i < d.size) :
    w.cell? ⟨blk, off + i * 2, none⟩ = some (sv d[i]!.1) ∧ w.cell? ⟨blk, off + i * 2 + 1, none⟩ = some (sv d[i]!.2) ∧ w.frozen? ⟨blk, off + i * 2, none⟩ = false ∧ w.frozen? ⟨blk, off + i * 2 + 1, none⟩ = false :=
  ⟨(h.cell hi (c := 0) (by omega)).1, (h.cell hi (c := 1) (by omega)).1, (h.cell hi (c := 0) (by omega)).2, (h.cell hi (c := 1) (by omega)).2⟩

theorem store_pair_drew {w wr : World} {n blk off : Nat} {dk : Array Pr} {i : Nat} (hi : i < dk.size) (hwr : wr = putRowK prC 2 (Sort.ahead w n) blk off dk) (x : Pr) :
    ((wr.setCell ⟨blk, off + i * 2, none⟩ (sv x.1)).setCell ⟨blk, off + i * 2 + 1, none⟩ (sv x.2)).drew = putRowK prC 2 (Sort.ahead w (n + 1)) blk off (dk.setIfInBounds i x) := by
  show (wr.setCells blk (off + i * 2) (prC x)).drew = _
  rw [putRowK_store prC_len (by decide) hi hwr x]
  rfl

def CompactPost (blk off cap : Nat) (d : Array Pr) (w : World) (e : Ending) (w' : World) : Prop :=
  e = .returned (.slice (some ⟨blk, off, none⟩) (compactUpTo d d.size).length cap) ∧ ∃ q, w' = putRowK prC 2 (Sort.ahead w q) blk off (compactUpTo d d.size ++ List.replicate (d.size - (compactUpTo d d.size).length) ([], [])).toArray

set_option maxRecDepth 100000 in
set_option maxHeartbeats 4000000 in
theorem CompactP_arr (blk off cap : Nat) (d : Array Pr) (w : World) (hH : HoldsK prC 2 w blk off d) (hsz : d.size ≤ 1000000) (hcap : d.size ≤ cap) :
    Calls Tryz.prog 153 #[.slice (some ⟨blk, off, none⟩) d.size cap] w (CompactPost blk off cap d w) := by
  have same : ∀ q, (∀ j, j < d.size → keeps d j = true) → (compactUpTo d d.size).length = d.size ∧ w.drewN q = putRowK prC 2 (Sort.ahead w q) blk off (compactUpTo d d.size ++ List.replicate (d.size - (compactUpTo d d.size).length) ([], [])).toArray := by
    intro q hall
    have e : compactUpTo d d.size = d.toList := by rw [compactUpTo_all d _ hall, range_map_get]
    rw [e]
    refine ⟨by simp, ?_⟩
    simp only [Array.length_toList, Nat.sub_self, List.replicate_zero, List.append_nil, Array.toArray_toList]
    exact (putRowK_self prC 2 (Sort.ahead w q) blk off d (holdsK_ahead prC 2 w q blk off d hH)).symm
  have HS := Lib.hid same
  clear same
  by_cases h2 : d.size < 2
  · have h2' : (d.size : Int) < 2 := by omega
    have HH := Lib.hid hH
    clear hH
    go_enter Tryz.func153, Tryz.ntmps153
    go_wp2
    go_ret
    obtain ⟨e1, e2⟩ := HS.out 0 (fun j hj => keeps_lt_one d j (by omega))
    exact ⟨by rw [e1]; rfl, 0, e2⟩
  · have h2' : ¬ (d.size : Int) < 2 := by omega
    have mixed := mixed_
    go_enter Tryz.func153, Tryz.ntmps153
    go_wp2
    go_loopg [3] d.size (fun g s3 wr => ∃ k q : Nat, 1 ≤ k ∧ k ≤ d.size ∧ d.size - k ≤ g ∧ s3 = .int .i64 k ∧ wr = w.drewN q ∧ ∀ j, j < k → keeps d j = true)
    case atStart => exact ⟨1, 0, Nat.le_refl _, by omega, by omega, rfl, rfl, keeps_lt_one d⟩
    case round =>
      obtain ⟨k, q, hk1, hk, hg, rfl, rfl, hall⟩ := hrel
      by_cases hlt : k < d.size
      · obtain ⟨c1, c1', _, _⟩ := pcells hH hlt
        obtain ⟨c0, c0', _, _⟩ := pcells (i := k - 1) hH (by omega)
        have A := Lib.hid hall
        have HH := Lib.hid hH
        clear hall hH
        generalize hx : d[k]! = x at c1 c1'
        generalize hy : d[k - 1]! = y at c0 c0'
        have B := Lib.hid (And.intro hx hy)
        clear hx hy
        obtain ⟨x1, x2⟩ := x
        obtain ⟨y1, y2⟩ := y
        simp only at c1 c1' c0 c0'
        have k0 : (1 : Int) ≤ (k : Int) := by omega
        have k1 : (0 : Int) ≤ (k : Int) := by omega
        have k2 : (k : Int) < (d.size : Int) := by omega
        have k3 : (0 : Int) ≤ (k : Int) - 1 := by omega
        have k4 : (k : Int) - 1 < (d.size : Int) := by omega
        have k5 : IntKind.i64.wrap ((k : Int) - 1) = (k : Int) - 1 := IntWalk.i64_in _ (by omega)
        have k6 : ((k : Int) - 1).toNat = k - 1 := by omega
        have hdup : (x1 = y1 ∧ x2 = y2) ∨ (x1 = y1 ∧ ¬ x2 = y2) ∨ ¬ x1 = y1 := by
          by_cases h1 : x1 = y1
          · by_cases h2 : x2 = y2
            · exact .inl ⟨h1, h2⟩
            · exact .inr (.inl ⟨h1, h2⟩)
          · exact .inr (.inr h1)
        rcases hdup with ⟨rfl, rfl⟩ | hno
        · go_wp2_with fail
          go_region_o
          go_wp2
          clear c0 c0' c1 c1'
          go_loopg [3, 5] d.size (fun g s3 s5 wr => ∃ (kk k2 q2 : Nat) (dk : Array Pr), s3 = .int .i64 kk ∧ s5 = .int .i64 k2 ∧ 1 ≤ k2 ∧ k + k2 ≤ d.size ∧ d.size - (k + k2) ≤ g ∧ wr = putRowK prC 2 (Sort.ahead w q2) blk off dk ∧ CompInv d (k + k2) kk dk)
          case atStart => exact ⟨k, 1, q + 1, d, rfl, rfl, Nat.le_refl _, by omega, by omega, (putRowK_self prC 2 (Sort.ahead w (q + 1)) blk off d (holdsK_ahead prC 2 w (q + 1) blk off d HH.out)).symm, CompInv.start A.out (keeps_neg (by omega) (by rw [B.out.1, B.out.2]))⟩
          case round =>
            obtain ⟨kk, k2, q2, dk, rfl, rfl, h1, hle, hg2, hwr, hI⟩ := hrel
            have hkk := hI.lt
            have hds := hI.size
            have hHk : HoldsK prC 2 wr blk off dk := by rw [hwr]; exact holdsK_putRowK prC 2 _ blk off d dk (holdsK_ahead prC 2 w q2 blk off d HH.out) hds
            have W2 := Lib.hid hwr
            have I2 := Lib.hid hI
            clear hwr
            by_cases hlt2 : k + k2 < d.size
            · obtain ⟨cm, cm', _, _⟩ := pcells hHk (i := k + k2) (by omega)
              obtain ⟨cp, cp', _, _⟩ := pcells hHk (i := k + k2 - 1) (by omega)
              obtain ⟨ck, ck', fk, fk'⟩ := pcells hHk (i := kk) (by omega)
              rw [hI.high (k + k2) (by omega), show off + (k + k2) * 2 = off + k * 2 + k2 * 2 by omega] at cm cm'
              rw [hI.high (k + k2 - 1) (by omega), show off + (k + k2 - 1) * 2 = off + k * 2 + (k2 - 1) * 2 by omega] at cp cp'
              clear hHk hI
              generalize hu : d[k + k2]! = u at cm cm'
              generalize hv : d[k + k2 - 1]! = v at cp cp'
              generalize dk[kk]! = old at ck ck'
              have C := Lib.hid (And.intro hu hv)
              clear hu hv
              obtain ⟨u1, u2⟩ := u
              obtain ⟨v1, v2⟩ := v
              simp only at cm cm' cp cp'
              have m0 : (1 : Int) ≤ (k2 : Int) := by omega
              have m1 : (0 : Int) ≤ (k2 : Int) := by omega
              have m2 : (k2 : Int) < (d.size : Int) := by omega
              have m3 : (0 : Int) ≤ (k2 : Int) - 1 := by omega
              have m5 : IntKind.i64.wrap ((k2 : Int) - 1) = (k2 : Int) - 1 := IntWalk.i64_in _ (by omega)
              have m6 : ((k2 : Int) - 1).toNat = k2 - 1 := by omega
              have huv : (u1 = v1 ∧ u2 = v2) ∨ (u1 = v1 ∧ ¬ u2 = v2) ∨ ¬ u1 = v1 := by
                by_cases h1 : u1 = v1
                · by_cases h2 : u2 = v2
                  · exact .inl ⟨h1, h2⟩
                  · exact .inr (.inl ⟨h1, h2⟩)
                · exact .inr (.inr h1)
              rcases huv with ⟨rfl, rfl⟩ | huv
              · go_wp2_with fail
                go_region_o
                go_wp2
                go_roundg (d.size - (k + (k2 + 1)))
                case measure => omega
                case rel => exact ⟨kk, k2 + 1, q2 + 1, dk, rfl, by go_num, by omega, by omega, Nat.le_refl _, by rw [W2.out]; rfl, I2.out.skip (keeps_neg (by omega) (by rw [C.out.1, C.out.2]))⟩
              · have huv' : ¬ (u1, u2) = (v1, v2) := by
                  intro h
                  injection h with h1 h2
                  rcases huv with ⟨_, h⟩ | h
                  · exact h h2
                  · exact h h1
                rcases huv with ⟨rfl, hne⟩ | hne
                all_goals
                  go_wp2_with fail
                  go_region_o
                  go_wp2
                  go_roundg (d.size - (k + (k2 + 1)))
                  case measure => omega
                  case rel => exact ⟨kk + 1, k2 + 1, q2 + 1, dk.setIfInBounds kk (_, u2), by go_num, by go_num, by omega, by omega, Nat.le_refl _, store_pair_drew (by omega) W2.out (_, u2), by have := I2.out.keep hlt2 (keeps_pos (by rw [C.out.1, C.out.2]; exact huv')); rwa [C.out.1] at this⟩
            · have hend : k + k2 = d.size := by omega
              have hcl : ∀ ty, (Builtin.clear_ #[152] ty #[.slice (some ⟨blk, off + kk * 2, none⟩) (d.size - kk) (cap - kk)]).run Tryz.prog wr = .ok (.tuple #[]) (wr.setCells blk (off + kk * 2) (List.replicate ((d.size - kk) * 2) (sv []))) := by
                intro ty
                have hcs : ∀ j, j < (d.size - kk) * 2 → (wr.cell? ⟨blk, off + kk * 2 + j, none⟩).isSome = true ∧ wr.frozen? ⟨blk, off + kk * 2 + j, none⟩ = false := by
                  intro j hj
                  obtain ⟨c1, c2, c3, c4⟩ := pcells hHk (i := kk + j / 2) (by omega)
                  rcases (show j % 2 = 0 ∨ j % 2 = 1 by omega) with h | h
                  · rw [show off + kk * 2 + j = off + (kk + j / 2) * 2 by omega, c1, c3]; exact ⟨rfl, rfl⟩
                  · rw [show off + kk * 2 + j = off + (kk + j / 2) * 2 + 1 by omega, c2, c4]; exact ⟨rfl, rfl⟩
                exact run_clear_pairs wr ty blk (off + kk * 2) _ _ (by omega) (fun j hj => (hcs j hj).1) (fun j hj => (hcs j hj).2)
              clear hHk hI
              go_wp2
              go_ret
              have hI := I2.out
              rw [hend] at hI
              refine ⟨by rw [hI.len]; rfl, q2, ?_⟩
              have hz : (List.replicate (d.size - kk) (([], []) : Pr)).flatMap prC = List.replicate ((d.size - kk) * 2) (sv []) := by
                generalize d.size - kk = n
                induction n with
                | zero => rfl
                | succ n ih => rw [List.replicate_succ, List.flatMap_cons, ih, show (n + 1) * 2 = n * 2 + 1 + 1 by omega, List.replicate_succ, List.replicate_succ]; rfl
              rw [hI.len, ← hI.done ([], []), ← putRowK_lay prC_len (by decide) _ blk off _ dk kk (by simp; omega), ← W2.out, hz]
        · have hno' : ¬ (x1, x2) = (y1, y2) := by
            intro h
            injection h with h1 h2
            rcases hno with ⟨_, h⟩ | h
            · exact h h2
            · exact h h1
          have hkeep : keeps d k = true := keeps_pos (by rw [B.out.1, B.out.2]; exact hno')
          have HK := Lib.hid hkeep
          clear hkeep hno'
          rcases hno with ⟨rfl, hne⟩ | hne
          all_goals
            go_wp2_with fail
            go_region_o
            go_wp2
            go_roundg (d.size - (k + 1))
            case measure => omega
            case rel =>
              refine ⟨k + 1, q + 1, by omega, by omega, Nat.le_refl _, by go_num, rfl, fun j hj => ?_⟩
              by_cases e : j = k
              · subst e
                exact HK.out
              · exact A.out j (by omega)
      · have : k = d.size := by omega
        subst this
        have HH := Lib.hid hH
        clear hH
        go_wp2
        go_ret
        obtain ⟨e1, e2⟩ := HS.out q hall
        exact ⟨by rw [e1]; rfl, q, e2⟩

/-- Compact at pairs of the call's own. -/
theorem compactP_own (base c : Nat) (A : Option Addr) (ps : List Pr) (w : World) (h : w.ownsRow base 87 2 (.slice A ps.length c) ps.length (prsC ps)) (hsz : ps.length ≤ 1000000) :
    Calls Tryz.prog 153 #[.slice A ps.length c] w fun e w' => e = .returned (.slice A (Lib.compact ps).length c) ∧ w'.ownsRow base 87 2 (.slice A (Lib.compact ps).length c) (Lib.compact ps).length (prsC (Lib.compact ps)) ∧ w.grownBy w' (Value.slice A ps.length c).ownBlock := by
  rcases h.2 with ⟨hv, hn⟩ | ⟨g, cap, cur, hv, hg, hb, h1, h2, h3, h4⟩
  · have hnil : ps = [] := List.length_eq_zero_iff.1 hn
    subst hnil
    have h' : (0 : Int) < 2 := by omega
    go_enter Tryz.func153, Tryz.ntmps153
    go_wp2
    go_ret
    exact ⟨rfl, h, World.grownBy.refl _ _⟩
  · injection hv with e1 _ e3
    subst e1 e3
    have hle : (Lib.compact ps).length ≤ ps.length := by
      unfold Lib.compact Lib.compactUpTo
      rw [List.length_map]
      exact Nat.le_trans (List.length_filter_le _ _) (by simp)
    have hcon := CompactP_arr g 0 c ps.toArray w (own_holdsK prC_len (by decide) hb h4) (by simpa using hsz) (by simpa using h1)
    simp only [List.size_toArray] at hcon
    refine hcon.mono ?_
    rintro e w' ⟨rfl, q, rfl⟩
    have hc : compactUpTo ps.toArray ps.toArray.size = Lib.compact ps := rfl
    rw [hc, List.size_toArray]
    have hs : (Lib.compact ps ++ List.replicate (ps.length - (Lib.compact ps).length) (([], []) : Pr)).take (Lib.compact ps).length = Lib.compact ps := by
      rw [List.take_append_of_le_length (Nat.le_refl _), List.take_length]
    have ho := own_of_putRowK (os := #[]) (q := q) (n := (Lib.compact ps).length) (ps := Lib.compact ps ++ List.replicate (ps.length - (Lib.compact ps).length) (([], []) : Pr)) prC_len (by decide) hg hb (by omega) h2 h3 (by simp) (by simp; omega)
    rw [hs, grow_empty] at ho
    refine ⟨rfl, ho, ?_⟩
    have := rowk_grownBy (w := w) (g := g) (n := q) (os := #[]) (flatK prC 2 (Lib.compact ps ++ List.replicate (ps.length - (Lib.compact ps).length) (([], []) : Pr)).toArray)
    rw [grow_empty] at this
    exact this
end Od
end Go.Proofs.YtmlogmcnblgnbaaGreat
end

section
/- Maps of the call's own, as functions from keys (over the library's ownsMap and ranges, each element held as it is). -/
namespace Go.Proofs.YtmlogmcnblgnbaaGreat
open Go.RowKit Go.Maps

/-- An element read as the value that it is. -/
def idR (v : Value) : Option (DataW Value × List MemPlace) := some (.held v, [])

/-- Keys of a type in Lean, as keys in the program. -/
structure KeyKind (P : Program) (k : TypeId) (α : Type) where
  val : α → Value
  ok : α → Prop
  kl : α → Lit
  law : Keyed P k
  key : ∀ x, ok x → keyOf P k (val x) = some (kl x)
  inj : ∀ x y, val x = val y → x = y
  inv : ∀ v l, keyOf P k v = some l → ∃ x, ok x ∧ v = val x

variable {P : Program} {k : TypeId} {α : Type} {κ : KeyKind P k α} {w w' : World} {b n : Nat} {f : α → Option Value}

theorem KeyKind.kl_inj (κ : KeyKind P k α) {x y : α} (hx : κ.ok x) (hy : κ.ok y) (h : κ.kl x = κ.kl y) : x = y :=
  κ.inj _ _ (κ.law.inj (κ.key x hx) (h ▸ κ.key y hy))
theorem KeyKind.kl_key (κ : KeyKind P k α) {x : α} (hx : κ.ok x) : WideAt.IsKeyLit (κ.kl x) := κ.law.key (κ.key x hx)

/-- What a datum says at each key. -/
def SaysF (κ : KeyKind P k α) (D : DataW Value) (f : α → Option Value) : Prop :=
  ∀ x, κ.ok x → Maps.has D (κ.kl x) = (f x).isSome ∧ ∀ z, D.atKey (κ.kl x) z = ((f x).map DataW.held).getD z

/-- Block b is a map of at most n entries that holds f x at the key x. -/
def MapIs (κ : KeyKind P k α) (w : World) (b n : Nat) (f : α → Option Value) : Prop :=
  ∃ D : DataW Value, w.ownsMap P k idR b n D ∧ SaysF κ D f

theorem MapIs.made (κ : KeyKind P k α) (w : World) : MapIs κ (w.alloc (.map #[] 0)) w.heap.size 0 (fun _ => none) :=
  ⟨.map [], World.ownsMap_made w P k idR, fun _ _ => ⟨rfl, fun z => Maps.atKey_of_not_has (by rfl) z⟩⟩
theorem MapIs.lt (h : MapIs κ w b n f) : b < w.heap.size := by obtain ⟨D, h, _⟩ := h; exact h.lt
theorem MapIs.mono (h : MapIs κ w b n f) {n' : Nat} (hn : n ≤ n') : MapIs κ w b n' f := by obtain ⟨D, h, hf⟩ := h; exact ⟨D, h.mono hn, hf⟩
theorem MapIs.same (h : MapIs κ w b n f) (he : w'.heap[b]? = w.heap[b]?) : MapIs κ w' b n f := by
  obtain ⟨D, ⟨es, c, hb, r⟩, hf⟩ := h
  exact ⟨D, ⟨es, c, he.trans hb, r⟩, hf⟩
theorem MapIs.on (h : MapIs κ w b n f) (hb : Below w.heap.size w w') : MapIs κ w' b n f := h.same (hb.block b h.lt)
theorem MapIs.alloc (h : MapIs κ w b n f) (o : Obj) : MapIs κ (w.alloc o) b n f := by obtain ⟨D, h, hf⟩ := h; exact ⟨D, h.alloc o, hf⟩
theorem MapIs.drew (h : MapIs κ w b n f) : MapIs κ w.drew b n f := h
theorem MapIs.kept {row : Option Nat} (h : MapIs κ w b n f) (hg : w.grownBy w' row) (hne : some b ≠ row) : MapIs κ w' b n f := by obtain ⟨D, h, hf⟩ := h; exact ⟨D, h.kept hg hne, hf⟩

theorem MapIs.lookup {t e : TypeId} {z : Value} (h : MapIs κ w b n f) (ht : P.underlying t = some (.map k e)) (hz : (zeroValue e).run P w = .ok z w) {x : α} (hx : κ.ok x) :
    (Instr.lookup t (.map (some b)) (κ.val x) false).run P w = .ok ((f x).getD z) w := by
  obtain ⟨D, h, hf⟩ := h
  obtain ⟨v, ps, hrun, hv⟩ := h.lookup κ.law ht hz (zd := .held z) (zp := []) rfl (κ.key x hx)
  rw [(hf x hx).2] at hv
  rw [hrun]
  cases hfx : f x
  · rw [hfx] at hv
    simp only [idR, Option.map_none, Option.getD_none, Option.some.injEq, Prod.mk.injEq, DataW.held.injEq] at hv
    rw [hv.1]; rfl
  · rw [hfx] at hv
    simp only [idR, Option.map_some, Option.getD_some, Option.some.injEq, Prod.mk.injEq, DataW.held.injEq] at hv
    rw [hv.1]; rfl

open Classical in
theorem MapIs.update {t e : TypeId} (h : MapIs κ w b n f) (ht : P.underlying t = some (.map k e)) (hn : n < maxLen) {x : α} (hx : κ.ok x) (v : Value) :
    ∃ w', (Instr.mapUpdate t (.map (some b)) (κ.val x) v).run P w = .ok () w' ∧ MapIs κ w' b (n + 1) (fun y => if y = x then some v else f y) ∧ w.grownBy w' (some b) := by
  obtain ⟨D, h, hf⟩ := h
  have him := h.isMap
  obtain ⟨w', hrun, h', hg⟩ := h.update κ.law ht hn (key := κ.val x) (val := v) (d := .held v) (ps := []) (κ.key x hx) rfl
  refine ⟨w', hrun, ⟨_, h', fun y hy => ?_⟩, hg⟩
  by_cases hyx : y = x
  · subst hyx
    exact ⟨by rw [Maps.has_put_same him (κ.kl_key hy)]; simp, fun z => by rw [Maps.atKey_put_same him (κ.kl_key hy)]; simp⟩
  · have hne : κ.kl y ≠ κ.kl x := fun e => hyx (κ.kl_inj hy hx e)
    have hkx := κ.kl_key hx
    exact ⟨by rw [Maps.has_put_other hne]; simp [hyx, hf y hy], fun z => by rw [Maps.atKey_put_other hne]; simp [hyx, hf y hy]⟩

/-- 'for k := range m' under way: f: what the map holds; left: which keys are still to come. -/
def RangeIs (κ : KeyKind P k α) (w : World) (b r n : Nat) (f : α → Option Value) (left : α → Bool) (cnt : Nat) : Prop :=
  ∃ (D : DataW Value) (L : Lit → Bool), w.ranges P k idR b r n D L cnt ∧ SaysF κ D f ∧ ∀ x, κ.ok x → L (κ.kl x) = left x

variable {r cnt : Nat} {left : α → Bool}
theorem RangeIs.map (h : RangeIs κ w b r n f left cnt) : MapIs κ w b n f := by obtain ⟨D, L, h, hf, _⟩ := h; exact ⟨D, h.owns, hf⟩
theorem RangeIs.left_eq (h : RangeIs κ w b r n f left cnt) : w.rangeLeft b r = cnt := by obtain ⟨D, L, h, _⟩ := h; exact h.left_eq
theorem RangeIs.lt (h : RangeIs κ w b r n f left cnt) : r < w.heap.size := by obtain ⟨D, L, h, _⟩ := h; exact h.lt
theorem RangeIs.ne (h : RangeIs κ w b r n f left cnt) : r ≠ b := by obtain ⟨D, L, h, _⟩ := h; exact h.ne
theorem RangeIs.same (h : RangeIs κ w b r n f left cnt) (hb : w'.heap[b]? = w.heap[b]?) (hr : w'.heap[r]? = w.heap[r]?) : RangeIs κ w' b r n f left cnt := by
  obtain ⟨D, L, ⟨es, clock, since, seen, c0, h1, h2, h3, h4, h5, h6⟩, hf, hl⟩ := h
  exact ⟨D, L, ⟨es, clock, since, seen, c0, hb.trans h1, h2, h3, h4, hr.trans h5, h6⟩, hf, hl⟩
theorem RangeIs.on (h : RangeIs κ w b r n f left cnt) (hb : Below w.heap.size w w') : RangeIs κ w' b r n f left cnt := h.same (hb.block b h.map.lt) (hb.block r h.lt)
theorem RangeIs.kept {row : Option Nat} (h : RangeIs κ w b r n f left cnt) (hg : w.grownBy w' row) (hb : some b ≠ row) (hr : some r ≠ row) : RangeIs κ w' b r n f left cnt := by
  obtain ⟨D, L, h, hf, hl⟩ := h
  exact ⟨D, L, h.kept hg hb hr, hf, hl⟩

theorem MapIs.range {t e : TypeId} (h : MapIs κ w b n f) (ht : P.underlying t = some (.map k e)) :
    ∃ w', (Instr.range t (.map (some b))).run P w = .ok (.pointer (some ⟨w.heap.size, 0, none⟩)) w' ∧ (∃ cnt, RangeIs κ w' b w.heap.size n f (fun x => (f x).isSome) cnt) ∧ w.grownBy w' none ∧ w'.heap.size = w.heap.size + 1 := by
  obtain ⟨D, h, hf⟩ := h
  obtain ⟨w', hrun, h1, h2, h3⟩ := h.range κ.law ht
  exact ⟨w', hrun, ⟨_, D, _, h1, hf, fun x hx => (hf x hx).1⟩, h2, h3⟩

open Classical in
theorem RangeIs.next (h : RangeIs κ w b r n f left cnt) (ty : TypeId) :
    (cnt = 0 ∧ (∀ x, κ.ok x → left x = false) ∧ (Instr.next (.pointer (some ⟨r, 0, none⟩)) false ty).run P w = .ok (.tuple #[.bool false]) w) ∨
    ∃ x v w' cnt', κ.ok x ∧ left x = true ∧ f x = some v ∧ (Instr.next (.pointer (some ⟨r, 0, none⟩)) false ty).run P w = .ok (.tuple #[.bool true, κ.val x, v]) w' ∧
      RangeIs κ w' b r n f (fun y => left y && decide (y ≠ x)) cnt' ∧ cnt' < cnt ∧ w.grownBy w' (some r) ∧ w'.heap.size = w.heap.size ∧ (Instr.entry (.pointer (some ⟨r, 0, none⟩))).run P w' = .ok (.tuple #[κ.val x, v]) w' := by
  obtain ⟨D, L, h, hf, hl⟩ := h
  rcases h.next κ.law ty with ⟨h0, hL, hrun⟩ | ⟨key, v, kl, y, w', cnt', hkey, hLk, hv, hat, hrun, hrg, hlt, hgr, hsz, hen⟩
  · exact .inl ⟨h0, fun x hx => by rw [← hl x hx]; exact hL _, hrun⟩
  · obtain ⟨x, hx, rfl⟩ := κ.inv key kl hkey
    have hkl : κ.kl x = kl := Option.some.inj ((κ.key x hx).symm.trans hkey)
    subst hkl
    have hy : y = (.held v, []) := (Option.some.inj hv).symm
    subst hy
    have hfx : f x = some v := by
      have h1 := hat .nil
      rw [(hf x hx).2] at h1
      cases hfx : f x with
      | none => rw [hfx] at h1; cases h1
      | some v' => rw [hfx] at h1; cases h1; rfl
    refine .inr ⟨x, v, w', cnt', hx, by rw [← hl x hx]; exact hLk, hfx, hrun, ⟨D, _, hrg, hf, fun z hz => ?_⟩, hlt, hgr, hsz, hen⟩
    show (L (κ.kl z) && !(κ.kl z).sameKey (κ.kl x)) = _
    rw [hl z hz]
    by_cases hzx : z = x
    · subst hzx
      rw [WideAt.sameKey_self (κ.kl_key hz)]
      simp
    · rw [Maps.sameKey_ne (fun e => hzx (κ.kl_inj hz hx e))]
      simp [hzx]

section
variable {ops : Array Oper} {rest : List Oper} {o : Oper} {a : Act} {Q : Exit → Act → World → Prop} (w : World)

theorem wpList_lookup_is (hg : o.guard = none) (m x : Operand) (t : TypeId) (hop : o.op = Op.lookup t m x false) (e : TypeId) (ht : P.underlying t = some (.map k e)) (z : Value) (hz : (zeroValue e).run P w = .ok z w)
    (b n : Nat) (f : α → Option Value) (hm : a.eval m = .map (some b)) (h : MapIs κ w b n f) (key : α) (hx : a.eval x = κ.val key) (hk : κ.ok key)
    (hK : wpList P ops Q rest (a.put o.dst ((f key).getD z)) w) : wpList P ops Q (o :: rest) a w := by
  refine wpList_plain hg fun K' hK' => ?_
  have hrun := h.lookup ht hz hk
  unfold Oper.wp
  simp [execOp, hop, hm, hx, hrun, Result.andThen]
  exact hK' _ _ hK

open Classical in
theorem wpList_update_is (hg : o.guard = none) (m x v : Operand) (t : TypeId) (hop : o.op = Op.mapUpdate t m x v) (e : TypeId) (ht : P.underlying t = some (.map k e))
    (b n : Nat) (f : α → Option Value) (hm : a.eval m = .map (some b)) (h : MapIs κ w b n f) (hn : n < maxLen) (key : α) (val : Value) (hx : a.eval x = κ.val key) (hv : a.eval v = val) (hk : κ.ok key)
    (hK : ∀ w', MapIs κ w' b (n + 1) (fun y => if y = key then some val else f y) → w.grownBy w' (some b) → wpList P ops Q rest (a.put o.dst undef) w') : wpList P ops Q (o :: rest) a w := by
  refine wpList_plain hg fun K' hK' => ?_
  obtain ⟨w', hrun, h1, h2⟩ := h.update ht hn hk val
  unfold Oper.wp
  simp [execOp, hop, hm, hx, hv, hrun, Result.andThen]
  exact hK' _ _ (hK w' h1 h2)

theorem wpList_range_is (hg : o.guard = none) (m : Operand) (t : TypeId) (hop : o.op = Op.range t m) (e : TypeId) (ht : P.underlying t = some (.map k e)) (b n : Nat) (f : α → Option Value)
    (hm : a.eval m = .map (some b)) (h : MapIs κ w b n f)
    (hK : ∀ w' cnt, RangeIs κ w' b w.heap.size n f (fun x => (f x).isSome) cnt → w.grownBy w' none → w'.heap.size = w.heap.size + 1 → wpList P ops Q rest (a.put o.dst (.pointer (some ⟨w.heap.size, 0, none⟩))) w') :
    wpList P ops Q (o :: rest) a w := by
  refine wpList_plain hg fun K' hK' => ?_
  obtain ⟨w', hrun, ⟨cnt, r1⟩, r2, r3⟩ := h.range (t := t) ht
  unfold Oper.wp
  simp [execOp, hop, hm, hrun, Result.andThen]
  exact hK' _ _ (hK w' cnt r1 r2 r3)

open Classical in
theorem wpList_next_is (hg : o.guard = none) (it : Operand) (hop : o.op = Op.next it false) (b r n : Nat) (f : α → Option Value) (left : α → Bool) (cnt : Nat) (hit : a.eval it = .pointer (some ⟨r, 0, none⟩)) (h : RangeIs κ w b r n f left cnt)
    (hDone : (∀ x, κ.ok x → left x = false) → wpList P ops Q rest (a.put o.dst (.tuple #[.bool false])) w)
    (hMore : ∀ (x : α) (v : Value) (w' : World) (cnt' : Nat), κ.ok x → left x = true → f x = some v → RangeIs κ w' b r n f (fun y => left y && decide (y ≠ x)) cnt' → cnt' < cnt → w.grownBy w' (some r) → w'.heap.size = w.heap.size →
      (Instr.entry (.pointer (some ⟨r, 0, none⟩))).run P w' = .ok (.tuple #[κ.val x, v]) w' → wpList P ops Q rest (a.put o.dst (.tuple #[.bool true, κ.val x, v])) w') :
    wpList P ops Q (o :: rest) a w := by
  refine wpList_plain hg fun K' hK' => ?_
  unfold Oper.wp
  rcases h.next o.type with ⟨_, hl, hrun⟩ | ⟨x, v, w', cnt', hx, hlx, hfx, hrun, hrg, hlt, hgr, hsz, hen⟩
  · simp [execOp, hop, hit, hrun, Result.andThen]
    exact hK' _ _ (hDone hl)
  · simp [execOp, hop, hit, hrun, Result.andThen]
    exact hK' _ _ (hMore x v w' cnt' hx hlx hfx hrg hlt hgr hsz hen)
end

/-- Texts as keys. -/
def strKind {P : Program} {k : TypeId} (hk : P.underlying k = some .string) : KeyKind P k Str where
  val := sv
  ok s := s.length ≤ maxLen
  kl s := .string s
  law := string_keyed hk
  key s hs := by
    have h : (⟨s.toArray⟩ : ByteArray).size ≤ maxLen := by simpa [ByteArray.size] using hs
    simp [keyOf, hk, mapKey, h]
  inj x y h := by simpa using h
  inv v l h := by
    cases v <;> simp [keyOf, hk, mapKey] at h
    rename_i s
    refine ⟨s.data.toList, by simpa using h.1, by simp⟩
end Go.Proofs.YtmlogmcnblgnbaaGreat
end

section
/- The keys of the program's maps: texts, and pairs of texts. -/
namespace Go.Proofs.YtmlogmcnblgnbaaGreat
open Go.RowKit Go.Maps

namespace Od
theorem laidOut' : laidOutB Tryz.prog = true := by kernel_rfl
theorem rowP : (87 : TypeId) < Tryz.prog.types.size := of_decide_eq_true (by kernel_rfl)
theorem wideP : (match Tryz.prog.underlying 87 with | some (.array _ _) | some (.struct _) => true | _ => false) = true := by rw [Tryz.underlying87]
theorem keyAtP : Tryz.prog.keyTypeAt 3 87 = true := by kernel_rfl
set_option maxRecDepth 100000 in
theorem lawP : Keyed Tryz.prog 87 := Keyed.of_law (deep_law_laid laidOut' (m := 3) (by omega) rowP keyAtP wideP)
theorem cellsP : Tryz.prog.cellsOf 87 = 2 := by kernel_rfl
theorem keyTypeP : Tryz.prog.keyType 87 = true := by kernel_rfl
theorem cellsS : Tryz.prog.cellsOf 9 = 1 := by kernel_rfl
theorem sizeP : Tryz.prog.types.size = (Tryz.prog.types.size - 1) + 1 := by kernel_rfl
theorem sizeP2 : Tryz.prog.types.size - 1 = (Tryz.prog.types.size - 2) + 1 := by kernel_rfl
theorem keyLits_s (d : Nat) (s : Str) (hs : s.length ≤ maxLen) : Tryz.prog.keyLits (d + 1) 9 [sv s] = some [.string s] := by
  have h : (⟨s.toArray⟩ : ByteArray).size ≤ maxLen := by simpa [ByteArray.size] using hs
  simp [Program.keyLits, Tryz.underlying9, h]
def plit (p : Pr) : Lit := .string (keyBytes [.string p.1, .string p.2])
theorem keyOf_pair (p : Pr) (h1 : p.1.length ≤ maxLen) (h2 : p.2.length ≤ maxLen) : keyOf Tryz.prog 87 (.agg #[sv p.1, sv p.2]) = some (plit p) := by
  have hu := Tryz.underlying87
  have hform : (Value.agg #[sv p.1, sv p.2]).formed Tryz.prog 87 = true := by simp [Value.formed, hu, cellsP]
  unfold keyOf
  rw [hu]
  simp only [keyTypeP, hform, Bool.and_self, if_true]
  rw [sizeP, sizeP2]
  unfold Program.keyLits
  rw [hu]
  simp only [Value.cells, cellsP]
  simp [keyLits_s, h1, h2, cellsS, plit]

theorem keyLits_s_inv {d : Nat} {cs : List Value} {l : List Lit} (h : Tryz.prog.keyLits d 9 cs = some l) : ∃ s : Str, s.length ≤ maxLen ∧ cs = [sv s] ∧ l = [.string s] := by
  cases d with
  | zero => simp [Program.keyLits] at h
  | succ d =>
    unfold Program.keyLits at h
    simp only [Tryz.underlying9] at h
    split at h
    all_goals simp_all
    rename_i s
    exact ⟨s.data.toList, by rw [Array.length_toList]; exact h.1, by simp, h.2.symm⟩
theorem keyOf_pair_inv (v : Value) (l : Lit) (h : keyOf Tryz.prog 87 v = some l) : ∃ p : Pr, (p.1.length ≤ maxLen ∧ p.2.length ≤ maxLen) ∧ v = .agg #[sv p.1, sv p.2] := by
  have hu := Tryz.underlying87
  unfold keyOf at h
  simp only [hu, keyTypeP, Bool.true_and] at h
  split at h
  · rename_i hf
    cases v with
    | agg cs =>
      rw [sizeP] at h
      unfold Program.keyLits at h
      simp only [hu] at h
      simp [Value.formed, hu, cellsP] at hf
      simp only [Value.cells, cellsP] at h
      obtain ⟨xs⟩ := cs
      have hx : xs.length = 2 := by simpa using hf
      obtain ⟨x, y, rfl⟩ : ∃ x y, xs = [x, y] := by
        match xs, hx with
        | [x, y], _ => exact ⟨x, y, rfl⟩
      simp only [List.mapM_cons, List.mapM_nil, cellsS, List.drop_zero, List.take_succ_cons, List.take_zero, List.drop_succ_cons] at h
      cases h1 : Tryz.prog.keyLits (Tryz.prog.types.size - 1 + 1) 9 [x] with
      | none => rw [h1] at h; split at h <;> cases h
      | some l1 =>
        cases h2 : Tryz.prog.keyLits (Tryz.prog.types.size - 1 + 1) 9 [y] with
        | none => rw [h1, h2] at h; split at h <;> cases h
        | some l2 =>
          obtain ⟨s1, hs1, e1, _⟩ := keyLits_s_inv h1
          obtain ⟨s2, hs2, e2, _⟩ := keyLits_s_inv h2
          cases e1
          cases e2
          exact ⟨(s1, s2), ⟨hs1, hs2⟩, rfl⟩
    | _ => simp [Value.formed, hu] at hf
  · cases h
noncomputable def pairKind : KeyKind Tryz.prog 87 Pr where
  val p := .agg #[sv p.1, sv p.2]
  ok p := p.1.length ≤ maxLen ∧ p.2.length ≤ maxLen
  kl := plit
  law := lawP
  key p hp := keyOf_pair p hp.1 hp.2
  inj x y h := by
    obtain ⟨a, b⟩ := x
    obtain ⟨c, d⟩ := y
    simp only [Value.agg.injEq] at h
    have h1 := congrArg (fun z : Array Value => z.toList) h
    simp at h1
    simp [h1]
  inv := keyOf_pair_inv
noncomputable def strK : KeyKind Tryz.prog 9 Str := strKind Tryz.underlying9
end Od
end Go.Proofs.YtmlogmcnblgnbaaGreat
end

section
/- Plain mathematics: the search through pairs, a row of units that are still to be looked at. No program. -/
namespace Go.Proofs.YtmlogmcnblgnbaaGreat
namespace Od
/-- Whom pairs lead to from one, directly. -/
def succ (l : List Pr) (s : Str) : List Str := (l.filter (fun p => p.1 == s)).map Prod.snd
theorem mem_succ {l : List Pr} {s t : Str} : t ∈ succ l s ↔ (s, t) ∈ l := by
  unfold succ
  rw [List.mem_map]
  constructor
  · rintro ⟨⟨x, y⟩, h, rfl⟩
    obtain ⟨h1, h2⟩ := List.mem_filter.1 h
    have : x = s := by simpa using h2
    subst this
    exact h1
  · intro h
    exact ⟨(s, t), List.mem_filter.2 ⟨h, by simp⟩, rfl⟩
theorem succ_nil (s : Str) : succ [] s = [] := rfl
theorem succ_app (l : List Pr) (p : Pr) (s : Str) : succ (l ++ [p]) s = succ l s ++ (if p.1 = s then [p.2] else []) := by
  unfold succ
  rw [List.filter_append, List.map_append]
  congr 1
  by_cases h : p.1 = s <;> simp [h]
theorem succ_len (l : List Pr) (s : Str) : (succ l s).length ≤ l.length := by
  unfold succ; rw [List.length_map]; exact List.length_filter_le _ _

structure Bfs (l : List Pr) (a : Str) (D T : List Str) : Prop where
  done : ∀ b, b ∈ D → R l a b
  todo : ∀ b, b ∈ T → R l a b
  first : ∀ b, b ∈ succ l a → b ∈ D ∨ b ∈ T
  next : ∀ x, x ∈ D → ∀ y, y ∈ succ l x → y ∈ D ∨ y ∈ T
/-- What is left to do. -/
def mea (l : List Pr) (D T : List Str) : Nat := (l.filter (fun p => !decide (p.1 ∈ D))).length + T.length
theorem Bfs.start (l : List Pr) (a : Str) : Bfs l a [] (succ l a) where
  done := by simp
  todo b hb := .one (mem_succ.1 hb)
  first b hb := .inr hb
  next := by simp
theorem Bfs.skip {l : List Pr} {a b : Str} {D T : List Str} (h : Bfs l a D (b :: T)) (hb : b ∈ D) : Bfs l a D T where
  done := h.done
  todo x hx := h.todo x (.tail _ hx)
  first x hx := by
    rcases h.first x hx with e | e
    · exact .inl e
    · rcases List.mem_cons.1 e with e | e
      · exact .inl (e ▸ hb)
      · exact .inr e
  next x hx y hy := by
    rcases h.next x hx y hy with e | e
    · exact .inl e
    · rcases List.mem_cons.1 e with e | e
      · exact .inl (e ▸ hb)
      · exact .inr e
theorem Bfs.take {l : List Pr} {a b : Str} {D T : List Str} (h : Bfs l a D (b :: T)) : Bfs l a (b :: D) (T ++ succ l b) where
  done x hx := by
    rcases List.mem_cons.1 hx with e | e
    · subst e; exact h.todo _ (.head _)
    · exact h.done x e
  todo x hx := by
    rcases List.mem_append.1 hx with e | e
    · exact h.todo x (.tail _ e)
    · exact (h.todo b (.head _)).snoc (mem_succ.1 e)
  first x hx := by
    rcases h.first x hx with e | e
    · exact .inl (.tail _ e)
    · rcases List.mem_cons.1 e with e | e
      · exact .inl (e ▸ .head _)
      · exact .inr (List.mem_append_left _ e)
  next x hx y hy := by
    rcases List.mem_cons.1 hx with e | e
    · subst e; exact .inr (List.mem_append_right _ hy)
    · rcases h.next x e y hy with e | e
      · exact .inl (.tail _ e)
      · rcases List.mem_cons.1 e with e | e
        · exact .inl (e ▸ .head _)
        · exact .inr (List.mem_append_left _ e)
theorem mea_skip (l : List Pr) (b : Str) (D T : List Str) : mea l D (b :: T) = mea l D T + 1 := by simp [mea]; omega
theorem mea_take {l : List Pr} {b : Str} {D T : List Str} (hb : ¬ b ∈ D) : mea l D (b :: T) = mea l (b :: D) (T ++ succ l b) + 1 := by
  unfold mea succ
  rw [List.length_append, List.length_map, List.length_cons]
  suffices h : (l.filter (fun p => !decide (p.1 ∈ D))).length = (l.filter (fun p => !decide (p.1 ∈ b :: D))).length + (l.filter (fun p => p.1 == b)).length by omega
  simp only [List.mem_cons]
  induction l with
  | nil => rfl
  | cons p l ih =>
    by_cases h1 : p.1 = b
    · have h2 : ¬ p.1 ∈ D := h1 ▸ hb
      simp only [List.filter_cons, h1, true_or, decide_true, Bool.not_true, Bool.false_eq_true, if_false, beq_self_eq_true, if_true, List.length_cons]
      rw [if_pos (by simpa using hb)]
      simp only [List.length_cons, ih]
      omega
    · have h3 : (p.1 == b) = false := by simpa using h1
      by_cases h2 : p.1 ∈ D <;> simp [h1, h2, h3, ih] <;> omega
theorem Bfs.end {l : List Pr} {a : Str} {D : List Str} (h : Bfs l a D []) (b : Str) : b ∈ D ↔ b ∈ reachL l a := by
  rw [mem_reachL]
  refine ⟨h.done b, fun hr => ?_⟩
  refine Closed.all (l := l) (a := a) (S := D) (fun p hp hq => ?_) hr
  rcases hq with e | e
  · rcases h.first p.2 (mem_succ.2 (e ▸ hp)) with e | e
    · exact e
    · simp at e
  · rcases h.next p.1 e p.2 (mem_succ.2 hp) with e | e
    · exact e
    · simp at e
theorem mea_start (l : List Pr) (a : Str) : mea l [] (succ l a) ≤ 2 * l.length := by
  unfold mea
  have := succ_len l a
  have := List.length_filter_le (fun p : Pr => !decide (p.1 ∈ ([] : List Str))) l
  omega
end Od
end Go.Proofs.YtmlogmcnblgnbaaGreat
end

section
/- A map from texts to rows of texts, all the call's own: what is put, in words of pairs. -/
namespace Go.Proofs.YtmlogmcnblgnbaaGreat
open Go.RowKit Go.Maps

section
variable {P : Program} {k : TypeId} {α : Type} {κ : KeyKind P k α} {ops : Array Oper} {o : Oper} {a : Act} {K : Act → World → Prop} {Q : Exit → Act → World → Prop} {E : Prop} (w : World)
/-- A look-up at a step of a region that draws its order. -/
theorem step_lookup_is (hw : Region.wanted o (yielded ops a.tmps) = true) (m x : Operand) (t : TypeId) (hop : o.op = Op.lookup t m x false) (e : TypeId) (ht : P.underlying t = some (.map k e)) (z : Value) (hz : (zeroValue e).run P w = .ok z w)
    (b n : Nat) (f : α → Option Value) (hm : a.eval m = .map (some b)) (h : MapIs κ w b n f) (key : α) (hx : a.eval x = κ.val key) (hk : κ.ok key)
    (hK : K (a.put o.dst ((f key).getD z)) w) : if Region.wanted o (yielded ops a.tmps) = true then Oper.wp P o a w K Q else E := by
  rw [if_pos hw]
  have hrun := h.lookup ht hz hk
  unfold Oper.wp
  simp [execOp, hop, hm, hx, hrun, Result.andThen]
  exact hK
open Classical in
theorem step_update_is (hw : Region.wanted o (yielded ops a.tmps) = true) (m x v : Operand) (t : TypeId) (hop : o.op = Op.mapUpdate t m x v) (e : TypeId) (ht : P.underlying t = some (.map k e))
    (b n : Nat) (f : α → Option Value) (hm : a.eval m = .map (some b)) (h : MapIs κ w b n f) (hn : n < maxLen) (key : α) (val : Value) (hx : a.eval x = κ.val key) (hv : a.eval v = val) (hk : κ.ok key)
    (hK : ∀ w', MapIs κ w' b (n + 1) (fun y => if y = key then some val else f y) → w.grownBy w' (some b) → K (a.put o.dst undef) w') :
    if Region.wanted o (yielded ops a.tmps) = true then Oper.wp P o a w K Q else E := by
  rw [if_pos hw]
  obtain ⟨w', hrun, h1, h2⟩ := h.update ht hn hk val
  unfold Oper.wp
  simp [execOp, hop, hm, hx, hv, hrun, Result.andThen]
  exact hK w' h1 h2
end

namespace Od
abbrev okS (s : Str) : Prop := s.length ≤ maxLen
abbrev rowV (o : Option Value) : Value := o.getD (.slice none 0 0)
/-- The map in block m holds, for each text, a row of the call's own with those that pairs lead to; f: the rows. -/
structure WaysFn (w : World) (base m : Nat) (l : List Pr) (f : Str → Option Value) : Prop where
  map : MapIs strK w m l.length f
  low : base ≤ m
  row : ∀ s, okS s → w.ownsRow base 9 1 (rowV (f s)) (succ l s).length (svs (succ l s))
  sep : ∀ s t, okS s → okS t → s ≠ t → Sep (rowV (f s)) (rowV (f t))
  off : ∀ s, okS s → ∀ g, (rowV (f s)).ownBlock = some g → g ≠ m
def WaysIs (w : World) (base m : Nat) (l : List Pr) : Prop := ∃ f, WaysFn w base m l f
section
variable {w w' : World} {base m : Nat} {l : List Pr} {f : Str → Option Value} {X : Nat → Prop}
theorem WaysFn.lt (h : WaysFn w base m l f) : m < w.heap.size := h.map.lt
theorem WaysFn.on (h : WaysFn w base m l f) (hb : Below w.heap.size w w') : WaysFn w' base m l f :=
  ⟨h.map.on hb, h.low, fun s hs => own_on (h.row s hs) hb, h.sep, h.off⟩
theorem WaysFn.alloc (h : WaysFn w base m l f) (o : Obj) : WaysFn (w.alloc o) base m l f := h.on (below_alloc (Nat.le_refl _) (Below.refl _ _))
theorem WaysFn.drew (h : WaysFn w base m l f) : WaysFn w.drew base m l f := h.on (Below.drew (Below.refl _ _))
theorem WaysFn.lower (h : WaysFn w base m l f) {base' : Nat} (hb : base' ≤ base) : WaysFn w base' m l f :=
  ⟨h.map, by have := h.low; omega, fun s hs => own_base (h.row s hs) hb, h.sep, h.off⟩
theorem WaysIs.lt (h : WaysIs w base m l) : m < w.heap.size := by obtain ⟨f, h⟩ := h; exact h.lt
theorem WaysIs.on (h : WaysIs w base m l) (hb : Below w.heap.size w w') : WaysIs w' base m l := by obtain ⟨f, h⟩ := h; exact ⟨f, h.on hb⟩
theorem WaysIs.lower (h : WaysIs w base m l) {base' : Nat} (hb : base' ≤ base) : WaysIs w base' m l := by obtain ⟨f, h⟩ := h; exact ⟨f, h.lower hb⟩
theorem WaysIs.low (h : WaysIs w base m l) : base ≤ m := by obtain ⟨f, h⟩ := h; exact WaysFn.low h
/-- What a call leaves as it was: the blocks of X. -/
structure Keeps (X : Nat → Prop) (w w' : World) : Prop where
  os : w'.os = w.os
  tape : w'.tape = w.tape
  output : w'.output = w.output
  size : w.heap.size ≤ w'.heap.size
  block : ∀ j, X j → w'.heap[j]? = w.heap[j]?
theorem Keeps.below {X : Nat → Prop} {w w' : World} (h : Keeps X w w') {B : Nat} (hB : ∀ j, j < B → X j) : Below B w w' := ⟨h.os, h.tape, h.output, h.size, fun j hj => h.block j (hB j hj)⟩
/-- The same, none of its blocks among those of X. -/
def WaysX (w : World) (X : Nat → Prop) (m : Nat) (l : List Pr) : Prop := ∃ f, WaysFn w 0 m l f ∧ ¬ X m ∧ ∀ s, okS s → ∀ g, (rowV (f s)).ownBlock = some g → ¬ X g
theorem WaysX.is (h : WaysX w X m l) : WaysIs w 0 m l := by obtain ⟨f, h, _⟩ := h; exact ⟨f, h⟩
theorem WaysX.on {X : Nat → Prop} (h : WaysX w X m l) (hb : Below w.heap.size w w') : WaysX w' X m l := by obtain ⟨f, h, r⟩ := h; exact ⟨f, h.on hb, r⟩
theorem WaysX.more {X Y : Nat → Prop} (h : WaysX w X m l) (hXY : ∀ j, j < w.heap.size → Y j → X j) : WaysX w Y m l := by
  obtain ⟨f, h, h1, h2⟩ := h
  exact ⟨f, h, fun hy => h1 (hXY _ h.lt hy), fun s hs g hg hy => h2 s hs g hg (hXY _ ((h.row s hs).lt g hg).2 hy)⟩
theorem WaysX.made (w : World) : WaysX (w.alloc (.map #[] 0)) (fun j => j < w.heap.size) w.heap.size [] :=
  ⟨fun _ => none, ⟨MapIs.made strK w, Nat.zero_le _, fun s _ => World.ownsRow_nil _ _ _ _, fun _ _ _ _ _ => .inl rfl, fun _ _ g h => by simp [Value.ownBlock] at h⟩, Nat.lt_irrefl _, fun _ _ g h => by simp [Value.ownBlock] at h⟩
theorem WaysIs.made (w : World) : WaysIs (w.alloc (.map #[] 0)) w.heap.size w.heap.size [] :=
  ⟨fun _ => none, MapIs.made strK w, Nat.le_refl _, fun s _ => World.ownsRow_nil _ _ _ _, fun _ _ _ _ _ => .inl rfl, fun _ _ g h => by simp [Value.ownBlock] at h⟩

/-- One pair more: the row of its first text has grown, then the map has been written. -/
theorem WaysFn.put (h : WaysFn w base m l f) {a b : Str} (ha : okS a) {w1 w2 w3 : World} {v' : Value} {f' : Str → Option Value} (hfa : f' a = some v') (hfo : ∀ y, y ≠ a → f' y = f y) (hw : Below w.heap.size w w1)
    (hown : w2.ownsRow base 9 1 v' ((succ l a).length + 1) (svs (succ l a) ++ [sv b])) (hg : w1.grownBy w2 (rowV (f a)).ownBlock) (hat : v'.ownBlock = (rowV (f a)).ownBlock ∨ ∃ k, w.heap.size ≤ k ∧ v'.ownBlock = some k)
    (hm3 : MapIs strK w2 m l.length f → MapIs strK w3 m (l.length + 1) f') (hg3 : w2.grownBy w3 (some m)) : WaysFn w3 base m (l ++ [(a, b)]) f' := by
  have h1 := h.on hw
  have hne : some m ≠ (rowV (f a)).ownBlock := fun e => h.off a ha m e.symm rfl
  have hm2 : MapIs strK w2 m l.length f := h1.map.kept hg hne
  have hsame : succ (l ++ [(a, b)]) a = succ l a ++ [b] := by rw [succ_app]; simp
  have hoth : ∀ s, s ≠ a → succ (l ++ [(a, b)]) s = succ l s := fun s hs => by rw [succ_app, if_neg (fun e => hs e.symm)]; simp
  have hblk : ∀ g, v'.ownBlock = some g → g ≠ m := by
    intro g hgv
    rcases hat with e | ⟨k, hk, e⟩
    · exact h.off a ha g (e ▸ hgv)
    · have := h.lt
      rw [e] at hgv
      cases hgv
      omega
  have hkeep : ∀ (v : Value) (n : Nat) (xs : List Value), w2.ownsRow base 9 1 v n xs → (∀ g, v.ownBlock = some g → g ≠ m) → w3.ownsRow base 9 1 v n xs := by
    intro v n xs hv hnm
    refine hv.kept hg3 ?_
    cases hvb : v.ownBlock with
    | none => exact .inl rfl
    | some g => exact .inr (fun e => hnm g hvb (Option.some.inj e))
  refine ⟨by simpa using hm3 hm2, h.low, fun s hs => ?_, fun s t hs ht hst => ?_, fun s hs => ?_⟩
  · by_cases e : s = a
    · subst e
      rw [hsame, hfa]
      have := hkeep _ _ _ hown hblk
      simpa [svs] using this
    · rw [hoth s e, hfo s e]
      exact hkeep _ _ _ ((h.sep a s ha hs (Ne.symm e)).kept (h1.row s hs) hg) (h.off s hs)
  · have hsep : ∀ t, okS t → t ≠ a → Sep v' (rowV (f t)) := by
      intro t ht hta
      rcases hat with e | ⟨k, hk, e⟩
      · have := h.sep a t ha ht (Ne.symm hta)
        unfold Sep at *
        rw [e]; exact this
      · cases hv : (rowV (f t)).ownBlock with
        | none => exact .inr (.inl hv)
        | some g =>
          have := ((h.row t ht).lt g hv).2
          exact .inr (.inr (by rw [e, hv]; simp; omega))
    by_cases es : s = a
    · have et : t ≠ a := fun e => hst (es.trans e.symm)
      rw [es, hfa, hfo t et]
      exact hsep t ht et
    · by_cases et : t = a
      · rw [et, hfa, hfo s es]
        exact (hsep s hs es).symm
      · rw [hfo s es, hfo t et]
        exact h.sep s t hs ht hst
  · by_cases e : s = a
    · rw [e, hfa]; exact hblk
    · rw [hfo s e]; exact h.off s hs
end

/-- What the walk wants behind the append: the map's write, and the box's cells. -/
theorem putStep {w w1 w2 : World} {X : Nat → Prop} {m : Nat} {l : List Pr} {f : Str → Option Value} {a b : Str} {A2 : Option Addr} {c2 : Nat} {x y : Value} (H : WaysFn w 0 m l f) (hX : ∀ j, X j → j < w.heap.size) (hXm : ¬ X m) (hXf : ∀ s, okS s → ∀ g, (rowV (f s)).ownBlock = some g → ¬ X g) (ha : okS a) (hln : l.length < maxLen) (hw : Below w.heap.size w w1) (h0 : w.heap.size < w1.heap.size)
    (ho2 : w2.ownsRow 0 9 1 (.slice A2 ((succ l a).length + 1) c2) ((succ l a).length + 1) (svs (succ l a) ++ [sv b])) (hg2 : w1.grownBy w2 (rowV (f a)).ownBlock) (ha2 : (Value.slice A2 ((succ l a).length + 1) c2).ownBlock = (rowV (f a)).ownBlock ∨ (Value.slice A2 ((succ l a).length + 1) c2).ownBlock = some w1.heap.size)
    (hx : w1.cell? ⟨w.heap.size, 0, none⟩ = some x) (hy : w1.cell? ⟨w.heap.size, 1, none⟩ = some y) :
    ∃ w3, (Instr.mapUpdate 120 (.map (some m)) (sv a) (.slice A2 ((succ l a).length + 1) c2)).run Tryz.prog w2 = .ok () w3 ∧ WaysX w3 X m (l ++ [(a, b)]) ∧ Keeps X w w3 ∧
      w2.cell? ⟨w.heap.size, 0, none⟩ = some x ∧ w2.cell? ⟨w.heap.size, 1, none⟩ = some y ∧ w3.cell? ⟨w.heap.size, 0, none⟩ = some x ∧ w3.cell? ⟨w.heap.size, 1, none⟩ = some y := by
  have h1 := H.on hw
  have hne : some m ≠ (rowV (f a)).ownBlock := fun e => H.off a ha m e.symm rfl
  have hm2 : MapIs strK w2 m l.length f := h1.map.kept hg2 hne
  obtain ⟨w3, e1, e2, e3⟩ := hm2.update Tryz.underlying120 hln ha (.slice A2 ((succ l a).length + 1) c2)
  have hb : some w.heap.size ≠ (rowV (f a)).ownBlock := fun e => by
    have := ((H.row a ha).lt _ e.symm).2
    omega
  have hm : some w.heap.size ≠ some m := fun e => by have := H.lt; cases e; omega
  have hz := hg2.size
  have p2 : ∀ o, w2.cell? ⟨w.heap.size, o, none⟩ = w1.cell? ⟨w.heap.size, o, none⟩ := fun o => World.cell?_of_block (hg2.block _ h0 hb)
  have p3 : ∀ o, w3.cell? ⟨w.heap.size, o, none⟩ = w2.cell? ⟨w.heap.size, o, none⟩ := fun o => World.cell?_of_block (e3.block _ (by show w.heap.size < _; omega) hm)
  have hf' := H.put ha (f' := fun y => @ite _ (y = a) (Classical.propDecidable _) (some (.slice A2 ((succ l a).length + 1) c2)) (f y)) (by simp) (fun y hy => by simp [hy]) hw ho2 hg2 (ha2.imp id fun h => ⟨_, by omega, h⟩) (fun _ => e2) e3
  have hw1 := hw.size
  refine ⟨w3, e1, ⟨_, hf', hXm, fun s hs g hg => ?_⟩, ⟨e3.os.trans (hg2.os.trans hw.os), e3.tape.trans (hg2.tape.trans hw.tape), e3.output.trans (hg2.output.trans hw.output), by have := e3.size; omega, fun j hj => ?_⟩, (p2 0).trans hx, (p2 1).trans hy, (p3 0).trans ((p2 0).trans hx), (p3 1).trans ((p2 1).trans hy)⟩
  · by_cases e : s = a
    · simp only [e, if_true] at hg
      rcases ha2 with h2 | h2
      · exact hXf a ha g (h2 ▸ hg)
      · intro hx
        have := hX g hx
        have h3 : (Value.slice A2 ((succ l a).length + 1) c2).ownBlock = some g := hg
        rw [h2] at h3
        cases h3
        omega
    · simp only [e, if_false] at hg
      exact hXf s hs g hg
  · have hj0 := hX j hj
    rw [e3.block j (by omega) (fun e => hXm (by cases e; exact hj)), hg2.block j (by omega) (fun e => hXf a ha j e.symm hj)]
    exact hw.block j hj0

theorem infoS' : (Tryz.prog.info? 9).map (fun i => (i.zero, i.size, i.bytes)) = some (some (.string ⟨#[]⟩), 1, 16) := by kernel_rfl
theorem zeroR (w : World) : (zeroValue 27).run Tryz.prog w = .ok (.slice none 0 0) w := Tryz.zeroValue27 w

set_option maxHeartbeats 4000000 in
set_option maxRecDepth 100000 in
theorem put_any (X : Nat → Prop) (m : Nat) (l : List Pr) (a b : Str) (w : World) (h : WaysX w X m l) (hX : ∀ j, X j → j < w.heap.size) (ha : okS a) (hl : l.length ≤ 1000000) :
    Calls Tryz.prog 129 #[.map (some m), prV (a, b)] w fun e w' => e = .returned (.tuple #[]) ∧ WaysX w' X m (l ++ [(a, b)]) ∧ Keeps X w w' := by
  obtain ⟨i0, hi, hz0, hz1, hz2⟩ := info_parts infoS'
  obtain ⟨f, h, hXm, hXf⟩ := h
  have hsz := h.lt
  have XH := Lib.hid (And.intro hX (And.intro hXm hXf))
  clear hX hXm hXf
  have H := Lib.hid h
  have hsl := succ_len l a
  have h63 : (succ l a).length + 1 ≤ maxLen := by unfold maxLen; omega
  have hby : ((succ l a).length + 1) * 16 ≤ 140737488355328 := by omega
  have hln : l.length < maxLen := by unfold maxLen; omega
  clear h
  have hk1 : (Instr.lookup 120 (.map (some m)) (sv a) false).run Tryz.prog (w.alloc (.cells #[sv a, sv b] 87)).drew = .ok (rowV (f a)) (w.alloc (.cells #[sv a, sv b] 87)).drew :=
    (H.out.alloc _).drew.map.lookup Tryz.underlying120 (zeroR _) ha
  have hk2 : (Instr.lookup 120 (.map (some m)) (sv a) false).run Tryz.prog ((w.alloc (.cells #[sv a, sv b] 87)).alloc (.cells #[sv b] 9)).drew = .ok (rowV (f a)) ((w.alloc (.cells #[sv a, sv b] 87)).alloc (.cells #[sv b] 9)).drew :=
    ((H.out.alloc _).alloc _).drew.map.lookup Tryz.underlying120 (zeroR _) ha
  have hs1 : w.heap.size ≤ (((w.alloc (.cells #[sv a, sv b] 87)).alloc (.cells #[sv b] 9)).drew).heap.size := by simp; omega
  have hbel1 : Below w.heap.size w (((w.alloc (.cells #[sv a, sv b] 87)).alloc (.cells #[sv b] 9)).drew) := (((Below.refl _ _).alloc (Nat.le_refl _) _).alloc (by simp) _).drew
  have hbase : 0 ≤ (((w.alloc (.cells #[sv a, sv b] 87)).alloc (.cells #[sv b] 9)).drew).heap.size := Nat.zero_le _
  have hlit : Rd (((w.alloc (.cells #[sv a, sv b] 87)).alloc (.cells #[sv b] 9)).drew) (w.heap.size + 1 + 1) 1 (some ⟨w.heap.size + 1, 0, none⟩) 1 [sv b] := by
    have h := (Rd.lit (w.alloc (.cells #[sv a, sv b] 87)) [sv b] 9 1 1 rfl).drew
    simp only [World.size_alloc] at h
    exact h
  have hone : ∀ u ∈ [sv b], u.oneCell' = true := by simp [Value.oneCell']
  have K6 := Lib.hid (show (((w.alloc (.cells #[sv a, sv b] 87)).alloc (.cells #[sv b] 9)).drew).cell? ⟨w.heap.size, 0, none⟩ = some (sv a) by go_simp)
  have K7 := Lib.hid (show (((w.alloc (.cells #[sv a, sv b] 87)).alloc (.cells #[sv b] 9)).drew).cell? ⟨w.heap.size, 1, none⟩ = some (sv b) by go_simp)
  have K8 := Lib.hid (show w.heap.size < (((w.alloc (.cells #[sv a, sv b] 87)).alloc (.cells #[sv b] 9)).drew).heap.size by simp; omega)
  have K1 := Lib.hid hs1
  have K2 := Lib.hid hbel1
  have K3 := Lib.hid hbase
  have K4 := Lib.hid hlit
  have K5 := Lib.hid hone
  clear hs1 hbel1 hbase hlit hone
  go_enter Tryz.func129, Tryz.ntmps129
  go_wp2_with fail
  go_region_held3 (fun w' => w'.cell? ⟨w.heap.size, 0, none⟩ = some (sv a) ∧ w'.cell? ⟨w.heap.size, 1, none⟩ = some (sv b)) (go_keep)
    (first
      | (refine step_append_rd _ (by rfl) (.tmp 10) (.tmp 13) 27 (by rfl) 0 9 i0 (.string ⟨#[]⟩) 1 16 Tryz.underlying27 hi hz0 hz1 hz2 rfl (by decide) (rowV (f a)) _ _ (by rfl) (((H.out.alloc _).alloc _).drew.row a ha) (w.heap.size + 1 + 1) _ 1 1 [sv b] (by rfl) K4.out K5.out h63 hby K3.out ?_; intro A2 c2 w2 ho2 hg2 ha2; obtain ⟨w3, hup, hm3, hg3, hc20, hc21, hc30, hc31⟩ := putStep H.out XH.out.1 XH.out.2.1 XH.out.2.2 ha hln K2.out K8.out ho2 hg2 ha2 K6.out K7.out; have M3 := Lib.hid hm3; have G3 := Lib.hid hg3; clear hm3 hg3 ho2 hg2 ha2)
      )
  all_goals go_wp2_with fail
  all_goals refine bodyPost_end (results_none rfl _ _ _) rfl ?_
  all_goals exact ⟨rfl, M3.out, G3.out⟩
end Od
end Go.Proofs.YtmlogmcnblgnbaaGreat
end
