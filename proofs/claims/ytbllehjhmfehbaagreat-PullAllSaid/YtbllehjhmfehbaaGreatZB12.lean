/- My texts, joined for the claim: SortRun PSort PSteps. -/
import Derived.Shelf.SlSortCmp.NoneTotal
import Derived.Ground.SlsfProg
import Derived.Test.YtbllehjhmfehbaaGreatProg
import Derived.Test.YtbllehjhmfehbaaGreatZB6
import Derived.Test.YtbllehjhmfehbaaGreatZB8
import Derived.Test.YtbllehjhmfehbaaGreatZB0
import Derived.Test.YtbllehjhmfehbaaGreatZB10
import Derived.Test.YtbllehjhmfehbaaGreatZB11

section
/-
  DERIVED: THE SHELF's CONTRACTS AT THIS DUMP, IN PLAIN WORDS (tools/lay-plain.mjs out of 'TryzSortRun.lean', which tools/lay-shelf.mjs wrote): THE SAME DECLARATIONS UNDER THE SAME NAMES: 'import', 'namespace', 'open', 'def', 'theorem' AND NOTHING ELSE: no command of the shelf's: FOR A HAND-IN. Each laying: the table of numbers ('.._ren') and one theorem, a field a fact of the dump's own or the kernel's comparison; each contract: ONE APPLICATION.
-/
namespace Go.Proofs.YtbllehjhmfehbaaGreat
open Go.Shelf
def Tryz.sortRun_ren : Go.Shelf.Ren := ⟨fun | 6 => 87 | 15 => 92 | 14 => 124 | 28 => 134 | 29 => 135 | 20 => 171 | 21 => 172 | 22 => 173 | 23 => 174 | 24 => 175 | 25 => 176 | 26 => 177 | 27 => 178 | 46 => 206 | 47 => 182 | 48 => 183 | 49 => 207 | 50 => 208 | 57 => 232 | n => n, fun | 22 => 141 | 24 => 73 | 25 => 83 | 3 => 3 | 39 => 150 | 0 => 0 | 53 => 185 | 55 => 187 | 4 => 4 | 46 => 179 | 45 => 178 | 50 => 63 | 5 => 5 | 9 => 9 | 66 => 222 | 70 => 226 | 76 => 247 | 77 => 248 | n => n, fun | n => n⟩
theorem Tryz.sortRun : Go.Proofs.SlLaysF0.n6 Tryz.prog Tryz.sortRun_ren := {
  mixed := by kernel_rfl
  f6 := ⟨Tryz.f87.name, by decide, Tryz.func87.trans (congrArg some (by kernel_rfl))⟩
  f14 := ⟨Tryz.f124.name, by decide, Tryz.func124.trans (congrArg some (by kernel_rfl))⟩
  f15 := Tryz.func92.trans (congrArg some (by kernel_rfl))
  f20 := ⟨Tryz.f171.name, by decide, Tryz.func171.trans (congrArg some (by kernel_rfl))⟩
  f21 := ⟨Tryz.f172.name, by decide, Tryz.func172.trans (congrArg some (by kernel_rfl))⟩
  f22 := ⟨Tryz.f173.name, by decide, Tryz.func173.trans (congrArg some (by kernel_rfl))⟩
  f23 := ⟨Tryz.f174.name, by decide, Tryz.func174.trans (congrArg some (by kernel_rfl))⟩
  f24 := ⟨Tryz.f175.name, by decide, Tryz.func175.trans (congrArg some (by kernel_rfl))⟩
  f25 := ⟨Tryz.f176.name, by decide, Tryz.func176.trans (congrArg some (by kernel_rfl))⟩
  f26 := ⟨Tryz.f177.name, by decide, Tryz.func177.trans (congrArg some (by kernel_rfl))⟩
  f27 := ⟨Tryz.f178.name, by decide, Tryz.func178.trans (congrArg some (by kernel_rfl))⟩
  f28 := Tryz.func134.trans (congrArg some (by kernel_rfl))
  f29 := Tryz.func135.trans (congrArg some (by kernel_rfl))
  f46 := ⟨Tryz.f206.name, by decide, Tryz.func206.trans (congrArg some (by kernel_rfl))⟩
  f47 := Tryz.func182.trans (congrArg some (by kernel_rfl))
  f48 := Tryz.func183.trans (congrArg some (by kernel_rfl))
  f49 := ⟨Tryz.f207.name, by decide, Tryz.func207.trans (congrArg some (by kernel_rfl))⟩
  f50 := ⟨Tryz.f208.name, by decide, Tryz.func208.trans (congrArg some (by kernel_rfl))⟩
  f57 := ⟨Tryz.f232.name, by decide, Tryz.func232.trans (congrArg some (by kernel_rfl))⟩
  t0 := Tryz.underlying0
  a0 := Tryz.isAgg0
  z0 := Tryz.sizeOf0
  v0 := Tryz.zeroValue0
  t3 := Tryz.underlying3
  a3 := Tryz.isAgg3
  z3 := Tryz.sizeOf3
  v3 := Tryz.zeroValue3
  t4 := Tryz.underlying4
  a4 := Tryz.isAgg4
  z4 := Tryz.sizeOf4
  v4 := Tryz.zeroValue4
  t5 := Tryz.underlying5
  a5 := Tryz.isAgg5
  z5 := Tryz.sizeOf5
  v5 := Tryz.zeroValue5
  t9 := Tryz.underlying9
  a9 := Tryz.isAgg9
  z9 := Tryz.sizeOf9
  v9 := Tryz.zeroValue9
  t22 := Tryz.underlying141
  a22 := Tryz.isAgg141
  z22 := Tryz.sizeOf141
  v22 := Tryz.zeroValue141
  t25 := Tryz.underlying83
  a25 := Tryz.isAgg83
  z25 := Tryz.sizeOf83
  v25 := Tryz.zeroValue83
  t39 := Tryz.underlying150
  a39 := Tryz.isAgg150
  z39 := Tryz.sizeOf150
  v39 := Tryz.zeroValue150
  t45 := Tryz.underlying178
  a45 := Tryz.isAgg178
  z45 := Tryz.sizeOf178
  v45 := Tryz.zeroValue178
  t46 := Tryz.underlying179
  a46 := Tryz.isAgg179
  z46 := Tryz.sizeOf179
  v46 := Tryz.zeroValue179
  t50 := Tryz.underlying63
  a50 := Tryz.isAgg63
  z50 := Tryz.sizeOf63
  v50 := Tryz.zeroValue63
  t53 := Tryz.underlying185
  a53 := Tryz.isAgg185
  z53 := Tryz.sizeOf185
  v53 := Tryz.zeroValue185
  t55 := Tryz.underlying187
  a55 := Tryz.isAgg187
  z55 := Tryz.sizeOf187
  v55 := Tryz.zeroValue187
  t66 := Tryz.underlying222
  a66 := Tryz.isAgg222
  z66 := Tryz.sizeOf222
  v66 := Tryz.zeroValue222
  t70 := Tryz.underlying226
  a70 := Tryz.isAgg226
  z70 := Tryz.sizeOf226
  v70 := Tryz.zeroValue226
  t76 := Tryz.underlying247
  a76 := Tryz.isAgg247
  z76 := Tryz.sizeOf247
  v76 := Tryz.zeroValue247
  t77 := Tryz.underlying248
  a77 := Tryz.isAgg248
  z77 := Tryz.sizeOf248
  v77 := Tryz.zeroValue248 }
end Go.Proofs.YtbllehjhmfehbaaGreat
end

section
/- pull.compare; the sort of a row of units with types of the call's own. -/
namespace Go.Proofs.YtbllehjhmfehbaaGreat
open Go.RowKit Go.Sort Go.Lib Go.Shelf

namespace Od
def jpCmp (p q : Jp) : Int := orI [cmpS p.1 q.1, cmpI p.2 q.2]
set_option maxRecDepth 100000 in
set_option maxHeartbeats 1000000 in
theorem compareJ_any (a : Str) (x : Int) (a' : Str) (y : Int) (w : World) :
    Calls Tryz.prog 48 #[.agg #[sv a, .int .i64 x], .agg #[sv a', .int .i64 y]] w (GrowInt (jpCmp (a, x) (a', y)) w) := by
  have h3 : Rd ((((w.alloc (.cells #[sv a, .int .i64 x] 73)).alloc (.cells #[sv a', .int .i64 y] 73)).alloc (.cells #[.int .i64 (cmpS a a'), .int .i64 (cmpI x y)] 3)).drew) ((((w.alloc (.cells #[sv a, .int .i64 x] 73)).alloc (.cells #[sv a', .int .i64 y] 73)).alloc (.cells #[.int .i64 (cmpS a a'), .int .i64 (cmpI x y)] 3)).drew).heap.size 1 (some ⟨w.heap.size + 1 + 1, 0, none⟩) 2 (ints [cmpS a a', cmpI x y]) := by
    have h := (Rd.lit ((w.alloc (.cells #[sv a, .int .i64 x] 73)).alloc (.cells #[sv a', .int .i64 y] 73)) (ints [cmpS a a', cmpI x y]) 3 1 2 rfl).drew
    simp only [World.size_alloc] at h
    exact h.more (by simp)
  have H3 := Lib.hid h3
  clear h3
  go_enter Tryz.func48, Tryz.ntmps48
  go_wp2_with fail
  go_region_held3 (fun w' => w'.cell? ⟨w.heap.size, 0, none⟩ = some (sv a) ∧ w'.cell? ⟨w.heap.size, 1, none⟩ = some (.int .i64 x) ∧ w'.cell? ⟨w.heap.size + 1, 0, none⟩ = some (sv a') ∧ w'.cell? ⟨w.heap.size + 1, 1, none⟩ = some (.int .i64 y)) (go_keep)
    (first | (go_at_call 68; refine (CompareS_any _ _ _).mono ?_; rintro e w' ⟨rfl, rfl⟩) | (go_at_call 94; refine (CompareI_any _ _ _).mono ?_; rintro e w' ⟨rfl, rfl⟩) | (go_at_call 93; refine (Or_any (some ⟨w.heap.size + 1 + 1, 0, none⟩) 2 [cmpS a a', cmpI x y] _ H3.out (by simp)).mono ?_; rintro e w' ⟨rfl, rfl⟩))
  go_wp2_with fail
  go_ret
  exact ⟨rfl, 1, _, by rw [alloc_eq_grow, alloc_eq_grow, alloc_eq_grow, grow_grow, grow_grow, grow_drew]; rfl⟩
theorem jpCmp_lt (p q : Jp) : ltOf jpCmp p q = ltJ p q := by
  unfold ltOf jpCmp ltJ
  have hs : ∀ a b : Str, cmpS a b = if ltS a b = true then -1 else if a = b then 0 else 1 := fun _ _ => rfl
  have hi : ∀ a b : Int, cmpI a b = if a < b then -1 else if b < a then 1 else 0 := fun _ _ => rfl
  rw [hs, hi]
  by_cases h1 : ltS p.1 q.1 = true
  · simp [h1, orI]
  · by_cases h2 : p.1 = q.1
    · rw [h2] at h1
      by_cases h3 : p.2 < q.2
      · simp [h1, h2, h3, orI]
      · by_cases h4 : q.2 < p.2
        · simp [h1, h2, h3, h4, orI]
        · simp [h1, h2, h3, h4, orI]
    · simp [h1, h2, orI]
theorem jpCmp_fun : ltOf jpCmp = ltJ := by funext p q; exact jpCmp_lt p q
theorem swoJp : SWO (ltOf jpCmp) where
  irrefl x := by rw [jpCmp_fun]; exact toJ.irrefl x
  trans x y z h1 h2 := by rw [jpCmp_fun] at *; exact toJ.trans h1 h2
  ntrans x y z h1 h2 := by
    rw [jpCmp_fun] at *
    cases h : ltJ x z
    · rfl
    · exfalso
      cases h3 : ltJ y x
      · rw [toJ.total h1 h3] at h; rw [h] at h2; cases h2
      · have := toJ.trans h3 h; rw [this] at h2; cases h2
theorem flatK_jps (ps : List Jp) : flatK jpC 2 ps.toArray = (jpsC ps).toArray := by
  refine ext_get! (by simp [jpsC_len]) fun t ht => ?_
  have ht' : t < ps.length * 2 := by simpa using ht
  rw [get_flatK _ _ _ t (by simpa using ht')]
  have hi : t / 2 < ps.length := by omega
  have h := flat_at jpC 2 jpC_len ps (t / 2) (t % 2) hi (by omega)
  rw [show t / 2 * 2 + t % 2 = t by omega] at h
  have e1 : ps.toArray[t / 2]! = ps[t / 2] := by simp [hi]
  rw [e1]
  have e2 : (jpsC ps).toArray[t]! = ((jpsC ps)[t]?).getD default := by simp [List.getElem!_eq_getElem?_getD]
  rw [e2, show (jpsC ps)[t]? = (jpC ps[t / 2])[t % 2]? from h]
  simp [List.getElem!_eq_getElem?_getD]
def sortR (ps : List Jp) : List Jp := ps.mergeSort fun x y => !ltJ y x
theorem sortR_len (ps : List Jp) : (sortR ps).length = ps.length := by simp [sortR]
theorem mem_sortR {ps : List Jp} {p : Jp} : p ∈ sortR ps ↔ p ∈ ps := (List.mergeSort_perm _ _).mem_iff
theorem sortR_le (ps : List Jp) : LE ltJ (sortR ps) := by
  have h := List.pairwise_mergeSort (le := fun x y => !ltJ y x) (fun a b c h1 h2 => by
    simp only [Bool.not_eq_true'] at *
    have := swoJp.ntrans (x := c) (y := b) (z := a)
    rw [jpCmp_fun] at this
    exact this h2 h1) (fun a b => by
    cases h1 : ltJ b a
    · simp
    · cases h2 : ltJ a b
      · simp
      · have := toJ.trans h1 h2; rw [toJ.irrefl] at this; cases this) ps
  exact h.imp fun {a b} hab => by simpa using hab
theorem sortR_canon {ps : List Jp} (h : ps.Nodup) : sortR ps = canon ltJ ps := by
  refine SS.eq_canon toJ ?_ fun _ => mem_sortR
  have hn : (sortR ps).Nodup := (List.mergeSort_perm _ _).nodup_iff.2 h
  unfold SS
  refine List.pairwise_iff_getElem.2 fun i j hi hj hij => ?_
  have h1 := List.pairwise_iff_getElem.1 (sortR_le ps) i j hi hj hij
  have h2 := List.pairwise_iff_getElem.1 hn i j hi hj hij
  cases h3 : ltJ (sortR ps)[i] (sortR ps)[j]
  · exact absurd (toJ.total h3 h1) h2
  · rfl
set_option maxHeartbeats 1000000 in
theorem sortR_own (base c : Nat) (A : Option Addr) (ps : List Jp) (w : World) (h : w.ownsRow base 73 2 (.slice A ps.length c) ps.length (jpsC ps)) (hsz : ps.length ≤ 1000000) :
    Calls Tryz.prog 87 #[.slice A ps.length c, .func (.func 48) #[] #[]] w fun e w' => e = .returned (.tuple #[]) ∧ w'.ownsRow base 73 2 (.slice A ps.length c) ps.length (jpsC (sortR ps)) ∧ w.grownBy w' (Value.slice A ps.length c).ownBlock := by
  rcases h.2 with ⟨hv, hn⟩ | ⟨g, cap, cur, hv, hg, hb, h1, h2, h3, h4⟩
  · have hnil : ps = [] := List.length_eq_zero_iff.1 hn
    subst hnil
    refine (show Calls Tryz.prog 87 _ w _ from AnyF.slices_SortFunc_none Tryz.sortRun A c _ w).mono ?_
    rintro e w' ⟨rfl, rfl⟩
    exact ⟨rfl, by simpa [sortR] using h, World.grownBy.refl _ _⟩
  · injection hv with e1 _ e3
    subst e1 e3
    have hgl : g < w.heap.size := (Array.getElem?_eq_some_iff.1 hb).1
    have hlen := jpsC_len ps
    have eg : ∀ args w, (callFunc 48 args).run Tryz.prog w = .ok (.enter 48 args) w := enters_of Tryz.func48 (by kernel_rfl) rfl
    have hH : HoldsK jpC 2 w g 0 ps.toArray := by
      unfold HoldsK
      rw [flatK_jps]
      exact holds_row hb (by rw [hlen]; exact h4)
    have hcon := AnyQ.slices_SortFunc_total (P := Tryz.prog) Tryz.sortRun 2 (by intro w; exact Tryz.isAgg73 w) (by intro w; exact Tryz.sizeOf73 w) jpC jpC_len (fun x v hv => one_jpC x v hv) jpCmp swoJp 48 #[] g 0 c ps.toArray w eg
      (fun _ _ _ _ x y => compareJ_any x.1 x.2 y.1 y.2 _) hH hgl (by simp; omega) (by intro x y hx hy; rw [jpCmp_fun] at hx hy; exact toJ.total hx hy)
    change Calls Tryz.prog 87 _ _ _ at hcon
    simp only [List.size_toArray] at hcon
    refine hcon.mono ?_
    rintro e w' ⟨rfl, n, os, rfl⟩
    have hsort : (ps.mergeSort fun x y => !(ltOf jpCmp) y x) = sortR ps := by rw [jpCmp_fun]; rfl
    unfold sortWorldK putRowK
    rw [hsort, flatK_jps]
    have hl2 : (jpsC (sortR ps)).length = ps.length * 2 := by rw [jpsC_len, sortR_len]
    refine ⟨rfl, ⟨hl2, .inr ⟨g, c, _, rfl, hg, heap_row _ hb, h1, h2, by simp [putCells, h3], ?_⟩⟩, grownBy_row _⟩
    rw [← hl2]
    exact take_putCellsI cur _ (by omega)
end Od
end Go.Proofs.YtbllehjhmfehbaaGreat
end

section
/- (*closure).steps: who brings what, fewest steps first. (bel2) -/
namespace Go.Proofs.YtbllehjhmfehbaaGreat
open Go.RowKit Go.Sort Go.Maps
set_option linter.unusedSimpArgs false
namespace Od
theorem ClosAt.but {w w' : World} {cb mw B yB : Nat} {An Ae Au Ah : Option Addr} {nn cn ce cu ch : Nat} {es : List Ed} {up half : List Str} {out : Jp → Bool} (h : ClosAt w cb mw B An Ae Au Ah nn cn ce cu ch es up half out) (hk : Keeps (But w yB) w w') (h1 : B ≤ yB) (h2 : yB ≠ cb) (h3 : yB ≠ mw) : ClosAt w' cb mw B An Ae Au Ah nn cn ce cu ch es up half out :=
  h.kept (F := fun k => k = yB) (F' := fun k => k = yB) ⟨⟨hk.os, hk.tape, hk.output, hk.size, fun j hj => hk.block j hj⟩, fun _ h => .inl h⟩ (fun k hk => by subst hk; exact ⟨h1, h2, h3⟩)
/-- What steps$1 keeps of what it has taken. -/
def StS (first : Jp) (cand : List Jp) (cB jB nB cb mw yB base : Nat) (u : Str) (s0 : Ms × List Jp) (D : List Bg) (F : Nat → Prop) (w : World) : Prop :=
  ∃ v, StT first cand cB nB cb mw yB base ((bysB u D).foldl (addP noO) s0) v w ∧ w.cell? ⟨jB, 0, none⟩ = some (sv u) ∧ v.ownBlock ≠ some jB ∧ F = StF yB nB v ∧ mw < w.heap.size ∧ base ≤ w.heap.size
theorem steps_takes {first : Jp} {cand : List Jp} {cB jB nB cb mw yB base B : Nat} {u : Str} {s0 : Ms × List Jp} (ha : StA cB nB cb mw yB) (hj1 : jB ≠ yB) (hj2 : jB ≠ nB) (hok : ∀ k ∈ cand, okJ k) (hcl : cand.length ≤ 1000000) (h1 : B ≤ yB) (h2 : B ≤ nB) (h3 : B ≤ base) :
    TakesB 89 #[.pointer (some ⟨cB, 0, none⟩), .pointer (some ⟨jB, 0, none⟩), .pointer (some ⟨nB, 0, none⟩)] cb mw B cand (StS first cand cB jB nB cb mw yB base u s0) where
  enters := enters_of Tryz.func89 (by kernel_rfl) rfl
  on := by
    rintro D F W W' ⟨v, hT, hc, hv, rfl, hm, hb⟩ hbel
    exact ⟨v, hT.on hbel, cellAt hc hbel (cell_blk hc), hv, rfl, Nat.lt_of_lt_of_le hm hbel.size, Nat.le_trans hb hbel.size⟩
  low := by
    rintro D F W ⟨v, hT, hc, hv, rfl, hm, hb⟩
    exact hT.low ha h1 h2 h3
  says := by
    rintro D F W s t n ⟨v, hT, hc, hv, rfl, hm, hb⟩ hca
    refine (steps1_any first cand cB jB nB cb mw yB base u _ v s t n W hT ha hc ⟨hj1, hj2, hv⟩ hca (hok _ hca) hcl hm hb).mono ?_
    rintro e w' ⟨rfl, v', hT', hk⟩
    have hl := cell_blk hc
    refine ⟨rfl, StF yB nB v', ⟨v', ?_, hk.cell hc hl ?_, ?_, rfl, Nat.lt_of_lt_of_le hm hk.1.size, Nat.le_trans hb hk.1.size⟩, hk⟩
    · unfold bysB at *
      rw [List.map_append, List.foldl_append]
      exact hT'
    · rintro (h | h | h)
      · exact hj1 h
      · exact hj2 h
      · exact hv h
    · intro e
      rcases hk.2 jB (.inr (.inr e)) with (h | h | h) | h
      · exact hj1 h
      · exact hj2 h
      · exact hv h
      · exact absurd hl (by simp only; omega)
/-- In the middle of a layer, k jobs done. -/
def midP (E : Jp → List Bg) (out : Jp → Bool) (m : Ms) (R : List Jp) (k : Nat) : Ms × List Jp := ((R.take k).flatMap (brP E)).foldl (addP out) (m, [])
theorem midP_succ {E : Jp → List Bg} {out : Jp → Bool} {m : Ms} {R : List Jp} {k : Nat} (h : k < R.length) : midP E out m R (k + 1) = (bysB R[k].1 ((E R[k]).filter (fun b => !out b.1))).foldl (addP noO) (midP E out m R k) := by
  unfold midP
  rw [List.take_succ_eq_append_getElem h, List.flatMap_append, List.foldl_append, bysB_filter, fold_no]
  simp [bysB, brP]
theorem midP_all (E : Jp → List Bg) (out : Jp → Bool) (m : Ms) (R : List Jp) : midP E out m R R.length = stepP E out m R := by
  unfold midP stepP
  rw [List.take_length]
set_option maxRecDepth 100000 in
set_option maxHeartbeats 16000000 in
theorem steps_any (cb mw yB B : Nat) (An Ae Au Ah : Option Addr) (nn cn ce cu ch : Nat) (es : List Ed) (up half : List Str) (out : Jp → Bool) (u : Str) (t : Int) (w : World)
    (hcl : ClosAt w cb mw B An Ae Au Ah nn cn ce cu ch es up half out) (c5 : w.cell? ⟨cb, 5, none⟩ = some (.map (some yB))) (hy : MapIs kindJ w yB 0 (fun _ => none)) (ha1 : yB ≠ cb) (ha2 : yB ≠ mw) (hBy : B ≤ yB) (hok : ∀ k ∈ candB es, okJ k) (hof : okJ (u, t)) :
    Calls Tryz.prog 44 #[.pointer (some ⟨cb, 0, none⟩), .agg #[sv u, .int .i64 t]] w fun e w' => e = .returned (.tuple #[]) ∧
      MapIs kindJ w' yB (layP (bringB es up half) out (6 * es.length + 1) [((u, t), [])] [(u, t)]).length (byV (layP (bringB es up half) out (6 * es.length + 1) [((u, t), [])] [(u, t)])) ∧ Keeps (But w yB) w w' := by
  have HC := Lib.hid hcl
  have HY := Lib.hid hy
  have HK := Lib.hid hok
  have hcl0 := hcl.lt
  have hml0 := hcl.mlt
  have hy0 := hy.lt
  have hyw := hy.lt
  have hcw := hcl.lt
  have hBw := hcl.lb
  have hmw := hcl.mlt
  have hel := hcl.el
  have hlb := hcl.lb
  clear hcl hy hok
  have hcand : (candB es).length = 6 * es.length := candB_len es
  have hhead : Head (bringB es up half) out (u, t) (candB es) (layP (bringB es up half) out (6 * es.length + 1) [((u, t), [])] [(u, t)]) (6 * es.length + 1) [((u, t), [])] [(u, t)] := by
    have := Head.zero (E := bringB es up half) (out := out) (first := (u, t)) (cand := candB es)
    rw [hcand] at this; exact this
  have HH0 := Lib.hid hhead
  clear hhead
  generalize layP (bringB es up half) out (6 * es.length + 1) [((u, t), [])] [(u, t)] = fin at *
  have HCd := Lib.hid (show ∀ j b, b ∈ bringB es up half j → b.1 ∈ candB es from bring_cand)
  have hcl6 : (candB es).length ≤ 60000 := by omega
  have HCl := Lib.hid hcl6
  clear hcl6
  have HCdl := Lib.hid hcand
  clear hcand
  generalize hE : bringB es up half = E at HH0 HCd
  have HE := Lib.hid hE
  clear hE
  go_enter Tryz.func44, Tryz.ntmps44
  go_wp2_with fail
  first | (refine wp_named ?_; intro W1 hW) | (refine calls_named ?_; intro W1 hW)
  have B1 : Below w.heap.size w W1 := by rw [hW]; exact (by repeat (first | exact Below.refl _ _ | assumption | refine Below.alloc ?_ (by first | omega | (simp <;> omega)) _ | refine Below.setCell ?_ (by first | omega | (simp <;> omega)) _ | refine Below.drew ?_))
  replace c5 := cellAt c5 B1 (by omega)
  replace HC := Lib.hid (HC.out.on B1)
  replace HY := Lib.hid (HY.out.on B1)
  replace hcl0 : cb < W1.heap.size := ltAt hcl0 B1
  replace hml0 : mw < W1.heap.size := ltAt hml0 B1
  replace hy0 : yB < W1.heap.size := ltAt hy0 B1
  replace hlb : B ≤ W1.heap.size := leAt hlb B1
  have n1 : w.heap.size < W1.heap.size := by rw [hW]; simp <;> omega
  have n2 : (w.heap.size + 1) < W1.heap.size := by rw [hW]; simp <;> omega
  have p0 : W1.cell? ⟨w.heap.size, 0, none⟩ = some (.pointer (some ⟨cb, 0, none⟩)) := by rw [hW]; go_simp
  have q0 : W1.cell? ⟨(w.heap.size + 1), 0, none⟩ = some (sv u) := by rw [hW]; go_simp
  have q1 : W1.cell? ⟨(w.heap.size + 1), 1, none⟩ = some (.int .i64 t) := by rw [hW]; go_simp
  have hzz : w.heap.size + 2 ≤ W1.heap.size := by rw [hW]; simp
  clear hW
  have HB1 := Lib.hid B1
  clear B1
  have x1 : ¬ w.heap.size = yB := by omega
  have x2 : ¬ w.heap.size + 1 = yB := by omega
  have x3 : ¬ cb = yB := fun e => ha1 e.symm
  have HC1 := Lib.hid HC.out
  have k5 := c5
  have l1 := n1
  have lc := hcl0
  have k0 := p0
  try go_wp2_with fail
  refine wp_region_held_drew (S := fun w' => Keeps (But W1 yB) W1 w') (by kernel_rfl) (But.below (Below.drew (Below.refl _ _))) (fun hHeld => ?_)
  refine tY (i := 0) (v := ?_) rfl ?_ hHeld ?_; rotate_left 1; focus (intro w' hSw; have hCell := fun (b o : Nat) (h : b < W1.heap.size) (h2 : ¬ b = yB) => World.cell?_of_block (a := ⟨b, o, none⟩) (hSw.block b ⟨h, h2⟩); clear hSw; go_simp; try with_reducible rfl)
  (try simp only [Act.put, zn1, zn2, zn3])
  refine tY (i := 1) (v := ?_) rfl ?_ hHeld ?_; rotate_left 1; focus (intro w' hSw; clear hSw; go_simp; try with_reducible rfl)
  (try simp only [Act.put, zn1, zn2, zn3])
  refine tY (i := 2) (v := ?_) rfl ?_ hHeld ?_; rotate_left 1; focus (intro w' hSw; clear hSw; go_simp; try with_reducible rfl)
  (try simp only [Act.put, zn1, zn2, zn3])
  refine tY (i := 3) (v := ?_) rfl ?_ hHeld ?_; rotate_left 1; focus (intro w' hSw; have hCell := fun (b o : Nat) (h : b < W1.heap.size) (h2 : ¬ b = yB) => World.cell?_of_block (a := ⟨b, o, none⟩) (hSw.block b ⟨h, h2⟩); clear hSw; go_simp; try with_reducible rfl)
  (try simp only [Act.put, zn1, zn2, zn3])
  refine tY (i := 4) (v := ?_) rfl ?_ hHeld ?_; rotate_left 1; focus (intro w' hSw; have hCell := fun (b o : Nat) (h : b < W1.heap.size) (h2 : ¬ b = yB) => World.cell?_of_block (a := ⟨b, o, none⟩) (hSw.block b ⟨h, h2⟩); clear hSw; go_simp; try with_reducible rfl)
  (try simp only [Act.put, zn1, zn2, zn3])
  refine ready_one (i := 5) rfl (by kernel_rfl) (fun K hK => ?_)
  refine step_update_is _ (by rfl) (.tmp 11) (.tmp 12) (.const (.string ⟨#[]⟩)) 78 (by rfl) 9 Tryz.underlying78 yB 0 _ (by rfl) HY.out (by decide) (u, t) (sv []) (by rfl) (by rfl) hof ?_
  intro w5 hm5 hg5
  have hS := But.trans hHeld (But.grown hg5)
  have HM5 := Lib.hid (MapIs.if_ hm5)
  clear hm5 hg5
  refine hK.out _ _ ?_ (fun hHeld2 => ?_)
  · (try dsimp only); exact hS
  clear hK K hHeld; have hHeld := hHeld2; clear hHeld2; (try simp only [Act.put, zn1, zn2, zn3])
  refine wpAnyH_done (by kernel_rfl) ?_ _
  replace c5 := cellK c5 hHeld (by omega) (by omega)
  replace p0 := cellK p0 hHeld (by omega) (by omega)
  replace q0 := cellK q0 hHeld (by omega) (by omega)
  replace q1 := cellK q1 hHeld (by omega) (by omega)
  replace HC := Lib.hid ((HC.out.but hHeld hBy ha1 ha2))
  clear HY
  replace hcl0 : cb < w5.heap.size := Nat.lt_of_lt_of_le hcl0 (Keeps.size hHeld)
  replace hml0 : mw < w5.heap.size := Nat.lt_of_lt_of_le hml0 (Keeps.size hHeld)
  replace hy0 : yB < w5.heap.size := Nat.lt_of_lt_of_le hy0 (Keeps.size hHeld)
  replace hlb : B ≤ w5.heap.size := Nat.le_trans hlb (Keeps.size hHeld)
  replace n1 : w.heap.size < w5.heap.size := Nat.lt_of_lt_of_le n1 (Keeps.size hHeld)
  replace n2 : (w.heap.size + 1) < w5.heap.size := Nat.lt_of_lt_of_le n2 (Keeps.size hHeld)
  have HK5 := Lib.hid hHeld
  have hz5 := hHeld.size
  clear hHeld
  have HM6 := Lib.hid (show MapIs kindJ w5 yB 1 (byV [((u, t), [])]) by
    have h0 := HM5.out
    have e0 : (fun y => if y = (u, t) then some (sv []) else byV ([] : Ms) y) = byV ([] ++ [((u, t), [])]) := byV_push (m := []) rfl
    have h1 : MapIs kindJ w5 yB 1 (byV ([] ++ [((u, t), [])])) := by rw [← e0]; exact h0
    exact h1)
  clear HM5
  go_wp2_with fail
  first | (refine wp_named ?_; intro W6 hW) | (refine calls_named ?_; intro W6 hW)
  have B6 : Below w5.heap.size w5 W6 := by rw [hW]; exact (by repeat (first | exact Below.refl _ _ | assumption | refine Below.alloc ?_ (by first | omega | (simp <;> omega)) _ | refine Below.setCell ?_ (by first | omega | (simp <;> omega)) _ | refine Below.drew ?_))
  replace c5 := cellAt c5 B6 (by omega)
  replace p0 := cellAt p0 B6 (by omega)
  replace q0 := cellAt q0 B6 (by omega)
  replace q1 := cellAt q1 B6 (by omega)
  replace HC := Lib.hid (HC.out.on B6)
  replace hcl0 : cb < W6.heap.size := ltAt hcl0 B6
  replace hml0 : mw < W6.heap.size := ltAt hml0 B6
  replace hy0 : yB < W6.heap.size := ltAt hy0 B6
  replace hlb : B ≤ W6.heap.size := leAt hlb B6
  replace n1 : w.heap.size < W6.heap.size := ltAt n1 B6
  replace n2 : (w.heap.size + 1) < W6.heap.size := ltAt n2 B6
  replace HM6 := Lib.hid (HM6.out.on B6)
  replace HK5 := Lib.hid (But.two HK5.out B6)
  have ho6 : W6.ownsRow W1.heap.size 73 2 (.slice (some ⟨w5.heap.size, 0, none⟩) 1 1) 1 (jpsC [(u, t)]) := by rw [hW]; exact own_base (own_lit [sv u, .int .i64 t] rfl (by decide)) hz5
  clear hW
  clear B6
  have HO6 := Lib.hid ho6
  clear ho6 p0 q0 q1 c5
  go_loopg [4] (6 * es.length + 1) (fun g s4 wr => ∃ (m : Ms) (r : List Jp) (A : Option Addr) (c : Nat), s4 = .slice A r.length c ∧ Hid (Head E out (u, t) (candB es) fin g m r) ∧ Hid (wr.ownsRow W1.heap.size 73 2 (.slice A r.length c) r.length (jpsC r)) ∧ Hid (MapIs kindJ wr yB m.length (byV m)) ∧ Hid (Keeps (But W1 yB) W1 wr))
  case atStart => exact ⟨[((u, t), [])], [(u, t)], _, _, rfl, HH0, HO6, HM6, HK5⟩
  case round =>
    obtain ⟨m, r, A, c, rfl, HH, HO, HM, HKr⟩ := hrel
    obtain ⟨w9, rfl⟩ : ∃ wo : World, wo = wr := ⟨_, rfl⟩
    have hz9 := HKr.out.size
    have hz8 : w.heap.size + 2 ≤ w9.heap.size := by omega
    have e0 := cellK k0 HKr.out l1 x1
    have e5 := cellK k5 HKr.out lc x3
    have HC9 := Lib.hid (HC1.out.but HKr.out hBy ha1 ha2)
    have HRb := Lib.hid (show ∀ b, (Value.slice A r.length c).ownBlock = some b → W1.heap.size ≤ b ∧ b < w9.heap.size from HO.out.lt)
    have hrl := HH.out.rl
    have hrl2 : r.length ≤ 60001 := by have := HCl.out; omega
    clear hrl
    by_cases hr : r = []
    · subst hr
      have hm : m = fin := HH.out.done
      subst hm
      go_wp2_with fail
      refine bodyPost_end (results_none rfl _ _ _) rfl ?_
      refine ⟨rfl, HM.out, ?_⟩
      have hk := HKr.out
      exact ⟨hk.os.trans HB1.out.os, hk.tape.trans HB1.out.tape, hk.output.trans HB1.out.output, Nat.le_trans HB1.out.size hk.size, fun j hj => (hk.block j ⟨Nat.lt_of_lt_of_le hj.1 HB1.out.size, hj.2⟩).trans (HB1.out.block j hj.1)⟩
    · obtain ⟨g', hg', hnx⟩ := HH.out.next HCd.out hr
      subst hg'
      have HNx := Lib.hid hnx
      clear hnx
      have hsc := sortR_canon HH.out.nd
      have HSc := Lib.hid hsc
      clear hsc
      have hpos : 0 < r.length := List.length_pos_iff.2 hr
      have hd0 : decide (0 < r.length) = true := by simpa using hpos
      have hmid := HH.out.mid
      have HMid := Lib.hid hmid
      clear hmid
      have hR := sortR_len r
      rw [HSc.out] at hR
      have HR := Lib.hid hR
      clear hR
      have l9 : w.heap.size < w9.heap.size := by omega
      have c9 : cb < w9.heap.size := by omega
      have y9 : yB < w9.heap.size := by omega
      have m9 := HC9.out.mlt
      go_wp2_with fail
      first | (refine wp_named ?_; intro W2 hW) | (refine calls_named ?_; intro W2 hW)
      have B2 : Below w9.heap.size w9 W2 := by rw [hW]; exact (by repeat (first | exact Below.refl _ _ | assumption | refine Below.alloc ?_ (by first | omega | (simp <;> omega)) _ | refine Below.setCell ?_ (by first | omega | (simp <;> omega)) _ | refine Below.drew ?_))
      replace e0 := cellAt e0 B2 (by omega)
      replace e5 := cellAt e5 B2 (by omega)
      replace HC9 := Lib.hid (HC9.out.on B2)
      replace HM := Lib.hid (HM.out.on B2)
      replace HO := Lib.hid (own_on HO.out B2)
      replace HKr := Lib.hid (But.two HKr.out B2)
      replace l9 : w.heap.size < W2.heap.size := ltAt l9 B2
      replace c9 : cb < W2.heap.size := ltAt c9 B2
      replace y9 : yB < W2.heap.size := ltAt y9 B2
      replace m9 : mw < W2.heap.size := ltAt m9 B2
      have n9 : w9.heap.size < W2.heap.size := by rw [hW]; simp <;> omega
      have z0 : W2.cell? ⟨w9.heap.size, 0, none⟩ = some (.slice none 0 0) := by rw [hW]; go_simp
      have zf : W2.frozen? ⟨w9.heap.size, 0, none⟩ = false := by rw [hW]; go_simp
      clear hW
      clear B2
      refine (sortR_own W1.heap.size c A r W2 HO.out (by omega)).mono ?_
      rintro e W3 ⟨rfl, ho3, hg3⟩
      rw [HSc.out] at ho3
      have q0 : (Value.slice A r.length c).ownBlock ≠ some w.heap.size := fun e => by have := (HRb.out _ e).1; omega
      have q1 : (Value.slice A r.length c).ownBlock ≠ some cb := fun e => by have := (HRb.out _ e).1; omega
      have q2 : (Value.slice A r.length c).ownBlock ≠ some yB := fun e => by have := (HRb.out _ e).1; omega
      have q3 : (Value.slice A r.length c).ownBlock ≠ some w9.heap.size := fun e => by have := (HRb.out _ e).2; omega
      have hst : StT (u, t) (candB es) w.heap.size w9.heap.size cb mw yB W1.heap.size (m, []) (.slice none 0 0) W3 :=
        ⟨cell_kept e0 hg3 l9 q0, cell_kept e5 hg3 c9 q1, cell_kept z0 hg3 n9 q3, fro_kept zf hg3 n9 q3, World.ownsRow_nil _ _ _ _, HM.out.kept hg3 (fun e => q2 e.symm), HMid.out, fun b hb => by cases hb⟩
      have HSt := Lib.hid hst
      have hc3 : ClosAt W3 cb mw B An Ae Au Ah nn cn ce cu ch es up half out := HC9.out.kept (F := fun k => (Value.slice A r.length c).ownBlock = some k) (F' := fun _ => False) ⟨⟨hg3.os, hg3.tape, hg3.output, hg3.size, fun j hj => hg3.block j hj.1 (fun e => hj.2 e.symm)⟩, fun _ h => h.elim⟩ (fun k hk => by
        have h1 := HRb.out k hk
        have h2 := hcw
        exact ⟨by omega, by omega, by omega⟩)
      have HC3 := Lib.hid hc3
      have hk3 : Keeps (But W1 yB) W1 W3 := by
        have hk := HKr.out
        refine ⟨hg3.os.trans hk.os, hg3.tape.trans hk.tape, hg3.output.trans hk.output, Nat.le_trans hk.size hg3.size, fun j hj => (hg3.block j (Nat.lt_of_lt_of_le hj.1 hk.size) (fun e => ?_)).trans (hk.block j hj)⟩
        have := (HRb.out j e.symm).1
        have := hj.1
        omega
      have HK3 := Lib.hid hk3
      have hz3 := hg3.size
      have HO3 := Lib.hid ho3
      clear hst hc3 hk3 hg3 ho3 e0 e5 z0 zf HO HM HKr HC9
      generalize canon ltJ r = R at HO3 HNx HR HSc
      clear HSc
      have hnB : W1.heap.size ≤ w9.heap.size := hz9
      have hsa : StA w.heap.size w9.heap.size cb mw yB := ⟨by omega, by omega, ha1, by omega, by omega, by omega, ha2⟩
      have HSa := Lib.hid hsa
      clear hsa
      have z3 : w9.heap.size < W3.heap.size := by omega
      have y3 : yB < W3.heap.size := by omega
      have m3 : mw < W3.heap.size := by omega
      go_wp2_with fail
      go_loopw [22] (fun i wr => ∃ (k : Nat) (v : Value), k ≤ r.length ∧ i = .int .i64 k ∧ Hid (StT (u, t) (candB es) w.heap.size w9.heap.size cb mw yB W1.heap.size (midP E out m R k) v wr) ∧ Hid (TookB (StF yB w9.heap.size (.slice none 0 0)) (StF yB w9.heap.size v) W3 wr)) (fun i _ => r.length - (intOf i).toNat)
      case atStart => exact ⟨0, .slice none 0 0, Nat.zero_le _, rfl, HSt, TookB.refl _ _⟩
      case round =>
        obtain ⟨k, v, hk, rfl, HSx, HTx⟩ := hrel
        have hzr := HTx.out.1.size
        have e0 := HSx.out.cc
        have en := HSx.out.nc
        have fn := HSx.out.nf
        have l0 : w.heap.size < wr.heap.size := by omega
        have ln : w9.heap.size < wr.heap.size := by omega
        by_cases hlt : k < r.length
        · have hox := HTx.out.own HO3.out (fun b hb => by
            have h1 := HRb.out b hb
            rintro (h | h | h)
            · omega
            · omega
            · cases h)
          have hrd : Rd wr wr.heap.size 2 A R.length (jpsC R) := by rw [HR.out]; exact own_rd' hox
          have hcx := HC3.out.kept HTx.out (by
            rintro j (h | h | h)
            · subst h; exact ⟨hBy, ha1, ha2⟩
            · subst h; exact ⟨by omega, by omega, by omega⟩
            · cases h)
          have HCx := Lib.hid hcx
          have hkR : k < R.length := by rw [HR.out]; exact hlt
          obtain ⟨bb, o, hA, hB, x0', x1'⟩ := hrd.jp hkR
          have hms := midP_succ (E := E) (out := out) (m := m) hkR
          have Hown := Lib.hid HSx.out.own.lt
          subst hA
          generalize R[k] = x at x0' x1' hms
          obtain ⟨s', t'⟩ := x
          simp only at x0' x1' hms
          have HMs := Lib.hid hms
          have m1 : (0 : Int) ≤ (k : Int) := by omega
          have m2 : (k : Int) < (r.length : Int) := by omega
          clear hms hox hrd hcx hkR
          go_wp2_with fail
          first | (refine wp_named ?_; intro W4 hW) | (refine calls_named ?_; intro W4 hW)
          have B4 : Below wr.heap.size wr W4 := by rw [hW]; exact (by repeat (first | exact Below.refl _ _ | assumption | refine Below.alloc ?_ (by first | omega | (simp <;> omega)) _ | refine Below.setCell ?_ (by first | omega | (simp <;> omega)) _ | refine Below.drew ?_))
          replace e0 := cellAt e0 B4 (by omega)
          replace HSx := Lib.hid (HSx.out.on B4)
          replace HCx := Lib.hid (HCx.out.on B4)
          replace HTx := Lib.hid (HTx.out.then B4)
          replace l0 : w.heap.size < W4.heap.size := ltAt l0 B4
          have n4 : wr.heap.size < W4.heap.size := by rw [hW]; simp <;> omega
          have j0 : W4.cell? ⟨wr.heap.size, 0, none⟩ = some (sv s') := by rw [hW]; go_simp
          clear hW
          have hz4 := B4.size
          clear B4 x0' x1'
          have htk := steps_takes (first := (u, t)) (cand := candB es) (cB := w.heap.size) (jB := wr.heap.size) (nB := w9.heap.size) (base := W1.heap.size) (B := B) (u := s') (s0 := midP E out m R k) HSa.out (by omega) (by omega) HK.out (by have := HCl.out; omega) hBy (by omega) (by omega)
          have HTk := Lib.hid htk
          have hS0 : StS (u, t) (candB es) w.heap.size wr.heap.size w9.heap.size cb mw yB W1.heap.size s' (midP E out m R k) [] (StF yB w9.heap.size v) W4 :=
            ⟨v, HSx.out, j0, fun e => by have := (Hown.out _ e).2; omega, rfl, by omega, by omega⟩
          have HS0 := Lib.hid hS0
          clear htk hS0
          refine (each_any _ _ _ cb mw B An Ae Au Ah nn cn ce cu ch es up half out s' t' [] _ W4 HTk.out HS0.out HCx.out HK.out).mono ?_
          rintro e W5 ⟨rfl, F', ⟨v', hT', -, -, rfl, -, -⟩, hk5⟩
          rw [List.nil_append, HE.out, ← HMs.out] at hT'
          have HS5 := Lib.hid hT'
          have HT5 := Lib.hid (HTx.out.trans hk5)
          clear hT' hk5
          go_wp2_with fail
          go_roundw
          case rel => exact ⟨k + 1, v', by omega, by go_num, HS5, HT5⟩
          case measure => simp [intOf]; omega
        · obtain rfl : k = r.length := by omega
          rw [← HR.out, midP_all] at HSx
          obtain ⟨A', c', hv, _⟩ := own_rd HSx.out.own
          subst hv
          have hkp : Keeps (But W1 yB) W1 wr := by
            have h1 := HK3.out
            have h2 := HTx.out.1
            refine ⟨h2.os.trans h1.os, h2.tape.trans h1.tape, h2.output.trans h1.output, Nat.le_trans h1.size h2.size, fun j hj => (h2.block j ⟨Nat.lt_of_lt_of_le hj.1 h1.size, ?_⟩).trans (h1.block j hj)⟩
            rintro (h | h | h)
            · exact hj.2 h
            · have := hj.1; omega
            · cases h
          have HKp := Lib.hid hkp
          clear hkp
          go_wp2_with fail
          go_roundg g'
          case measure => omega
          case rel => exact ⟨(stepP E out m R).1, (stepP E out m R).2, A', c', rfl, HNx, HSx.out.own, HSx.out.mp, HKp⟩
end Od
end Go.Proofs.YtbllehjhmfehbaaGreat
end
