/- My texts, joined for the claim: PSort PSteps PNeeds1. -/
import Derived.Test.YtbllehjhmfehbaaGreatZT5
import Derived.Test.YtbllehjhmfehbaaGreatZT9
import Derived.Test.YtbllehjhmfehbaaGreatZT7
import Derived.Test.YtbllehjhmfehbaaGreatZT1
import Derived.Test.YtbllehjhmfehbaaGreatZT8

section
/- pull.compare; the sort of a row of units with types of the call's own. -/
namespace Go.Proofs.YtbllehjhmfehbaaGreat
open Go.RowKit Go.Sort Go.Lib Go.Shelf

namespace Od
def jpCmp (p q : Jp) : Int := orI [cmpS p.1 q.1, cmpI p.2 q.2]
set_option maxRecDepth 100000 in
set_option maxHeartbeats 1000000 in
theorem compareJ_any (a : Str) (x : Int) (a' : Str) (y : Int) (w : World) :
    Calls Tryz.prog 48 #[.agg #[sv a, .int .i64 x], .agg #[sv a', .int .i64 y]] w (GrowInt (jpCmp (a, x) (a', y)) w) := by
  have h3 : Rd ((((w.alloc (.cells #[sv a, .int .i64 x] 73)).alloc (.cells #[sv a', .int .i64 y] 73)).alloc (.cells #[.int .i64 (cmpS a a'), .int .i64 (cmpI x y)] 3)).drew) ((((w.alloc (.cells #[sv a, .int .i64 x] 73)).alloc (.cells #[sv a', .int .i64 y] 73)).alloc (.cells #[.int .i64 (cmpS a a'), .int .i64 (cmpI x y)] 3)).drew).heap.size 1 (some ⟨w.heap.size + 1 + 1, 0, none⟩) 2 (ints [cmpS a a', cmpI x y]) := by
    have h := (Rd.lit ((w.alloc (.cells #[sv a, .int .i64 x] 73)).alloc (.cells #[sv a', .int .i64 y] 73)) (ints [cmpS a a', cmpI x y]) 3 1 2 rfl).drew
    simp only [World.size_alloc] at h
    exact h.more (by simp)
  have H3 := Lib.hid h3
  clear h3
  go_enter Tryz.func48, Tryz.ntmps48
  go_wp2_with fail
  go_region_held3 (fun w' => w'.cell? ⟨w.heap.size, 0, none⟩ = some (sv a) ∧ w'.cell? ⟨w.heap.size, 1, none⟩ = some (.int .i64 x) ∧ w'.cell? ⟨w.heap.size + 1, 0, none⟩ = some (sv a') ∧ w'.cell? ⟨w.heap.size + 1, 1, none⟩ = some (.int .i64 y)) (go_keep)
    (first | (go_at_call 68; refine (CompareS_any _ _ _).mono ?_; rintro e w' ⟨rfl, rfl⟩) | (go_at_call 94; refine (CompareI_any _ _ _).mono ?_; rintro e w' ⟨rfl, rfl⟩) | (go_at_call 93; refine (Or_any (some ⟨w.heap.size + 1 + 1, 0, none⟩) 2 [cmpS a a', cmpI x y] _ H3.out (by simp)).mono ?_; rintro e w' ⟨rfl, rfl⟩))
  go_wp2_with fail
  go_ret
  exact ⟨rfl, 1, _, by rw [alloc_eq_grow, alloc_eq_grow, alloc_eq_grow, grow_grow, grow_grow, grow_drew]; rfl⟩
theorem jpCmp_lt (p q : Jp) : ltOf jpCmp p q = ltJ p q := by
  unfold ltOf jpCmp ltJ
  have hs : ∀ a b : Str, cmpS a b = if ltS a b = true then -1 else if a = b then 0 else 1 := fun _ _ => rfl
  have hi : ∀ a b : Int, cmpI a b = if a < b then -1 else if b < a then 1 else 0 := fun _ _ => rfl
  rw [hs, hi]
  by_cases h1 : ltS p.1 q.1 = true
  · simp [h1, orI]
  · by_cases h2 : p.1 = q.1
    · rw [h2] at h1
      by_cases h3 : p.2 < q.2
      · simp [h1, h2, h3, orI]
      · by_cases h4 : q.2 < p.2
        · simp [h1, h2, h3, h4, orI]
        · simp [h1, h2, h3, h4, orI]
    · simp [h1, h2, orI]
theorem jpCmp_fun : ltOf jpCmp = ltJ := by funext p q; exact jpCmp_lt p q
theorem swoJp : SWO (ltOf jpCmp) where
  irrefl x := by rw [jpCmp_fun]; exact toJ.irrefl x
  trans x y z h1 h2 := by rw [jpCmp_fun] at *; exact toJ.trans h1 h2
  ntrans x y z h1 h2 := by
    rw [jpCmp_fun] at *
    cases h : ltJ x z
    · rfl
    · exfalso
      cases h3 : ltJ y x
      · rw [toJ.total h1 h3] at h; rw [h] at h2; cases h2
      · have := toJ.trans h3 h; rw [this] at h2; cases h2
theorem flatK_jps (ps : List Jp) : flatK jpC 2 ps.toArray = (jpsC ps).toArray := by
  refine ext_get! (by simp [jpsC_len]) fun t ht => ?_
  have ht' : t < ps.length * 2 := by simpa using ht
  rw [get_flatK _ _ _ t (by simpa using ht')]
  have hi : t / 2 < ps.length := by omega
  have h := flat_at jpC 2 jpC_len ps (t / 2) (t % 2) hi (by omega)
  rw [show t / 2 * 2 + t % 2 = t by omega] at h
  have e1 : ps.toArray[t / 2]! = ps[t / 2] := by simp [hi]
  rw [e1]
  have e2 : (jpsC ps).toArray[t]! = ((jpsC ps)[t]?).getD default := by simp [List.getElem!_eq_getElem?_getD]
  rw [e2, show (jpsC ps)[t]? = (jpC ps[t / 2])[t % 2]? from h]
  simp [List.getElem!_eq_getElem?_getD]
def sortR (ps : List Jp) : List Jp := ps.mergeSort fun x y => !ltJ y x
theorem sortR_len (ps : List Jp) : (sortR ps).length = ps.length := by simp [sortR]
theorem mem_sortR {ps : List Jp} {p : Jp} : p ∈ sortR ps ↔ p ∈ ps := (List.mergeSort_perm _ _).mem_iff
theorem sortR_le (ps : List Jp) : LE ltJ (sortR ps) := by
  have h := List.pairwise_mergeSort (le := fun x y => !ltJ y x) (fun a b c h1 h2 => by
    simp only [Bool.not_eq_true'] at *
    have := swoJp.ntrans (x := c) (y := b) (z := a)
    rw [jpCmp_fun] at this
    exact this h2 h1) (fun a b => by
    cases h1 : ltJ b a
    · simp
    · cases h2 : ltJ a b
      · simp
      · have := toJ.trans h1 h2; rw [toJ.irrefl] at this; cases this) ps
  exact h.imp fun {a b} hab => by simpa using hab
theorem sortR_canon {ps : List Jp} (h : ps.Nodup) : sortR ps = canon ltJ ps := by
  refine SS.eq_canon toJ ?_ fun _ => mem_sortR
  have hn : (sortR ps).Nodup := (List.mergeSort_perm _ _).nodup_iff.2 h
  unfold SS
  refine List.pairwise_iff_getElem.2 fun i j hi hj hij => ?_
  have h1 := List.pairwise_iff_getElem.1 (sortR_le ps) i j hi hj hij
  have h2 := List.pairwise_iff_getElem.1 hn i j hi hj hij
  cases h3 : ltJ (sortR ps)[i] (sortR ps)[j]
  · exact absurd (toJ.total h3 h1) h2
  · rfl
set_option maxHeartbeats 1000000 in
theorem sortR_own (base c : Nat) (A : Option Addr) (ps : List Jp) (w : World) (h : w.ownsRow base 73 2 (.slice A ps.length c) ps.length (jpsC ps)) (hsz : ps.length ≤ 1000000) :
    Calls Tryz.prog 87 #[.slice A ps.length c, .func (.func 48) #[] #[]] w fun e w' => e = .returned (.tuple #[]) ∧ w'.ownsRow base 73 2 (.slice A ps.length c) ps.length (jpsC (sortR ps)) ∧ w.grownBy w' (Value.slice A ps.length c).ownBlock := by
  rcases h.2 with ⟨hv, hn⟩ | ⟨g, cap, cur, hv, hg, hb, h1, h2, h3, h4⟩
  · have hnil : ps = [] := List.length_eq_zero_iff.1 hn
    subst hnil
    refine (show Calls Tryz.prog 87 _ w _ from AnyF.slices_SortFunc_none Tryz.sortRun A c _ w).mono ?_
    rintro e w' ⟨rfl, rfl⟩
    exact ⟨rfl, by simpa [sortR] using h, World.grownBy.refl _ _⟩
  · injection hv with e1 _ e3
    subst e1 e3
    have hgl : g < w.heap.size := (Array.getElem?_eq_some_iff.1 hb).1
    have hlen := jpsC_len ps
    have eg : ∀ args w, (callFunc 48 args).run Tryz.prog w = .ok (.enter 48 args) w := enters_of Tryz.func48 (by kernel_rfl) rfl
    have hH : HoldsK jpC 2 w g 0 ps.toArray := by
      unfold HoldsK
      rw [flatK_jps]
      exact holds_row hb (by rw [hlen]; exact h4)
    have hcon := AnyQ.slices_SortFunc_total (P := Tryz.prog) Tryz.sortRun 2 (by intro w; exact Tryz.isAgg73 w) (by intro w; exact Tryz.sizeOf73 w) jpC jpC_len (fun x v hv => one_jpC x v hv) jpCmp swoJp 48 #[] g 0 c ps.toArray w eg
      (fun _ _ _ _ x y => compareJ_any x.1 x.2 y.1 y.2 _) hH hgl (by simp; omega) (by intro x y hx hy; rw [jpCmp_fun] at hx hy; exact toJ.total hx hy)
    change Calls Tryz.prog 87 _ _ _ at hcon
    simp only [List.size_toArray] at hcon
    refine hcon.mono ?_
    rintro e w' ⟨rfl, n, os, rfl⟩
    have hsort : (ps.mergeSort fun x y => !(ltOf jpCmp) y x) = sortR ps := by rw [jpCmp_fun]; rfl
    unfold sortWorldK putRowK
    rw [hsort, flatK_jps]
    have hl2 : (jpsC (sortR ps)).length = ps.length * 2 := by rw [jpsC_len, sortR_len]
    refine ⟨rfl, ⟨hl2, .inr ⟨g, c, _, rfl, hg, heap_row _ hb, h1, h2, by simp [putCells, h3], ?_⟩⟩, grownBy_row _⟩
    rw [← hl2]
    exact take_putCellsI cur _ (by omega)
end Od
end Go.Proofs.YtbllehjhmfehbaaGreat
end

section
/- (*closure).steps: who brings what, fewest steps first. (bel2) -/
namespace Go.Proofs.YtbllehjhmfehbaaGreat
open Go.RowKit Go.Sort Go.Maps
set_option linter.unusedSimpArgs false
namespace Od
theorem ClosAt.but {w w' : World} {cb mw B yB : Nat} {An Ae Au Ah : Option Addr} {nn cn ce cu ch : Nat} {es : List Ed} {up half : List Str} {out : Jp → Bool} (h : ClosAt w cb mw B An Ae Au Ah nn cn ce cu ch es up half out) (hk : Keeps (But w yB) w w') (h1 : B ≤ yB) (h2 : yB ≠ cb) (h3 : yB ≠ mw) : ClosAt w' cb mw B An Ae Au Ah nn cn ce cu ch es up half out :=
  h.kept (F := fun k => k = yB) (F' := fun k => k = yB) ⟨⟨hk.os, hk.tape, hk.output, hk.size, fun j hj => hk.block j hj⟩, fun _ h => .inl h⟩ (fun k hk => by subst hk; exact ⟨h1, h2, h3⟩)
/-- What steps$1 keeps of what it has taken. -/
def StS (first : Jp) (cand : List Jp) (cB jB nB cb mw yB base : Nat) (u : Str) (s0 : Ms × List Jp) (D : List Bg) (F : Nat → Prop) (w : World) : Prop :=
  ∃ v, StT first cand cB nB cb mw yB base ((bysB u D).foldl (addP noO) s0) v w ∧ w.cell? ⟨jB, 0, none⟩ = some (sv u) ∧ v.ownBlock ≠ some jB ∧ F = StF yB nB v ∧ mw < w.heap.size ∧ base ≤ w.heap.size
theorem steps_takes {first : Jp} {cand : List Jp} {cB jB nB cb mw yB base B : Nat} {u : Str} {s0 : Ms × List Jp} (ha : StA cB nB cb mw yB) (hj1 : jB ≠ yB) (hj2 : jB ≠ nB) (hok : ∀ k ∈ cand, okJ k) (hcl : cand.length ≤ 1000000) (h1 : B ≤ yB) (h2 : B ≤ nB) (h3 : B ≤ base) :
    TakesB 89 #[.pointer (some ⟨cB, 0, none⟩), .pointer (some ⟨jB, 0, none⟩), .pointer (some ⟨nB, 0, none⟩)] cb mw B cand (StS first cand cB jB nB cb mw yB base u s0) where
  enters := enters_of Tryz.func89 (by kernel_rfl) rfl
  on := by
    rintro D F W W' ⟨v, hT, hc, hv, rfl, hm, hb⟩ hbel
    exact ⟨v, hT.on hbel, cellAt hc hbel (cell_blk hc), hv, rfl, Nat.lt_of_lt_of_le hm hbel.size, Nat.le_trans hb hbel.size⟩
  low := by
    rintro D F W ⟨v, hT, hc, hv, rfl, hm, hb⟩
    exact hT.low ha h1 h2 h3
  says := by
    rintro D F W s t n ⟨v, hT, hc, hv, rfl, hm, hb⟩ hca
    refine (steps1_any first cand cB jB nB cb mw yB base u _ v s t n W hT ha hc ⟨hj1, hj2, hv⟩ hca (hok _ hca) hcl hm hb).mono ?_
    rintro e w' ⟨rfl, v', hT', hk⟩
    have hl := cell_blk hc
    refine ⟨rfl, StF yB nB v', ⟨v', ?_, hk.cell hc hl ?_, ?_, rfl, Nat.lt_of_lt_of_le hm hk.1.size, Nat.le_trans hb hk.1.size⟩, hk⟩
    · unfold bysB at *
      rw [List.map_append, List.foldl_append]
      exact hT'
    · rintro (h | h | h)
      · exact hj1 h
      · exact hj2 h
      · exact hv h
    · intro e
      rcases hk.2 jB (.inr (.inr e)) with (h | h | h) | h
      · exact hj1 h
      · exact hj2 h
      · exact hv h
      · exact absurd hl (by simp only; omega)
/-- In the middle of a layer, k jobs done. -/
def midP (E : Jp → List Bg) (out : Jp → Bool) (m : Ms) (R : List Jp) (k : Nat) : Ms × List Jp := ((R.take k).flatMap (brP E)).foldl (addP out) (m, [])
theorem midP_succ {E : Jp → List Bg} {out : Jp → Bool} {m : Ms} {R : List Jp} {k : Nat} (h : k < R.length) : midP E out m R (k + 1) = (bysB R[k].1 ((E R[k]).filter (fun b => !out b.1))).foldl (addP noO) (midP E out m R k) := by
  unfold midP
  rw [List.take_succ_eq_append_getElem h, List.flatMap_append, List.foldl_append, bysB_filter, fold_no]
  simp [bysB, brP]
theorem midP_all (E : Jp → List Bg) (out : Jp → Bool) (m : Ms) (R : List Jp) : midP E out m R R.length = stepP E out m R := by
  unfold midP stepP
  rw [List.take_length]
set_option maxRecDepth 100000 in
set_option maxHeartbeats 16000000 in
theorem steps_any (cb mw yB B : Nat) (An Ae Au Ah : Option Addr) (nn cn ce cu ch : Nat) (es : List Ed) (up half : List Str) (out : Jp → Bool) (u : Str) (t : Int) (w : World)
    (hcl : ClosAt w cb mw B An Ae Au Ah nn cn ce cu ch es up half out) (c5 : w.cell? ⟨cb, 5, none⟩ = some (.map (some yB))) (hy : MapIs kindJ w yB 0 (fun _ => none)) (ha1 : yB ≠ cb) (ha2 : yB ≠ mw) (hBy : B ≤ yB) (hok : ∀ k ∈ candB es, okJ k) (hof : okJ (u, t)) :
    Calls Tryz.prog 44 #[.pointer (some ⟨cb, 0, none⟩), .agg #[sv u, .int .i64 t]] w fun e w' => e = .returned (.tuple #[]) ∧
      MapIs kindJ w' yB (layP (bringB es up half) out (6 * es.length + 1) [((u, t), [])] [(u, t)]).length (byV (layP (bringB es up half) out (6 * es.length + 1) [((u, t), [])] [(u, t)])) ∧ Keeps (But w yB) w w' := by
  have HC := Lib.hid hcl
  have HY := Lib.hid hy
  have HK := Lib.hid hok
  have hcl0 := hcl.lt
  have hml0 := hcl.mlt
  have hy0 := hy.lt
  have hyw := hy.lt
  have hcw := hcl.lt
  have hBw := hcl.lb
  have hmw := hcl.mlt
  have hel := hcl.el
  have hlb := hcl.lb
  clear hcl hy hok
  have hcand : (candB es).length = 6 * es.length := candB_len es
  have hhead : Head (bringB es up half) out (u, t) (candB es) (layP (bringB es up half) out (6 * es.length + 1) [((u, t), [])] [(u, t)]) (6 * es.length + 1) [((u, t), [])] [(u, t)] := by
    have := Head.zero (E := bringB es up half) (out := out) (first := (u, t)) (cand := candB es)
    rw [hcand] at this; exact this
  have HH0 := Lib.hid hhead
  clear hhead
  generalize layP (bringB es up half) out (6 * es.length + 1) [((u, t), [])] [(u, t)] = fin at *
  have HCd := Lib.hid (show ∀ j b, b ∈ bringB es up half j → b.1 ∈ candB es from bring_cand)
  have hcl6 : (candB es).length ≤ 60000 := by omega
  have HCl := Lib.hid hcl6
  clear hcl6
  have HCdl := Lib.hid hcand
  clear hcand
  generalize hE : bringB es up half = E at HH0 HCd
  have HE := Lib.hid hE
  clear hE
  go_enter Tryz.func44, Tryz.ntmps44
  go_wp2_with fail
  first | (refine wp_named ?_; intro W1 hW) | (refine calls_named ?_; intro W1 hW)
  have B1 : Below w.heap.size w W1 := by rw [hW]; exact (by repeat (first | exact Below.refl _ _ | assumption | refine Below.alloc ?_ (by first | omega | (simp <;> omega)) _ | refine Below.setCell ?_ (by first | omega | (simp <;> omega)) _ | refine Below.drew ?_))
  replace c5 := cellAt c5 B1 (by omega)
  replace HC := Lib.hid (HC.out.on B1)
  replace HY := Lib.hid (HY.out.on B1)
  replace hcl0 : cb < W1.heap.size := ltAt hcl0 B1
  replace hml0 : mw < W1.heap.size := ltAt hml0 B1
  replace hy0 : yB < W1.heap.size := ltAt hy0 B1
  replace hlb : B ≤ W1.heap.size := leAt hlb B1
  have n1 : w.heap.size < W1.heap.size := by rw [hW]; simp <;> omega
  have n2 : (w.heap.size + 1) < W1.heap.size := by rw [hW]; simp <;> omega
  have p0 : W1.cell? ⟨w.heap.size, 0, none⟩ = some (.pointer (some ⟨cb, 0, none⟩)) := by rw [hW]; go_simp
  have q0 : W1.cell? ⟨(w.heap.size + 1), 0, none⟩ = some (sv u) := by rw [hW]; go_simp
  have q1 : W1.cell? ⟨(w.heap.size + 1), 1, none⟩ = some (.int .i64 t) := by rw [hW]; go_simp
  have hzz : w.heap.size + 2 ≤ W1.heap.size := by rw [hW]; simp
  clear hW
  have HB1 := Lib.hid B1
  clear B1
  have x1 : ¬ w.heap.size = yB := by omega
  have x2 : ¬ w.heap.size + 1 = yB := by omega
  have x3 : ¬ cb = yB := fun e => ha1 e.symm
  have HC1 := Lib.hid HC.out
  have k5 := c5
  have l1 := n1
  have lc := hcl0
  have k0 := p0
  try go_wp2_with fail
  refine wp_region_held_drew (S := fun w' => Keeps (But W1 yB) W1 w') (by kernel_rfl) (But.below (Below.drew (Below.refl _ _))) (fun hHeld => ?_)
  refine tY (i := 0) (v := ?_) rfl ?_ hHeld ?_; rotate_left 1; focus (intro w' hSw; have hCell := fun (b o : Nat) (h : b < W1.heap.size) (h2 : ¬ b = yB) => World.cell?_of_block (a := ⟨b, o, none⟩) (hSw.block b ⟨h, h2⟩); clear hSw; go_simp; try with_reducible rfl)
  (try simp only [Act.put, zn1, zn2, zn3])
  refine tY (i := 1) (v := ?_) rfl ?_ hHeld ?_; rotate_left 1; focus (intro w' hSw; clear hSw; go_simp; try with_reducible rfl)
  (try simp only [Act.put, zn1, zn2, zn3])
  refine tY (i := 2) (v := ?_) rfl ?_ hHeld ?_; rotate_left 1; focus (intro w' hSw; clear hSw; go_simp; try with_reducible rfl)
  (try simp only [Act.put, zn1, zn2, zn3])
  refine tY (i := 3) (v := ?_) rfl ?_ hHeld ?_; rotate_left 1; focus (intro w' hSw; have hCell := fun (b o : Nat) (h : b < W1.heap.size) (h2 : ¬ b = yB) => World.cell?_of_block (a := ⟨b, o, none⟩) (hSw.block b ⟨h, h2⟩); clear hSw; go_simp; try with_reducible rfl)
  (try simp only [Act.put, zn1, zn2, zn3])
  refine tY (i := 4) (v := ?_) rfl ?_ hHeld ?_; rotate_left 1; focus (intro w' hSw; have hCell := fun (b o : Nat) (h : b < W1.heap.size) (h2 : ¬ b = yB) => World.cell?_of_block (a := ⟨b, o, none⟩) (hSw.block b ⟨h, h2⟩); clear hSw; go_simp; try with_reducible rfl)
  (try simp only [Act.put, zn1, zn2, zn3])
  refine ready_one (i := 5) rfl (by kernel_rfl) (fun K hK => ?_)
  refine step_update_is _ (by rfl) (.tmp 11) (.tmp 12) (.const (.string ⟨#[]⟩)) 78 (by rfl) 9 Tryz.underlying78 yB 0 _ (by rfl) HY.out (by decide) (u, t) (sv []) (by rfl) (by rfl) hof ?_
  intro w5 hm5 hg5
  have hS := But.trans hHeld (But.grown hg5)
  have HM5 := Lib.hid (MapIs.if_ hm5)
  clear hm5 hg5
  refine hK.out _ _ ?_ (fun hHeld2 => ?_)
  · (try dsimp only); exact hS
  clear hK K hHeld; have hHeld := hHeld2; clear hHeld2; (try simp only [Act.put, zn1, zn2, zn3])
  refine wpAnyH_done (by kernel_rfl) ?_ _
  replace c5 := cellK c5 hHeld (by omega) (by omega)
  replace p0 := cellK p0 hHeld (by omega) (by omega)
  replace q0 := cellK q0 hHeld (by omega) (by omega)
  replace q1 := cellK q1 hHeld (by omega) (by omega)
  replace HC := Lib.hid ((HC.out.but hHeld hBy ha1 ha2))
  clear HY
  replace hcl0 : cb < w5.heap.size := Nat.lt_of_lt_of_le hcl0 (Keeps.size hHeld)
  replace hml0 : mw < w5.heap.size := Nat.lt_of_lt_of_le hml0 (Keeps.size hHeld)
  replace hy0 : yB < w5.heap.size := Nat.lt_of_lt_of_le hy0 (Keeps.size hHeld)
  replace hlb : B ≤ w5.heap.size := Nat.le_trans hlb (Keeps.size hHeld)
  replace n1 : w.heap.size < w5.heap.size := Nat.lt_of_lt_of_le n1 (Keeps.size hHeld)
  replace n2 : (w.heap.size + 1) < w5.heap.size := Nat.lt_of_lt_of_le n2 (Keeps.size hHeld)
  have HK5 := Lib.hid hHeld
  have hz5 := hHeld.size
  clear hHeld
  have HM6 := Lib.hid (show MapIs kindJ w5 yB 1 (byV [((u, t), [])]) by
    have h0 := HM5.out
    have e0 : (fun y => if y = (u, t) then some (sv []) else byV ([] : Ms) y) = byV ([] ++ [((u, t), [])]) := byV_push (m := []) rfl
    have h1 : MapIs kindJ w5 yB 1 (byV ([] ++ [((u, t), [])])) := by rw [← e0]; exact h0
    exact h1)
  clear HM5
  go_wp2_with fail
  first | (refine wp_named ?_; intro W6 hW) | (refine calls_named ?_; intro W6 hW)
  have B6 : Below w5.heap.size w5 W6 := by rw [hW]; exact (by repeat (first | exact Below.refl _ _ | assumption | refine Below.alloc ?_ (by first | omega | (simp <;> omega)) _ | refine Below.setCell ?_ (by first | omega | (simp <;> omega)) _ | refine Below.drew ?_))
  replace c5 := cellAt c5 B6 (by omega)
  replace p0 := cellAt p0 B6 (by omega)
  replace q0 := cellAt q0 B6 (by omega)
  replace q1 := cellAt q1 B6 (by omega)
  replace HC := Lib.hid (HC.out.on B6)
  replace hcl0 : cb < W6.heap.size := ltAt hcl0 B6
  replace hml0 : mw < W6.heap.size := ltAt hml0 B6
  replace hy0 : yB < W6.heap.size := ltAt hy0 B6
  replace hlb : B ≤ W6.heap.size := leAt hlb B6
  replace n1 : w.heap.size < W6.heap.size := ltAt n1 B6
  replace n2 : (w.heap.size + 1) < W6.heap.size := ltAt n2 B6
  replace HM6 := Lib.hid (HM6.out.on B6)
  replace HK5 := Lib.hid (But.two HK5.out B6)
  have ho6 : W6.ownsRow W1.heap.size 73 2 (.slice (some ⟨w5.heap.size, 0, none⟩) 1 1) 1 (jpsC [(u, t)]) := by rw [hW]; exact own_base (own_lit [sv u, .int .i64 t] rfl (by decide)) hz5
  clear hW
  clear B6
  have HO6 := Lib.hid ho6
  clear ho6 p0 q0 q1 c5
  go_loopg [4] (6 * es.length + 1) (fun g s4 wr => ∃ (m : Ms) (r : List Jp) (A : Option Addr) (c : Nat), s4 = .slice A r.length c ∧ Hid (Head E out (u, t) (candB es) fin g m r) ∧ Hid (wr.ownsRow W1.heap.size 73 2 (.slice A r.length c) r.length (jpsC r)) ∧ Hid (MapIs kindJ wr yB m.length (byV m)) ∧ Hid (Keeps (But W1 yB) W1 wr))
  case atStart => exact ⟨[((u, t), [])], [(u, t)], _, _, rfl, HH0, HO6, HM6, HK5⟩
  case round =>
    obtain ⟨m, r, A, c, rfl, HH, HO, HM, HKr⟩ := hrel
    obtain ⟨w9, rfl⟩ : ∃ wo : World, wo = wr := ⟨_, rfl⟩
    have hz9 := HKr.out.size
    have hz8 : w.heap.size + 2 ≤ w9.heap.size := by omega
    have e0 := cellK k0 HKr.out l1 x1
    have e5 := cellK k5 HKr.out lc x3
    have HC9 := Lib.hid (HC1.out.but HKr.out hBy ha1 ha2)
    have HRb := Lib.hid (show ∀ b, (Value.slice A r.length c).ownBlock = some b → W1.heap.size ≤ b ∧ b < w9.heap.size from HO.out.lt)
    have hrl := HH.out.rl
    have hrl2 : r.length ≤ 60001 := by have := HCl.out; omega
    clear hrl
    by_cases hr : r = []
    · subst hr
      have hm : m = fin := HH.out.done
      subst hm
      go_wp2_with fail
      refine bodyPost_end (results_none rfl _ _ _) rfl ?_
      refine ⟨rfl, HM.out, ?_⟩
      have hk := HKr.out
      exact ⟨hk.os.trans HB1.out.os, hk.tape.trans HB1.out.tape, hk.output.trans HB1.out.output, Nat.le_trans HB1.out.size hk.size, fun j hj => (hk.block j ⟨Nat.lt_of_lt_of_le hj.1 HB1.out.size, hj.2⟩).trans (HB1.out.block j hj.1)⟩
    · obtain ⟨g', hg', hnx⟩ := HH.out.next HCd.out hr
      subst hg'
      have HNx := Lib.hid hnx
      clear hnx
      have hsc := sortR_canon HH.out.nd
      have HSc := Lib.hid hsc
      clear hsc
      have hpos : 0 < r.length := List.length_pos_iff.2 hr
      have hd0 : decide (0 < r.length) = true := by simpa using hpos
      have hmid := HH.out.mid
      have HMid := Lib.hid hmid
      clear hmid
      have hR := sortR_len r
      rw [HSc.out] at hR
      have HR := Lib.hid hR
      clear hR
      have l9 : w.heap.size < w9.heap.size := by omega
      have c9 : cb < w9.heap.size := by omega
      have y9 : yB < w9.heap.size := by omega
      have m9 := HC9.out.mlt
      go_wp2_with fail
      first | (refine wp_named ?_; intro W2 hW) | (refine calls_named ?_; intro W2 hW)
      have B2 : Below w9.heap.size w9 W2 := by rw [hW]; exact (by repeat (first | exact Below.refl _ _ | assumption | refine Below.alloc ?_ (by first | omega | (simp <;> omega)) _ | refine Below.setCell ?_ (by first | omega | (simp <;> omega)) _ | refine Below.drew ?_))
      replace e0 := cellAt e0 B2 (by omega)
      replace e5 := cellAt e5 B2 (by omega)
      replace HC9 := Lib.hid (HC9.out.on B2)
      replace HM := Lib.hid (HM.out.on B2)
      replace HO := Lib.hid (own_on HO.out B2)
      replace HKr := Lib.hid (But.two HKr.out B2)
      replace l9 : w.heap.size < W2.heap.size := ltAt l9 B2
      replace c9 : cb < W2.heap.size := ltAt c9 B2
      replace y9 : yB < W2.heap.size := ltAt y9 B2
      replace m9 : mw < W2.heap.size := ltAt m9 B2
      have n9 : w9.heap.size < W2.heap.size := by rw [hW]; simp <;> omega
      have z0 : W2.cell? ⟨w9.heap.size, 0, none⟩ = some (.slice none 0 0) := by rw [hW]; go_simp
      have zf : W2.frozen? ⟨w9.heap.size, 0, none⟩ = false := by rw [hW]; go_simp
      clear hW
      clear B2
      refine (sortR_own W1.heap.size c A r W2 HO.out (by omega)).mono ?_
      rintro e W3 ⟨rfl, ho3, hg3⟩
      rw [HSc.out] at ho3
      have q0 : (Value.slice A r.length c).ownBlock ≠ some w.heap.size := fun e => by have := (HRb.out _ e).1; omega
      have q1 : (Value.slice A r.length c).ownBlock ≠ some cb := fun e => by have := (HRb.out _ e).1; omega
      have q2 : (Value.slice A r.length c).ownBlock ≠ some yB := fun e => by have := (HRb.out _ e).1; omega
      have q3 : (Value.slice A r.length c).ownBlock ≠ some w9.heap.size := fun e => by have := (HRb.out _ e).2; omega
      have hst : StT (u, t) (candB es) w.heap.size w9.heap.size cb mw yB W1.heap.size (m, []) (.slice none 0 0) W3 :=
        ⟨cell_kept e0 hg3 l9 q0, cell_kept e5 hg3 c9 q1, cell_kept z0 hg3 n9 q3, fro_kept zf hg3 n9 q3, World.ownsRow_nil _ _ _ _, HM.out.kept hg3 (fun e => q2 e.symm), HMid.out, fun b hb => by cases hb⟩
      have HSt := Lib.hid hst
      have hc3 : ClosAt W3 cb mw B An Ae Au Ah nn cn ce cu ch es up half out := HC9.out.kept (F := fun k => (Value.slice A r.length c).ownBlock = some k) (F' := fun _ => False) ⟨⟨hg3.os, hg3.tape, hg3.output, hg3.size, fun j hj => hg3.block j hj.1 (fun e => hj.2 e.symm)⟩, fun _ h => h.elim⟩ (fun k hk => by
        have h1 := HRb.out k hk
        have h2 := hcw
        exact ⟨by omega, by omega, by omega⟩)
      have HC3 := Lib.hid hc3
      have hk3 : Keeps (But W1 yB) W1 W3 := by
        have hk := HKr.out
        refine ⟨hg3.os.trans hk.os, hg3.tape.trans hk.tape, hg3.output.trans hk.output, Nat.le_trans hk.size hg3.size, fun j hj => (hg3.block j (Nat.lt_of_lt_of_le hj.1 hk.size) (fun e => ?_)).trans (hk.block j hj)⟩
        have := (HRb.out j e.symm).1
        have := hj.1
        omega
      have HK3 := Lib.hid hk3
      have hz3 := hg3.size
      have HO3 := Lib.hid ho3
      clear hst hc3 hk3 hg3 ho3 e0 e5 z0 zf HO HM HKr HC9
      generalize canon ltJ r = R at HO3 HNx HR HSc
      clear HSc
      have hnB : W1.heap.size ≤ w9.heap.size := hz9
      have hsa : StA w.heap.size w9.heap.size cb mw yB := ⟨by omega, by omega, ha1, by omega, by omega, by omega, ha2⟩
      have HSa := Lib.hid hsa
      clear hsa
      have z3 : w9.heap.size < W3.heap.size := by omega
      have y3 : yB < W3.heap.size := by omega
      have m3 : mw < W3.heap.size := by omega
      go_wp2_with fail
      go_loopw [22] (fun i wr => ∃ (k : Nat) (v : Value), k ≤ r.length ∧ i = .int .i64 k ∧ Hid (StT (u, t) (candB es) w.heap.size w9.heap.size cb mw yB W1.heap.size (midP E out m R k) v wr) ∧ Hid (TookB (StF yB w9.heap.size (.slice none 0 0)) (StF yB w9.heap.size v) W3 wr)) (fun i _ => r.length - (intOf i).toNat)
      case atStart => exact ⟨0, .slice none 0 0, Nat.zero_le _, rfl, HSt, TookB.refl _ _⟩
      case round =>
        obtain ⟨k, v, hk, rfl, HSx, HTx⟩ := hrel
        have hzr := HTx.out.1.size
        have e0 := HSx.out.cc
        have en := HSx.out.nc
        have fn := HSx.out.nf
        have l0 : w.heap.size < wr.heap.size := by omega
        have ln : w9.heap.size < wr.heap.size := by omega
        by_cases hlt : k < r.length
        · have hox := HTx.out.own HO3.out (fun b hb => by
            have h1 := HRb.out b hb
            rintro (h | h | h)
            · omega
            · omega
            · cases h)
          have hrd : Rd wr wr.heap.size 2 A R.length (jpsC R) := by rw [HR.out]; exact own_rd' hox
          have hcx := HC3.out.kept HTx.out (by
            rintro j (h | h | h)
            · subst h; exact ⟨hBy, ha1, ha2⟩
            · subst h; exact ⟨by omega, by omega, by omega⟩
            · cases h)
          have HCx := Lib.hid hcx
          have hkR : k < R.length := by rw [HR.out]; exact hlt
          obtain ⟨bb, o, hA, hB, x0', x1'⟩ := hrd.jp hkR
          have hms := midP_succ (E := E) (out := out) (m := m) hkR
          have Hown := Lib.hid HSx.out.own.lt
          subst hA
          generalize R[k] = x at x0' x1' hms
          obtain ⟨s', t'⟩ := x
          simp only at x0' x1' hms
          have HMs := Lib.hid hms
          have m1 : (0 : Int) ≤ (k : Int) := by omega
          have m2 : (k : Int) < (r.length : Int) := by omega
          clear hms hox hrd hcx hkR
          go_wp2_with fail
          first | (refine wp_named ?_; intro W4 hW) | (refine calls_named ?_; intro W4 hW)
          have B4 : Below wr.heap.size wr W4 := by rw [hW]; exact (by repeat (first | exact Below.refl _ _ | assumption | refine Below.alloc ?_ (by first | omega | (simp <;> omega)) _ | refine Below.setCell ?_ (by first | omega | (simp <;> omega)) _ | refine Below.drew ?_))
          replace e0 := cellAt e0 B4 (by omega)
          replace HSx := Lib.hid (HSx.out.on B4)
          replace HCx := Lib.hid (HCx.out.on B4)
          replace HTx := Lib.hid (HTx.out.then B4)
          replace l0 : w.heap.size < W4.heap.size := ltAt l0 B4
          have n4 : wr.heap.size < W4.heap.size := by rw [hW]; simp <;> omega
          have j0 : W4.cell? ⟨wr.heap.size, 0, none⟩ = some (sv s') := by rw [hW]; go_simp
          clear hW
          have hz4 := B4.size
          clear B4 x0' x1'
          have htk := steps_takes (first := (u, t)) (cand := candB es) (cB := w.heap.size) (jB := wr.heap.size) (nB := w9.heap.size) (base := W1.heap.size) (B := B) (u := s') (s0 := midP E out m R k) HSa.out (by omega) (by omega) HK.out (by have := HCl.out; omega) hBy (by omega) (by omega)
          have HTk := Lib.hid htk
          have hS0 : StS (u, t) (candB es) w.heap.size wr.heap.size w9.heap.size cb mw yB W1.heap.size s' (midP E out m R k) [] (StF yB w9.heap.size v) W4 :=
            ⟨v, HSx.out, j0, fun e => by have := (Hown.out _ e).2; omega, rfl, by omega, by omega⟩
          have HS0 := Lib.hid hS0
          clear htk hS0
          refine (each_any _ _ _ cb mw B An Ae Au Ah nn cn ce cu ch es up half out s' t' [] _ W4 HTk.out HS0.out HCx.out HK.out).mono ?_
          rintro e W5 ⟨rfl, F', ⟨v', hT', -, -, rfl, -, -⟩, hk5⟩
          rw [List.nil_append, HE.out, ← HMs.out] at hT'
          have HS5 := Lib.hid hT'
          have HT5 := Lib.hid (HTx.out.trans hk5)
          clear hT' hk5
          go_wp2_with fail
          go_roundw
          case rel => exact ⟨k + 1, v', by omega, by go_num, HS5, HT5⟩
          case measure => simp [intOf]; omega
        · obtain rfl : k = r.length := by omega
          rw [← HR.out, midP_all] at HSx
          obtain ⟨A', c', hv, _⟩ := own_rd HSx.out.own
          subst hv
          have hkp : Keeps (But W1 yB) W1 wr := by
            have h1 := HK3.out
            have h2 := HTx.out.1
            refine ⟨h2.os.trans h1.os, h2.tape.trans h1.tape, h2.output.trans h1.output, Nat.le_trans h1.size h2.size, fun j hj => (h2.block j ⟨Nat.lt_of_lt_of_le hj.1 h1.size, ?_⟩).trans (h1.block j hj)⟩
            rintro (h | h | h)
            · exact hj.2 h
            · have := hj.1; omega
            · cases h
          have HKp := Lib.hid hkp
          clear hkp
          go_wp2_with fail
          go_roundg g'
          case measure => omega
          case rel => exact ⟨(stepP E out m R).1, (stepP E out m R).2, A', c', rfl, HNx, HSx.out.own, HSx.out.mp, HKp⟩
end Od
end Go.Proofs.YtbllehjhmfehbaaGreat
end

section
/- The closure of (*closure).needs: who is needed and new is put behind the row. (bel2) -/
namespace Go.Proofs.YtbllehjhmfehbaaGreat
open Go.RowKit Go.Sort Go.Maps
set_option linter.unusedSimpArgs false
namespace Od
def inV (N : List Jp) (k : Jp) : Option Value := if N.contains k = true then some (.bool true) else none
theorem inV_get (N : List Jp) (k : Jp) : (inV N k).getD (.bool false) = .bool (N.contains k) := by
  unfold inV; cases h : N.contains k <;> simp
theorem inV_push (N : List Jp) (k : Jp) : (fun y => if y = k then some (Value.bool true) else inV N y) = inV (N ++ [k]) := by
  funext y
  unfold inV
  by_cases e : y = k
  · subst e; simp
  · rw [if_neg e]
    have : (N ++ [k]).contains y = N.contains y := by
      rw [Bool.eq_iff_iff]
      simp [e]
    rw [this]
structure NMid (first : Jp) (cand N : List Jp) : Prop where
  nd : N.Nodup
  inC : ∀ k ∈ N, k ∈ first :: cand
theorem NMid.len {first : Jp} {cand N : List Jp} (h : NMid first cand N) : N.length ≤ cand.length + 1 := by
  have := nodup_len h.nd h.inC
  simpa using this
theorem NMid.push {first : Jp} {cand N : List Jp} (h : NMid first cand N) {k : Jp} (hk : N.contains k = false) (hc : k ∈ cand) : NMid first cand (N ++ [k]) := by
  have hk' : k ∉ N := by simpa using hk
  refine ⟨?_, fun j hj => ?_⟩
  · rw [List.nodup_append]
    refine ⟨h.nd, by simp, fun a ha b hb e => ?_⟩
    rw [List.mem_singleton] at hb
    exact hk' (by rw [← hb, ← e]; exact ha)
  · rcases List.mem_append.1 hj with hj | hj
    · exact h.inC j hj
    · rw [List.mem_singleton.1 hj]; exact .tail _ hc
/-- What the taker of needs finds. -/
structure NdT (first : Jp) (cand : List Jp) (cB tB cb mw yB base : Nat) (N : List Jp) (i : Nat) (v : Value) (w : World) : Prop where
  cc : w.cell? ⟨cB, 0, none⟩ = some (.pointer (some ⟨cb, 0, none⟩))
  c6 : w.cell? ⟨cb, 6, none⟩ = some (.map (some yB))
  tc : w.cell? ⟨tB, 0, none⟩ = some v
  tf : w.frozen? ⟨tB, 0, none⟩ = false
  row : Tail w base 2 v (N.drop i).length (jpsC (N.drop i))
  mp : MapIs kindJ w yB N.length (inV N)
  mid : NMid first cand N
  le : i ≤ N.length
  sep : ∀ b, v.ownBlock = some b → b ≠ yB ∧ b ≠ tB ∧ b ≠ cB ∧ b ≠ cb ∧ b ≠ mw
structure NdA (cB tB cb mw yB : Nat) : Prop where
  a1 : yB ≠ cB
  a2 : yB ≠ tB
  a3 : yB ≠ cb
  a4 : tB ≠ cB
  a5 : tB ≠ cb
  a6 : tB ≠ mw
  a7 : yB ≠ mw
def NdF (yB tB : Nat) (v : Value) (k : Nat) : Prop := k = yB ∨ k = tB ∨ v.ownBlock = some k
section
variable {first : Jp} {cand : List Jp} {cB tB cb mw yB base i : Nat} {N : List Jp} {v : Value} {w w' : World}
theorem NdT.on (h : NdT first cand cB tB cb mw yB base N i v w) (hb : Below w.heap.size w w') : NdT first cand cB tB cb mw yB base N i v w' := by
  have c : ∀ {b o : Nat} {x : Value}, w.cell? ⟨b, o, none⟩ = some x → w'.cell? ⟨b, o, none⟩ = some x := fun c => cellAt c hb (cell_blk c)
  have hl := cell_blk h.tc
  exact ⟨c h.cc, c h.c6, c h.tc, froAt h.tf hb hl, h.row.on hb, h.mp.on hb, h.mid, h.le, h.sep⟩
theorem NdT.low (h : NdT first cand cB tB cb mw yB base N i v w) (ha : NdA cB tB cb mw yB) {B : Nat} (h1 : B ≤ yB) (h2 : B ≤ tB) (h3 : B ≤ base) : ∀ k, NdF yB tB v k → (B ≤ k ∧ k ≠ cb ∧ k ≠ mw) ∧ k < w.heap.size := by
  rintro k (rfl | rfl | hk)
  · exact ⟨⟨h1, ha.a3, ha.a7⟩, h.mp.lt⟩
  · exact ⟨⟨h2, ha.a5, ha.a6⟩, cell_blk h.tc⟩
  · have h5 := h.row.lt hk
    have h6 := h.sep k hk
    exact ⟨⟨by omega, h6.2.2.2.1, h6.2.2.2.2⟩, h5.2⟩
theorem NdT.put (h : NdT first cand cB tB cb mw yB base N i v w) (ha : NdA cB tB cb mw yB) {k : Jp} (hkn : N.contains k = false) (hc : k ∈ cand) {w5 w7 : World} {A8 : Option Addr} {c8 : Nat}
    (hm5 : MapIs kindJ w5 yB (N.length + 1) (fun y => if y = k then some (.bool true) else inV N y)) (hk5 : Keeps (But w yB) w w5)
    (hown : Tail w7 base 2 (.slice A8 ((N.drop i).length + 1) c8) ((N.drop i).length + 1) (jpsC (N.drop i) ++ jpC k)) (hg : w5.grownBy w7 v.ownBlock)
    (hat : (Value.slice A8 ((N.drop i).length + 1) c8).ownBlock = v.ownBlock ∨ (Value.slice A8 ((N.drop i).length + 1) c8).ownBlock = some (w5.heap.size + 1)) (hmw : mw < w.heap.size) :
    NdT first cand cB tB cb mw yB base (N ++ [k]) i (.slice A8 ((N.drop i).length + 1) c8) (w7.setCell ⟨tB, 0, none⟩ (.slice A8 ((N.drop i).length + 1) c8)) ∧
      TookB (NdF yB tB v) (NdF yB tB (.slice A8 ((N.drop i).length + 1) c8)) w (w7.setCell ⟨tB, 0, none⟩ (.slice A8 ((N.drop i).length + 1) c8)) := by
  have hl1 := cell_blk h.cc
  have hl2 := cell_blk h.c6
  have hl3 := cell_blk h.tc
  simp only at hl1 hl2 hl3
  have hly := h.mp.lt
  have hs5 := hk5.size
  have hs7 := hg.size
  have hsv := h.sep
  have hb : ∀ j, j < w.heap.size → j ≠ yB → j ≠ tB → v.ownBlock ≠ some j → (w7.setCell ⟨tB, 0, none⟩ (.slice A8 ((N.drop i).length + 1) c8)).heap[j]? = w.heap[j]? := fun j hj h1 h2 h3 => by
    rw [(grownBy_setCell w7 ⟨tB, 0, none⟩ (.slice A8 ((N.drop i).length + 1) c8)).block j (by omega) (fun e => h2 (by injection e)), hg.block j (by omega) (fun e => h3 e.symm), hk5.block j ⟨hj, h1⟩]
  have hc' : ∀ {b o : Nat} {x : Value}, w.cell? ⟨b, o, none⟩ = some x → b < w.heap.size → b ≠ yB → b ≠ tB → v.ownBlock ≠ some b → (w7.setCell ⟨tB, 0, none⟩ (.slice A8 ((N.drop i).length + 1) c8)).cell? ⟨b, o, none⟩ = some x := fun c h0 h1 h2 h3 => (World.cell?_of_block (a := ⟨_, _, none⟩) (hb _ h0 h1 h2 h3)).trans c
  have n1 : v.ownBlock ≠ some cB := fun e => (hsv _ e).2.2.1 rfl
  have n2 : v.ownBlock ≠ some cb := fun e => (hsv _ e).2.2.2.1 rfl
  have n3 : v.ownBlock ≠ some tB := fun e => (hsv _ e).2.1 rfl
  have n4 : v.ownBlock ≠ some yB := fun e => (hsv _ e).1 rfl
  have n5 : v.ownBlock ≠ some mw := fun e => (hsv _ e).2.2.2.2 rfl
  have c5 := cellK h.tc hk5 hl3 (fun e => ha.a2 e.symm)
  have f5 := froK h.tf hk5 hl3 (fun e => ha.a2 e.symm)
  have c7 := cell_kept c5 hg (by omega) n3
  have f7 := fro_kept f5 hg (by omega) n3
  have hnew : ∀ b, (Value.slice A8 ((N.drop i).length + 1) c8).ownBlock = some b → v.ownBlock = some b ∨ w.heap.size ≤ b := fun b hb => by
    rcases hat with h0 | h0
    · exact .inl (h0 ▸ hb)
    · rw [h0] at hb; injection hb with hb; exact .inr (by omega)
  have hne : (Value.slice A8 ((N.drop i).length + 1) c8).ownBlock ≠ some tB := fun e => by
    rcases hnew _ e with h0 | h0
    · exact n3 h0
    · omega
  have hdr : (N ++ [k]).drop i = N.drop i ++ [k] := by rw [List.drop_append_of_le_length h.le]
  refine ⟨⟨hc' h.cc hl1 (fun e => ha.a1 e.symm) (fun e => ha.a4 e.symm) n1, hc' h.c6 hl2 (fun e => ha.a3 e.symm) (fun e => ha.a5 e.symm) n2, World.cell?_setCell_same _ _ _ c7, by rw [World.frozen?_setCell]; exact f7, ?_, ?_, h.mid.push hkn hc, by rw [List.length_append]; have := h.le; omega, fun b hb => ?_⟩, ?_, ?_⟩
  · have h0 := hown.kept (grownBy_setCell w7 ⟨tB, 0, none⟩ (.slice A8 ((N.drop i).length + 1) c8)) (fun g h1 h2 => hne (h1.trans h2))
    rw [hdr, List.length_append, jpsC_app, jpsC_one]
    exact h0
  · rw [inV_push] at hm5
    have h0 := (hm5.kept hg (fun e => n4 e.symm)).kept (grownBy_setCell w7 ⟨tB, 0, none⟩ (.slice A8 ((N.drop i).length + 1) c8)) (fun e => ha.a2 (by injection e))
    rw [List.length_append]
    exact h0
  · rcases hnew _ hb with h0 | h0
    · exact hsv _ h0
    · exact ⟨by omega, by omega, by omega, by omega, by omega⟩
  · refine ⟨?_, ?_, ?_, ?_, fun j hj => hb j hj.1 (fun e => hj.2 (.inl e)) (fun e => hj.2 (.inr (.inl e))) (fun e => hj.2 (.inr (.inr e)))⟩
    · exact hg.os.trans hk5.os
    · exact hg.tape.trans hk5.tape
    · exact hg.output.trans hk5.output
    · simp only [World.size_setCell]; omega
  · rintro b (h0 | h0 | h0)
    · exact .inl (.inl h0)
    · exact .inl (.inr (.inl h0))
    · rcases hnew _ h0 with h1 | h1
      · exact .inl (.inr (.inr h1))
      · exact .inr h1
end
theorem addN_skip {N : List Jp} {b : Bg} (h : b.2 = false ∨ N.contains b.1 = true) : addN noO N b = N := by
  unfold addN noO
  rw [if_neg]
  rcases h with h | h
  · rw [h]; simp
  · rw [h]; simp
theorem addN_take {N : List Jp} {b : Bg} (h1 : b.2 = true) (h2 : N.contains b.1 = false) : addN noO N b = N ++ [b.1] := by
  unfold addN noO
  rw [h1, h2]; rfl
set_option maxRecDepth 100000 in
set_option maxHeartbeats 8000000 in
theorem needs1_any (first : Jp) (cand : List Jp) (cB tB cb mw yB base i : Nat) (N : List Jp) (v : Value) (s : Str) (t : Int) (n : Bool) (w : World)
    (h : NdT first cand cB tB cb mw yB base N i v w) (ha : NdA cB tB cb mw yB) (hc : (s, t) ∈ cand) (hok : okJ (s, t)) (hcl : cand.length ≤ 1000000) (hmw : mw < w.heap.size) (hbase : base ≤ w.heap.size) :
    Calls Tryz.prog 90 #[.agg #[sv s, .int .i64 t, .bool n], .pointer (some ⟨cB, 0, none⟩), .pointer (some ⟨tB, 0, none⟩)] w
      fun e w' => e = .returned (.tuple #[]) ∧ ∃ v', NdT first cand cB tB cb mw yB base (addN noO N ((s, t), n)) i v' w' ∧ TookB (NdF yB tB v) (NdF yB tB v') w w' := by
  obtain ⟨i0, hi, hz0, hz1, hz2⟩ := info_parts infoJp
  have hml := h.mid.len
  have hdl : (N.drop i).length ≤ N.length := by rw [List.length_drop]; omega
  have hlen : N.length < maxLen := by unfold maxLen; omega
  have h63 : (N.drop i).length + 1 ≤ maxLen := by unfold maxLen; omega
  have hby : ((N.drop i).length + 1) * 24 ≤ 140737488355328 := by omega
  have HL := Lib.hid (And.intro hlen (And.intro h63 hby))
  have HT := Lib.hid h
  have e0 := h.cc
  have e6 := h.c6
  have et := h.tc
  have l1 := cell_blk h.cc
  have l2 := cell_blk h.c6
  have l3 := cell_blk h.tc
  have ly := h.mp.lt
  simp only at l1 l2 l3
  have a1 : ¬ cB = yB := fun e => ha.a1 e.symm
  have a2 : ¬ cb = yB := fun e => ha.a3 e.symm
  have a3 : ¬ tB = yB := fun e => ha.a2 e.symm
  have hsz := Nat.le_refl w.heap.size
  have hyw := h.mp.lt
  clear h hlen h63 hby hml hdl
  go_enter Tryz.func90, Tryz.ntmps90
  go_wp2_with fail
  first | (refine wp_named ?_; intro W1 hW) | (refine calls_named ?_; intro W1 hW)
  have B1 : Below w.heap.size w W1 := by rw [hW]; exact (by repeat (first | exact Below.refl _ _ | assumption | refine Below.alloc ?_ (by first | omega | (simp <;> omega)) _ | refine Below.setCell ?_ (by first | omega | (simp <;> omega)) _ | refine Below.drew ?_))
  replace e0 := cellAt e0 B1 (by omega)
  replace e6 := cellAt e6 B1 (by omega)
  replace et := cellAt et B1 (by omega)
  replace HT := Lib.hid (HT.out.on B1)
  replace l1 : cB < W1.heap.size := ltAt l1 B1
  replace l2 : cb < W1.heap.size := ltAt l2 B1
  replace l3 : tB < W1.heap.size := ltAt l3 B1
  replace ly : yB < W1.heap.size := ltAt ly B1
  have n1 : w.heap.size < W1.heap.size := by rw [hW]; simp <;> omega
  have y0 : W1.cell? ⟨w.heap.size, 0, none⟩ = some (sv s) := by rw [hW]; go_simp
  have y1 : W1.cell? ⟨w.heap.size, 1, none⟩ = some (.int .i64 t) := by rw [hW]; go_simp
  have y2 : W1.cell? ⟨w.heap.size, 2, none⟩ = some (.bool n) := by rw [hW]; go_simp
  clear hW
  have HB1 := Lib.hid B1
  have hz1w := B1.size
  clear B1
  have a5 : ¬ w.heap.size = yB := by omega
  cases n
  · skip
    try go_wp2_with fail
    refine wp_region_held_drew (S := fun w' => Below W1.heap.size W1 w') (by kernel_rfl) (Below.drew (Below.refl _ _)) (fun hHeld => ?_)
    refine tY (i := 0) (v := ?_) rfl ?_ hHeld ?_; rotate_left 1; focus (intro w' hSw; clear hSw; go_simp; try with_reducible rfl)
    (try simp only [Act.put, zn1, zn2, zn3])
    refine tY (i := 1) (v := ?_) rfl ?_ hHeld ?_; rotate_left 1; focus (intro w' hSw; have hCell := fun (b o : Nat) (h : b < W1.heap.size) => hSw.cell (p := ⟨b, o, none⟩) h; clear hSw; go_simp; try with_reducible rfl)
    (try simp only [Act.put, zn1, zn2, zn3])
    refine tY (i := 2) (v := ?_) rfl ?_ hHeld ?_; rotate_left 1; focus (intro w' hSw; clear hSw; go_simp; try with_reducible rfl)
    (try simp only [Act.put, zn1, zn2, zn3])
    refine tS (i := 3) rfl hHeld ?_; (try simp only [Act.put, zn1, zn2, zn3])
    refine tS (i := 4) rfl hHeld ?_; (try simp only [Act.put, zn1, zn2, zn3])
    refine tS (i := 5) rfl hHeld ?_; (try simp only [Act.put, zn1, zn2, zn3])
    refine tS (i := 6) rfl hHeld ?_; (try simp only [Act.put, zn1, zn2, zn3])
    refine tS (i := 7) rfl hHeld ?_; (try simp only [Act.put, zn1, zn2, zn3])
    refine tS (i := 8) rfl hHeld ?_; (try simp only [Act.put, zn1, zn2, zn3])
    refine tS (i := 9) rfl hHeld ?_; (try simp only [Act.put, zn1, zn2, zn3])
    refine tS (i := 10) rfl hHeld ?_; (try simp only [Act.put, zn1, zn2, zn3])
    refine tY (i := 11) (v := ?_) rfl ?_ hHeld ?_; rotate_left 1; focus (intro w' hSw; clear hSw; go_simp; try with_reducible rfl)
    (try simp only [Act.put, zn1, zn2, zn3])
    refine wpAnyH_done (by kernel_rfl) ?_ _
    go_wp2_with fail
    refine bodyPost_end (results_none rfl _ _ _) rfl ?_
    have hb9 := lift HB1.out hHeld
    refine ⟨rfl, v, ?_, TookB.below hb9⟩
    rw [addN_skip (.inl rfl)]
    exact HT.out.on hHeld
  · cases hkn : N.contains (s, t)
    · skip
      try go_wp2_with fail
      refine wp_region_held_drew (S := fun w' => Below W1.heap.size W1 w') (by kernel_rfl) (Below.drew (Below.refl _ _)) (fun hHeld => ?_)
      refine tY (i := 0) (v := ?_) rfl ?_ hHeld ?_; rotate_left 1; focus (intro w' hSw; clear hSw; go_simp; try with_reducible rfl)
      (try simp only [Act.put, zn1, zn2, zn3])
      refine tY (i := 1) (v := ?_) rfl ?_ hHeld ?_; rotate_left 1; focus (intro w' hSw; have hCell := fun (b o : Nat) (h : b < W1.heap.size) => hSw.cell (p := ⟨b, o, none⟩) h; clear hSw; go_simp; try with_reducible rfl)
      (try simp only [Act.put, zn1, zn2, zn3])
      refine tY (i := 2) (v := ?_) rfl ?_ hHeld ?_; rotate_left 1; focus (intro w' hSw; clear hSw; go_simp; try with_reducible rfl)
      (try simp only [Act.put, zn1, zn2, zn3])
      refine tY (i := 3) (v := ?_) rfl ?_ hHeld ?_; rotate_left 1; focus (intro w' hSw; have hCell := fun (b o : Nat) (h : b < W1.heap.size) => hSw.cell (p := ⟨b, o, none⟩) h; clear hSw; go_simp; try with_reducible rfl)
      (try simp only [Act.put, zn1, zn2, zn3])
      refine tY (i := 4) (v := ?_) rfl ?_ hHeld ?_; rotate_left 1; focus (intro w' hSw; clear hSw; go_simp; try with_reducible rfl)
      (try simp only [Act.put, zn1, zn2, zn3])
      refine tY (i := 5) (v := ?_) rfl ?_ hHeld ?_; rotate_left 1; focus (intro w' hSw; clear hSw; go_simp; try with_reducible rfl)
      (try simp only [Act.put, zn1, zn2, zn3])
      refine tY (i := 6) (v := ?_) rfl ?_ hHeld ?_; rotate_left 1; focus (intro w' hSw; have hCell := fun (b o : Nat) (h : b < W1.heap.size) => hSw.cell (p := ⟨b, o, none⟩) h; clear hSw; go_simp; try with_reducible rfl)
      (try simp only [Act.put, zn1, zn2, zn3])
      refine tY (i := 7) (v := ?_) rfl ?_ hHeld ?_; rotate_left 1; focus (intro w' hSw; clear hSw; go_simp; try with_reducible rfl)
      (try simp only [Act.put, zn1, zn2, zn3])
      refine tY (i := 8) (v := ?_) rfl ?_ hHeld ?_; rotate_left 1; focus (intro w' hSw; have hCell := fun (b o : Nat) (h : b < W1.heap.size) => hSw.cell (p := ⟨b, o, none⟩) h; clear hSw; go_simp; try with_reducible rfl)
      (try simp only [Act.put, zn1, zn2, zn3])
      refine ready_one (i := 9) rfl (by kernel_rfl) (fun K hK => ?_)
      refine step_lookup_is _ (by rfl) (.tmp 10) (.tmp 12) 77 (by rfl) 4 Tryz.underlying77 (.bool false) (zeroB _) yB _ _ (by rfl) (HT.out.mp.on hHeld) (s, t) (by rfl) hok ?_
      rw [inV_get, hkn]
      refine hK.out _ _ ?_ (fun hHeld2 => ?_)
      · (try dsimp only); first | exact Below.trans hHeld (Below.mono hb hHeld.size) | exact hHeld | exact Below.drew hHeld | exact (by repeat (first | exact Below.refl _ _ | assumption | refine Below.alloc ?_ (by first | omega | (simp <;> omega)) _ | refine Below.setCell ?_ (by first | omega | (simp <;> omega)) _ | refine Below.drew ?_))
      clear hK K hHeld; have hHeld := hHeld2; clear hHeld2; (try simp only [Act.put, zn1, zn2, zn3])
      refine tY (i := 10) (v := ?_) rfl ?_ hHeld ?_; rotate_left 1; focus (intro w' hSw; clear hSw; go_simp; try with_reducible rfl)
      (try simp only [Act.put, zn1, zn2, zn3])
      refine tY (i := 11) (v := ?_) rfl ?_ hHeld ?_; rotate_left 1; focus (intro w' hSw; clear hSw; go_simp; try with_reducible rfl)
      (try simp only [Act.put, zn1, zn2, zn3])
      refine wpAnyH_done (by kernel_rfl) ?_ _
      go_wp2_with fail
      first | (refine wp_named ?_; intro W2 hW) | (refine calls_named ?_; intro W2 hW)
      have B2 : Below W1.heap.size W1 W2 := by rw [hW]; exact (by repeat (first | exact Below.refl _ _ | assumption | refine Below.alloc ?_ (by first | omega | (simp <;> omega)) _ | refine Below.setCell ?_ (by first | omega | (simp <;> omega)) _ | refine Below.drew ?_))
      replace e0 := cellAt e0 B2 (by omega)
      replace e6 := cellAt e6 B2 (by omega)
      replace et := cellAt et B2 (by omega)
      replace y0 := cellAt y0 B2 (by omega)
      replace y1 := cellAt y1 B2 (by omega)
      replace y2 := cellAt y2 B2 (by omega)
      replace HT := Lib.hid (HT.out.on B2)
      replace l1 : cB < W2.heap.size := ltAt l1 B2
      replace l2 : cb < W2.heap.size := ltAt l2 B2
      replace l3 : tB < W2.heap.size := ltAt l3 B2
      replace ly : yB < W2.heap.size := ltAt ly B2
      replace n1 : w.heap.size < W2.heap.size := ltAt n1 B2
      clear hW
      have HB2 := Lib.hid (lift HB1.out B2)
      clear B2 hHeld
      have HMp := Lib.hid HT.out.mp
      try go_wp2_with fail
      refine wp_region_held_drew (S := fun w' => Keeps (But W2 yB) W2 w') (by kernel_rfl) (But.below (Below.drew (Below.refl _ _))) (fun hHeld => ?_)
      refine tY (i := 0) (v := ?_) rfl ?_ hHeld ?_; rotate_left 1; focus (intro w' hSw; have hCell := fun (b o : Nat) (h : b < W2.heap.size) (h2 : ¬ b = yB) => World.cell?_of_block (a := ⟨b, o, none⟩) (hSw.block b ⟨h, h2⟩); clear hSw; go_simp; try with_reducible rfl)
      (try simp only [Act.put, zn1, zn2, zn3])
      refine tY (i := 1) (v := ?_) rfl ?_ hHeld ?_; rotate_left 1; focus (intro w' hSw; clear hSw; go_simp; try with_reducible rfl)
      (try simp only [Act.put, zn1, zn2, zn3])
      refine tY (i := 2) (v := ?_) rfl ?_ hHeld ?_; rotate_left 1; focus (intro w' hSw; clear hSw; go_simp; try with_reducible rfl)
      (try simp only [Act.put, zn1, zn2, zn3])
      refine tY (i := 3) (v := ?_) rfl ?_ hHeld ?_; rotate_left 1; focus (intro w' hSw; have hCell := fun (b o : Nat) (h : b < W2.heap.size) (h2 : ¬ b = yB) => World.cell?_of_block (a := ⟨b, o, none⟩) (hSw.block b ⟨h, h2⟩); clear hSw; go_simp; try with_reducible rfl)
      (try simp only [Act.put, zn1, zn2, zn3])
      refine tY (i := 4) (v := ?_) rfl ?_ hHeld ?_; rotate_left 1; focus (intro w' hSw; clear hSw; go_simp; try with_reducible rfl)
      (try simp only [Act.put, zn1, zn2, zn3])
      refine tY (i := 5) (v := ?_) rfl ?_ hHeld ?_; rotate_left 1; focus (intro w' hSw; have hCell := fun (b o : Nat) (h : b < W2.heap.size) (h2 : ¬ b = yB) => World.cell?_of_block (a := ⟨b, o, none⟩) (hSw.block b ⟨h, h2⟩); clear hSw; go_simp; try with_reducible rfl)
      (try simp only [Act.put, zn1, zn2, zn3])
      refine ready_one (i := 6) rfl (by kernel_rfl) (fun K hK => ?_)
      refine step_update_is _ (by rfl) (.tmp 19) (.tmp 21) (.const (.bool true)) 77 (by rfl) 4 Tryz.underlying77 yB _ _ (by rfl) HMp.out HL.out.1 (s, t) (.bool true) (by rfl) (by rfl) hok ?_
      intro w5 hm5 hg5
      have hS := But.trans hHeld (But.grown hg5)
      have HM5 := Lib.hid (MapIs.if_ hm5)
      clear hm5 hg5
      refine hK.out _ _ ?_ (fun hHeld2 => ?_)
      · (try dsimp only); exact hS
      clear hK K hHeld; have hHeld := hHeld2; clear hHeld2; (try simp only [Act.put, zn1, zn2, zn3])
      refine wpAnyH_done (by kernel_rfl) ?_ _
      have HT2 := Lib.hid HT.out
      have hs5 := hHeld.size
      have m3 := l3
      replace e0 := cellK e0 hHeld (by omega) (by omega)
      replace e6 := cellK e6 hHeld (by omega) (by omega)
      replace et := cellK et hHeld (by omega) (by omega)
      replace y0 := cellK y0 hHeld (by omega) (by omega)
      replace y1 := cellK y1 hHeld (by omega) (by omega)
      replace y2 := cellK y2 hHeld (by omega) (by omega)
      clear HT
      replace l1 : cB < w5.heap.size := Nat.lt_of_lt_of_le l1 (Keeps.size hHeld)
      replace l2 : cb < w5.heap.size := Nat.lt_of_lt_of_le l2 (Keeps.size hHeld)
      replace l3 : tB < w5.heap.size := Nat.lt_of_lt_of_le l3 (Keeps.size hHeld)
      replace ly : yB < w5.heap.size := Nat.lt_of_lt_of_le ly (Keeps.size hHeld)
      replace n1 : w.heap.size < w5.heap.size := Nat.lt_of_lt_of_le n1 (Keeps.size hHeld)
      have HK5 := Lib.hid hS
      have hvy : v.ownBlock ≠ some yB := fun e => (HT2.out.sep _ e).1 rfl
      have hvn : v.ownBlock ≠ some tB := fun e => (HT2.out.sep _ e).2.1 rfl
      have HO5 := Lib.hid (HT2.out.row.same hS.size (fun g hg => hS.block g ⟨(HT2.out.row.lt hg).2, fun e => hvy (by rw [hg, e])⟩))
      have f5 := froK HT2.out.tf hS m3 a3
      have hb5 : base ≤ w5.heap.size := by have := HB2.out.size; omega
      have HF := Lib.hid (And.intro hvn f5)
      have HV := Lib.hid hvy
      have hrd5 : Rd (w5.alloc (.cells #[sv s, .int .i64 t] 73)) (w5.alloc (.cells #[sv s, .int .i64 t] 73)).heap.size 2 (some ⟨w5.heap.size, 0, none⟩) 1 (jpC (s, t)) := Rd.lit w5 (jpC (s, t)) 73 2 1 rfl
      have HR5 := Lib.hid hrd5
      have HO6 := Lib.hid (HO5.out.alloc (.cells #[sv s, .int .i64 t] 73))
      have hb6 : base ≤ (w5.alloc (.cells #[sv s, .int .i64 t] 73)).heap.size := by simp; omega
      have HB6 := Lib.hid hb6
      clear hS hHeld hvy hvn f5 hrd5 hb6
      go_wp2_with (first
        | (at_builtin; refine wpList_append_tail (w5.alloc (.cells #[sv s, .int .i64 t] 73)) (by rfl) (.tmp 22) (.tmp 25) 141 (by rfl) base 73 i0 _ 2 24 Tryz.underlying141 hi hz0 hz1 hz2 rfl _ _ _ (by rfl) HO6.out _ 1 (jpC (s, t)) (by rfl) (src_rd (c := 1) Tryz.underlying141 HR5.out (one_jpC (s, t)) (fun e => by cases e)) HL.out.2.1 HL.out.2.2 HB6.out ?_; intro A8 c8 w7 hown7 hg7 hat7; have hg6 := World.grownBy.trans (World.grownBy_alloc w5 (.cells #[sv s, .int .i64 t] 73) _) hg7; have c7 := cell_kept et hg6 l3 HF.out.1; have f7 := fro_kept HF.out.2 hg6 l3 HF.out.1; have HO7 := Lib.hid hown7; have HG7 := Lib.hid (And.intro hg6 hat7); clear hown7 hg6 hg7 hat7)
        | fail)
      refine bodyPost_end (results_none rfl _ _ _) rfl ?_
      have hput := HT2.out.put ha hkn hc HM5.out HK5.out HO7.out HG7.out.1 (by simpa using HG7.out.2) (Nat.lt_of_lt_of_le hmw HB2.out.size)
      simp only [List.length_drop] at hput
      rw [addN_take rfl hkn]
      exact ⟨rfl, _, hput.1, (TookB.below HB2.out).trans hput.2⟩
    · skip
      try go_wp2_with fail
      refine wp_region_held_drew (S := fun w' => Below W1.heap.size W1 w') (by kernel_rfl) (Below.drew (Below.refl _ _)) (fun hHeld => ?_)
      refine tY (i := 0) (v := ?_) rfl ?_ hHeld ?_; rotate_left 1; focus (intro w' hSw; clear hSw; go_simp; try with_reducible rfl)
      (try simp only [Act.put, zn1, zn2, zn3])
      refine tY (i := 1) (v := ?_) rfl ?_ hHeld ?_; rotate_left 1; focus (intro w' hSw; have hCell := fun (b o : Nat) (h : b < W1.heap.size) => hSw.cell (p := ⟨b, o, none⟩) h; clear hSw; go_simp; try with_reducible rfl)
      (try simp only [Act.put, zn1, zn2, zn3])
      refine tY (i := 2) (v := ?_) rfl ?_ hHeld ?_; rotate_left 1; focus (intro w' hSw; clear hSw; go_simp; try with_reducible rfl)
      (try simp only [Act.put, zn1, zn2, zn3])
      refine tY (i := 3) (v := ?_) rfl ?_ hHeld ?_; rotate_left 1; focus (intro w' hSw; have hCell := fun (b o : Nat) (h : b < W1.heap.size) => hSw.cell (p := ⟨b, o, none⟩) h; clear hSw; go_simp; try with_reducible rfl)
      (try simp only [Act.put, zn1, zn2, zn3])
      refine tY (i := 4) (v := ?_) rfl ?_ hHeld ?_; rotate_left 1; focus (intro w' hSw; clear hSw; go_simp; try with_reducible rfl)
      (try simp only [Act.put, zn1, zn2, zn3])
      refine tY (i := 5) (v := ?_) rfl ?_ hHeld ?_; rotate_left 1; focus (intro w' hSw; clear hSw; go_simp; try with_reducible rfl)
      (try simp only [Act.put, zn1, zn2, zn3])
      refine tY (i := 6) (v := ?_) rfl ?_ hHeld ?_; rotate_left 1; focus (intro w' hSw; have hCell := fun (b o : Nat) (h : b < W1.heap.size) => hSw.cell (p := ⟨b, o, none⟩) h; clear hSw; go_simp; try with_reducible rfl)
      (try simp only [Act.put, zn1, zn2, zn3])
      refine tY (i := 7) (v := ?_) rfl ?_ hHeld ?_; rotate_left 1; focus (intro w' hSw; clear hSw; go_simp; try with_reducible rfl)
      (try simp only [Act.put, zn1, zn2, zn3])
      refine tY (i := 8) (v := ?_) rfl ?_ hHeld ?_; rotate_left 1; focus (intro w' hSw; have hCell := fun (b o : Nat) (h : b < W1.heap.size) => hSw.cell (p := ⟨b, o, none⟩) h; clear hSw; go_simp; try with_reducible rfl)
      (try simp only [Act.put, zn1, zn2, zn3])
      refine ready_one (i := 9) rfl (by kernel_rfl) (fun K hK => ?_)
      refine step_lookup_is _ (by rfl) (.tmp 10) (.tmp 12) 77 (by rfl) 4 Tryz.underlying77 (.bool false) (zeroB _) yB _ _ (by rfl) (HT.out.mp.on hHeld) (s, t) (by rfl) hok ?_
      rw [inV_get, hkn]
      refine hK.out _ _ ?_ (fun hHeld2 => ?_)
      · (try dsimp only); first | exact Below.trans hHeld (Below.mono hb hHeld.size) | exact hHeld | exact Below.drew hHeld | exact (by repeat (first | exact Below.refl _ _ | assumption | refine Below.alloc ?_ (by first | omega | (simp <;> omega)) _ | refine Below.setCell ?_ (by first | omega | (simp <;> omega)) _ | refine Below.drew ?_))
      clear hK K hHeld; have hHeld := hHeld2; clear hHeld2; (try simp only [Act.put, zn1, zn2, zn3])
      refine tY (i := 10) (v := ?_) rfl ?_ hHeld ?_; rotate_left 1; focus (intro w' hSw; clear hSw; go_simp; try with_reducible rfl)
      (try simp only [Act.put, zn1, zn2, zn3])
      refine tY (i := 11) (v := ?_) rfl ?_ hHeld ?_; rotate_left 1; focus (intro w' hSw; clear hSw; go_simp; try with_reducible rfl)
      (try simp only [Act.put, zn1, zn2, zn3])
      refine wpAnyH_done (by kernel_rfl) ?_ _
      go_wp2_with fail
      refine bodyPost_end (results_none rfl _ _ _) rfl ?_
      have hb9 := lift HB1.out hHeld
      refine ⟨rfl, v, ?_, TookB.below hb9⟩
      rw [addN_skip (.inr hkn)]
      exact HT.out.on hHeld
end Od
end Go.Proofs.YtbllehjhmfehbaaGreat
end
