/- My texts, joined for the claim: Frame Frame3 Frame5 FrameP. -/
import Derived.Test.YtbllehjhmfehbaaGreatRows
import Derived.Test.YtbllehjhmfehbaaGreatZT1
import Derived.ProofKit
import Derived.OpenShut
import Derived.Deep.Slices
import Derived.Deep.Fields
import Derived.Lib.SmallJoins
import Derived.SizedLaws
import Derived.Test.YtbllehjhmfehbaaGreatZT12

section
/- What every law's row asks behind the walk: the result is true, and each argument reads as it did, since nothing that was there has turned. -/
namespace Go.Proofs.YtbllehjhmfehbaaGreat
open Go.ChangeShapes Go.WideShapes Go.ChangeAt Go.RowKit

theorem own : ownKnob Tryz.prog.godebug = none := by kernel_rfl
theorem laid : laidOutB Tryz.prog = true := by kernel_rfl

section
variable {H : Type} {enc : TypeId × Value → H} {P : Program}

theorem trodAll_stays (hl : laidOutB P = true) {W W' : World} (hb : Below W.heap.size W W') :
    ∀ {ts : List TypeId} {vs : List Value} {ds : List (DataW H)} {p : List MemPlace}, (∀ t ∈ ts, P.readableRec t = true ∧ t < P.types.size) → (∀ x ∈ p, x.block < W.heap.size) →
      DataW.TrodAll enc P W 0 (fun _ => true) true ts vs ds p → DataW.TrodAll enc P W' 0 (fun b => decide (b < W.heap.size)) true ts vs ds p
  | [], _, _, _, _, _, h => by
    obtain ⟨rfl, rfl, rfl⟩ := trodAll_nil h
    exact trodAll_mk0
  | t :: _, _, _, _, hr, hlt, h => by
    obtain ⟨v, vs1, d, ds1, a, b, rfl, rfl, rfl, h1, h2⟩ := trodAll_cons h
    have ht := hr t List.mem_cons_self
    exact trodAll_cons_mk (Below.trod hl ht.1 ht.2 h1 hb (fun x hx => hlt x (List.mem_append.2 (.inl hx))))
      (trodAll_stays hl hb (fun u hu => hr u (List.mem_cons_of_mem _ hu)) (fun x hx => hlt x (List.mem_append.2 (.inr hx))) h2)

/-- The row's post, for a law: it returned true, and nothing that was there has turned. -/
theorem law_post (hl : laidOutB P = true) {f : Func} {s : ChangeSpec} {W W' : World} {args : Array Value} {ds gs : List (DataW H)} {before : List MemPlace} {tb : TypeId}
    (hr : ∀ t ∈ f.params.toList, P.readableRec t = true ∧ t < P.types.size) (hv : s.vars = []) (hres : f.resultTypes = #[tb]) (htb : P.underlying tb = some .bool)
    (hW : DataW.Whole enc P f.params.toList s.vars false W args.toList ds gs before) (hs : s.fn H (ds ++ gs) = { results := [.lit (.bool true)], args := ds }) (hb : Below W.heap.size W W') :
    s.post enc P f false true false false W args (.bool true) W' := by
  have hlt : ∀ p ∈ before, p.block < W.heap.size := fun p hp => hW.lt p hp
  have hW0 := hW
  obtain ⟨p, q, hA, hV, rfl, _, _⟩ := hW0
  rw [hv] at hV
  obtain ⟨rfl, rfl⟩ := trodVars_none hV
  rw [List.append_nil] at hlt
  refine ⟨ds, [], _, [], p, [], hW, ?_, ?_, ?_, hb.frame _, fun h => by cases h⟩
  · rw [hs, hres]
    exact trodAll_cons_mk (shut_bool htb true) trodAll_mk0
  · rw [hs]
    exact trodAll_stays hl hb hr hlt hA
  · rw [hs, hv]
    exact rfl

theorem cell_lt {w : World} {a : Addr} {v : Value} (h : w.cell? a = some v) : a.block < w.heap.size := by
  rcases Nat.lt_or_ge a.block w.heap.size with h1 | h1
  · exact h1
  · unfold World.cell? at h
    rw [Array.getElem?_eq_none h1] at h
    cases h

/-- An argument that is a slice of numbers. -/
theorem open_rd_ints {W : World} {base : Nat} {t e : TypeId} {v : Value} {d : DataW H} {p : List MemPlace} (ht : P.underlying t = some (.slice e)) (he : P.underlying e = some (.int .i64)) (hc : P.cellsOf e = 1)
    (hok : Value.okWide P W .any base t v) (h : DataW.Trod enc P W 0 (fun _ => true) true t v d p) : ∃ (A : Option Addr) (c : Nat) (xs : List Int), v = .slice A xs.length c ∧ Rd W W.heap.size 1 A xs.length (ints xs) ∧ ∀ x ∈ xs, (Lit.int .i64 x).wf = true := by
  obtain ⟨a0, len, cap, rfl⟩ := okWide_slice ht hok
  obtain ⟨fuel, hf⟩ := h
  rcases open_ints ht he hc hf with ⟨hcs, _⟩ | ⟨a, len', cap', zs, hcs, _, hl, hm, hz, hx, hcell, hwz⟩
  · simp only [Value.cells, List.cons.injEq, and_true] at hcs
    injection hcs with h1 h2 h3
    subst h1 h2 h3
    exact ⟨none, 0, [], rfl, Rd.none_, fun x hx => by cases hx⟩
  · simp only [Value.cells, List.cons.injEq, and_true] at hcs
    injection hcs with h1 h2 h3
    subst h1 h2 h3
    have hz' : zs.length = cap := hz
    have hlen : (zs.take len).length = len := by simp; omega
    refine ⟨some a, cap, zs.take len, by rw [hlen], ⟨by simp, fun hn => ?_⟩, fun x hx => hwz x (List.mem_of_mem_take hx)⟩
    rw [hlen] at hn
    have hc0 := hcell 0 (by omega)
    have hb : a.block < W.heap.size := by simpa [Addr.add] using cell_lt hc0
    have hsp : a.spot = none := by
      cases hs : a.spot with
      | none => rfl
      | some s =>
        exfalso
        simp only [Addr.add, if_pos, World.cell?, hs] at hc0
        revert hc0
        split <;> simp
    refine ⟨a, rfl, hb, hsp, fun j hj => ?_⟩
    have hj' : j < len := by rw [hlen] at hj; omega
    have := hcell j (by omega)
    have hadd : a.add j = ⟨a.block, a.off + j, none⟩ := by
      unfold Addr.add
      split
      · rename_i h0; subst h0; cases a; simp_all
      · rfl
    rw [hadd] at this
    rw [this]
    simp [ints, hj', List.getD, show j < zs.length from by omega]
end

end Go.Proofs.YtbllehjhmfehbaaGreat
end

section
/- What a law with graphs and texts as arguments asks ahead of its walk: that they read as lists. -/
namespace Go.Proofs.YtbllehjhmfehbaaGreat
open Go.ChangeShapes Go.WideShapes Go.ChangeAt Go.RowKit Go.Deep

section
variable {H : Type} {enc : TypeId × Value → H} {P : Program}
/-- All that a datum weighs is within reach. -/
def Light (P : Program) (t : TypeId) (d : DataW H) : Prop := ∀ n ∈ d.weights P t, n ≤ reachBytes
theorem light_arg {ts : List TypeId} {ds : List (DataW H)} (h : (DataW.weightsEach P ts ds).all (· ≤ reachBytes) = true) {j : Nat} {t : TypeId} {d : DataW H} (ht : ts[j]? = some t) (hd : ds[j]? = some d) : Light P t d := fun n hn => by
  have := List.all_eq_true.1 h n (DataW.weights_mem_each ht hd n hn)
  simpa using this
theorem weightsAll_mem {e : TypeId} : ∀ {l : List (DataW H)} {d : DataW H}, d ∈ l → ∀ n ∈ d.weights P e, n ∈ DataW.weightsAll P e l
  | d0 :: l, d, h, n, hn => by
    rw [DataW.weightsAll]
    rcases List.mem_cons.1 h with e | e
    · exact List.mem_append_left _ (e ▸ hn)
    · exact List.mem_append_right _ (weightsAll_mem e n hn)
theorem light_elem {t e : TypeId} {elems spare : List (DataW H)} (ht : P.underlying t = some (.slice e)) (h : Light P t (.slice elems spare)) {d : DataW H} (hd : d ∈ elems) : Light P e d := fun n hn => h n (by
  rw [DataW.weights, ht]
  exact List.mem_cons_of_mem _ (List.mem_append_left _ (weightsAll_mem hd n hn)))
theorem light_part {t : TypeId} {fs : Array Field} {parts : List (DataW H)} (ht : P.underlying t = some (.struct fs)) (h : Light P t (.agg parts)) {j : Nat} {f : Field} {d : DataW H} (hf : fs[j]? = some f) (hd : parts[j]? = some d) : Light P f.type d := fun n hn => h n (by
  rw [DataW.weights, ht]
  refine DataW.weights_mem_each (j := j) ?_ hd n hn
  simp [hf])

theorem list_of {α : Type} (f : Nat → Option α) : ∀ n, (∀ i, i < n → ∃ x, f i = some x) → ∃ xs : List α, xs.length = n ∧ ∀ i (hi : i < xs.length), f i = some xs[i]
  | 0, _ => ⟨[], rfl, fun i hi => by simp at hi⟩
  | q + 1, h => by
    obtain ⟨xs, h1, h2⟩ := list_of f q (fun i hil => h i (by omega))
    obtain ⟨x, hx⟩ := h q (by omega)
    refine ⟨xs ++ [x], by simp [h1], fun i hi => ?_⟩
    by_cases e : i < xs.length
    · rw [List.getElem_append_left e]; exact h2 i e
    · have : i = xs.length := by simp at hi; omega
      subst this
      have hx' : f xs.length = some x := by rw [h1]; exact hx
      rw [hx']
      simp
/-- A slice whose elements are rows of k cells that say an α. -/
theorem open_rd_rows {α : Type} (en : α → List Value) (k : Nat) (ok : α → Prop) {W : World} {t e : TypeId} {fuel : Nat} {v : Value} {y : DataW H × List MemPlace} (ht : P.underlying t = some (.slice e)) (hC : P.cellsOf e = k) (hk : 0 < k) (hlen : ∀ x, (en x).length = k)
    (hdec : ∀ n cs y, DataW.trod enc P W 0 (fun _ => true) true n e cs = some y → Light P e y.1 → ∃ x : α, en x = cs ∧ ok x)
    (h : DataW.trod enc P W 0 (fun _ => true) true fuel t [v] = some y) (hs : Light P t y.1) :
    ∃ (A : Option Addr) (c : Nat) (xs : List α), v = .slice A xs.length c ∧ xs.length ≤ c ∧ Rd W W.heap.size k A xs.length (xs.flatMap en) ∧ ∀ x ∈ xs, ok x := by
  rcases open_slice ht h with ⟨hcs, _⟩ | ⟨a, len, cap, m, n, D, Pl, hcs, _, hl, hm, hmm, hx, hi⟩
  · simp only [List.cons.injEq, and_true] at hcs
    subst hcs
    exact ⟨none, 0, [], rfl, Nat.le_refl _, by simpa using Rd.none_, fun x hx => by cases hx⟩
  · simp only [List.cons.injEq, and_true] at hcs
    subst hcs
    simp only [if_true] at hmm
    subst hmm
    rw [hC] at hi
    have hall : ∀ i, i < len → ∃ x : α, ok x ∧ ∀ j, j < k → W.cell? ((a.add (i * k)).add j) = (en x)[j]? := by
      intro i hil
      obtain ⟨cs', hc, htr⟩ := hi i (by omega)
      obtain ⟨_, hcl, hat⟩ := World.cells?_some hc
      have hlt : Light P e (D i) := light_elem ht (by rw [hx] at hs; exact hs) (List.mem_map.2 ⟨i, List.mem_range.2 hil, rfl⟩)
      obtain ⟨x, hx1, hx2⟩ := hdec _ _ _ htr hlt
      exact ⟨x, hx2, fun j hj => by rw [hx1]; exact hat j hj⟩
    obtain ⟨f, hf⟩ : ∃ f : Nat → Option α, ∀ i, i < len → ∃ x, f i = some x ∧ ok x ∧ ∀ j, j < k → W.cell? ((a.add (i * k)).add j) = (en x)[j]? := by
      classical
      exact ⟨fun i => if h : i < len then some (Classical.choose (hall i h)) else none, fun i hil => ⟨_, by simp only [hil, dif_pos], (Classical.choose_spec (hall i hil)).1, (Classical.choose_spec (hall i hil)).2⟩⟩
    have hxs := list_of f len (fun i hil => by obtain ⟨x, h, _⟩ := hf i hil; exact ⟨x, h⟩)
    obtain ⟨xs, hxl, hxf⟩ := hxs
    have hat : ∀ i (hi : i < xs.length), ok xs[i] ∧ ∀ j, j < k → W.cell? ((a.add (i * k)).add j) = (en xs[i])[j]? := by
      intro i hi
      obtain ⟨x, h1, h2, h3⟩ := hf i (by omega)
      have : xs[i] = x := by have := hxf i hi; rw [h1] at this; exact (Option.some.inj this).symm
      rw [this]; exact ⟨h2, h3⟩
    refine ⟨some a, m, xs, by rw [hxl], by omega, ⟨flat_len en k hlen xs, fun hn => ?_⟩, fun x hx => ?_⟩
    · have h0 := (hat 0 hn).2 0 hk
      have hne : (en xs[0])[0]? = some ((en xs[0])[0]'(by rw [hlen]; exact hk)) := List.getElem?_eq_getElem _
      rw [hne] at h0
      have hb : a.block < W.heap.size := by
        have := cell_lt h0
        simpa [Addr.add] using this
      have hsp : a.spot = none := by
        cases hs : a.spot with
        | none => rfl
        | some s =>
          exfalso
          simp only [Addr.add, Nat.zero_mul, if_pos, World.cell?, hs] at h0
          revert h0
          split <;> simp
      have hadd : ∀ q r : Nat, (a.add q).add r = ⟨a.block, a.off + (q + r), none⟩ := by
        intro q r
        unfold Addr.add
        by_cases h1 : q = 0
        · subst h1
          by_cases h2 : r = 0
          · subst h2; cases a; simp_all
          · simp [h2]
        · by_cases h2 : r = 0
          · subst h2; simp [h1]
          · simp [h1, h2, Nat.add_assoc]
      refine ⟨a, rfl, hb, hsp, fun j hj => ?_⟩
      have hq : j / k < xs.length := by rw [Nat.div_lt_iff_lt_mul hk]; exact hj
      have hm : j % k < k := Nat.mod_lt _ hk
      have h1 := (hat (j / k) hq).2 (j % k) hm
      have hdm : j / k * k + j % k = j := by rw [Nat.mul_comm]; exact Nat.div_add_mod j k
      rw [hadd, hdm] at h1
      rw [h1, ← flat_at en k hlen xs (j / k) (j % k) hq hm, hdm]
    · obtain ⟨i, hi, e⟩ := List.mem_iff_getElem.1 hx
      rw [← e]; exact (hat i hi).1
end

/-- Of a length that any machine has. -/
def okS47 (s : Str) : Prop := s.length ≤ 140737488351232
section
variable {H : Type} {enc : TypeId × Value → H} {W : World}
theorem open_str {n : Nat} {cs : List Value} {y : DataW H × List MemPlace} (h : DataW.trod enc Tryz.prog W 0 (fun _ => true) true n 9 cs = some y) (hs : Light Tryz.prog 9 y.1) : ∃ s : Str, cs = [sv s] ∧ okS47 s := by
  obtain ⟨s, h1, h2, _⟩ := DataW.trod_string Tryz.underlying9 h
  refine ⟨s.data.toList, by rw [h1], ?_⟩
  have h3 := hs s.data.toList.length (by rw [h2, DataW.weights]; simp)
  exact h3
theorem svs_flat (xs : List Str) : svs xs = xs.flatMap (fun s => [sv s]) := by
  induction xs with
  | nil => rfl
  | cons x xs ih => simp only [svs, List.map_cons, List.flatMap_cons, List.singleton_append] at ih ⊢; rw [ih]
theorem open_rd_strs {fuel : Nat} {v : Value} {y : DataW H × List MemPlace} (h : DataW.trod enc Tryz.prog W 0 (fun _ => true) true fuel 26 [v] = some y) (hs : Light Tryz.prog 26 y.1) :
    ∃ (A : Option Addr) (c : Nat) (ss : List Str), v = .slice A ss.length c ∧ ss.length ≤ c ∧ Rd W W.heap.size 1 A ss.length (svs ss) ∧ ∀ s ∈ ss, okS47 s := by
  obtain ⟨A, c, xs, h1, h2, h3, h4⟩ := open_rd_rows (fun s : Str => [sv s]) 1 okS47 Tryz.underlying26 (by kernel_rfl) (by omega) (fun _ => rfl) (fun n cs y hy hl => by
    obtain ⟨s, h1, h2⟩ := open_str hy hl
    exact ⟨s, h1.symm, h2⟩) h hs
  exact ⟨A, c, xs, h1, h2, by rw [svs_flat]; exact h3, h4⟩
theorem take1 {cs : List Value} {j : Nat} (h : j < cs.length) : (cs.drop j).take 1 = [cs[j]] := by
  rw [List.drop_eq_getElem_cons h]; rfl
theorem cs3 {cs : List Value} (h : cs.length = 3) : cs = [cs[0], cs[1], cs[2]] := by
  match cs, h with
  | [a, b, c], _ => rfl
set_option maxRecDepth 100000 in
/-- The three fields of a row. -/
theorem fields3 {t : TypeId} {f0 f1 f2 : Field} {n : Nat} {cs : List Value} {y : DataW H × List MemPlace} (hu : Tryz.prog.underlying t = some (.struct #[f0, f1, f2])) (hone : oneCellFields Tryz.prog #[f0, f1, f2] = true) (hC : Tryz.prog.cellsOf t = 3) (h : DataW.trod enc Tryz.prog W 0 (fun _ => true) true n t cs = some y) (hs : Light Tryz.prog t y.1) :
    ∃ (c0 c1 c2 : Value) (y0 y1 y2 : DataW H × List MemPlace) (m : Nat), cs = [c0, c1, c2] ∧ DataW.trod enc Tryz.prog W 0 (fun _ => true) true m f0.type [c0] = some y0 ∧ DataW.trod enc Tryz.prog W 0 (fun _ => true) true m f1.type [c1] = some y1 ∧ DataW.trod enc Tryz.prog W 0 (fun _ => true) true m f2.type [c2] = some y2 ∧
      Light Tryz.prog f0.type y0.1 ∧ Light Tryz.prog f1.type y1.1 ∧ Light Tryz.prog f2.type y2.1 := by
  obtain ⟨xs, m, _, rfl, hl, hxl, hf⟩ := DataW.trod_struct hu h
  have hl3 : cs.length = 3 := hl.trans hC
  have hx3 : xs.length = 3 := hxl
  obtain ⟨o0, k0⟩ := hone_of hone 0 f0 rfl
  obtain ⟨o1, k1⟩ := hone_of hone 1 f1 rfl
  obtain ⟨o2, k2⟩ := hone_of hone 2 f2 rfl
  match xs, hx3, cs, hl3 with
  | [x0, x1, x2], _, [c0, c1, c2], _ =>
    exact ⟨c0, c1, c2, x0, x1, x2, m, rfl, by simpa [o0, k0] using hf 0 f0 rfl, by simpa [o1, k1] using hf 1 f1 rfl, by simpa [o2, k2] using hf 2 f2 rfl,
      light_part (j := 0) (d := x0.1) hu hs rfl rfl, light_part (j := 1) (d := x1.1) hu hs rfl rfl, light_part (j := 2) (d := x2.1) hu hs rfl rfl⟩
set_option maxRecDepth 100000 in
theorem open_ed {n : Nat} {cs : List Value} {y : DataW H × List MemPlace} (h : DataW.trod enc Tryz.prog W 0 (fun _ => true) true n 45 cs = some y) (hs : Light Tryz.prog 45 y.1) : ∃ e : Ed, edC e = cs ∧ okS47 e.1 ∧ okS47 e.2.1 := by
  obtain ⟨c0, c1, c2, y0, y1, y2, m, rfl, h0, h1, h2, l0, l1, _⟩ := fields3 Tryz.underlying45 (by kernel_rfl) (by kernel_rfl) h hs
  obtain ⟨s, e0, k0⟩ := open_str h0 l0
  obtain ⟨d, e1, k1⟩ := open_str h1 l1
  obtain ⟨r, e2, _⟩ := DataW.trod_int Tryz.underlying3 h2
  simp only [List.cons.injEq, and_true] at e0 e1 e2
  subst e0 e1 e2
  exact ⟨(s, d, r), rfl, k0, k1⟩
set_option maxRecDepth 100000 in
theorem open_nd {n : Nat} {cs : List Value} {y : DataW H × List MemPlace} (h : DataW.trod enc Tryz.prog W 0 (fun _ => true) true n 39 cs = some y) (hs : Light Tryz.prog 39 y.1) : ∃ e : Nd, ndC e = cs ∧ okS47 e.1 := by
  obtain ⟨c0, c1, c2, y0, y1, y2, m, rfl, h0, h1, h2, l0, _, _⟩ := fields3 Tryz.underlying39 (by kernel_rfl) (by kernel_rfl) h hs
  obtain ⟨s, e0, k0⟩ := open_str h0 l0
  obtain ⟨d, e1, _⟩ := DataW.trod_int Tryz.underlying3 h1
  obtain ⟨r, e2, _⟩ := DataW.trod_int Tryz.underlying3 h2
  simp only [List.cons.injEq, and_true] at e0 e1 e2
  subst e0 e1 e2
  exact ⟨(s, d, r), rfl, k0⟩
/-- A graph that came in. -/
def GraphIn (W : World) (v : Value) (ns : List Nd) (es : List Ed) : Prop := ∃ An cn Ae ce, v = .agg #[.slice An ns.length cn, .slice Ae es.length ce] ∧ ns.length ≤ cn ∧ es.length ≤ ce ∧ Rd W W.heap.size 3 An ns.length (ndsC ns) ∧ Rd W W.heap.size 3 Ae es.length (edsC es)
set_option maxRecDepth 100000 in
theorem open_graph {r : Reach} {b0 : Nat} {v : Value} {d : DataW H} {p : List MemPlace} (hv : Value.okWide Tryz.prog W r b0 25 v) (h : DataW.Trod enc Tryz.prog W 0 (fun _ => true) true 25 v d p) (hs : Light Tryz.prog 25 d) :
    ∃ ns es, GraphIn W v ns es ∧ (∀ n ∈ ns, okS47 n.1) ∧ ∀ e ∈ es, okS47 e.1 ∧ okS47 e.2.1 := by
  have hu := Tryz.underlying25
  obtain ⟨v0, v1, y0, y1, n, rfl, rfl, rfl, h0, h1⟩ := Joins.open_agg2 hu (by kernel_rfl) (by kernel_rfl) hv h
  have l0 := light_part (j := 0) (d := y0.1) hu hs rfl rfl
  have l1 := light_part (j := 1) (d := y1.1) hu hs rfl rfl
  obtain ⟨An, cn, ns, rfl, hc0, hr0, k0⟩ := open_rd_rows ndC 3 (fun n => okS47 n.1) Tryz.underlying22 (by kernel_rfl) (by omega) ndC_len (fun n cs y hy hl => open_nd hy hl) h0 l0
  obtain ⟨Ae, ce, es, rfl, hc1, hr1, k1⟩ := open_rd_rows edC 3 (fun e => okS47 e.1 ∧ okS47 e.2.1) Tryz.underlying23 (by kernel_rfl) (by omega) edC_len (fun n cs y hy hl => open_ed hy hl) h1 l1
  exact ⟨ns, es, ⟨An, cn, Ae, ce, rfl, hc0, hc1, hr0, hr1⟩, k0, k1⟩
end
end Go.Proofs.YtbllehjhmfehbaaGreat
end

section
/- The length of a graph's nodes, an argument. -/
namespace Go.Proofs.YtbllehjhmfehbaaGreat
open Go.ChangeShapes Go.WideShapes Go.ChangeAt Go.RowKit Go.Deep

section
variable {H : Type} {enc : TypeId × Value → H} {P : Program}
theorem open_rd_len {W : World} {t e : TypeId} {fuel : Nat} {A : Option Addr} {len c : Nat} {y : DataW H × List MemPlace} (ht : P.underlying t = some (.slice e)) (hB : 0 < P.bytesOf e)
    (h : DataW.trod enc P W 0 (fun _ => true) true fuel t [.slice A len c] = some y) (hs : Light P t y.1) : len ≤ reachBytes := by
  rcases open_slice ht h with ⟨hcs, _⟩ | ⟨a, len', cap, m, n, D, Pl, hcs, _, hl, hm, hmm, hx, hi⟩
  · simp only [List.cons.injEq, and_true, Value.slice.injEq] at hcs
    omega
  · simp only [List.cons.injEq, and_true, Value.slice.injEq] at hcs
    obtain ⟨_, rfl, _⟩ := hcs
    have h1 := hs _ (by rw [hx, DataW.weights, ht]; exact List.mem_cons_self)
    simp only [List.length_map, List.length_range] at h1
    refine Nat.le_trans ?_ h1
    exact Nat.le_trans (Nat.le_add_right _ _) (Nat.le_mul_of_pos_right _ hB)
end
section
variable {H : Type} {enc : TypeId × Value → H} {W : World}
set_option maxRecDepth 100000 in
theorem graph_len {r : Reach} {b0 : Nat} {v : Value} {d : DataW H} {p : List MemPlace} {An Ae : Option Addr} {n cn m ce : Nat} (hv : Value.okWide Tryz.prog W r b0 25 v) (h : DataW.Trod enc Tryz.prog W 0 (fun _ => true) true 25 v d p) (hs : Light Tryz.prog 25 d)
    (he : v = .agg #[.slice An n cn, .slice Ae m ce]) : n ≤ reachBytes ∧ m ≤ reachBytes := by
  have hu := Tryz.underlying25
  obtain ⟨v0, v1, y0, y1, k, hvv, rfl, rfl, h0, h1⟩ := Joins.open_agg2 hu (by kernel_rfl) (by kernel_rfl) hv h
  have l0 := light_part (j := 0) (d := y0.1) hu hs rfl rfl
  have l1 := light_part (j := 1) (d := y1.1) hu hs rfl rfl
  rw [he] at hvv
  simp only [Value.agg.injEq, Array.mk.injEq, List.cons.injEq, and_true] at hvv
  obtain ⟨rfl, rfl⟩ := hvv
  exact ⟨open_rd_len Tryz.underlying22 (by decide +kernel) h0 l0, open_rd_len Tryz.underlying23 (by decide +kernel) h1 l1⟩
end
end Go.Proofs.YtbllehjhmfehbaaGreat
end

section
/- A law's arguments opened for its walk: a graph, who is up, texts, a text, pulls. -/
namespace Go.Proofs.YtbllehjhmfehbaaGreat
open Go.ChangeShapes Go.WideShapes Go.ChangeAt Go.RowKit Go.Deep

section
variable {H : Type} {enc : TypeId × Value → H} {W : World}
set_option maxRecDepth 100000 in
/-- The four fields of a row. -/
theorem fields4 {t : TypeId} {f0 f1 f2 f3 : Field} {n : Nat} {cs : List Value} {y : DataW H × List MemPlace} (hu : Tryz.prog.underlying t = some (.struct #[f0, f1, f2, f3])) (hone : oneCellFields Tryz.prog #[f0, f1, f2, f3] = true) (hC : Tryz.prog.cellsOf t = 4) (h : DataW.trod enc Tryz.prog W 0 (fun _ => true) true n t cs = some y) (hs : Light Tryz.prog t y.1) :
    ∃ (c0 c1 c2 c3 : Value) (y0 y1 y2 y3 : DataW H × List MemPlace) (m : Nat), cs = [c0, c1, c2, c3] ∧ DataW.trod enc Tryz.prog W 0 (fun _ => true) true m f0.type [c0] = some y0 ∧ DataW.trod enc Tryz.prog W 0 (fun _ => true) true m f1.type [c1] = some y1 ∧ DataW.trod enc Tryz.prog W 0 (fun _ => true) true m f2.type [c2] = some y2 ∧ DataW.trod enc Tryz.prog W 0 (fun _ => true) true m f3.type [c3] = some y3 ∧
      Light Tryz.prog f0.type y0.1 ∧ Light Tryz.prog f1.type y1.1 ∧ Light Tryz.prog f2.type y2.1 ∧ Light Tryz.prog f3.type y3.1 := by
  obtain ⟨xs, m, _, rfl, hl, hxl, hf⟩ := DataW.trod_struct hu h
  have hl4 : cs.length = 4 := hl.trans hC
  have hx4 : xs.length = 4 := hxl
  obtain ⟨o0, k0⟩ := hone_of hone 0 f0 rfl
  obtain ⟨o1, k1⟩ := hone_of hone 1 f1 rfl
  obtain ⟨o2, k2⟩ := hone_of hone 2 f2 rfl
  obtain ⟨o3, k3⟩ := hone_of hone 3 f3 rfl
  match xs, hx4, cs, hl4 with
  | [x0, x1, x2, x3], _, [c0, c1, c2, c3], _ =>
    exact ⟨c0, c1, c2, c3, x0, x1, x2, x3, m, rfl, by simpa [o0, k0] using hf 0 f0 rfl, by simpa [o1, k1] using hf 1 f1 rfl, by simpa [o2, k2] using hf 2 f2 rfl, by simpa [o3, k3] using hf 3 f3 rfl,
      light_part (j := 0) (d := x0.1) hu hs rfl rfl, light_part (j := 1) (d := x1.1) hu hs rfl rfl, light_part (j := 2) (d := x2.1) hu hs rfl rfl, light_part (j := 3) (d := x3.1) hu hs rfl rfl⟩
set_option maxRecDepth 100000 in
theorem open_strs {r : Reach} {b0 : Nat} {v : Value} {d : DataW H} {p : List MemPlace} (hv : Value.okWide Tryz.prog W r b0 26 v) (h : DataW.Trod enc Tryz.prog W 0 (fun _ => true) true 26 v d p) (hs : Light Tryz.prog 26 d) :
    ∃ (A : Option Addr) (c : Nat) (ss : List Str), v = .slice A ss.length c ∧ ss.length ≤ c ∧ Rd W W.heap.size 1 A ss.length (svs ss) ∧ (∀ s ∈ ss, okS47 s) ∧ ss.length ≤ 140737488351232 := by
  obtain ⟨a, l, c, rfl⟩ := okWide_slice Tryz.underlying26 hv
  obtain ⟨fuel, hf⟩ := h
  have hlen := open_rd_len Tryz.underlying26 (by decide +kernel) hf hs
  obtain ⟨A, c', ss, hv', hc, hr, hk⟩ := open_rd_strs hf hs
  obtain ⟨rfl, rfl, rfl⟩ : a = A ∧ l = ss.length ∧ c = c' := by injection hv' with h1 h2 h3; exact ⟨h1, h2, h3⟩
  exact ⟨a, c, ss, rfl, hc, hr, hk, Nat.le_trans hlen (by decide)⟩
set_option maxRecDepth 100000 in
theorem open_str_arg {r : Reach} {b0 : Nat} {v : Value} {d : DataW H} {p : List MemPlace} (hv : Value.okWide Tryz.prog W r b0 9 v) (h : DataW.Trod enc Tryz.prog W 0 (fun _ => true) true 9 v d p) (hs : Light Tryz.prog 9 d) : ∃ s : Str, v = sv s ∧ okS47 s := by
  obtain ⟨s, rfl⟩ := okWide_string Tryz.underlying9 hv
  obtain ⟨fuel, hf⟩ := h
  obtain ⟨s', h1, h2⟩ := open_str (cs := [.string s]) hf hs
  simp only [List.cons.injEq, and_true] at h1
  exact ⟨s', h1, h2⟩
set_option maxRecDepth 100000 in
/-- A graph that came in. -/
theorem open_gi {r : Reach} {b0 : Nat} {v : Value} {d : DataW H} {p : List MemPlace} (hv : Value.okWide Tryz.prog W r b0 25 v) (h : DataW.Trod enc Tryz.prog W 0 (fun _ => true) true 25 v d p) (hs : Light Tryz.prog 25 d) :
    ∃ (An Ae : Option Addr) (cn ce : Nat) (ns : List Nd) (es : List Ed), v = Od.gV An ns.length cn Ae es.length ce ∧ Od.GIw W An Ae ns es := by
  obtain ⟨ns, es, ⟨An, cn, Ae, ce, rfl, hcn, hce, hrn, hre⟩, kn, ke⟩ := open_graph hv h hs
  exact ⟨An, Ae, cn, ce, ns, es, rfl, hrn, hre, fun n hn => by have := kn n hn; unfold okS47 at this; omega, fun e he => ⟨Od.okS_of (ke e he).1, Od.okS_of (ke e he).2⟩⟩
set_option maxRecDepth 100000 in
/-- Who is up, who is half, as they came in. -/
theorem open_now {r : Reach} {b0 : Nat} {v : Value} {d : DataW H} {p : List MemPlace} (hv : Value.okWide Tryz.prog W r b0 28 v) (h : DataW.Trod enc Tryz.prog W 0 (fun _ => true) true 28 v d p) (hs : Light Tryz.prog 28 d) :
    ∃ (Au Ah : Option Addr) (cu ch : Nat) (up half : List Str), v = .agg #[.slice Au up.length cu, .slice Ah half.length ch] ∧ Od.NIn W Au Ah up half ∧ (∀ s ∈ up, okS47 s) ∧ (∀ s ∈ half, okS47 s) := by
  have hu := Tryz.underlying28
  obtain ⟨v0, v1, y0, y1, n, rfl, rfl, rfl, h0, h1⟩ := Joins.open_agg2 hu (by kernel_rfl) (by kernel_rfl) hv h
  have l0 := light_part (j := 0) (d := y0.1) hu hs rfl rfl
  have l1 := light_part (j := 1) (d := y1.1) hu hs rfl rfl
  obtain ⟨Au, cu, up, rfl, hc0, hr0, k0⟩ := open_rd_strs h0 l0
  obtain ⟨Ah, ch, half, rfl, hc1, hr1, k1⟩ := open_rd_strs h1 l1
  have e0 := open_rd_len Tryz.underlying26 (by decide +kernel) h0 l0
  have e1 := open_rd_len Tryz.underlying26 (by decide +kernel) h1 l1
  exact ⟨Au, Ah, cu, ch, up, half, rfl, ⟨⟨hr0, Nat.le_trans e0 (by decide)⟩, ⟨hr1, Nat.le_trans e1 (by decide)⟩⟩, k0, k1⟩
theorem okJ_of {s : Str} {t : Int} (hs : okS47 s) (ht : (Lit.int .i64 t).wf = true) : Od.okJ (s, t) := ⟨Od.okS_of hs, ht⟩
end
end Go.Proofs.YtbllehjhmfehbaaGreat
end
