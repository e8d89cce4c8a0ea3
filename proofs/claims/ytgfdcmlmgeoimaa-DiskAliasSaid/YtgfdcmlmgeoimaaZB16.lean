/- My texts, joined for the claim: FrameD. -/
import Derived.Test.YtgfdcmlmgeoimaaZB15
import Derived.Test.YtgfdcmlmgeoimaaZB1
import Derived.Test.YtgfdcmlmgeoimaaZB6
import Derived.Deep.CondSized
import Derived.Deep.Slices
import Derived.Deep.Fields
import Derived.Lib.SmallJoins
import Derived.SizedLaws

section
/- What a law with files and texts as arguments asks ahead of its walk: that they read as lists. -/
namespace Go.Proofs.Ytgfdcmlmgeoimaa
open Go.ChangeShapes Go.WideShapes Go.ChangeAt Go.RowKit Go.Deep

section
variable {H : Type} {enc : TypeId × Value → H} {P : Program}
/-- All that a datum weighs is within reach. -/
def Light (P : Program) (t : TypeId) (d : DataW H) : Prop := ∀ n ∈ d.weights P t, n ≤ reachBytes
theorem light_arg {ts : List TypeId} {ds : List (DataW H)} (h : (DataW.weightsEach P ts ds).all (· ≤ reachBytes) = true) {j : Nat} {t : TypeId} {d : DataW H} (ht : ts[j]? = some t) (hd : ds[j]? = some d) : Light P t d := fun n hn => by
  have := List.all_eq_true.1 h n (DataW.weights_mem_each ht hd n hn)
  simpa using this
theorem weightsAll_mem {e : TypeId} : ∀ {l : List (DataW H)} {d : DataW H}, d ∈ l → ∀ n ∈ d.weights P e, n ∈ DataW.weightsAll P e l
  | d0 :: l, d, h, n, hn => by
    rw [DataW.weightsAll]
    rcases List.mem_cons.1 h with e | e
    · exact List.mem_append_left _ (e ▸ hn)
    · exact List.mem_append_right _ (weightsAll_mem e n hn)
theorem light_elem {t e : TypeId} {elems spare : List (DataW H)} (ht : P.underlying t = some (.slice e)) (h : Light P t (.slice elems spare)) {d : DataW H} (hd : d ∈ elems) : Light P e d := fun n hn => h n (by
  rw [DataW.weights, ht]
  exact List.mem_cons_of_mem _ (List.mem_append_left _ (weightsAll_mem hd n hn)))
theorem light_part {t : TypeId} {fs : Array Field} {parts : List (DataW H)} (ht : P.underlying t = some (.struct fs)) (h : Light P t (.agg parts)) {j : Nat} {f : Field} {d : DataW H} (hf : fs[j]? = some f) (hd : parts[j]? = some d) : Light P f.type d := fun n hn => h n (by
  rw [DataW.weights, ht]
  refine DataW.weights_mem_each (j := j) ?_ hd n hn
  simp [hf])

theorem list_of {α : Type} (f : Nat → Option α) : ∀ n, (∀ i, i < n → ∃ x, f i = some x) → ∃ xs : List α, xs.length = n ∧ ∀ i (hi : i < xs.length), f i = some xs[i]
  | 0, _ => ⟨[], rfl, fun i hi => by simp at hi⟩
  | q + 1, h => by
    obtain ⟨xs, h1, h2⟩ := list_of f q (fun i hil => h i (by omega))
    obtain ⟨x, hx⟩ := h q (by omega)
    refine ⟨xs ++ [x], by simp [h1], fun i hi => ?_⟩
    by_cases e : i < xs.length
    · rw [List.getElem_append_left e]; exact h2 i e
    · have : i = xs.length := by simp at hi; omega
      subst this
      have hx' : f xs.length = some x := by rw [h1]; exact hx
      rw [hx']
      simp
/-- A slice whose elements are rows of k cells that say an α. -/
theorem open_rd_rows {α : Type} (en : α → List Value) (k : Nat) (ok : α → Prop) {W : World} {t e : TypeId} {fuel : Nat} {v : Value} {y : DataW H × List MemPlace} (ht : P.underlying t = some (.slice e)) (hC : P.cellsOf e = k) (hk : 0 < k) (hlen : ∀ x, (en x).length = k)
    (hdec : ∀ n cs y, DataW.trod enc P W 0 (fun _ => true) true n e cs = some y → Light P e y.1 → ∃ x : α, en x = cs ∧ ok x)
    (h : DataW.trod enc P W 0 (fun _ => true) true fuel t [v] = some y) (hs : Light P t y.1) :
    ∃ (A : Option Addr) (c : Nat) (xs : List α), v = .slice A xs.length c ∧ xs.length ≤ c ∧ Rd W W.heap.size k A xs.length (xs.flatMap en) ∧ ∀ x ∈ xs, ok x := by
  rcases open_slice ht h with ⟨hcs, _⟩ | ⟨a, len, cap, m, n, D, Pl, hcs, _, hl, hm, hmm, hx, hi⟩
  · simp only [List.cons.injEq, and_true] at hcs
    subst hcs
    exact ⟨none, 0, [], rfl, Nat.le_refl _, by simpa using Rd.none_, fun x hx => by cases hx⟩
  · simp only [List.cons.injEq, and_true] at hcs
    subst hcs
    simp only [if_true] at hmm
    subst hmm
    rw [hC] at hi
    have hall : ∀ i, i < len → ∃ x : α, ok x ∧ ∀ j, j < k → W.cell? ((a.add (i * k)).add j) = (en x)[j]? := by
      intro i hil
      obtain ⟨cs', hc, htr⟩ := hi i (by omega)
      obtain ⟨_, hcl, hat⟩ := World.cells?_some hc
      have hlt : Light P e (D i) := light_elem ht (by rw [hx] at hs; exact hs) (List.mem_map.2 ⟨i, List.mem_range.2 hil, rfl⟩)
      obtain ⟨x, hx1, hx2⟩ := hdec _ _ _ htr hlt
      exact ⟨x, hx2, fun j hj => by rw [hx1]; exact hat j hj⟩
    obtain ⟨f, hf⟩ : ∃ f : Nat → Option α, ∀ i, i < len → ∃ x, f i = some x ∧ ok x ∧ ∀ j, j < k → W.cell? ((a.add (i * k)).add j) = (en x)[j]? := by
      classical
      exact ⟨fun i => if h : i < len then some (Classical.choose (hall i h)) else none, fun i hil => ⟨_, by simp only [hil, dif_pos], (Classical.choose_spec (hall i hil)).1, (Classical.choose_spec (hall i hil)).2⟩⟩
    have hxs := list_of f len (fun i hil => by obtain ⟨x, h, _⟩ := hf i hil; exact ⟨x, h⟩)
    obtain ⟨xs, hxl, hxf⟩ := hxs
    have hat : ∀ i (hi : i < xs.length), ok xs[i] ∧ ∀ j, j < k → W.cell? ((a.add (i * k)).add j) = (en xs[i])[j]? := by
      intro i hi
      obtain ⟨x, h1, h2, h3⟩ := hf i (by omega)
      have : xs[i] = x := by have := hxf i hi; rw [h1] at this; exact (Option.some.inj this).symm
      rw [this]; exact ⟨h2, h3⟩
    refine ⟨some a, m, xs, by rw [hxl], by omega, ⟨flat_len en k hlen xs, fun hn => ?_⟩, fun x hx => ?_⟩
    · have h0 := (hat 0 hn).2 0 hk
      have hne : (en xs[0])[0]? = some ((en xs[0])[0]'(by rw [hlen]; exact hk)) := List.getElem?_eq_getElem _
      rw [hne] at h0
      have hb : a.block < W.heap.size := by
        have := cell_lt h0
        simpa [Addr.add] using this
      have hsp : a.spot = none := by
        cases hs : a.spot with
        | none => rfl
        | some s =>
          exfalso
          simp only [Addr.add, Nat.zero_mul, if_pos, World.cell?, hs] at h0
          revert h0
          split <;> simp
      have hadd : ∀ q r : Nat, (a.add q).add r = ⟨a.block, a.off + (q + r), none⟩ := by
        intro q r
        unfold Addr.add
        by_cases h1 : q = 0
        · subst h1
          by_cases h2 : r = 0
          · subst h2; cases a; simp_all
          · simp [h2]
        · by_cases h2 : r = 0
          · subst h2; simp [h1]
          · simp [h1, h2, Nat.add_assoc]
      refine ⟨a, rfl, hb, hsp, fun j hj => ?_⟩
      have hq : j / k < xs.length := by rw [Nat.div_lt_iff_lt_mul hk]; exact hj
      have hm : j % k < k := Nat.mod_lt _ hk
      have h1 := (hat (j / k) hq).2 (j % k) hm
      have hdm : j / k * k + j % k = j := by rw [Nat.mul_comm]; exact Nat.div_add_mod j k
      rw [hadd, hdm] at h1
      rw [h1, ← flat_at en k hlen xs (j / k) (j % k) hq hm, hdm]
    · obtain ⟨i, hi, e⟩ := List.mem_iff_getElem.1 hx
      rw [← e]; exact (hat i hi).1
/-- A slice whose elements are rows of k cells that say an α. -/
theorem open_rd_rowsG {α : Type} (en : α → List Value) (k : Nat) (ok : α → Prop) (good : DataW H → Prop) {W : World} {t e : TypeId} {fuel : Nat} {v : Value} {y : DataW H × List MemPlace} (ht : P.underlying t = some (.slice e)) (hC : P.cellsOf e = k) (hk : 0 < k) (hlen : ∀ x, (en x).length = k)
    (hdec : ∀ n cs y, DataW.trod enc P W 0 (fun _ => true) true n e cs = some y → good y.1 → ∃ x : α, en x = cs ∧ ok x)
    (h : DataW.trod enc P W 0 (fun _ => true) true fuel t [v] = some y) (hs : ∀ l m, y.1 = .slice l m → ∀ d ∈ l, good d) :
    ∃ (A : Option Addr) (c : Nat) (xs : List α), v = .slice A xs.length c ∧ xs.length ≤ c ∧ Rd W W.heap.size k A xs.length (xs.flatMap en) ∧ ∀ x ∈ xs, ok x := by
  rcases open_slice ht h with ⟨hcs, _⟩ | ⟨a, len, cap, m, n, D, Pl, hcs, _, hl, hm, hmm, hx, hi⟩
  · simp only [List.cons.injEq, and_true] at hcs
    subst hcs
    exact ⟨none, 0, [], rfl, Nat.le_refl _, by simpa using Rd.none_, fun x hx => by cases hx⟩
  · simp only [List.cons.injEq, and_true] at hcs
    subst hcs
    simp only [if_true] at hmm
    subst hmm
    rw [hC] at hi
    have hall : ∀ i, i < len → ∃ x : α, ok x ∧ ∀ j, j < k → W.cell? ((a.add (i * k)).add j) = (en x)[j]? := by
      intro i hil
      obtain ⟨cs', hc, htr⟩ := hi i (by omega)
      obtain ⟨_, hcl, hat⟩ := World.cells?_some hc
      have hlt : good (D i) := hs _ _ (by rw [hx]) _ (List.mem_map.2 ⟨i, List.mem_range.2 hil, rfl⟩)
      obtain ⟨x, hx1, hx2⟩ := hdec _ _ _ htr hlt
      exact ⟨x, hx2, fun j hj => by rw [hx1]; exact hat j hj⟩
    obtain ⟨f, hf⟩ : ∃ f : Nat → Option α, ∀ i, i < len → ∃ x, f i = some x ∧ ok x ∧ ∀ j, j < k → W.cell? ((a.add (i * k)).add j) = (en x)[j]? := by
      classical
      exact ⟨fun i => if h : i < len then some (Classical.choose (hall i h)) else none, fun i hil => ⟨_, by simp only [hil, dif_pos], (Classical.choose_spec (hall i hil)).1, (Classical.choose_spec (hall i hil)).2⟩⟩
    have hxs := list_of f len (fun i hil => by obtain ⟨x, h, _⟩ := hf i hil; exact ⟨x, h⟩)
    obtain ⟨xs, hxl, hxf⟩ := hxs
    have hat : ∀ i (hi : i < xs.length), ok xs[i] ∧ ∀ j, j < k → W.cell? ((a.add (i * k)).add j) = (en xs[i])[j]? := by
      intro i hi
      obtain ⟨x, h1, h2, h3⟩ := hf i (by omega)
      have : xs[i] = x := by have := hxf i hi; rw [h1] at this; exact (Option.some.inj this).symm
      rw [this]; exact ⟨h2, h3⟩
    refine ⟨some a, m, xs, by rw [hxl], by omega, ⟨flat_len en k hlen xs, fun hn => ?_⟩, fun x hx => ?_⟩
    · have h0 := (hat 0 hn).2 0 hk
      have hne : (en xs[0])[0]? = some ((en xs[0])[0]'(by rw [hlen]; exact hk)) := List.getElem?_eq_getElem _
      rw [hne] at h0
      have hb : a.block < W.heap.size := by
        have := cell_lt h0
        simpa [Addr.add] using this
      have hsp : a.spot = none := by
        cases hs : a.spot with
        | none => rfl
        | some s =>
          exfalso
          simp only [Addr.add, Nat.zero_mul, if_pos, World.cell?, hs] at h0
          revert h0
          split <;> simp
      have hadd : ∀ q r : Nat, (a.add q).add r = ⟨a.block, a.off + (q + r), none⟩ := by
        intro q r
        unfold Addr.add
        by_cases h1 : q = 0
        · subst h1
          by_cases h2 : r = 0
          · subst h2; cases a; simp_all
          · simp [h2]
        · by_cases h2 : r = 0
          · subst h2; simp [h1]
          · simp [h1, h2, Nat.add_assoc]
      refine ⟨a, rfl, hb, hsp, fun j hj => ?_⟩
      have hq : j / k < xs.length := by rw [Nat.div_lt_iff_lt_mul hk]; exact hj
      have hm : j % k < k := Nat.mod_lt _ hk
      have h1 := (hat (j / k) hq).2 (j % k) hm
      have hdm : j / k * k + j % k = j := by rw [Nat.mul_comm]; exact Nat.div_add_mod j k
      rw [hadd, hdm] at h1
      rw [h1, ← flat_at en k hlen xs (j / k) (j % k) hq hm, hdm]
    · obtain ⟨i, hi, e⟩ := List.mem_iff_getElem.1 hx
      rw [← e]; exact (hat i hi).1
end

section
variable {H : Type} {enc : TypeId × Value → H} {P : Program}
theorem open_rd_len48 {W : World} {t e : TypeId} {fuel : Nat} {A : Option Addr} {len c : Nat} {y : DataW H × List MemPlace} (ht : P.underlying t = some (.slice e)) (hB : P.bytesOf e = 48)
    (h : DataW.trod enc P W 0 (fun _ => true) true fuel t [.slice A len c] = some y) (hs : Light P t y.1) : len * 48 ≤ 140737488351232 := by
  rcases open_slice ht h with ⟨hcs, _⟩ | ⟨a, len', cap, m, n, D, Pl, hcs, _, hl, hm, hmm, hx, hi⟩
  · simp only [List.cons.injEq, and_true, Value.slice.injEq] at hcs
    omega
  · simp only [List.cons.injEq, and_true, Value.slice.injEq] at hcs
    obtain ⟨_, rfl, _⟩ := hcs
    have h1 := hs _ (by rw [hx, DataW.weights, ht]; exact List.mem_cons_self)
    simp only [List.length_map, List.length_range] at h1
    rw [hB] at h1
    refine Nat.le_trans ?_ h1
    exact Nat.mul_le_mul_right _ (Nat.le_add_right _ _)
theorem bulk_one (d : DataW H) : 1 ≤ Rows.uptoBulk d := by
  cases d with
  | lit l => cases l <;> simp [Rows.uptoBulk]
  | nil => simp [Rows.uptoBulk]
  | ptr d => simp [Rows.uptoBulk]
  | slice elems spare => simp [Rows.uptoBulk]
  | agg parts => simp [Rows.uptoBulk]
  | iface t d => simp [Rows.uptoBulk]
  | map entries => simp [Rows.uptoBulk]
  | held h => simp [Rows.uptoBulk]
theorem bulk_len (l : List (DataW H)) : l.length ≤ Rows.uptoBulkAll l := by
  induction l with
  | nil => simp [Rows.uptoBulkAll]
  | cons x r ih => have := bulk_one x; simp only [Rows.uptoBulkAll, List.length_cons]; omega
theorem bulk_part {d : DataW H} {l : List (DataW H)} (h : d ∈ l) : Rows.uptoBulk d ≤ Rows.uptoBulkAll l := by
  induction l with
  | nil => cases h
  | cons x r ih =>
    simp only [Rows.uptoBulkAll]
    rcases List.mem_cons.1 h with e | e
    · subst e; omega
    · have := ih e; omega
theorem bulk_small {d : DataW H} {l : List (DataW H)} (hk : Rows.uptoSmall H l = true) (h : d ∈ l) : Rows.uptoBulk d ≤ 1048576 := by
  have h1 := of_decide_eq_true hk
  exact Nat.le_trans (bulk_part h) h1
end
/-- Of a length that any machine has. -/
def okS47 (s : Str) : Prop := s.length ≤ 140737488351232
section
variable {H : Type} {enc : TypeId × Value → H} {W : World}
theorem open_str {n : Nat} {cs : List Value} {y : DataW H × List MemPlace} (h : DataW.trod enc Try.prog W 0 (fun _ => true) true n 9 cs = some y) (hs : Light Try.prog 9 y.1) : ∃ s : Str, cs = [sv s] ∧ okS47 s := by
  obtain ⟨s, h1, h2, _⟩ := DataW.trod_string Try.underlying9 h
  refine ⟨s.data.toList, by rw [h1], ?_⟩
  have h3 := hs s.data.toList.length (by rw [h2, DataW.weights]; simp)
  exact h3
theorem svs_flat (xs : List Str) : svs xs = xs.flatMap (fun s => [sv s]) := by
  induction xs with
  | nil => rfl
  | cons x xs ih => simp only [svs, List.map_cons, List.flatMap_cons, List.singleton_append] at ih ⊢; rw [ih]
theorem open_rd_strs {fuel : Nat} {v : Value} {y : DataW H × List MemPlace} (h : DataW.trod enc Try.prog W 0 (fun _ => true) true fuel 24 [v] = some y) (hs : Light Try.prog 24 y.1) :
    ∃ (A : Option Addr) (c : Nat) (ss : List Str), v = .slice A ss.length c ∧ ss.length ≤ c ∧ Rd W W.heap.size 1 A ss.length (svs ss) ∧ ∀ s ∈ ss, okS47 s := by
  obtain ⟨A, c, xs, h1, h2, h3, h4⟩ := open_rd_rows (fun s : Str => [sv s]) 1 okS47 Try.underlying24 (by kernel_rfl) (by omega) (fun _ => rfl) (fun n cs y hy hl => by
    obtain ⟨s, h1, h2⟩ := open_str hy hl
    exact ⟨s, h1.symm, h2⟩) h hs
  exact ⟨A, c, xs, h1, h2, by rw [svs_flat]; exact h3, h4⟩
theorem take1 {cs : List Value} {j : Nat} (h : j < cs.length) : (cs.drop j).take 1 = [cs[j]] := by
  rw [List.drop_eq_getElem_cons h]; rfl
theorem cs3 {cs : List Value} (h : cs.length = 3) : cs = [cs[0], cs[1], cs[2]] := by
  match cs, h with
  | [a, b, c], _ => rfl
set_option maxRecDepth 100000 in
/-- The three fields of a row. -/
theorem fields3 {t : TypeId} {f0 f1 f2 : Field} {n : Nat} {cs : List Value} {y : DataW H × List MemPlace} (hu : Try.prog.underlying t = some (.struct #[f0, f1, f2])) (hone : oneCellFields Try.prog #[f0, f1, f2] = true) (hC : Try.prog.cellsOf t = 3) (h : DataW.trod enc Try.prog W 0 (fun _ => true) true n t cs = some y) (hs : Light Try.prog t y.1) :
    ∃ (c0 c1 c2 : Value) (y0 y1 y2 : DataW H × List MemPlace) (m : Nat), cs = [c0, c1, c2] ∧ DataW.trod enc Try.prog W 0 (fun _ => true) true m f0.type [c0] = some y0 ∧ DataW.trod enc Try.prog W 0 (fun _ => true) true m f1.type [c1] = some y1 ∧ DataW.trod enc Try.prog W 0 (fun _ => true) true m f2.type [c2] = some y2 ∧
      Light Try.prog f0.type y0.1 ∧ Light Try.prog f1.type y1.1 ∧ Light Try.prog f2.type y2.1 := by
  obtain ⟨xs, m, _, rfl, hl, hxl, hf⟩ := DataW.trod_struct hu h
  have hl3 : cs.length = 3 := hl.trans hC
  have hx3 : xs.length = 3 := hxl
  obtain ⟨o0, k0⟩ := hone_of hone 0 f0 rfl
  obtain ⟨o1, k1⟩ := hone_of hone 1 f1 rfl
  obtain ⟨o2, k2⟩ := hone_of hone 2 f2 rfl
  match xs, hx3, cs, hl3 with
  | [x0, x1, x2], _, [c0, c1, c2], _ =>
    exact ⟨c0, c1, c2, x0, x1, x2, m, rfl, by simpa [o0, k0] using hf 0 f0 rfl, by simpa [o1, k1] using hf 1 f1 rfl, by simpa [o2, k2] using hf 2 f2 rfl,
      light_part (j := 0) (d := x0.1) hu hs rfl rfl, light_part (j := 1) (d := x1.1) hu hs rfl rfl, light_part (j := 2) (d := x2.1) hu hs rfl rfl⟩
set_option maxRecDepth 100000 in
theorem open_str_arg {r : Reach} {b0 : Nat} {v : Value} {d : DataW H} {p : List MemPlace} (hv : Value.okWide Try.prog W r b0 9 v) (h : DataW.Trod enc Try.prog W 0 (fun _ => true) true 9 v d p) (hs : Light Try.prog 9 d) : ∃ s : Str, v = sv s ∧ okS47 s := by
  obtain ⟨s, rfl⟩ := okWide_string Try.underlying9 hv
  obtain ⟨fuel, hf⟩ := h
  obtain ⟨s', h1, h2⟩ := open_str (cs := [.string s]) hf hs
  simp only [List.cons.injEq, and_true] at h1
  exact ⟨s', h1, h2⟩
theorem bulk_str {n : Nat} {s : Str} {y : DataW H × List MemPlace} (h : DataW.trod enc Try.prog W 0 (fun _ => true) true n 9 [sv s] = some y) : s.length ≤ Rows.uptoBulk y.1 := by
  obtain ⟨s', h1, h2, _⟩ := DataW.trod_string Try.underlying9 h
  simp only [List.cons.injEq, and_true] at h1
  have h3 : s = s'.data.toList := by
    have := h1
    injection this with this
    rw [← this]
  rw [h2, h3]
  simp [Rows.uptoBulk]
set_option maxRecDepth 100000 in
theorem open_fl {n : Nat} {cs : List Value} {y : DataW H × List MemPlace} (h : DataW.trod enc Try.prog W 0 (fun _ => true) true n 38 cs = some y) (hs : Light Try.prog 38 y.1) : ∃ e : Od.Fl, flC e = cs ∧ Od.okFl e := by
  obtain ⟨c0, c1, c2, y0, y1, y2, m, rfl, h0, h1, h2, l0, l1, l2⟩ := fields3 Try.underlying38 (by kernel_rfl) (by kernel_rfl) h hs
  obtain ⟨s, e0, k0⟩ := open_str h0 l0
  obtain ⟨d, e1, k1⟩ := open_str h1 l1
  obtain ⟨r, e2, k2⟩ := open_str h2 l2
  simp only [List.cons.injEq, and_true] at e0 e1 e2
  subst e0 e1 e2
  exact ⟨(s, d, r), rfl, k0, k1, k2⟩
set_option maxRecDepth 100000 in
/-- Files that came in. -/
theorem open_fls {r : Reach} {b0 : Nat} {v : Value} {d : DataW H} {p : List MemPlace} (hv : Value.okWide Try.prog W r b0 22 v) (h : DataW.Trod enc Try.prog W 0 (fun _ => true) true 22 v d p) (hs : Light Try.prog 22 d) :
    ∃ (A : Option Addr) (c : Nat) (fs : List Od.Fl), v = .slice A fs.length c ∧ fs.length ≤ c ∧ Od.FlIn W A fs ∧ fs.length * 48 ≤ 140737488351232 := by
  obtain ⟨a, l, c, rfl⟩ := okWide_slice Try.underlying22 hv
  obtain ⟨fuel, hf⟩ := h
  have hlen := open_rd_len48 Try.underlying22 (by decide +kernel) hf hs
  obtain ⟨A, c', fs, hv', hc, hr, hk⟩ := open_rd_rows flC 3 Od.okFl Try.underlying22 (by kernel_rfl) (by omega) flC_len (fun n cs y hy hl => open_fl hy hl) hf hs
  obtain ⟨rfl, rfl, rfl⟩ : a = A ∧ l = fs.length ∧ c = c' := by injection hv' with h1 h2 h3; exact ⟨h1, h2, h3⟩
  exact ⟨a, c, fs, rfl, hc, ⟨hr, hk⟩, hlen⟩
end
end Go.Proofs.Ytgfdcmlmgeoimaa
end
