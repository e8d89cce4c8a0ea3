/- My texts, joined for the claim: GIns OParted OStraight GSortM OFn GOff OSort GName Shelf2. -/
import Derived.Test.YtclaoffnfopekaaGreatZB3
import Derived.Test.YtclaoffnfopekaaGreatZB4
import Derived.Test.YtclaoffnfopekaaGreatZB1
import Derived.Test.YtclaoffnfopekaaGreatZB2
import Derived.Test.YtclaoffnfopekaaGreatZB0
import Derived.Lib.IndexLaws
import Derived.Lib.LastIndexByte
import Derived.Lib.IndexAny
import Derived.Shelf.Small.Bits
import Derived.Shelf.Small.Strs
import Derived.Shelf.Small.Wraps
import Derived.Shelf.Strconv.Itoa0
import Derived.Shelf.Strings.Search1
import Derived.Shelf.Strings.Search2
import Derived.Shelf.Strings.Cut
import Derived.Shelf.LaysM
import Derived.Shelf.Strings.Shaped
import Derived.Shelf.Sort.Plain
import Derived.Shelf.Strings.LastIndex
import Derived.Shelf.Slices.Turned
import Derived.Ground.Names2Prog
import Derived.Shelf.Slices.Clone
import Derived.Shelf.Slices.CompactS
import Derived.Shelf.Slices.SearchI
import Derived.Shelf.Slices.Delete
import Derived.Shelf.Slices.Cells
import Derived.Shelf.Slices.In.SortNone
import Derived.Shelf.Slices.Empties
import Derived.Ground.SlgnProg
import Derived.Shelf.SlicesE.Clone
import Derived.Test.YtclaoffnfopekaaGreatProg

section
/- Appends to slices whose capacity is full ('l[:k:k]', a literal), cuts of slices that read as lists: what 'append(l[:k:k], append([]T{x}, l[k:]...)...)' is made of. No program. -/
namespace Go.Proofs.YtclaoffnfopekaaGreat
open Go.RowKit

/-- 'l[k:]' as a place. -/
def dropA (A : Option Addr) (c k size : Nat) : Option Addr := if c = k then A else A.map (·.add (k * size))
/-- 'l[:k:k]' as a place. -/
def takeA (A : Option Addr) (k size : Nat) : Option Addr := if k = 0 then A else A.map (·.add (0 * size))
section
variable {P : Program}
theorem run_slice_tail {t e : TypeId} {i : TypeInfo} (ht : P.underlying t = some (.slice e)) (hi : P.info? e = some i) (A : Option Addr) (n c k : Nat) (hk : k ≤ n) (w : World) :
    (Instr.slice t (.slice A n c) (some (.int .i64 k)) none none).run P w = .ok (.slice (dropA A c k i.size) (n - k) (c - k)) w := by
  simp [Instr.slice, run_underlying ht, Instr.sliceBounds, Instr.sliceBound, asIntOf, sizeOf, typeInfo, hi, dropA]
  intro h; omega
theorem run_slice_full {t e : TypeId} {i : TypeInfo} (ht : P.underlying t = some (.slice e)) (hi : P.info? e = some i) (A : Option Addr) (n c k : Nat) (hk : k ≤ c) (w : World) :
    (Instr.slice t (.slice A n c) none (some (.int .i64 k)) (some (.int .i64 k))).run P w = .ok (.slice (takeA A k i.size) k k) w := by
  simp [Instr.slice, run_underlying ht, Instr.sliceBounds, Instr.sliceBound, asIntOf, sizeOf, typeInfo, hi, takeA]
  intro h; omega
theorem Addr.add_zero (a : Addr) : a.add 0 = a := by simp [Addr.add]
theorem Rd.dropA {w : World} {B k n m c : Nat} {A : Option Addr} {xs : List Value} (h : Rd w B k A n xs) (hm : m ≤ n) (hc : n ≤ c) : Rd w B k (dropA A c m k) (n - m) (xs.drop (m * k)) := h.drop hm hc
theorem Rd.takeA {w : World} {B k n m : Nat} {A : Option Addr} {xs : List Value} (h : Rd w B k A n xs) (hm : m ≤ n) : Rd w B k (takeA A m k) m (xs.take (m * k)) := by
  have h' := h.take hm
  unfold Go.Proofs.YtclaoffnfopekaaGreat.takeA
  split
  · exact h'
  · simp only [Nat.zero_mul]
    rw [show (fun x : Addr => x.add 0) = id from funext Addr.add_zero]
    simpa using h'

theorem run_append_full (w : World) (t ty e : TypeId) (i : TypeInfo) (z : Value) (size bytes : Nat) (ht : P.underlying t = some (.slice e)) (hi : P.info? e = some i) (hz : i.zero = some z)
    (hsize : i.size = size) (hby : i.bytes = bytes) (hzs : z.cells.size = size) (B : Nat) (A : Option Addr) (n : Nat) (xs : List Value) (hr : Rd w B size A n xs) (hB : B ≤ w.heap.size)
    (B2 : Nat) (A2 : Option Addr) (m c : Nat) (news : List Value) (hr2 : Rd w B2 size A2 m news) (h1 : ∀ u ∈ news, u.oneCell' = true) (h63 : n + m ≤ maxLen) (hbytes : (n + m) * bytes ≤ 140737488355328) :
    ∃ A' c' w', (Builtin.append_ #[t, t] ty #[.slice A n n, .slice A2 m c]).run P w = .ok (.slice A' (n + m) c') w' ∧ n + m ≤ c' ∧ Rd w' w'.heap.size size A' (n + m) (xs ++ news) ∧ Below w.heap.size w w' ∧ (0 < m → ∀ ad, A' = some ad → w.heap.size ≤ ad.block) := by
  subst hsize
  subst hby
  have hs : Src P i.size t (.slice A2 m c) m news w := src_rd ht hr2 h1 fun e => by
    rcases Nat.eq_zero_or_pos m with h0 | h0
    · exact h0
    · obtain ⟨ad, h, _⟩ := hr2.2 h0; rw [e] at h; cases h
  have hnl := hs.newsLen
  rcases Nat.eq_zero_or_pos m with h0 | h0
  · subst h0
    have hn : news = [] := List.eq_nil_of_length_eq_zero (by simpa using hnl)
    subst hn
    exact ⟨A, n, w, run_append_nothing (P := P) w t t ty e i ht hi A n n (Nat.le_refl _) _ hs, by omega, by simpa using hr.more hB, Below.refl _ _, fun h => absurd h (by omega)⟩
  · have hlen : (xs ++ news).length = (n + m) * i.size := by rw [List.length_append, hr.1, hnl, Nat.add_mul]
    have hold : (Builtin.firstCells i.size n (.slice A n n)).run P w.drew = .ok xs.toArray w.drew := by
      cases A with
      | none =>
        have hn : n = 0 := by
          rcases Nat.eq_zero_or_pos n with h | h
          · exact h
          · obtain ⟨ad, h, _⟩ := hr.2 h; cases h
        subst hn
        have hx : xs = [] := List.eq_nil_of_length_eq_zero (by simpa using hr.1)
        subst hx
        exact run_firstCells_none w.drew i.size 0 0 0
      | some ad =>
        refine run_firstCells_some w.drew i.size n ad n n xs hr.1 (fun j u hu => ?_)
        have hj : j < n * i.size := by
          have := (List.getElem?_eq_some_iff.1 hu).1
          rw [hr.1] at this
          exact this
        have hn0 : 0 < n := by
          rcases Nat.eq_zero_or_pos n with h | h
          · rw [h, Nat.zero_mul] at hj; omega
          · exact h
        obtain ⟨ad', he, _, hsp, hc⟩ := hr.2 hn0
        injection he with he
        subst he
        have hadd : ad.add j = ⟨ad.block, ad.off + j, none⟩ := by
          unfold Addr.add
          split
          · rename_i h0; subst h0; cases ad; simp_all
          · rfl
        rw [hadd]
        exact (hc j hj).trans hu
    have hm2 : n + m ≤ 9223372036854775807 := by simp only [maxLen] at h63; omega
    have hg : n < n + m := by omega
    have hrun := run_append_grow_src (P := P) w t t ty e i z ht hi hz A n n xs hold (.slice A2 m c) m news hs hg (by omega) (growslice_fits hg hbytes)
    have hge := grownCap_ge w (n + m) n e
    refine ⟨_, _, _, hrun, by omega, ⟨hlen, fun _ => ⟨_, rfl, by simp, rfl, fun j hj => ?_⟩⟩, ⟨rfl, rfl, rfl, by simp, fun k hk => Below.heap_alloc w.drew _ k hk⟩, fun _ ad e => by injection e with e; rw [← e]; exact Nat.le_refl _⟩
    show (w.drew.alloc _).cell? ⟨w.heap.size, 0 + j, none⟩ = _
    rw [Nat.zero_add]
    refine (World.cell?_alloc_new w.drew _ _ j).trans ?_
    rw [Array.getElem?_append_left (by simp only [List.size_toArray]; rw [hlen]; exact hj), List.getElem?_toArray]

/-- At a step of a region that draws its order. -/
theorem step_append_full {w : World} {ops : Array Oper} {o : Oper} {a : Act} {K : Act → World → Prop} {Q : Exit → Act → World → Prop} {E : Prop} (hw : Region.wanted o (yielded ops a.tmps) = true) (s x : Operand) (t : TypeId)
    (ho : o.op = .call { callee := .builtin .append, args := #[s, x], argTypes := #[t, t] })
    (e : TypeId) (i : TypeInfo) (z : Value) (size bytes : Nat) (ht : P.underlying t = some (.slice e)) (hi : P.info? e = some i) (hz : i.zero = some z)
    (hsize : i.size = size) (hby : i.bytes = bytes) (hzs : z.cells.size = size) (B : Nat) (A : Option Addr) (n : Nat) (xs : List Value) (hs : a.eval s = .slice A n n) (hr : Rd w B size A n xs) (hB : B ≤ w.heap.size)
    (B2 : Nat) (A2 : Option Addr) (m c : Nat) (news : List Value) (hx : a.eval x = .slice A2 m c) (hr2 : Rd w B2 size A2 m news) (h1 : ∀ u ∈ news, u.oneCell' = true) (h63 : n + m ≤ maxLen) (hbytes : (n + m) * bytes ≤ 140737488355328)
    (h : ∀ A' c' w', n + m ≤ c' → Rd w' w'.heap.size size A' (n + m) (xs ++ news) → Below w.heap.size w w' → K (a.put o.dst (.slice A' (n + m) c')) w') :
    if Region.wanted o (yielded ops a.tmps) = true then Oper.wp P o a w K Q else E := by
  rw [if_pos hw]
  obtain ⟨A', c', w', hrun, hc, h2, h3, h4⟩ := run_append_full (P := P) w t o.type e i z size bytes ht hi hz hsize hby hzs B A n xs hr hB B2 A2 m c news hr2 h1 h63 hbytes
  unfold Oper.wp execOp
  simp only [ho, resolve, invoke, builtin, Sem.run_bind, Sem.run_pure, Result.andThen_ok, List.map_toArray, List.map_cons, List.map_nil, hs, hx, hrun]
  exact h A' c' w' hc h2 h3
/-- The same, and where it lies. -/
theorem step_append_fresh {w : World} {ops : Array Oper} {o : Oper} {a : Act} {K : Act → World → Prop} {Q : Exit → Act → World → Prop} {E : Prop} (hw : Region.wanted o (yielded ops a.tmps) = true) (s x : Operand) (t : TypeId)
    (ho : o.op = .call { callee := .builtin .append, args := #[s, x], argTypes := #[t, t] })
    (e : TypeId) (i : TypeInfo) (z : Value) (size bytes : Nat) (ht : P.underlying t = some (.slice e)) (hi : P.info? e = some i) (hz : i.zero = some z)
    (hsize : i.size = size) (hby : i.bytes = bytes) (hzs : z.cells.size = size) (B : Nat) (A : Option Addr) (n : Nat) (xs : List Value) (hs : a.eval s = .slice A n n) (hr : Rd w B size A n xs) (hB : B ≤ w.heap.size)
    (B2 : Nat) (A2 : Option Addr) (m c : Nat) (news : List Value) (hx : a.eval x = .slice A2 m c) (hr2 : Rd w B2 size A2 m news) (h1 : ∀ u ∈ news, u.oneCell' = true) (h63 : n + m ≤ maxLen) (hbytes : (n + m) * bytes ≤ 140737488355328)
    (h : ∀ A' c' w', n + m ≤ c' → Rd w' w'.heap.size size A' (n + m) (xs ++ news) → Below w.heap.size w w' → (0 < m → ∀ ad, A' = some ad → w.heap.size ≤ ad.block) → K (a.put o.dst (.slice A' (n + m) c')) w') :
    if Region.wanted o (yielded ops a.tmps) = true then Oper.wp P o a w K Q else E := by
  rw [if_pos hw]
  obtain ⟨A', c', w', hrun, hc, h2, h3, h4⟩ := run_append_full (P := P) w t o.type e i z size bytes ht hi hz hsize hby hzs B A n xs hr hB B2 A2 m c news hr2 h1 h63 hbytes
  unfold Oper.wp execOp
  simp only [ho, resolve, invoke, builtin, Sem.run_bind, Sem.run_pure, Result.andThen_ok, List.map_toArray, List.map_cons, List.map_nil, hs, hx, hrun]
  exact h A' c' w' hc h2 h3 h4
/-- In a walk. -/
theorem wpList_append_full (w : World) {ops : Array Oper} {rest : List Oper} {o : Oper} {a : Act} {Q : Exit → Act → World → Prop} (hgd : o.guard = none) (s x : Operand) (t : TypeId)
    (ho : o.op = .call { callee := .builtin .append, args := #[s, x], argTypes := #[t, t] })
    (e : TypeId) (i : TypeInfo) (z : Value) (size bytes : Nat) (ht : P.underlying t = some (.slice e)) (hi : P.info? e = some i) (hz : i.zero = some z)
    (hsize : i.size = size) (hby : i.bytes = bytes) (hzs : z.cells.size = size) (B : Nat) (A : Option Addr) (n : Nat) (xs : List Value) (hs : a.eval s = .slice A n n) (hr : Rd w B size A n xs) (hB : B ≤ w.heap.size)
    (B2 : Nat) (A2 : Option Addr) (m c : Nat) (news : List Value) (hx : a.eval x = .slice A2 m c) (hr2 : Rd w B2 size A2 m news) (h1 : ∀ u ∈ news, u.oneCell' = true) (h63 : n + m ≤ maxLen) (hbytes : (n + m) * bytes ≤ 140737488355328)
    (h : ∀ A' c' w', n + m ≤ c' → Rd w' w'.heap.size size A' (n + m) (xs ++ news) → Below w.heap.size w w' → wpList P ops Q rest (a.put o.dst (.slice A' (n + m) c')) w') : wpList P ops Q (o :: rest) a w := by
  refine wpList_plain hgd fun K hK => ?_
  obtain ⟨A', c', w', hrun, hc, h2, h3, h4⟩ := run_append_full (P := P) w t o.type e i z size bytes ht hi hz hsize hby hzs B A n xs hr hB B2 A2 m c news hr2 h1 h63 hbytes
  unfold Oper.wp execOp
  simp only [ho, resolve, invoke, builtin, Sem.run_bind, Sem.run_pure, Result.andThen_ok, List.map_toArray, List.map_cons, List.map_nil, hs, hx, hrun]
  exact hK _ _ (h A' c' w' hc h2 h3)
/-- The same, and where it lies. -/
theorem wpList_append_fresh (w : World) {ops : Array Oper} {rest : List Oper} {o : Oper} {a : Act} {Q : Exit → Act → World → Prop} (hgd : o.guard = none) (s x : Operand) (t : TypeId)
    (ho : o.op = .call { callee := .builtin .append, args := #[s, x], argTypes := #[t, t] })
    (e : TypeId) (i : TypeInfo) (z : Value) (size bytes : Nat) (ht : P.underlying t = some (.slice e)) (hi : P.info? e = some i) (hz : i.zero = some z)
    (hsize : i.size = size) (hby : i.bytes = bytes) (hzs : z.cells.size = size) (B : Nat) (A : Option Addr) (n : Nat) (xs : List Value) (hs : a.eval s = .slice A n n) (hr : Rd w B size A n xs) (hB : B ≤ w.heap.size)
    (B2 : Nat) (A2 : Option Addr) (m c : Nat) (news : List Value) (hx : a.eval x = .slice A2 m c) (hr2 : Rd w B2 size A2 m news) (h1 : ∀ u ∈ news, u.oneCell' = true) (h63 : n + m ≤ maxLen) (hbytes : (n + m) * bytes ≤ 140737488355328)
    (h : ∀ A' c' w', n + m ≤ c' → Rd w' w'.heap.size size A' (n + m) (xs ++ news) → Below w.heap.size w w' → (0 < m → ∀ ad, A' = some ad → w.heap.size ≤ ad.block) → wpList P ops Q rest (a.put o.dst (.slice A' (n + m) c')) w') : wpList P ops Q (o :: rest) a w := by
  refine wpList_plain hgd fun K hK => ?_
  obtain ⟨A', c', w', hrun, hc, h2, h3, h4⟩ := run_append_full (P := P) w t o.type e i z size bytes ht hi hz hsize hby hzs B A n xs hr hB B2 A2 m c news hr2 h1 h63 hbytes
  unfold Oper.wp execOp
  simp only [ho, resolve, invoke, builtin, Sem.run_bind, Sem.run_pure, Result.andThen_ok, List.map_toArray, List.map_cons, List.map_nil, hs, hx, hrun]
  exact hK _ _ (h A' c' w' hc h2 h3 h4)
end

/-- A call hands back a slice that reads as xs (k cells an element), and has turned nothing of what was there. -/
def RdIs (k n : Nat) (xs : List Value) (w : World) (e : Ending) (w' : World) : Prop := ∃ A c, e = .returned (.slice A n c) ∧ n ≤ c ∧ Rd w' w'.heap.size k A n xs ∧ Below w.heap.size w w'
/-- From block B on, if there is anything. -/
def FreshA (B : Nat) (A : Option Addr) (n : Nat) : Prop := 0 < n → ∀ ad, A = some ad → B ≤ ad.block
theorem FreshA.low {B B' n : Nat} {A : Option Addr} (h : FreshA B A n) (hB : B' ≤ B) : FreshA B' A n := fun hn ad e => Nat.le_trans hB (h hn ad e)
theorem own_fresh {w : World} {base e k n m c : Nat} {A : Option Addr} {xs : List Value} (h : w.ownsRow base e k (.slice A m c) n xs) : FreshA base A n := by
  intro hn ad hA
  subst hA
  rcases h.2 with ⟨hv, h0⟩ | ⟨g, cap, cur, hv, hg, _⟩
  · omega
  · injection hv with h1; injection h1 with h1; subst h1; exact hg
theorem Rd.setCellF {w : World} {B k n : Nat} {A : Option Addr} {xs : List Value} (h : Rd w B k A n xs) {p : Addr} (hp : ∀ ad, 0 < n → A = some ad → p.block ≠ ad.block) (u : Value) : Rd (w.setCell p u) B k A n xs :=
  ⟨h.1, fun hn => by
    obtain ⟨ad, e, hb, hs, hc⟩ := h.2 hn
    exact ⟨ad, e, hb, hs, fun j hj => (World.cell?_setCell_other w p _ u (fun h' => hp ad hn e (by subst h'; rfl))).trans (hc j hj)⟩⟩
/-- A call hands back a slice of what it has made. -/
def RdNew (k n : Nat) (xs : List Value) (w : World) (e : Ending) (w' : World) : Prop := ∃ A c, e = .returned (.slice A n c) ∧ n ≤ c ∧ Rd w' w'.heap.size k A n xs ∧ FreshA w.heap.size A n ∧ Below w.heap.size w w'
theorem RdNew.is {k n : Nat} {xs : List Value} {w w' : World} {e : Ending} (h : RdNew k n xs w e w') : RdIs k n xs w e w' := by obtain ⟨A, c, h1, h2, h3, _, h4⟩ := h; exact ⟨A, c, h1, h2, h3, h4⟩
theorem RdIs.of {k n n' : Nat} {xs xs' : List Value} {w w' : World} {A : Option Addr} {c : Nat} (hc : n' ≤ c) (h : Rd w' w'.heap.size k A n' xs') (hb : Below w.heap.size w w') (hn : n' = n) (hx : xs' = xs) : RdIs k n xs w (.returned (.slice A n' c)) w' := by
  subst hn hx; exact ⟨A, c, rfl, hc, h, hb⟩
theorem one_drop {l : List Value} (h : ∀ u ∈ l, u.oneCell' = true) (n : Nat) : ∀ u ∈ l.drop n, u.oneCell' = true := fun u hu => h u (List.mem_of_mem_drop hu)
theorem one_app {l l' : List Value} (h : ∀ u ∈ l, u.oneCell' = true) (h' : ∀ u ∈ l', u.oneCell' = true) : ∀ u ∈ l ++ l', u.oneCell' = true := fun u hu => (List.mem_append.1 hu).elim (h u) (h' u)
theorem one_svs (l : List Str) : ∀ u ∈ svs l, u.oneCell' = true := fun u hu => by
  obtain ⟨s, _, rfl⟩ := List.mem_map.1 hu; rfl
theorem one_sv (s : Str) : ∀ u ∈ [sv s], u.oneCell' = true := fun u hu => by rw [List.mem_singleton.1 hu]; rfl
theorem insL_cut {α : Type} [DecidableEq α] {lt : α → α → Bool} {x : α} : ∀ (l : List α) (k : Nat), k ≤ l.length → (∀ y ∈ l.take k, lt y x = true) → (∀ h : k < l.length, lt l[k] x = false) →
    insL lt x l = if l[k]? = some x then l else l.take k ++ x :: l.drop k
  | [], k, hk, _, _ => by
    have : k = 0 := by simpa using hk
    subst this; simp [insL]
  | y :: r, 0, _, _, h => by
    have h0 : lt y x = false := h (by simp)
    unfold insL
    rw [h0]
    by_cases e : y = x <;> simp [e]
  | y :: r, k + 1, hk, h1, h2 => by
    have h0 : lt y x = true := h1 y (by simp)
    have ih := insL_cut r k (by simpa using hk) (fun z hz => h1 z (by simp [hz])) (fun h => by have := h2 (by simpa using h); simpa using this)
    unfold insL
    rw [if_pos h0, ih]
    simp only [List.getElem?_cons_succ]
    split <;> simp
end Go.Proofs.YtclaoffnfopekaaGreat
end

section
/- The walks of order.parted, Straight and Round: the edges that stay, and those that go. -/
namespace Go.Proofs.YtclaoffnfopekaaGreat
open Go.RowKit Go.Maps Go.Sort

section
variable {P : Program} {ops : Array Oper} {rest : List Oper} {o : Oper} {a : Act} {Q : Exit → Act → World → Prop} {w : World}
theorem wpList_want (hw : Region.wanted o (yielded ops a.tmps) = true) (h : ∀ K : Act → World → Prop, (∀ a w, wpList P ops Q rest a w → K a w) → o.wp P a w K Q) : wpList P ops Q (o :: rest) a w :=
  wpList_step fun K hK => by rw [if_pos hw]; exact h K hK
theorem wpList_lookup_w {k : TypeId} {α : Type} {κ : KeyKind P k α} (hw : Region.wanted o (yielded ops a.tmps) = true) (m x : Operand) (t : TypeId) (hop : o.op = Op.lookup t m x false) (e : TypeId) (ht : P.underlying t = some (.map k e)) (z : Value) (hz : (zeroValue e).run P w = .ok z w)
    (b n : Nat) (f : α → Option Value) (hm : a.eval m = .map (some b)) (h : MapIs κ w b n f) (key : α) (hx : a.eval x = κ.val key) (hk : κ.ok key)
    (hK : wpList P ops Q rest (a.put o.dst ((f key).getD z)) w) : wpList P ops Q (o :: rest) a w := by
  refine wpList_want hw fun K' hK' => ?_
  have hrun := h.lookup ht hz hk
  unfold Oper.wp
  simp [execOp, hop, hm, hx, hrun, Result.andThen]
  exact hK' _ _ hK
end

namespace Od
theorem pairE_of (e : Ed) : pairE e = pairOf e := rfl
theorem one_edC (e : Ed) : ∀ u ∈ edC e, u.oneCell' = true := fun u h => by
  simp [edC] at h; rcases h with rfl | rfl | rfl <;> rfl
theorem edsC_app (l : List Ed) (e : Ed) : edsC (l ++ [e]) = edsC l ++ edC e := by simp [edsC]
theorem setP_get (D : List Pr) (x : Pr) : (setP D x).getD (.bool false) = .bool (decide (x ∈ D)) := by
  by_cases h : x ∈ D <;> simp [setP, h]
/-- Two slices of the call's own: the edges that stay and those that go. -/
def PartIs (es : List Ed) (w : World) (e : Ending) (w' : World) : Prop := ∃ A1 c1 A2 c2, e = .returned (.tuple #[.slice A1 (straight es).length c1, .slice A2 (gone es).length c2]) ∧
  (straight es).length ≤ c1 ∧ (gone es).length ≤ c2 ∧ Rd w' w'.heap.size 3 A1 (straight es).length (edsC (straight es)) ∧ Rd w' w'.heap.size 3 A2 (gone es).length (edsC (gone es)) ∧ FreshA w.heap.size A1 (straight es).length ∧ FreshA w.heap.size A2 (gone es).length ∧ Below w.heap.size w w'

set_option maxRecDepth 100000 in
set_option maxHeartbeats 4000000 in
theorem parted_any (An Ae : Option Addr) (nn cn ce : Nat) (es : List Ed) (w : World) (hr : Rd w w.heap.size 3 Ae es.length (edsC es)) (hok : OkE es) (hl : es.length ≤ 100000) :
    Calls Tryz.prog 40 #[gV An nn cn Ae es.length ce] w (PartIs es w) := by
  obtain ⟨i0, hi, hz0, hz1, hz2⟩ := info_parts inE
  have Hr := Lib.hid hr
  have HO := Lib.hid hok
  clear hr hok
  go_enter Tryz.func40, Tryz.ntmps40
  go_wp2_with fail
  first | (refine wp_named ?_; intro W1 hW) | (refine calls_named ?_; intro W1 hW)
  have B1 : Below w.heap.size w W1 := by rw [hW]; exact (by repeat (first | exact Below.refl _ _ | assumption | refine Below.alloc ?_ (by simp <;> omega) _ | refine Below.setCell ?_ (by simp <;> omega) _ | refine Below.drew ?_))
  replace Hr := Lib.hid (Hr.out.at B1)
  have n1 : w.heap.size < W1.heap.size := by rw [hW]; simp <;> omega
  have c10 : W1.cell? ⟨w.heap.size, 0, none⟩ = some (.slice An nn cn) := by rw [hW]; go_simp
  have c11 : W1.cell? ⟨w.heap.size, 1, none⟩ = some (.slice Ae es.length ce) := by rw [hW]; go_simp
  clear hW
  refine (kept_any An Ae nn cn ce es W1 Hr.out HO.out hl).mono ?_
  rintro e w2 ⟨bm, nm, rfl, hm, hlo, hb⟩
  have HM := Lib.hid hm
  have HB1 := Lib.hid (lift B1 hb)
  replace c10 : w2.cell? ⟨w.heap.size, 0, none⟩ = some (.slice An nn cn) := cellAt c10 hb (by omega)
  replace c11 : w2.cell? ⟨w.heap.size, 1, none⟩ = some (.slice Ae es.length ce) := cellAt c11 hb (by omega)
  replace Hr := Lib.hid (Hr.out.at hb)
  replace n1 : w.heap.size < w2.heap.size := ltAt n1 hb
  clear hm hb B1
  go_wp2_with fail
  go_loopw [5, 6, 16] (fun v5 v6 i wr => ∃ j : Nat, j ≤ es.length ∧ i = .int .i64 j ∧ wr.ownsRow w2.heap.size 34 3 v5 ((es.take j).filter (stays es)).length (edsC ((es.take j).filter (stays es))) ∧
    wr.ownsRow w2.heap.size 34 3 v6 ((es.take j).filter (fun e => !stays es e)).length (edsC ((es.take j).filter (fun e => !stays es e))) ∧ Sep v5 v6 ∧ Below w2.heap.size w2 wr) (fun _ _ i _ => es.length - (intOf i).toNat)
  case atStart => exact ⟨0, Nat.zero_le _, rfl, by simpa [edsC] using World.ownsRow_nil _ _ _ _, by simpa [edsC] using World.ownsRow_nil _ _ _ _, .inl rfl, Below.refl _ _⟩
  case round =>
    obtain ⟨j, hj, rfl, ho5, ho6, hsep, hb⟩ := hrel
    obtain ⟨A5, c5, rfl, _⟩ := own_rd ho5
    obtain ⟨A6, c6, rfl, _⟩ := own_rd ho6
    have hl5 := List.length_filter_le (stays es) (es.take j)
    have hl6 := List.length_filter_le (fun e => !stays es e) (es.take j)
    have htk : (es.take j).length ≤ es.length := by rw [List.length_take]; omega
    by_cases hlt : j < es.length
    · obtain ⟨b, o, rfl, hB, hc0, hc1, hc2⟩ := (Hr.out.at hb).edge hlt
      have H5 := Lib.hid ho5
      have H6 := Lib.hid ho6
      have HS := Lib.hid hsep
      have HMr := Lib.hid (HM.out.on hb)
      have hz := hb.size
      have HB := Lib.hid hb
      have hf5 := @filter_take_succ Ed (stays es) es j hlt
      have hf6 := @filter_take_succ Ed (fun e => !stays es e) es j hlt
      generalize hx : es[j] = e at hc0 hc1 hc2 hf5 hf6
      obtain ⟨s, d, r⟩ := e
      have HX := Lib.hid hx
      have HF5 := Lib.hid hf5
      have HF6 := Lib.hid hf6
      generalize hL5 : (es.take j).filter (stays es) = L5 at *
      generalize hL6 : (es.take j).filter (fun e => !stays es e) = L6 at *
      have HL := Lib.hid (And.intro hL5 hL6)
      have h563 : L5.length + 1 ≤ maxLen := by unfold maxLen; omega
      have h5by : (L5.length + 1) * 40 ≤ 140737488355328 := by omega
      have h663 : L6.length + 1 ≤ maxLen := by unfold maxLen; omega
      have h6by : (L6.length + 1) * 40 ≤ 140737488355328 := by omega
      clear hx ho5 ho6 hsep hb hf5 hf6 hL5 hL6
      simp only at hc0 hc1 hc2
      go_wp2_with fail
      first | (refine wp_named ?_; intro W3 hW) | (refine calls_named ?_; intro W3 hW)
      have B3 : Below wr.heap.size wr W3 := by rw [hW]; exact (by repeat (first | exact Below.refl _ _ | assumption | refine Below.alloc ?_ (by simp <;> omega) _ | refine Below.setCell ?_ (by simp <;> omega) _ | refine Below.drew ?_))
      replace H5 := Lib.hid (own_on H5.out B3)
      replace H6 := Lib.hid (own_on H6.out B3)
      replace HMr := Lib.hid (HMr.out.on B3)
      replace HB := Lib.hid (HB.out.trans (B3.mono HB.out.size))
      replace hz : w2.heap.size ≤ W3.heap.size := leAt hz B3
      have n3 : wr.heap.size < W3.heap.size := by rw [hW]; simp <;> omega
      have c30 : W3.cell? ⟨wr.heap.size, 0, none⟩ = some (sv s) := by rw [hW]; go_simp
      have c31 : W3.cell? ⟨wr.heap.size, 1, none⟩ = some (sv d) := by rw [hW]; go_simp
      have c32 : W3.cell? ⟨wr.heap.size, 2, none⟩ = some (.int .i64 r) := by rw [hW]; go_simp
      clear hW
      refine (of_any s d r W3).mono ?_
      rintro e v ⟨rfl, hb⟩
      replace c30 : v.cell? ⟨wr.heap.size, 0, none⟩ = some (sv s) := cellAt c30 hb (by omega)
      replace c31 : v.cell? ⟨wr.heap.size, 1, none⟩ = some (sv d) := cellAt c31 hb (by omega)
      replace c32 : v.cell? ⟨wr.heap.size, 2, none⟩ = some (.int .i64 r) := cellAt c32 hb (by omega)
      replace H5 := Lib.hid (own_on H5.out hb)
      replace H6 := Lib.hid (own_on H6.out hb)
      replace HMr := Lib.hid (HMr.out.on hb)
      replace HB := Lib.hid (HB.out.trans (hb.mono HB.out.size))
      replace hz : w2.heap.size ≤ v.heap.size := leAt hz hb
      replace n3 : wr.heap.size < v.heap.size := ltAt n3 hb
      clear hb B3
      have hzp : w2.heap.size ≤ (v.alloc (.cells #[sv [], sv []] 50)).heap.size := by simp; omega
      unfold ofV
      cases hp : pairOf (s, d, r)
      · have Hst := Lib.hid (show stays es (s, d, r) = true by simp [stays, pairE_of, hp])
        have Hp := Lib.hid hp
        clear hp hzp
        simp only [Option.getD_none, Option.isSome_none]
        have HBp := Lib.hid (show Below w2.heap.size w2 (v.alloc (.cells #[sv [], sv []] 50)) from HB.out.alloc hz _)
        have hzp : w2.heap.size ≤ (v.alloc (.cells #[sv [], sv []] 50)).heap.size := by simp; omega
        go_wp2_with (first | fail | (at_builtin; refine wpList_pushm w2 (v.alloc (.cells #[sv [], sv []] 50)) (by rfl) (.tmp 32) (.tmp 34) 23 (by rfl) w2.heap.size 34 i0 _ 3 40 Tryz.underlying23 hi hz0 hz1 hz2 rfl (by decide) _ _ _ (by rfl) (own_alloc H5.out _) (edC (s, d, r)) (v.heap.size + 1) (by simp) (by rfl) rfl (one_edC _) h563 h5by hzp HBp.out ?_; intro A1 c1 w4 hown4 hbel4 hg4 hat4) | fail)
        go_roundw
        case rel =>
          have e5 := HF5.out
          have e6 := HF6.out
          rw [Hst.out] at e5 e6
          simp only [if_true, Bool.not_true, Bool.false_eq_true, if_false, List.append_nil] at e5 e6
          refine ⟨j + 1, by omega, by go_num, ?_, ?_, ?_, hbel4⟩
          · rw [e5, List.length_append, edsC_app]; exact hown4
          · rw [e6]; exact HS.out.kept (own_alloc H6.out _) hg4
          · exact HS.out.push (own_alloc H6.out _) hat4
        case measure => simp [intOf]; omega
      · rename_i q
        obtain ⟨x, y⟩ := q
        have hpok : okS x ∧ okS y := HO.out.prs (x, y) (mem_prsL.2 ⟨es[j], List.getElem_mem hlt, by rw [HX.out, pairE_of]; exact hp⟩)
        have Hp := Lib.hid hp
        simp only [Option.getD_some, Option.isSome_some]
        cases hin : decide ((x, y) ∈ keptL es)
        · have Hst := Lib.hid (show stays es (s, d, r) = false by simp only [stays, pairE_of, hp]; exact hin)
          have hlk : (setP (keptL es) (x, y)).getD (.bool false) = .bool false := by rw [setP_get, hin]
          clear hp hin hzp
          have HBp := Lib.hid (show Below w2.heap.size w2 (v.alloc (.cells #[sv x, sv y] 50)) from HB.out.alloc hz _)
          have hzp : w2.heap.size ≤ (v.alloc (.cells #[sv x, sv y] 50)).heap.size := by simp; omega
          go_wp2_with (first | (at_lookup; refine wpList_lookup_w (by rfl) (.tmp 28) (.tmp 29) 88 (by rfl) 4 Tryz.underlying88 (.bool false) (by rfl) bm _ _ (by rfl) (HMr.out.alloc _) (x, y) (by rfl) hpok ?_; rw [hlk]) | (at_builtin; refine wpList_pushm w2 (v.alloc (.cells #[sv x, sv y] 50)) (by rfl) (.tmp 36) (.tmp 38) 23 (by rfl) w2.heap.size 34 i0 _ 3 40 Tryz.underlying23 hi hz0 hz1 hz2 rfl (by decide) _ _ _ (by rfl) (own_alloc H6.out _) (edC (s, d, r)) (v.heap.size + 1) (by simp) (by rfl) rfl (one_edC _) h663 h6by hzp HBp.out ?_; intro A1 c1 w4 hown4 hbel4 hg4 hat4) | fail)
          go_roundw
          case rel =>
            have e5 := HF5.out
            have e6 := HF6.out
            rw [Hst.out] at e5 e6
            simp only [Bool.not_false, if_true, Bool.false_eq_true, if_false, List.append_nil] at e5 e6
            refine ⟨j + 1, by omega, by go_num, ?_, ?_, ?_, hbel4⟩
            · rw [e5]; exact HS.out.symm.kept (own_alloc H5.out _) hg4
            · rw [e6, List.length_append, edsC_app]; exact hown4
            · exact (HS.out.symm.push (own_alloc H5.out _) hat4).symm
          case measure => simp [intOf]; omega
        · have Hst := Lib.hid (show stays es (s, d, r) = true by simp only [stays, pairE_of, hp]; exact hin)
          have hlk : (setP (keptL es) (x, y)).getD (.bool false) = .bool true := by rw [setP_get, hin]
          clear hp hin hzp
          have HBp := Lib.hid (show Below w2.heap.size w2 (v.alloc (.cells #[sv x, sv y] 50)) from HB.out.alloc hz _)
          have hzp : w2.heap.size ≤ (v.alloc (.cells #[sv x, sv y] 50)).heap.size := by simp; omega
          go_wp2_with (first | (at_lookup; refine wpList_lookup_w (by rfl) (.tmp 28) (.tmp 29) 88 (by rfl) 4 Tryz.underlying88 (.bool false) (by rfl) bm _ _ (by rfl) (HMr.out.alloc _) (x, y) (by rfl) hpok ?_; rw [hlk]) | (at_builtin; refine wpList_pushm w2 (v.alloc (.cells #[sv x, sv y] 50)) (by rfl) (.tmp 32) (.tmp 34) 23 (by rfl) w2.heap.size 34 i0 _ 3 40 Tryz.underlying23 hi hz0 hz1 hz2 rfl (by decide) _ _ _ (by rfl) (own_alloc H5.out _) (edC (s, d, r)) (v.heap.size + 1) (by simp) (by rfl) rfl (one_edC _) h563 h5by hzp HBp.out ?_; intro A1 c1 w4 hown4 hbel4 hg4 hat4) | fail)
          go_roundw
          case rel =>
            have e5 := HF5.out
            have e6 := HF6.out
            rw [Hst.out] at e5 e6
            simp only [if_true, Bool.not_true, Bool.false_eq_true, if_false, List.append_nil] at e5 e6
            refine ⟨j + 1, by omega, by go_num, ?_, ?_, ?_, hbel4⟩
            · rw [e5, List.length_append, edsC_app]; exact hown4
            · rw [e6]; exact HS.out.kept (own_alloc H6.out _) hg4
            · exact HS.out.push (own_alloc H6.out _) hat4
          case measure => simp [intOf]; omega
    · have hjn : j = es.length := by omega
      subst hjn
      simp only [List.take_length] at ho5 ho6
      have H5 := Lib.hid ho5
      have H6 := Lib.hid ho6
      have HB := Lib.hid (lift HB1.out hb)
      clear ho5 ho6 hb hl5 hl6
      go_wp2_with fail
      go_ret2
      rw [List.take_length]
      exact ⟨A5, c5, A6, c6, rfl, (own_cap H5.out).1, (own_cap H6.out).1, own_rd' H5.out, own_rd' H6.out, (own_fresh H5.out).low HB1.out.size, (own_fresh H6.out).low HB1.out.size, HB.out⟩
end Od
end Go.Proofs.YtclaoffnfopekaaGreat
end

section
/- The walks of slices.Clone at nodes, of order.Straight and order.Round. -/
namespace Go.Proofs.YtclaoffnfopekaaGreat
open Go.RowKit Go.Maps Go.Sort

theorem eql_slice_nil {P : Program} {t e : TypeId} (h : P.underlying t = some (.slice e)) (a : Option Addr) (n c : Nat) (w : World) : (binOp .eql t (.slice a n c) (.slice none 0 0)).run P w = .ok (.bool a.isNone) w := by
  simp only [binOp]
  simp [run_equal_slice_nil w t e a n c h]
namespace Od
theorem one_ndsC (l : List Nd) : ∀ u ∈ ndsC l, u.oneCell' = true := fun u hu => by
  obtain ⟨p, _, h⟩ := List.mem_flatMap.1 hu
  simp [ndC] at h; rcases h with rfl | rfl | rfl <;> rfl
/-- A graph that reads as these nodes and edges. -/
def GraphIs (ns : List Nd) (es : List Ed) (w : World) (e : Ending) (w' : World) : Prop := ∃ An cn Ae ce, e = .returned (gV An ns.length cn Ae es.length ce) ∧ ns.length ≤ cn ∧ es.length ≤ ce ∧
  Rd w' w'.heap.size 3 An ns.length (ndsC ns) ∧ Rd w' w'.heap.size 3 Ae es.length (edsC es) ∧ Below w.heap.size w w'
set_option maxRecDepth 100000 in
set_option maxHeartbeats 1000000 in
theorem cloneN_any (A : Option Addr) (c : Nat) (ns : List Nd) (w : World) (hr : Rd w w.heap.size 3 A ns.length (ndsC ns)) (hl : ns.length ≤ 1000000) :
    Calls Tryz.prog 42 #[.slice A ns.length c] w (RdNew 3 ns.length (ndsC ns) w) := by
  obtain ⟨i0, hi, hz0, hz1, hz2⟩ := info_parts inN
  have Hr := Lib.hid hr
  clear hr
  cases A with
  | none =>
    have hn : ns.length = 0 := by
      rcases Nat.eq_zero_or_pos ns.length with h | h
      · exact h
      · obtain ⟨ad, h, _⟩ := Hr.out.2 h; cases h
    have HN := Lib.hid hn
    clear hn
    have hq : ∀ w, (binOp .eql 22 (.slice none ns.length c) (.slice none 0 0)).run Tryz.prog w = .ok (.bool true) w := eql_slice_nil Tryz.underlying22 _ _ _
    go_enter Tryz.func42, Tryz.ntmps42
    go_wp2_with fail
    go_ret
    exact ⟨none, 0, by rw [HN.out]; rfl, by rw [HN.out]; exact Nat.le_refl _, by have h0 := List.length_eq_zero_iff.1 HN.out; subst h0; exact Rd.none_, fun h => absurd h (by rw [HN.out]; omega), Below.refl _ _⟩
  | some ad =>
    have h63 : 0 + ns.length ≤ maxLen := by unfold maxLen; omega
    have hby : (0 + ns.length) * 32 ≤ 140737488355328 := by omega
    have hq : ∀ w, (binOp .eql 22 (.slice (some ad) ns.length c) (.slice none 0 0)).run Tryz.prog w = .ok (.bool false) w := eql_slice_nil Tryz.underlying22 _ _ _
    go_enter Tryz.func42, Tryz.ntmps42
    go_wp2_with (first
      | (at_builtin; refine wpList_append_fresh _ (by rfl) (.tmp 5) (.tmp 6) 22 (by rfl) 43 i0 _ 3 32 Tryz.underlying22 hi hz0 hz1 hz2 rfl 0 (some ⟨w.heap.size, 0, none⟩) 0 [] (by rfl) Rd.none_ (Nat.zero_le _) _ (some ad) ns.length c (ndsC ns) (by rfl) (Hr.out.alloc (Nat.le_refl _) _) (one_ndsC ns) h63 hby ?_; intro A1 c1 w1 hc1 hr1 hb1 hf1)
      | fail)
    go_ret
    exact ⟨A1, c1, rfl, by omega, by simpa using hr1, fun hn ad e => Nat.le_trans (by simp) (hf1 hn ad e), below_alloc (Nat.le_refl _) hb1⟩

set_option maxRecDepth 100000 in
set_option maxHeartbeats 1000000 in
theorem Straight_any (An Ae : Option Addr) (cn ce : Nat) (ns : List Nd) (es : List Ed) (w : World) (hn : Rd w w.heap.size 3 An ns.length (ndsC ns)) (hr : Rd w w.heap.size 3 Ae es.length (edsC es)) (hok : OkE es) (hln : ns.length ≤ 1000000) (hl : es.length ≤ 100000) :
    Calls Tryz.prog 22 #[gV An ns.length cn Ae es.length ce] w (GraphIs ns (straight es) w) := by
  have Hn := Lib.hid hn
  have Hr := Lib.hid hr
  have HO := Lib.hid hok
  clear hr hn hok
  go_enter Tryz.func22, Tryz.ntmps22
  go_wp2_with fail
  first | (refine wp_named ?_; intro W1 hW) | (refine calls_named ?_; intro W1 hW)
  have B1 : Below w.heap.size w W1 := by rw [hW]; exact (by repeat (first | exact Below.refl _ _ | assumption | refine Below.alloc ?_ (by simp <;> omega) _ | refine Below.setCell ?_ (by simp <;> omega) _ | refine Below.drew ?_))
  replace Hr := Lib.hid (Hr.out.at B1)
  replace Hn := Lib.hid (Hn.out.at B1)
  have n1 : w.heap.size < W1.heap.size := by rw [hW]; simp <;> omega
  have n2 : (w.heap.size + 1) < W1.heap.size := by rw [hW]; simp <;> omega
  have c10 : W1.cell? ⟨w.heap.size, 0, none⟩ = some (.slice An ns.length cn) := by rw [hW]; go_simp
  have c11 : W1.cell? ⟨w.heap.size, 1, none⟩ = some (.slice Ae es.length ce) := by rw [hW]; go_simp
  have c20 : W1.cell? ⟨w.heap.size + 1, 0, none⟩ = some (.slice none 0 0) := by rw [hW]; go_simp
  have c21 : W1.cell? ⟨w.heap.size + 1, 1, none⟩ = some (.slice none 0 0) := by rw [hW]; go_simp
  have f20 : W1.frozen? ⟨w.heap.size + 1, 0, none⟩ = false := by rw [hW]; go_simp
  have f21 : W1.frozen? ⟨w.heap.size + 1, 1, none⟩ = false := by rw [hW]; go_simp
  clear hW
  have hz1 := n2
  refine (parted_any An Ae ns.length cn ce es W1 Hr.out HO.out hl).mono ?_
  rintro e w2 ⟨A1, c1, A2, c2, rfl, hc1, hc2, hr1, hr2, hf1, hf2, hb⟩
  have HS1 := Lib.hid hr1
  replace c10 : w2.cell? ⟨w.heap.size, 0, none⟩ = some (.slice An ns.length cn) := cellAt c10 hb (by omega)
  replace c11 : w2.cell? ⟨w.heap.size, 1, none⟩ = some (.slice Ae es.length ce) := cellAt c11 hb (by omega)
  replace c20 : w2.cell? ⟨w.heap.size + 1, 0, none⟩ = some (.slice none 0 0) := cellAt c20 hb (by omega)
  replace c21 : w2.cell? ⟨w.heap.size + 1, 1, none⟩ = some (.slice none 0 0) := cellAt c21 hb (by omega)
  replace f20 : w2.frozen? ⟨w.heap.size + 1, 0, none⟩ = false := froAt f20 hb (by omega)
  replace f21 : w2.frozen? ⟨w.heap.size + 1, 1, none⟩ = false := froAt f21 hb (by omega)
  replace Hr := Lib.hid (Hr.out.at hb)
  replace Hn := Lib.hid (Hn.out.at hb)
  replace n1 : w.heap.size < w2.heap.size := ltAt n1 hb
  replace n2 : (w.heap.size + 1) < w2.heap.size := ltAt n2 hb
  have HB2 := Lib.hid (lift B1 hb)
  clear hr1 hr2 hb B1
  go_wp2_with fail
  have hz3 := n2
  refine (cloneN_any An cn ns w2 Hn.out hln).mono ?_
  rintro e w3 ⟨A3, c3, rfl, hc3, hr3, hf3, hb⟩
  have HS3 := Lib.hid hr3
  replace c10 : w3.cell? ⟨w.heap.size, 0, none⟩ = some (.slice An ns.length cn) := cellAt c10 hb (by omega)
  replace c11 : w3.cell? ⟨w.heap.size, 1, none⟩ = some (.slice Ae es.length ce) := cellAt c11 hb (by omega)
  replace c20 : w3.cell? ⟨w.heap.size + 1, 0, none⟩ = some (.slice none 0 0) := cellAt c20 hb (by omega)
  replace c21 : w3.cell? ⟨w.heap.size + 1, 1, none⟩ = some (.slice none 0 0) := cellAt c21 hb (by omega)
  replace f20 : w3.frozen? ⟨w.heap.size + 1, 0, none⟩ = false := froAt f20 hb (by omega)
  replace f21 : w3.frozen? ⟨w.heap.size + 1, 1, none⟩ = false := froAt f21 hb (by omega)
  replace Hr := Lib.hid (Hr.out.at hb)
  replace Hn := Lib.hid (Hn.out.at hb)
  replace n1 : w.heap.size < w3.heap.size := ltAt n1 hb
  replace n2 : (w.heap.size + 1) < w3.heap.size := ltAt n2 hb
  replace HB2 := Lib.hid (lift HB2.out hb)
  replace HS1 := Lib.hid (HS1.out.at hb)
  clear hr3 hb
  go_wp2_with fail
  refine bodyPost_ret (v := gV A3 ns.length c3 A1 (straight es).length c1) ?_ rfl ⟨A3, c3, A1, c1, rfl, hc3, hc1, ?_, ?_, ?_⟩
  · simp [results, Tryz.results22, go_sem, c20, c21]
  · exact ((HS3.out.setCellF (p := ⟨w.heap.size + 1, 0, none⟩) (fun ad hn e => Nat.ne_of_lt (Nat.lt_of_lt_of_le hz3 (hf3 hn ad e))) _).setCellF (p := ⟨w.heap.size + 1, 1, none⟩) (fun ad hn e => Nat.ne_of_lt (Nat.lt_of_lt_of_le hz3 (hf3 hn ad e))) _).more (by simp)
  · exact ((HS1.out.setCellF (p := ⟨w.heap.size + 1, 0, none⟩) (fun ad hn e => Nat.ne_of_lt (Nat.lt_of_lt_of_le hz1 (hf1 hn ad e))) _).setCellF (p := ⟨w.heap.size + 1, 1, none⟩) (fun ad hn e => Nat.ne_of_lt (Nat.lt_of_lt_of_le hz1 (hf1 hn ad e))) _).more (by simp)
  · exact (HB2.out.setCell (by show w.heap.size ≤ w.heap.size + 1; omega) _).setCell (by show w.heap.size ≤ w.heap.size + 1; omega) _
set_option maxRecDepth 100000 in
set_option maxHeartbeats 1000000 in
theorem Round_any (An Ae : Option Addr) (nn cn ce : Nat) (es : List Ed) (w : World) (hr : Rd w w.heap.size 3 Ae es.length (edsC es)) (hok : OkE es) (hl : es.length ≤ 100000) :
    Calls Tryz.prog 19 #[gV An nn cn Ae es.length ce] w (RdIs 3 (gone es).length (edsC (gone es)) w) := by
  have Hr := Lib.hid hr
  have HO := Lib.hid hok
  clear hr hok
  go_enter Tryz.func19, Tryz.ntmps19
  go_wp2_with fail
  first | (refine wp_named ?_; intro W1 hW) | (refine calls_named ?_; intro W1 hW)
  have B1 : Below w.heap.size w W1 := by rw [hW]; exact (by repeat (first | exact Below.refl _ _ | assumption | refine Below.alloc ?_ (by simp <;> omega) _ | refine Below.setCell ?_ (by simp <;> omega) _ | refine Below.drew ?_))
  replace Hr := Lib.hid (Hr.out.at B1)
  clear hW
  refine (parted_any An Ae nn cn ce es W1 Hr.out HO.out hl).mono ?_
  rintro e w2 ⟨A1, c1, A2, c2, rfl, hc1, hc2, hr1, hr2, hf1, hf2, hb⟩
  go_wp2_with fail
  go_ret
  exact RdIs.of hc2 hr2 (lift B1 hb) rfl rfl
end Od
end Go.Proofs.YtclaoffnfopekaaGreat
end

section
/- Units in order: what both sorts come to. No program. -/
namespace Go.Proofs.YtclaoffnfopekaaGreat
open Go.RowKit
namespace Od
def pairAh (a b : Str) (e : Ed) : Bool := pairE e == some (a, b)
/-- Is one of left directly ahead of b? -/
def waitsB (es : List Ed) (left : List Str) (b : Str) : Bool := left.any (fun a => es.any (pairAh a b))
def freeAt (es : List Ed) (left : List Str) : Option Nat := left.findIdx? (fun b => !waitsB es left b)
def sortGo (es : List Ed) : Nat → List Str → List Str → Option (List Str)
  | _, [], out => some out
  | 0, _ :: _, _ => none
  | n + 1, x :: r, out => match freeAt es (x :: r) with
    | none => none
    | some i => sortGo es n ((x :: r).eraseIdx i) (out ++ [(x :: r).getD i []])
def sortU (es : List Ed) (units : List Str) : Option (List Str) := sortGo es (canon ltS units).length (canon ltS units) []
theorem sortGo_nil (es : List Ed) (n : Nat) (out : List Str) : sortGo es n [] out = some out := by cases n <;> rfl
theorem sortGo_none {es : List Ed} {left out : List Str} (h0 : 0 < left.length) (h : ∀ j (hj : j < left.length), waitsB es left left[j] = true) : sortGo es left.length left out = none := by
  cases left with
  | nil => simp at h0
  | cons x r =>
    have hf : freeAt es (x :: r) = none := by
      unfold freeAt
      rw [List.findIdx?_eq_none_iff]
      intro y hy
      obtain ⟨j, hj, e⟩ := List.mem_iff_getElem.1 hy
      have := h j hj
      rw [e] at this
      simp [this]
    show sortGo es (r.length + 1) (x :: r) out = none
    simp only [sortGo, hf]
theorem sortGo_some {es : List Ed} {left out : List Str} {k : Nat} (hk : k < left.length) (h : ∀ j (hj : j < left.length), j < k → waitsB es left left[j] = true) (hw : waitsB es left left[k] = false) :
    sortGo es left.length left out = sortGo es (left.eraseIdx k).length (left.eraseIdx k) (out ++ [left[k]]) := by
  cases left with
  | nil => simp at hk
  | cons x r =>
    have hf : freeAt es (x :: r) = some k := by
      unfold freeAt
      rw [List.findIdx?_eq_some_iff_getElem]
      refine ⟨hk, by simp [hw], fun j hj => ?_⟩
      have := h j (by omega) hj
      simp [this]
    have hl : ((x :: r).eraseIdx k).length = r.length := by rw [List.length_eraseIdx, if_pos hk]; simp
    rw [hl]
    show sortGo es (r.length + 1) (x :: r) out = _
    simp only [sortGo, hf]
    rw [List.getD_eq_getElem?_getD, List.getElem?_eq_getElem hk]
    rfl
theorem erase_cut {l : List Str} (k : Nat) : l.eraseIdx k = l.take k ++ l.drop (k + 1) := List.eraseIdx_eq_take_drop_succ l k
end Od
end Go.Proofs.YtclaoffnfopekaaGreat
end

section
/- slices.IndexFunc and ContainsFunc at texts; the closures of order.Sort; slices.Delete of the call's own. -/
namespace Go.Proofs.YtclaoffnfopekaaGreat
open Go.RowKit Go.Sort

namespace Od
theorem pairAh_eq (a b : Str) : pairAh a b = aheadB a b := rfl
/-- A function value that says of a text whether p, whatever has been made since. -/
structure SaysS (g : Nat) (caps : Array Value) (p : Str → Bool) (w : World) : Prop where
  enters : ∀ (args : Array Value) (W : World), (callFunc g args).run Tryz.prog W = .ok (.enter g args) W
  says : ∀ (W : World) (s : Str), Below w.heap.size w W → Calls Tryz.prog g (#[sv s] ++ caps) W fun e w' => e = .returned (.bool (p s)) ∧ Below W.heap.size W w'
set_option maxRecDepth 100000 in
set_option maxHeartbeats 1000000 in
theorem IndexFuncS (A : Option Addr) (c : Nat) (ss : List Str) (g : Nat) (caps : Array Value) (p : Str → Bool) (w : World) (hr : Rd w w.heap.size 1 A ss.length (svs ss)) (hl : ss.length ≤ 1000000) (hp : SaysS g caps p w) :
    Calls Tryz.prog 45 #[.slice A ss.length c, .func (.func g) #[] caps] w (FindIdx ss p w) := by
  have Hr := Lib.hid hr
  have Hp := Lib.hid hp
  have eg := hp.enters
  clear hr hp
  go_enter Tryz.func45, Tryz.ntmps45
  go_wp2_with fail
  go_loopw [8] (fun i wr => ∃ k : Nat, k ≤ ss.length ∧ i = .int .i64 k ∧ Hid ((ss.take k).any p = false) ∧ Below w.heap.size w wr) (fun i _ => ss.length - (intOf i).toNat)
  case atStart => exact ⟨0, Nat.zero_le _, rfl, by simp [Hid], Below.refl _ _⟩
  case round =>
    obtain ⟨k, hk, rfl, hall, hbel⟩ := hrel
    by_cases hlt : k < ss.length
    · obtain ⟨b, o, rfl, hB, hc0⟩ := (Hr.out.on (Nat.le_refl _) hbel).str hlt
      have Hbel := Lib.hid hbel
      clear hbel
      generalize hx : ss[k] = x at hc0
      have Hx := Lib.hid hx
      clear hx
      have hcall := Hp.out.says wr x Hbel.out
      have Hcall := Lib.hid hcall
      clear hcall
      go_wp2_with fail
      refine Hcall.out.mono ?_
      rintro e w2 ⟨rfl, hb2⟩
      have Hb2 := Lib.hid (Hbel.out.trans (hb2.mono Hbel.out.size))
      clear hb2
      cases hpx : p x
      · have Hpx := Lib.hid hpx
        go_wp2_with fail
        go_roundw
        case rel => exact ⟨k + 1, by omega, by go_num, by show _ = false; rw [any_take_succ hlt, hall.out, Hx.out, Hpx.out]; rfl, Hb2.out⟩
        case measure => simp [intOf]; omega
      · have Hpx := Lib.hid hpx
        go_wp2_with fail
        go_ret
        exact ⟨k, rfl, .inr ⟨k, hlt, rfl, find_at hlt hall.out (by rw [Hx.out]; exact Hpx.out), by rw [Hx.out]; exact Hpx.out, fun j hj => take_any_at hk hall.out hj⟩, Hb2.out⟩
    · have ha := hall.out
      rw [List.take_of_length_le (by omega)] at ha
      have Ha := Lib.hid ha
      clear ha
      go_wp2_with fail
      go_ret
      exact ⟨-1, rfl, .inl ⟨rfl, find_none_take Ha.out⟩, hbel⟩
set_option maxHeartbeats 1000000 in
theorem ContainsFuncS (A : Option Addr) (c : Nat) (ss : List Str) (g : Nat) (caps : Array Value) (p : Str → Bool) (w : World) (hr : Rd w w.heap.size 1 A ss.length (svs ss)) (hl : ss.length ≤ 1000000) (hp : SaysS g caps p w) :
    Calls Tryz.prog 47 #[.slice A ss.length c, .func (.func g) #[] caps] w fun e w' => e = .returned (.bool (ss.any p)) ∧ Below w.heap.size w w' := by
  go_enter Tryz.func47, Tryz.ntmps47
  go_wp2_with fail
  refine (IndexFuncS A c ss g caps p w hr hl hp).mono ?_
  rintro e w2 ⟨r, rfl, hcase, hb⟩
  have hiff : decide ((0 : Int) ≤ r) = ss.any p := by
    rcases hcase with ⟨rfl, h⟩ | ⟨k, hk, rfl, _, h, _⟩
    · rw [Bool.eq_iff_iff]
      constructor
      · intro h; simp at h
      · intro h2; obtain ⟨x, hx, hpx⟩ := List.any_eq_true.1 h2; rw [List.find?_eq_none] at h; exact absurd hpx (h x hx)
    · rw [any_of_at hk h]; simp
  have Hiff := Lib.hid hiff
  clear hiff hcase
  go_wp2_with fail
  go_ret
  exact ⟨ret_bool Hiff.out, hb⟩
theorem deleteS_own (base c i : Nat) (A : Option Addr) (ss : List Str) (w : World) (h : w.ownsRow base 9 1 (.slice A ss.length c) ss.length (svs ss)) (hi : i < ss.length) (hsz : ss.length ≤ 1000000) :
    Calls Tryz.prog 49 #[.slice A ss.length c, .int .i64 i, .int .i64 ((i : Int) + 1)] w fun e w' => e = .returned (.slice A (ss.eraseIdx i).length c) ∧ w'.ownsRow base 9 1 (.slice A (ss.eraseIdx i).length c) (ss.eraseIdx i).length (svs (ss.eraseIdx i)) ∧ w.grownBy w' (Value.slice A ss.length c).ownBlock := by
  have hel : (ss.eraseIdx i).length = ss.length - 1 := by rw [List.length_eraseIdx, if_pos hi]
  rcases h.2 with ⟨hv, hn⟩ | ⟨g, cap, cur, hv, hg, hb, h1, h2, h3, h4⟩
  · omega
  · injection hv with e1 _ e3
    subst e1 e3
    have hgl : g < w.heap.size := (Array.getElem?_eq_some_iff.1 hb).1
    have hmx : c ≤ 9223372036854775807 := by unfold maxLen at h2; omega
    refine (show Calls Tryz.prog 49 #[.slice (some ⟨g, 0, none⟩) ss.length c, .int .i64 i, .int .i64 ((i : Int) + 1)] w _ from Tryz.slices_Delete_string g 0 c i (i + 1) ss w (holds_of_block hb (by rw [Nat.mul_one] at h4; exact h4)) (by omega) hmx (by omega) hi).mono ?_
    rintro e w' ⟨rfl, q, rfl⟩
    rw [← erase_cut]
    refine ⟨by rw [hel]; simp, ⟨by simp [svs], .inr ⟨g, c, _, rfl, hg, by rw [← grow_empty (putRow _ _ _ _ _)]; exact heap_sorted _ hb, by omega, h2, by simp [putCells, h3], ?_⟩⟩, by rw [← grow_empty (putRow _ _ _ _ _)]; exact grownBy_sorted _⟩
    rw [Nat.mul_one]
    exact take_putCells' cur _ _ (by simp; omega)
end Od
end Go.Proofs.YtclaoffnfopekaaGreat
end

section
/- A slice that reads as a list while a row of the call's own is appended to. No program. -/
namespace Go.Proofs.YtclaoffnfopekaaGreat
open Go.RowKit
/-- The block at A is not the one that v owns. -/
def OffA (A : Option Addr) (n : Nat) (v : Value) : Prop := 0 < n → ∀ ad, A = some ad → v.ownBlock ≠ some ad.block
section
variable {w w' : World} {B k n : Nat} {A : Option Addr} {xs : List Value} {v v2 : Value}
theorem OffA.nil : OffA A n (.slice none 0 0) := fun _ _ _ h => by cases h
theorem OffA.fresh {base e k' n' : Nat} {xs' : List Value} (h : FreshA B A n) (ho : w.ownsRow base e k' v n' xs') (hB : w.heap.size ≤ B) : OffA A n v := fun hn ad hA hv => by
  have h1 := h hn ad hA
  have h2 := (ho.lt _ hv).2
  omega
theorem Rd.kept (h : Rd w w.heap.size k A n xs) (hoff : OffA A n v) (hg : w.grownBy w' v.ownBlock) : Rd w' w'.heap.size k A n xs :=
  ⟨h.1, fun hn => by
    obtain ⟨ad, e, hb, hs, hc⟩ := h.2 hn
    exact ⟨ad, e, Nat.lt_of_lt_of_le hb hg.size, hs, fun j hj => (World.cell?_of_block (a := ⟨ad.block, ad.off + j, none⟩) (hg.block ad.block hb (fun e' => hoff hn ad e e'.symm))).trans (hc j hj)⟩⟩
theorem OffA.push (h : OffA A n v) (hr : Rd w w.heap.size k A n xs) (hat : v2.ownBlock = v.ownBlock ∨ v2.ownBlock = some (w.heap.size + 1)) : OffA A n v2 := fun hn ad hA hv => by
  rcases hat with e | e
  · exact h hn ad hA (e ▸ hv)
  · obtain ⟨ad', e', hb, _⟩ := hr.2 hn
    rw [hA] at e'; injection e' with e'; subst e'
    rw [e] at hv; injection hv with hv
    omega
end
end Go.Proofs.YtclaoffnfopekaaGreat
end

section
/- The walk of order.Sort. -/
namespace Go.Proofs.YtclaoffnfopekaaGreat
open Go.RowKit Go.Sort

theorem ownBlock_len (A : Option Addr) (n c m d : Nat) : (Value.slice A n c).ownBlock = (Value.slice A m d).ownBlock := by cases A <;> rfl
theorem grownBy_setCell (w : World) (p : Addr) (u : Value) : w.grownBy (w.setCell p u) (some p.block) :=
  ⟨rfl, rfl, rfl, by simp [World.setCell], fun k _ hne => Below.heap_setCell _ _ _ _ (fun e => hne (by rw [e]))⟩
theorem cell_kept {w w' : World} {b o : Nat} {v : Value} {row : Option Nat} (c : w.cell? ⟨b, o, none⟩ = some v) (hg : w.grownBy w' row) (hb : b < w.heap.size) (hne : row ≠ some b) : w'.cell? ⟨b, o, none⟩ = some v :=
  (World.cell?_of_block (a := ⟨b, o, none⟩) (hg.block b hb (fun e => hne e.symm))).trans c
theorem fro_kept {w w' : World} {b o : Nat} {row : Option Nat} (c : w.frozen? ⟨b, o, none⟩ = false) (hg : w.grownBy w' row) (hb : b < w.heap.size) (hne : row ≠ some b) : w'.frozen? ⟨b, o, none⟩ = false :=
  (World.frozen?_of_block (a := ⟨b, o, none⟩) (hg.block b hb (fun e => hne e.symm))).trans c
namespace Od
set_option maxRecDepth 100000 in
set_option maxHeartbeats 1000000 in
theorem cloneS_own (A : Option Addr) (c : Nat) (ss : List Str) (w : World) (hr : Rd w w.heap.size 1 A ss.length (svs ss)) (hl : ss.length ≤ 1000000) :
    Calls Tryz.prog 43 #[.slice A ss.length c] w fun e w' => ∃ A' c', e = .returned (.slice A' ss.length c') ∧ w'.ownsRow w.heap.size 9 1 (.slice A' ss.length c') ss.length (svs ss) ∧ Below w.heap.size w w' := by
  cases A with
  | none =>
    have hn : ss = [] := by
      rcases Nat.eq_zero_or_pos ss.length with h | h
      · exact List.length_eq_zero_iff.1 h
      · obtain ⟨ad, h, _⟩ := hr.2 h; cases h
    subst hn
    refine (Tryz.slices_Clone_string_nil _ c w).mono ?_
    rintro e w' ⟨rfl, rfl⟩
    exact ⟨none, 0, rfl, World.ownsRow_nil _ _ _ _, Below.refl _ _⟩
  | some ad =>
    rcases Nat.eq_zero_or_pos ss.length with h | h
    · have hn := List.length_eq_zero_iff.1 h
      subst hn
      refine (Tryz.slices_Clone_string_zero ad c w).mono ?_
      rintro e w' ⟨v', rfl, ho, _, hb⟩
      obtain ⟨A', c', rfl, _⟩ := own_rd ho
      exact ⟨A', c', rfl, ho, hb⟩
    · obtain ⟨b, o, e, hb0, hc⟩ := hr.open h
      injection e with e
      subst e
      refine (Tryz.slices_Clone_string b o ss.length c (ss.map fun s => ⟨s.toArray⟩) w (by simp) (by omega) (fun j hj => ?_)).mono ?_
      · have hj' : j < ss.length := by simpa using hj
        rw [hc j (by omega)]
        simp [svs, hj']
      · rintro e w' ⟨v', rfl, ho, _, hb⟩
        have hx : (((ss.map fun s => (⟨s.toArray⟩ : ByteArray)).take ss.length).map Value.string) = svs ss := by
          rw [List.take_of_length_le (by simp)]; simp [svs]
        rw [hx] at ho
        obtain ⟨A', c', rfl, _⟩ := own_rd ho
        exact ⟨A', c', rfl, ho, hb⟩
/-- What the closures of Sort read. -/
structure SortSees (w : World) (pg : Nat) (An Ae : Option Addr) (nn cn ce : Nat) (es : List Ed) : Prop where
  g0 : w.cell? ⟨pg, 0, none⟩ = some (.slice An nn cn)
  g1 : w.cell? ⟨pg, 1, none⟩ = some (.slice Ae es.length ce)
  rd : Rd w w.heap.size 3 Ae es.length (edsC es)
theorem SortSees.at {w w' : World} {pg : Nat} {An Ae : Option Addr} {nn cn ce : Nat} {es : List Ed} (h : SortSees w pg An Ae nn cn ce es) (hb : Below w.heap.size w w') : SortSees w' pg An Ae nn cn ce es :=
  ⟨cellAt h.g0 hb (cell_blk h.g0), cellAt h.g1 hb (cell_blk h.g1), h.rd.at hb⟩
section
variable {pg : Nat} {An Ae : Option Addr} {nn cn ce : Nat} {es : List Ed}
set_option maxHeartbeats 1000000 in
theorem Sort11_any (a b : Str) (pb : Nat) (w : World) (h : SortSees w pg An Ae nn cn ce es) (hp : w.cell? ⟨pb, 0, none⟩ = some (sv b)) (hl : es.length ≤ 1000000) :
    Calls Tryz.prog 48 #[sv a, .pointer (some ⟨pg, 0, none⟩), .pointer (some ⟨pb, 0, none⟩)] w fun e w' => e = .returned (.bool (es.any (aheadB a b))) ∧ Below w.heap.size w w' := by
  have g0 := h.g0
  have g1 := h.g1
  have Hr := Lib.hid h.rd
  clear h
  go_enter Tryz.func48, Tryz.ntmps48
  go_wp2_with fail
  refine (Ahead_any An Ae nn cn ce es a b w Hr.out hl).mono ?_
  rintro e w2 ⟨rfl, hb⟩
  go_wp2_with fail
  go_ret
  exact ⟨rfl, hb⟩
theorem says_sort11 (b : Str) (pb : Nat) (w : World) (h : SortSees w pg An Ae nn cn ce es) (hp : w.cell? ⟨pb, 0, none⟩ = some (sv b)) (hl : es.length ≤ 1000000) :
    SaysS 48 #[.pointer (some ⟨pg, 0, none⟩), .pointer (some ⟨pb, 0, none⟩)] (fun a => es.any (aheadB a b)) w where
  enters := enters_of Tryz.func48 (by kernel_rfl) rfl
  says := fun W a hb => Sort11_any a b pb W (h.at hb) (cellAt hp hb (cell_blk hp)) hl
set_option maxHeartbeats 1000000 in
theorem Sort1_any (b : Str) (pl : Nat) (A : Option Addr) (c : Nat) (left : List Str) (w : World) (h : SortSees w pg An Ae nn cn ce es) (hp : w.cell? ⟨pl, 0, none⟩ = some (.slice A left.length c)) (hr : Rd w w.heap.size 1 A left.length (svs left)) (hl : es.length ≤ 1000000) (hll : left.length ≤ 1000000) :
    Calls Tryz.prog 46 #[sv b, .pointer (some ⟨pl, 0, none⟩), .pointer (some ⟨pg, 0, none⟩)] w fun e w' => e = .returned (.bool (!waitsB es left b)) ∧ Below w.heap.size w w' := by
  have Hs := Lib.hid h
  have Hr := Lib.hid hr
  have npl : pl < w.heap.size := cell_blk hp
  clear h hr
  go_enter Tryz.func46, Tryz.ntmps46
  go_wp2_with fail
  first | (refine wp_named ?_; intro W1 hW) | (refine calls_named ?_; intro W1 hW)
  have B1 : Below w.heap.size w W1 := by rw [hW]; exact (by repeat (first | exact Below.refl _ _ | assumption | refine Below.alloc ?_ (by simp <;> omega) _ | refine Below.setCell ?_ (by simp <;> omega) _ | refine Below.drew ?_))
  replace hp := cellAt hp B1 (by omega)
  replace Hs := Lib.hid (Hs.out.at B1)
  replace Hr := Lib.hid (Hr.out.at B1)
  replace npl : pl < W1.heap.size := ltAt npl B1
  have n1 : w.heap.size < W1.heap.size := by rw [hW]; simp <;> omega
  have c0 : W1.cell? ⟨w.heap.size, 0, none⟩ = some (sv b) := by rw [hW]; go_simp
  clear hW
  refine (ContainsFuncS A c left _ _ (fun a => es.any (aheadB a b)) W1 Hr.out hll (says_sort11 b w.heap.size W1 Hs.out c0 hl)).mono ?_
  rintro e w2 ⟨rfl, hb⟩
  go_wp2_with fail
  go_ret
  exact ⟨rfl, lift B1 hb⟩
theorem says_sort1 (pl : Nat) (A : Option Addr) (c : Nat) (left : List Str) (w : World) (h : SortSees w pg An Ae nn cn ce es) (hp : w.cell? ⟨pl, 0, none⟩ = some (.slice A left.length c)) (hr : Rd w w.heap.size 1 A left.length (svs left)) (hl : es.length ≤ 1000000) (hll : left.length ≤ 1000000) :
    SaysS 46 #[.pointer (some ⟨pl, 0, none⟩), .pointer (some ⟨pg, 0, none⟩)] (fun b => !waitsB es left b) w where
  enters := enters_of Tryz.func46 (by kernel_rfl) rfl
  says := fun W b hb => Sort1_any b pl A c left W (h.at hb) (cellAt hp hb (cell_blk hp)) (hr.at hb) hl hll
end
/-- What a sort hands back. -/
def SortIs (r : Option (List Str)) (w : World) (e : Ending) (w' : World) : Prop := ∃ A c, e = .returned (.tuple #[.slice A (r.getD []).length c, .bool r.isSome]) ∧ (r.getD []).length ≤ c ∧ Rd w' w'.heap.size 1 A (r.getD []).length (svs (r.getD [])) ∧ Below w.heap.size w w'
set_option maxRecDepth 100000 in
set_option maxHeartbeats 4000000 in
theorem Sort_any (An Ae : Option Addr) (nn cn ce : Nat) (es : List Ed) (A : Option Addr) (c : Nat) (units : List Str) (w : World) (hr : Rd w w.heap.size 3 Ae es.length (edsC es)) (hu : Rd w w.heap.size 1 A units.length (svs units)) (hl : es.length ≤ 1000000) (hul : units.length ≤ 100000) :
    Calls Tryz.prog 24 #[gV An nn cn Ae es.length ce, .slice A units.length c] w (SortIs (sortU es units) w) := by
  obtain ⟨i0, hi, hz0, hz1, hz2⟩ := info_parts inS
  have Hr := Lib.hid hr
  have Hu := Lib.hid hu
  clear hr hu
  go_enter Tryz.func24, Tryz.ntmps24
  go_wp2_with fail
  first | (refine wp_named ?_; intro W1 hW) | (refine calls_named ?_; intro W1 hW)
  have B1 : Below w.heap.size w W1 := by rw [hW]; exact (by repeat (first | exact Below.refl _ _ | assumption | refine Below.alloc ?_ (by simp <;> omega) _ | refine Below.setCell ?_ (by simp <;> omega) _ | refine Below.drew ?_))
  replace Hr := Lib.hid (Hr.out.at B1)
  replace Hu := Lib.hid (Hu.out.at B1)
  have n1 : w.heap.size < W1.heap.size := by rw [hW]; simp <;> omega
  have c0 : W1.cell? ⟨w.heap.size, 0, none⟩ = some (.slice An nn cn) := by rw [hW]; go_simp
  have c1 : W1.cell? ⟨w.heap.size, 1, none⟩ = some (.slice Ae es.length ce) := by rw [hW]; go_simp
  clear hW
  have HB1 := Lib.hid B1
  have HSee := Lib.hid (show SortSees W1 w.heap.size An Ae nn cn ce es from ⟨c0, c1, Hr.out⟩)
  clear B1 c0 c1
  refine (cloneS_own A c units W1 Hu.out (by omega)).mono ?_
  rintro e w2 ⟨A2, c2, rfl, ho2, hb⟩
  have HO := Lib.hid ho2
  have HB := Lib.hid hb
  have hz2' := hb.size
  have hoffl : ∀ g, (Value.slice A2 units.length c2).ownBlock = some g → g < w2.heap.size := fun g hg => (ho2.lt g hg).2
  clear ho2 hb
  go_wp2_with fail
  first | (refine wp_named ?_; intro W3 hW) | (refine calls_named ?_; intro W3 hW)
  have B3 : Below w2.heap.size w2 W3 := by rw [hW]; exact (by repeat (first | exact Below.refl _ _ | assumption | refine Below.alloc ?_ (by simp <;> omega) _ | refine Below.setCell ?_ (by simp <;> omega) _ | refine Below.drew ?_))
  replace HO := Lib.hid (own_on HO.out B3)
  replace HB := Lib.hid (HB.out.trans (B3.mono HB.out.size))
  have p3 : w2.heap.size < W3.heap.size := by rw [hW]; simp <;> omega
  have k3 : W3.cell? ⟨w2.heap.size, 0, none⟩ = some (.slice A2 units.length c2) := by rw [hW]; go_simp
  have f3 : W3.frozen? ⟨w2.heap.size, 0, none⟩ = false := by rw [hW]; go_simp
  clear hW
  have hoff : (Value.slice A2 units.length c2).ownBlock ≠ some w2.heap.size := fun h => Nat.lt_irrefl _ (hoffl _ h)
  have hz3 : W1.heap.size ≤ W3.heap.size := HB.out.size
  refine (sortS_own W1.heap.size c2 A2 units W3 HO.out (by omega)).mono ?_
  rintro e v1 ⟨rfl, h1, g1⟩
  have k4 := cell_kept k3 g1 p3 hoff
  have f4 := fro_kept f3 g1 p3 hoff
  have p4 : w2.heap.size < v1.heap.size := Nat.lt_of_lt_of_le p3 g1.size
  have HB4 := Lib.hid (HB.out.grown g1 hz3 (fun g hg => (HO.out.lt g hg).1))
  have HO4 := Lib.hid h1
  clear h1 g1 k3 f3
  go_wp2_with fail
  have hsl := sortS_len units
  refine (show Calls Tryz.prog 44 #[.slice A2 units.length c2] v1 _ from hsl ▸ compactS_own W1.heap.size c2 A2 (sortS units) v1 (by rw [hsl]; exact HO4.out) (by omega)).mono ?_
  rintro e v2 ⟨rfl, h2, g2⟩
  have hL : Lib.compact (sortS units) = canon ltS units := onceS_canon units
  rw [hL] at h2 ⊢
  have hll := canon_len (lt := ltS) units
  have k5 := cell_kept k4 g2 p4 hoff
  have f5 := fro_kept f4 g2 p4 hoff
  have p5 : w2.heap.size < v2.heap.size := Nat.lt_of_lt_of_le p4 g2.size
  have hz4 : W1.heap.size ≤ v1.heap.size := HB4.out.size
  have HB5 := Lib.hid (HB4.out.grown g2 hz4 (fun g hg => (HO4.out.lt g hg).1))
  have HO5 := Lib.hid h2
  have HT := Lib.hid (show sortGo es (canon ltS units).length (canon ltS units) [] = sortU es units from rfl)
  clear h2 g2 k4 f4 hL hsl
  generalize canon ltS units = L at *
  generalize sortU es units = T at *
  go_wp2_with fail
  go_loopw [7] (fun v wr => ∃ (left out : List Str) (B : Option Addr) (d : Nat), wr.cell? ⟨w2.heap.size, 0, none⟩ = some (.slice B left.length d) ∧ wr.frozen? ⟨w2.heap.size, 0, none⟩ = false ∧ wr.ownsRow W1.heap.size 9 1 (.slice B left.length d) left.length (svs left) ∧
    wr.ownsRow W1.heap.size 9 1 v out.length (svs out) ∧ Sep (.slice B left.length d) v ∧ (Value.slice B left.length d).ownBlock ≠ some w2.heap.size ∧ v.ownBlock ≠ some w2.heap.size ∧ sortGo es left.length left out = T ∧ left.length + out.length ≤ units.length ∧ Below W1.heap.size W1 wr ∧ w2.heap.size < wr.heap.size)
    (fun _ wr => match wr.cell? ⟨w2.heap.size, 0, none⟩ with | some (.slice _ n _) => n | _ => 0)
  case atStart =>
    rw [ownBlock_len A2 _ _ L.length c2] at hoff
    refine ⟨L, [], A2, c2, ?_, ?_, HO5.out.kept (grownBy_setCell _ _ _) (by cases hv : (Value.slice A2 L.length c2).ownBlock with | none => exact .inl rfl | some g => exact .inr (fun e => hoff (by rw [← hv] at e; exact e))), World.ownsRow_nil _ _ _ _, .inr (.inl rfl), hoff, by simp [Value.ownBlock], HT.out, by simpa using hll, HB5.out.setCell hz2' _, by simpa using p5⟩
    · exact World.cell?_setCell_same _ _ _ k5
    · simpa using f5
  case round =>
    obtain ⟨left, out, B, d, kc, kf, hol, hoo, hsep, hofl, hofo, hgo, hlen, hb, hpl⟩ := hrel
    obtain ⟨A7, c7, hv7, _⟩ := own_rd hoo
    subst hv7
    have hcap := own_cap hol
    have HOl := Lib.hid hol
    have HOo := Lib.hid hoo
    have HS := Lib.hid hsep
    have HOf := Lib.hid (And.intro hofl hofo)
    have HGo := Lib.hid hgo
    have HBr := Lib.hid hb
    have hzr : W1.heap.size ≤ wr.heap.size := hb.size
    clear hol hoo hsep hofl hofo hgo hb
    by_cases h0 : left.length = 0
    · have hnil := List.length_eq_zero_iff.1 h0
      subst hnil
      have hgt : decide ((0 : Int) < ((([] : List Str).length : Nat) : Int)) = false := rfl
      have HR := Lib.hid (show T = some out by rw [← HGo.out, sortGo_nil])
      go_wp2_with fail
      go_ret2
      rw [HR.out]
      exact ⟨A7, c7, rfl, (own_cap HOo.out).1, own_rd' HOo.out, lift HB1.out HBr.out⟩
    · have hpos : 0 < left.length := by omega
      have hgt : decide ((0 : Int) < (left.length : Int)) = true := by simp; omega
      have HSr := Lib.hid (HSee.out.at HBr.out)
      have HRl := Lib.hid (own_rd' HOl.out)
      go_wp2_with fail
      refine (IndexFuncS B d left _ _ (fun b => !waitsB es left b) wr HRl.out (by omega) (says_sort1 w2.heap.size B d left wr HSr.out kc HRl.out hl (by omega))).mono ?_
      rintro e v3 ⟨r, rfl, hcase, hb⟩
      have kc3 := cellAt kc hb hpl
      have kf3 := froAt kf hb hpl
      have hp3 := ltAt hpl hb
      have HO3 := Lib.hid (own_on HOl.out hb)
      have HQ3 := Lib.hid (own_on HOo.out hb)
      have HB3 := Lib.hid (HBr.out.trans (hb.mono HBr.out.size))
      have hz3r : W1.heap.size ≤ v3.heap.size := Nat.le_trans hzr hb.size
      have KC := Lib.hid kc
      clear hb kc kf
      rcases hcase with ⟨rfl, hnone⟩ | ⟨k, hk, rfl, _, hyes, hno⟩
      · have HR := Lib.hid (show T = none by
          rw [← HGo.out]
          refine sortGo_none hpos fun j hj => ?_
          have := List.find?_eq_none.1 hnone left[j] (List.getElem_mem hj)
          simpa using this)
        clear hnone
        go_wp2_with fail
        go_ret2
        rw [HR.out]
        exact ⟨none, 0, rfl, Nat.le_refl _, Rd.none_, lift HB1.out HB3.out⟩
      · have hrest : sortGo es (left.eraseIdx k).length (left.eraseIdx k) (out ++ [left[k]]) = T := by
          rw [← HGo.out]
          exact (sortGo_some hk (fun j hj hjk => by have := hno j hjk; simpa using this) (by simpa using hyes)).symm
        have HRe := Lib.hid hrest
        have hel : (left.eraseIdx k).length = left.length - 1 := by rw [List.length_eraseIdx, if_pos hk]
        obtain ⟨bb, oo, hB, hBlt, hx0⟩ := (own_rd' HO3.out).str hk
        generalize left[k] = x at hx0 HRe
        have k1 : (0 : Int) ≤ (k : Int) := by omega
        have k2 : (k : Int) < (left.length : Int) := by omega
        have h763 : out.length + 1 ≤ maxLen := by unfold maxLen; omega
        have h7by : (out.length + 1) * 16 ≤ 140737488355328 := by omega
        have hneg : decide ((k : Int) < 0) = false := by simp
        subst hB
        have HHel := Lib.hid hel
        clear hrest hyes hno hel
        go_wp2_with (first | (at_builtin; refine wpList_pushm W1 v3 (by rfl) (.tmp 23) (.tmp 28) 30 (by rfl) W1.heap.size 9 i0 _ 1 16 Tryz.underlying30 hi hz0 hz1 hz2 rfl (by decide) _ _ _ (by rfl) HQ3.out [sv x] v3.heap.size rfl (by rfl) rfl (one_sv x) h763 h7by hz3r HB3.out ?_; intro A8 c8 w4 hown4 hbel4 hg4 hat4; have kc4 := cell_kept kc3 hg4 hp3 HOf.out.2; have kf4 := fro_kept kf3 hg4 hp3 HOf.out.2; have hp4 : w2.heap.size < w4.heap.size := Nat.lt_of_lt_of_le hp3 hg4.size; have HO4l := Lib.hid (HS.out.symm.kept HO3.out hg4); have HS4 := Lib.hid (HS.out.symm.push HO3.out hat4); have HOw := Lib.hid hown4; have HB4b := Lib.hid hbel4; have HAt := Lib.hid hat4; clear hown4 hbel4 hg4 hat4 kc3 kf3) | fail)
        have hof8 : (Value.slice A8 (out.length + 1) c8).ownBlock ≠ some w2.heap.size := fun h => by
          rcases HAt.out with e | e
          · exact HOf.out.2 (e ▸ h)
          · rw [e] at h; injection h with h; omega
        have HOf8 := Lib.hid hof8
        have hz4 : W1.heap.size ≤ w4.heap.size := HB4b.out.size
        clear hof8
        refine (deleteS_own W1.heap.size d k _ left w4 HO4l.out hk (by omega)).mono ?_
        rintro e w5 ⟨rfl, h5, g5⟩
        have kc5 := cell_kept kc4 g5 hp4 HOf.out.1
        have kf5 := fro_kept kf4 g5 hp4 HOf.out.1
        have hp5 : w2.heap.size < w5.heap.size := Nat.lt_of_lt_of_le hp4 g5.size
        have HO5l := Lib.hid h5
        have HO5o := Lib.hid (HS4.out.symm.kept HOw.out g5)
        have HB5b := Lib.hid (HB4b.out.grown g5 hz4 (fun g hg => (HO4l.out.lt g hg).1))
        clear h5 g5 kc4 kf4
        generalize hLe : left.eraseIdx k = le at *
        have HLe := Lib.hid hLe
        clear hLe
        go_wp2_with fail
        go_roundw
        case rel =>
          have hol' := HOf.out.1
          rw [ownBlock_len _ _ _ le.length d] at hol'
          refine ⟨le, out ++ [x], _, d, World.cell?_setCell_same _ _ _ kc5, by simpa using kf5, HO5l.out.kept (grownBy_setCell _ _ _) ?_, ?_, ?_, hol', ?_, ?_, ?_, HB5b.out.setCell hz2' _, by simpa using hp5⟩
          · exact .inr hol'
          · have h8 := HO5o.out.kept (grownBy_setCell w5 ⟨w2.heap.size, 0, none⟩ (.slice (some ⟨bb, oo, none⟩) le.length d)) (.inr HOf8.out)
            rw [List.length_append]
            simpa [svs] using h8
          · have h9 := HS4.out.symm
            unfold Sep at h9 ⊢
            rw [ownBlock_len _ le.length d left.length d]
            exact h9
          · exact HOf8.out
          · exact HRe.out
          · have := HHel.out
            rw [List.length_append]; simp; omega
        case measure =>
          have := HHel.out
          rw [KC.out, World.cell?_setCell_same _ _ _ kc5]
          simp; omega
end Od
end Go.Proofs.YtclaoffnfopekaaGreat
end

section
/- Names of units as texts: what package name says of them. No program. -/
namespace Go.Proofs.YtclaoffnfopekaaGreat
open Go.RowKit
namespace Od
/-- Up to the last point, and behind it. -/
def nameCut (s : Str) : Str × Str := if Lib.lastIndexByte ⟨s.toArray⟩ 46 < 0 then ([], []) else (s.take (Lib.lastIndexByte ⟨s.toArray⟩ 46).toNat, s.drop ((Lib.lastIndexByte ⟨s.toArray⟩ 46).toNat + 1))
/-- Up to the first at, and behind it. -/
def atCut (s : Str) : Str × Str := if 0 ≤ Lib.indexByte s 64 then (s.take (Lib.indexByte s 64).toNat, s.drop ((Lib.indexByte s 64).toNat + 1)) else (s, [])
def moreS : Str := [58, 45, 95, 46, 92]
def letterB (c : Int) : Bool := (decide (97 ≤ c) && decide (c ≤ 122)) || (decide (65 ≤ c) && decide (c ≤ 90))
def digitB (c : Int) : Bool := decide (48 ≤ c) && decide (c ≤ 57)
def inB (t : Str) (c : Int) : Bool := decide (0 ≤ Lib.indexByte t c.toNat.toUInt8)
def okB (c : Int) : Bool := letterB c || (digitB c || inB moreS c)
def allB (p : Int → Bool) (s : Str) : Bool := s.all (fun c => p (c.toNat : Int))
def sufS (k : Int) : Str := if k = 1 then [115, 101, 114, 118, 105, 99, 101] else if k = 2 then [115, 111, 99, 107, 101, 116] else if k = 3 then [116, 105, 109, 101, 114] else if k = 4 then [116, 97, 114, 103, 101, 116] else []
/-- The kind of a suffix. -/
def sufK (t : Str) : Int := if sufS 1 = t then 1 else if sufS 2 = t then 2 else if sufS 3 = t then 3 else if sufS 4 = t then 4 else 0
def badName (s : Str) : Bool := decide (60 < (s.length : Int)) || ((atCut (nameCut s).1).1 == ([] : Str) || (!allB okB (atCut (nameCut s).1).1 || !allB okB (atCut (nameCut s).1).2))
/-- A name's kind. -/
def kindS (s : Str) : Int := if badName s then 0 else sufK (nameCut s).2
theorem atCut_le (s : Str) : (atCut s).1.length ≤ s.length ∧ (atCut s).2.length ≤ s.length := by
  unfold atCut; split <;> simp
  omega
theorem nameCut_le (s : Str) : (nameCut s).1.length ≤ s.length ∧ (nameCut s).2.length ≤ s.length := by
  unfold nameCut; split <;> simp
  omega
end Od
end Go.Proofs.YtclaoffnfopekaaGreat
end

section
/-
  DERIVED: THE SHELF's CONTRACTS AT THIS DUMP, IN PLAIN WORDS (tools/lay-plain.mjs out of 'TryzShelf.lean', which tools/lay-shelf.mjs wrote): THE SAME DECLARATIONS UNDER THE SAME NAMES: 'import', 'namespace', 'open', 'def', 'theorem' AND NOTHING ELSE: no command of the shelf's: FOR A HAND-IN. Each laying: the table of numbers ('.._ren') and one theorem, a field a fact of the dump's own or the kernel's comparison; each contract: ONE APPLICATION.
-/
namespace Go.Proofs.YtclaoffnfopekaaGreat
open Go.Shelf
def Tryz.lays217_ren : Go.Shelf.Ren := ⟨fun | 217 => 127 | 266 => 132 | n => n, fun | 9 => 9 | 5 => 5 | 3 => 3 | n => n, fun | n => n⟩
theorem Tryz.lays217 : Go.Proofs.Lays.n217 Tryz.prog Tryz.lays217_ren := {
  mixed := by kernel_rfl
  f217 := Tryz.func127.trans (congrArg some (by kernel_rfl))
  f266 := Tryz.func132.trans (congrArg some (by kernel_rfl))
  t3 := Tryz.underlying3
  a3 := Tryz.isAgg3
  z3 := Tryz.sizeOf3
  v3 := Tryz.zeroValue3
  t5 := Tryz.underlying5
  a5 := Tryz.isAgg5
  z5 := Tryz.sizeOf5
  v5 := Tryz.zeroValue5
  t9 := Tryz.underlying9
  a9 := Tryz.isAgg9
  z9 := Tryz.sizeOf9
  v9 := Tryz.zeroValue9 }
open Go.RowKit Go.Lib in
/-- internal/stringslite.IndexByte (what strings.IndexByte calls): IT RETURNS 'Lib.indexByte s c'; the world is as it was. (LAID: no walk: one application.) -/
theorem Tryz.stringslite_IndexByte (s : ByteArray) (c : Int) (w : World) :
    Calls Tryz.prog 127 #[.string s, .int .u8 c] w fun e w' => e = .returned (.int .i64 (Lib.indexByte s.data.toList c.toNat.toUInt8)) ∧ w' = w := Any.stringslite_IndexByte Tryz.lays217 s c w
end Go.Proofs.YtclaoffnfopekaaGreat
end
