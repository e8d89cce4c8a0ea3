/- My texts, joined for the claim: Kit Kit2 GWords GRegion Reg Reg2 OAhead OSmall OSame OCmp ORise Shelf OOnce OOut GMath. -/
import Derived.WalkKit
import Derived.WalkSpells
import Derived.WalkLawsBesides
import Derived.Maps.AppendAt
import Derived.Deep.AppendLies
import Derived.Deep.Draws
import Derived.Lib.Hide
import Derived.Laws.AppendOwnNone
import Derived.Deep.RegionHeld3
import Derived.RegionTactic
import Derived.Test.YtbllehjhmfehbaaGreatRows
import Derived.Shelf.Abstract
import Derived.Deep.QuietTactic
import Derived.BigQuiet
import Derived.Shelf.Small.Bits
import Derived.Shelf.Small.Strs
import Derived.Shelf.Small.Wraps
import Derived.Shelf.Strconv.Itoa0
import Derived.Shelf.Strings.Search1
import Derived.Shelf.Strings.Search2
import Derived.Shelf.Strings.Cut
import Derived.Shelf.LaysM
import Derived.Shelf.Strings.Shaped
import Derived.Shelf.Sort.Plain
import Derived.Shelf.Strings.LastIndex
import Derived.Shelf.Strings.LastIndexAll
import Derived.Shelf.Slices.Turned
import Derived.Ground.Names2Prog
import Derived.Shelf.Slices.Clone
import Derived.Shelf.Slices.CompactS
import Derived.Shelf.Slices.SearchI
import Derived.Shelf.Slices.Delete
import Derived.Shelf.Slices.Cells
import Derived.Shelf.Slices.In.SortNone
import Derived.Shelf.Slices.Empties
import Derived.Ground.SlgnProg
import Derived.Shelf.SlicesE.Delete
import Derived.Shelf.SlicesE.Clone
import Derived.Ground.PaProg
import Derived.Shelf.Path.Small
import Derived.Test.YtbllehjhmfehbaaGreatProg
import Derived.Sort.OwnSorted
import Derived.Lib.SlicesCompact
import Derived.Sort.Walk0

section
/- Words for memory that my walks share: a slice that reads as a list of cells (Rd), and one that the call owns (World.ownsRow, the library's own). -/
namespace Go.Proofs.YtbllehjhmfehbaaGreat
open Go.RowKit

/-- The slice '.slice A n c' holds the cells xs, k cells an element, in a block below B. -/
def Rd (w : World) (B k : Nat) (A : Option Addr) (n : Nat) (xs : List Value) : Prop :=
  xs.length = n * k ∧ (0 < n → ∃ ad : Addr, A = some ad ∧ ad.block < B ∧ ad.spot = none ∧ ∀ j, j < n * k → w.cell? ⟨ad.block, ad.off + j, none⟩ = xs[j]?)

section
variable {w w' : World} {B B' k n : Nat} {A : Option Addr} {xs : List Value}

theorem Rd.len (h : Rd w B k A n xs) : xs.length = n * k := h.1

/-- Where something is read there is an address. -/
theorem Rd.open (h : Rd w B k A n xs) (hn : 0 < n) : ∃ b o : Nat, A = some ⟨b, o, none⟩ ∧ b < B ∧ ∀ j, j < n * k → w.cell? ⟨b, o + j, none⟩ = xs[j]? := by
  obtain ⟨⟨b, o, s⟩, e, hb, hs, hc⟩ := h.2 hn
  simp only at hs
  subst hs
  exact ⟨b, o, e, hb, hc⟩

theorem Rd.none_ : Rd w B k A 0 [] := ⟨by simp, fun h => absurd h (by omega)⟩

theorem Rd.keep (h : Rd w B k A n xs) (hk : ∀ p : Addr, p.block < B → w'.cell? p = w.cell? p) : Rd w' B k A n xs :=
  ⟨h.1, fun hn => by
    obtain ⟨ad, e, hb, hs, hc⟩ := h.2 hn
    exact ⟨ad, e, hb, hs, fun j hj => (hk ⟨ad.block, ad.off + j, none⟩ hb).trans (hc j hj)⟩⟩
theorem Rd.more (h : Rd w B k A n xs) (hB : B ≤ B') : Rd w B' k A n xs :=
  ⟨h.1, fun hn => by
    obtain ⟨ad, e, hb, hc⟩ := h.2 hn
    exact ⟨ad, e, by omega, hc⟩⟩
theorem Rd.below (h : Rd w B k A n xs) (hb : Below B w w') : Rd w' B k A n xs := h.keep fun _ hp => hb.cell hp
/-- Carried on over what a call did. -/
theorem Rd.on (h : Rd w B k A n xs) (hB : B ≤ w.heap.size) (hb : Below w.heap.size w w') : Rd w' B k A n xs := h.below (hb.mono hB)
theorem Rd.drew (h : Rd w B k A n xs) : Rd w.drew B k A n xs := h
theorem Rd.alloc (h : Rd w B k A n xs) (hB : B ≤ w.heap.size) (o : Obj) : Rd (w.alloc o) B k A n xs := h.keep fun p hp => World.cell?_alloc_lt w o p (by omega)
theorem Rd.setCell (h : Rd w B k A n xs) {p : Addr} (hB : B ≤ p.block) (u : Value) : Rd (w.setCell p u) B k A n xs :=
  h.keep fun q hq => World.cell?_setCell_other w p q u (fun e => by subst e; omega)
theorem Rd.grown (h : Rd w B k A n xs) {row : Option Nat} (hg : w.grownBy w' row) (hB : B ≤ w.heap.size) (hr : ∀ g, row = some g → B ≤ g) : Rd w' B k A n xs :=
  h.keep fun p hp => World.cell?_of_block (hg.block p.block (by omega) (fun e => by have := hr _ e.symm; omega))
end

/-- What the call owns reads as a list, whatever its address. -/
theorem own_rd {w : World} {base e k n : Nat} {v : Value} {xs : List Value} (h : w.ownsRow base e k v n xs) : ∃ (A : Option Addr) (c : Nat), v = .slice A n c ∧ Rd w w.heap.size k A n xs := by
  have h' := h
  obtain ⟨hl, ⟨rfl, rfl⟩ | ⟨g, cap, cur, rfl, hg, hh, hn, hm, hs, hx⟩⟩ := h
  · exact ⟨none, 0, rfl, hl, fun hn => absurd hn (by omega)⟩
  · have hlt : g < w.heap.size := (h'.lt g rfl).2
    refine ⟨some ⟨g, 0, none⟩, cap, rfl, hl, fun _ => ⟨_, rfl, hlt, rfl, fun j hj => ?_⟩⟩
    have := h'.cellAt (g := g) (cap := cap) j hj
    simpa using this

/-- The same where the value is written out. -/
theorem own_rd' {w : World} {base e k n m c : Nat} {A : Option Addr} {xs : List Value} (h : w.ownsRow base e k (.slice A m c) n xs) : Rd w w.heap.size k A n xs := by
  obtain ⟨A', c', hv, hr⟩ := own_rd h
  injection hv with h1 h2 h3
  subst h1
  exact hr

theorem own_alloc {w : World} {base e k n : Nat} {v : Value} {xs : List Value} (h : w.ownsRow base e k v n xs) (o : Obj) : (w.alloc o).ownsRow base e k v n xs := h.alloc o

/-- What is owned stays owned over what a call did that turned nothing of what was there. -/
theorem own_on {w w' : World} {base e k n : Nat} {v : Value} {xs : List Value} (h : w.ownsRow base e k v n xs) (hb : Below w.heap.size w w') : w'.ownsRow base e k v n xs := by
  have h' := h
  obtain ⟨hl, ⟨rfl, rfl⟩ | ⟨g, cap, cur, rfl, hg, hh, r⟩⟩ := h
  · exact ⟨hl, .inl ⟨rfl, rfl⟩⟩
  · have hlt : g < w.heap.size := (h'.lt g rfl).2
    exact ⟨hl, .inr ⟨g, cap, cur, rfl, hg, (hb.block g hlt).trans hh, r⟩⟩

/-- A base further down serves as well. -/
theorem own_base {w : World} {base base' e k n : Nat} {v : Value} {xs : List Value} (h : w.ownsRow base e k v n xs) (hb : base' ≤ base) : w.ownsRow base' e k v n xs := by
  obtain ⟨hl, h0 | ⟨g, cap, cur, hv, hg, r⟩⟩ := h
  · exact ⟨hl, .inl h0⟩
  · exact ⟨hl, .inr ⟨g, cap, cur, hv, by omega, r⟩⟩

theorem cells_new (w : World) (news : List Value) (t : TypeId) : ∀ j u, news[j]? = some u → (w.alloc (.cells news.toArray t)).cell? ((⟨w.heap.size, 0, none⟩ : Addr).add j) = some u := by
  intro j u hj
  rw [World.cell?_of_block (w := { w with heap := (w.heap.push (.cells news.toArray t)) }) (by rfl)]
  by_cases h0 : j = 0 <;> simp_all [World.cell?, Addr.add]

/-- 'out = append(out, x)' of one element, out the call's own: what is owned afterwards, and that nothing below base has turned. -/
theorem wpList_push {P : Program} (w0 w : World) {ops : Array Oper} {rest : List Oper} {o : Oper} {a : Act} {Q : Exit → Act → World → Prop} (hgd : o.guard = none) (s x : Operand) (t : TypeId)
    (ho : o.op = .call { callee := .builtin .append, args := #[s, x], argTypes := #[t, t] })
    (base : Nat) (e : TypeId) (i : TypeInfo) (z : Value) (size bytes : Nat) (ht : P.underlying t = some (.slice e)) (hi : P.info? e = some i) (hz : i.zero = some z)
    (hsize : i.size = size) (hby : i.bytes = bytes) (hzs : z.cells.size = size) (hsz : 0 < size)
    (v : Value) (n : Nat) (xs : List Value) (hs : a.eval s = v) (hown : w.ownsRow base e size v n xs)
    (news : List Value) (hx : a.eval x = .slice (some ⟨w.heap.size, 0, none⟩) 1 1) (hl : news.length = size) (h1 : ∀ u ∈ news, u.oneCell' = true)
    (h63 : n + 1 ≤ maxLen) (hbytes : (n + 1) * bytes ≤ 140737488355328) (hbase : base ≤ w.heap.size) (hbel : Below base w0 w)
    (h : ∀ A' c' w', w'.ownsRow base e size (.slice A' (n + 1) c') (n + 1) (xs ++ news) → Below base w0 w' → w.grownBy w' v.ownBlock →
      ((Value.slice A' (n + 1) c').ownBlock = v.ownBlock ∨ (Value.slice A' (n + 1) c').ownBlock = some (w.heap.size + 1)) → wpList P ops Q rest (a.put o.dst (.slice A' (n + 1) c')) w') :
    wpList P ops Q (o :: rest) a (w.alloc (.cells news.toArray e)) := by
  have hlt := hown.lt
  refine wpList_append_own_at (w.alloc (.cells news.toArray e)) hgd s x t ho base e i z size bytes ht hi hz hsize hby hzs hsz v n xs hs (hown.alloc _) ⟨w.heap.size, 0, none⟩ 1 1 news hx (by simpa using hl) (cells_new w news e) h1 h63 hbytes (by simp; omega) ?_
  intro v' w' hown' hgrow _ hat
  obtain ⟨A', c', hv, _⟩ := own_rd hown'
  subst hv
  have hg : w.grownBy w' v.ownBlock := World.grownBy.trans (World.grownBy_alloc w _ _) hgrow
  exact h A' c' w' hown' (hbel.grown hg hbase (fun k hk => (hlt k hk).1)) hg (by simpa using hat)

theorem ret_int {k : IntKind} {a b : Int} (h : a = b) : Ending.returned (.int k a) = .returned (.int k b) := by rw [h]
theorem ret_bool {a b : Bool} (h : a = b) : Ending.returned (.bool a) = .returned (.bool b) := by rw [h]
/-- A slice literal's block reads as what was laid into it. -/
theorem Rd.lit (w : World) (cs : List Value) (e : TypeId) (k n : Nat) (hl : cs.length = n * k) : Rd (w.alloc (.cells cs.toArray e)) (w.alloc (.cells cs.toArray e)).heap.size k (some ⟨w.heap.size, 0, none⟩) n cs := by
  refine ⟨hl, fun _ => ⟨_, rfl, by simp, rfl, fun j hj => ?_⟩⟩
  have hj' : j < cs.length := by omega
  have := cells_new w cs e j cs[j] (List.getElem?_eq_getElem hj')
  rw [List.getElem?_eq_getElem hj']
  unfold Addr.add at this
  split at this
  · rename_i h0; subst h0; exact this
  · simp only [Nat.zero_add] at this ⊢; exact this

theorem below_alloc {B : Nat} {w w' : World} {o : Obj} (hB : B ≤ w.heap.size) (h : Below (w.alloc o).heap.size (w.alloc o) w') : Below B w w' :=
  (((Below.refl B w).alloc hB o).trans (h.mono (by simp; omega)))

/-- Numbers as cells. -/
abbrev ints (xs : List Int) : List Value := xs.map (Value.int .i64)
theorem ints_at {xs : List Int} {j : Nat} (h : j < xs.length) : (ints xs)[j]? = some (.int .i64 xs[j]) := by simp [ints, h]

end Go.Proofs.YtbllehjhmfehbaaGreat
end

section
/- Words for memory, more: 'out = append(out, xs...)', xs whatever slice that reads as a list (nil let in). -/
namespace Go.Proofs.YtbllehjhmfehbaaGreat
open Go.RowKit

/-- Two rows of the call's own that are not one. -/
def Sep (v v' : Value) : Prop := v.ownBlock = none ∨ v'.ownBlock = none ∨ v.ownBlock ≠ v'.ownBlock
theorem Sep.symm {v v' : Value} (h : Sep v v') : Sep v' v := by
  rcases h with h | h | h
  · exact .inr (.inl h)
  · exact .inl h
  · exact .inr (.inr (Ne.symm h))
theorem Sep.kept {w w' : World} {v v' : Value} {base e k n : Nat} {xs : List Value} (hs : Sep v v') (h : w.ownsRow base e k v' n xs) (hg : w.grownBy w' v.ownBlock) : w'.ownsRow base e k v' n xs := by
  refine h.kept hg ?_
  rcases hs with h1 | h1 | h1
  · cases hv : v'.ownBlock with
    | none => exact .inl rfl
    | some g => exact .inr (by rw [h1]; simp)
  · exact .inl h1
  · exact .inr (Ne.symm h1)
theorem Sep.push {w : World} {v v' v2 : Value} {base e k n : Nat} {xs : List Value} (hs : Sep v v') (h : w.ownsRow base e k v' n xs) (hat : v2.ownBlock = v.ownBlock ∨ v2.ownBlock = some (w.heap.size + 1)) : Sep v2 v' := by
  rcases hat with h1 | h1
  · unfold Sep; rw [h1]; exact hs
  · cases hv : v'.ownBlock with
    | none => exact .inr (.inl hv)
    | some g =>
      have := (h.lt g hv).2
      exact .inr (.inr (by rw [h1, hv]; simp; omega))
/-- What is made anew is another row than what was there. -/
theorem Sep.new {w w' : World} {v v' : Value} {base e k n base' e' k' n' : Nat} {xs xs' : List Value} (h : w.ownsRow base e k v n xs) (h' : w'.ownsRow base' e' k' v' n' xs') (hb : w.heap.size ≤ base') : Sep v' v := by
  cases hv : v.ownBlock with
  | none => exact .inr (.inl hv)
  | some g =>
    cases hv' : v'.ownBlock with
    | none => exact .inl hv'
    | some g' =>
      have h1 := (h.lt g hv).2
      have h2 := (h'.lt g' hv').1
      exact .inr (.inr (by rw [hv, hv']; simp; omega))
theorem own_cap {w : World} {base e k n m c : Nat} {A : Option Addr} {xs : List Value} (h : w.ownsRow base e k (.slice A m c) n xs) : n ≤ c ∧ c ≤ maxLen := by
  obtain ⟨_, ⟨hv, hn⟩ | ⟨g, cap, cur, hv, _, _, hc, hm, _⟩⟩ := h
  · injection hv with _ _ h3; subst h3; subst hn; exact ⟨by omega, by decide⟩
  · injection hv with _ _ h3; subst h3; exact ⟨hc, hm⟩
theorem Rd.take {w : World} {B k n m : Nat} {A : Option Addr} {xs : List Value} (h : Rd w B k A n xs) (hm : m ≤ n) : Rd w B k A m (xs.take (m * k)) := by
  have hmk : m * k ≤ n * k := Nat.mul_le_mul_right k hm
  refine ⟨by rw [List.length_take, h.1]; omega, fun h0 => ?_⟩
  obtain ⟨ad, h1, h2, h3, h4⟩ := h.2 (by omega)
  exact ⟨ad, h1, h2, h3, fun j hj => by rw [h4 j (by omega), List.getElem?_take_of_lt hj]⟩

section
variable {P : Program} (w : World)
theorem run_append_rd (base : Nat) (t ty e : TypeId) (i : TypeInfo) (z : Value) (size bytes : Nat) (ht : P.underlying t = some (.slice e)) (hi : P.info? e = some i) (hz : i.zero = some z)
    (hsize : i.size = size) (hby : i.bytes = bytes) (hzs : z.cells.size = size) (hsz : 0 < size) (v : Value) (n : Nat) (xs : List Value) (hown : w.ownsRow base e size v n xs)
    (B : Nat) (A : Option Addr) (m c : Nat) (news : List Value) (hr : Rd w B size A m news) (h1 : ∀ u ∈ news, u.oneCell' = true) (h63 : n + m ≤ maxLen) (hbytes : (n + m) * bytes ≤ 140737488355328) (hbase : base ≤ w.heap.size) :
    ∃ A' c' w', (Builtin.append_ #[t, t] ty #[v, .slice A m c]).run P w = .ok (.slice A' (n + m) c') w' ∧ w'.ownsRow base e size (.slice A' (n + m) c') (n + m) (xs ++ news) ∧ w.grownBy w' v.ownBlock ∧
      ((Value.slice A' (n + m) c').ownBlock = v.ownBlock ∨ (Value.slice A' (n + m) c').ownBlock = some w.heap.size) := by
  cases A with
  | none =>
    have hm : m = 0 := by
      rcases Nat.eq_zero_or_pos m with h0 | h0
      · exact h0
      · obtain ⟨ad, h, _⟩ := hr.2 h0; cases h
    subst hm
    have hn : news = [] := List.eq_nil_of_length_eq_zero (by simpa using hr.1)
    subst hn
    have hown' := hown
    obtain ⟨A0, c0, rfl, _⟩ := own_rd hown
    refine ⟨A0, c0, w, ?_, by simpa using hown, World.grownBy.refl w _, .inl rfl⟩
    rcases hown'.2 with ⟨hv, hn0⟩ | ⟨g, cap, cur, hv, _, _, hnc, _⟩
    · injection hv with h2 h3 h4
      subst h2 h3 h4
      simp [Builtin.append_, run_underlying ht, sizeOf, typeInfo, hi, Builtin.lenOf, Builtin.firstCells]
    · injection hv with h2 h3 h4
      subst h2 h4
      simp [Builtin.append_, run_underlying ht, sizeOf, typeInfo, hi, Builtin.lenOf, Builtin.firstCells, hnc, storeCells]
  | some ad =>
    have hnews : ∀ j u, news[j]? = some u → w.cell? (ad.add j) = some u := by
      intro j u hu
      have hj : j < news.length := by
        rcases Nat.lt_or_ge j news.length with h | h
        · exact h
        · rw [List.getElem?_eq_none h] at hu; cases hu
      have hm0 : 0 < m := by
        rcases Nat.eq_zero_or_pos m with h0 | h0
        · have := hr.1; rw [h0, Nat.zero_mul] at this; omega
        · exact h0
      obtain ⟨ad', he, _, hs, hc⟩ := hr.2 hm0
      injection he with he
      subst he
      have hadd : ad.add j = ⟨ad.block, ad.off + j, none⟩ := by
        unfold Addr.add
        split
        · rename_i h0; subst h0; cases ad; simp_all
        · rfl
      rw [hadd, hc j (by rw [← hr.1]; exact hj), hu]
    obtain ⟨v', w', hrun, h2, h3, _, h5⟩ := run_append_own_at (P := P) w base t ty e i z size bytes ht hi hz hsize hby hzs hsz v n xs hown ad m c news hr.1 hnews h1 h63 hbytes hbase
    obtain ⟨A', c', rfl, _⟩ := own_rd h2
    exact ⟨A', c', w', hrun, h2, h3, h5⟩

theorem wp_append_rd {o : Oper} {a : Act} {K : Act → World → Prop} {Q : Exit → Act → World → Prop} (s x : Operand) (t : TypeId)
    (ho : o.op = .call { callee := .builtin .append, args := #[s, x], argTypes := #[t, t] })
    (base : Nat) (e : TypeId) (i : TypeInfo) (z : Value) (size bytes : Nat) (ht : P.underlying t = some (.slice e)) (hi : P.info? e = some i) (hz : i.zero = some z)
    (hsize : i.size = size) (hby : i.bytes = bytes) (hzs : z.cells.size = size) (hsz : 0 < size)
    (v : Value) (n : Nat) (xs : List Value) (hs : a.eval s = v) (hown : w.ownsRow base e size v n xs)
    (B : Nat) (A : Option Addr) (m c : Nat) (news : List Value) (hx : a.eval x = .slice A m c) (hr : Rd w B size A m news) (h1 : ∀ u ∈ news, u.oneCell' = true)
    (h63 : n + m ≤ maxLen) (hbytes : (n + m) * bytes ≤ 140737488355328) (hbase : base ≤ w.heap.size)
    (h : ∀ A' c' w', w'.ownsRow base e size (.slice A' (n + m) c') (n + m) (xs ++ news) → w.grownBy w' v.ownBlock →
      ((Value.slice A' (n + m) c').ownBlock = v.ownBlock ∨ (Value.slice A' (n + m) c').ownBlock = some w.heap.size) → K (a.put o.dst (.slice A' (n + m) c')) w') : o.wp P a w K Q := by
  obtain ⟨A', c', w', hrun, h2, h3, h4⟩ := run_append_rd (P := P) w base t o.type e i z size bytes ht hi hz hsize hby hzs hsz v n xs hown B A m c news hr h1 h63 hbytes hbase
  unfold Oper.wp execOp
  simp only [ho, resolve, invoke, builtin, Sem.run_bind, Sem.run_pure, Result.andThen_ok, List.map_toArray, List.map_cons, List.map_nil, hs, hx, hrun]
  exact h A' c' w' h2 h3 h4

theorem wpList_append_rd {ops : Array Oper} {rest : List Oper} {o : Oper} {a : Act} {Q : Exit → Act → World → Prop} (hgd : o.guard = none) (s x : Operand) (t : TypeId)
    (ho : o.op = .call { callee := .builtin .append, args := #[s, x], argTypes := #[t, t] })
    (base : Nat) (e : TypeId) (i : TypeInfo) (z : Value) (size bytes : Nat) (ht : P.underlying t = some (.slice e)) (hi : P.info? e = some i) (hz : i.zero = some z)
    (hsize : i.size = size) (hby : i.bytes = bytes) (hzs : z.cells.size = size) (hsz : 0 < size)
    (v : Value) (n : Nat) (xs : List Value) (hs : a.eval s = v) (hown : w.ownsRow base e size v n xs)
    (B : Nat) (A : Option Addr) (m c : Nat) (news : List Value) (hx : a.eval x = .slice A m c) (hr : Rd w B size A m news) (h1 : ∀ u ∈ news, u.oneCell' = true)
    (h63 : n + m ≤ maxLen) (hbytes : (n + m) * bytes ≤ 140737488355328) (hbase : base ≤ w.heap.size)
    (h : ∀ A' c' w', w'.ownsRow base e size (.slice A' (n + m) c') (n + m) (xs ++ news) → w.grownBy w' v.ownBlock →
      ((Value.slice A' (n + m) c').ownBlock = v.ownBlock ∨ (Value.slice A' (n + m) c').ownBlock = some w.heap.size) → wpList P ops Q rest (a.put o.dst (.slice A' (n + m) c')) w') : wpList P ops Q (o :: rest) a w :=
  wpList_plain hgd fun _ hK => wp_append_rd w s x t ho base e i z size bytes ht hi hz hsize hby hzs hsz v n xs hs hown B A m c news hx hr h1 h63 hbytes hbase fun A' c' w' h2 h3 h4 => hK _ _ (h A' c' w' h2 h3 h4)

/-- At a step of a region that draws its order. -/
theorem step_append_rd {ops : Array Oper} {o : Oper} {a : Act} {K : Act → World → Prop} {Q : Exit → Act → World → Prop} {E : Prop} (hgd : o.guard = none) (s x : Operand) (t : TypeId)
    (ho : o.op = .call { callee := .builtin .append, args := #[s, x], argTypes := #[t, t] })
    (base : Nat) (e : TypeId) (i : TypeInfo) (z : Value) (size bytes : Nat) (ht : P.underlying t = some (.slice e)) (hi : P.info? e = some i) (hz : i.zero = some z)
    (hsize : i.size = size) (hby : i.bytes = bytes) (hzs : z.cells.size = size) (hsz : 0 < size)
    (v : Value) (n : Nat) (xs : List Value) (hs : a.eval s = v) (hown : w.ownsRow base e size v n xs)
    (B : Nat) (A : Option Addr) (m c : Nat) (news : List Value) (hx : a.eval x = .slice A m c) (hr : Rd w B size A m news) (h1 : ∀ u ∈ news, u.oneCell' = true)
    (h63 : n + m ≤ maxLen) (hbytes : (n + m) * bytes ≤ 140737488355328) (hbase : base ≤ w.heap.size)
    (h : ∀ A' c' w', w'.ownsRow base e size (.slice A' (n + m) c') (n + m) (xs ++ news) → w.grownBy w' v.ownBlock →
      ((Value.slice A' (n + m) c').ownBlock = v.ownBlock ∨ (Value.slice A' (n + m) c').ownBlock = some w.heap.size) → K (a.put o.dst (.slice A' (n + m) c')) w') :
    if Region.wanted o (yielded ops a.tmps) = true then Oper.wp P o a w K Q else E := by
  rw [if_pos (by simp [Region.wanted, hgd])]
  exact wp_append_rd w s x t ho base e i z size bytes ht hi hz hsize hby hzs hsz v n xs hs hown B A m c news hx hr h1 h63 hbytes hbase h
end

/-- 's[i:]' as the model writes it: the old address where nothing is left of the capacity. -/
theorem Rd.drop {w : World} {B k n m c : Nat} {A : Option Addr} {xs : List Value} (h : Rd w B k A n xs) (hm : m ≤ n) (hc : n ≤ c) : Rd w B k (if c = m then A else A.map (·.add (m * k))) (n - m) (xs.drop (m * k)) := by
  refine ⟨by rw [List.length_drop, h.1, Nat.sub_mul], fun h0 => ?_⟩
  obtain ⟨ad, rfl, h2, h3, h4⟩ := h.2 (by omega)
  rw [if_neg (by omega)]
  have hmk : m * k ≤ n * k := Nat.mul_le_mul_right k hm
  have hadd : ad.add (m * k) = ⟨ad.block, ad.off + m * k, none⟩ := by
    unfold Addr.add
    split
    · rename_i h0; rw [h0]; cases ad; simp_all
    · rfl
  refine ⟨ad.add (m * k), rfl, by rw [hadd]; exact h2, by rw [hadd], fun j hj => ?_⟩
  rw [hadd]
  rw [Nat.sub_mul] at hj
  rw [List.getElem?_drop, ← h4 (m * k + j) (by omega)]
  simp only [Nat.add_assoc]

/-- What is cut away wholly reads as nothing, at whatever address. -/
theorem Rd.empty {w : World} {B k : Nat} (A : Option Addr) : Rd w B k A 0 [] := ⟨by simp, fun h => absurd h (by omega)⟩

end Go.Proofs.YtbllehjhmfehbaaGreat
end

section
/- Graphs as data: texts, nodes, edges; how they lie in cells. -/
namespace Go.Proofs.YtbllehjhmfehbaaGreat
open Go.RowKit

abbrev Str := List UInt8
/-- A text as a value. -/
abbrev sv (s : Str) : Value := .string ⟨s.toArray⟩
abbrev Nd := Str × Int × Int
abbrev Ed := Str × Str × Int
abbrev Pr := Str × Str
def ndC (n : Nd) : List Value := [sv n.1, .int .i64 n.2.1, .int .i64 n.2.2]
def edC (e : Ed) : List Value := [sv e.1, sv e.2.1, .int .i64 e.2.2]
def prC (p : Pr) : List Value := [sv p.1, sv p.2]
def ndsC (l : List Nd) : List Value := l.flatMap ndC
def edsC (l : List Ed) : List Value := l.flatMap edC
def prsC (l : List Pr) : List Value := l.flatMap prC
def svs (l : List Str) : List Value := l.map sv

/-- Cells of a row of equal parts. -/
theorem flat_at {α : Type} (c : α → List Value) (k : Nat) (hc : ∀ x, (c x).length = k) : ∀ (l : List α) (i u : Nat) (hi : i < l.length), u < k → (l.flatMap c)[i * k + u]? = (c l[i])[u]?
  | x :: l, 0, u, _, hu => by
    simp only [List.flatMap_cons, Nat.zero_mul, Nat.zero_add, List.getElem_cons_zero]
    rw [List.getElem?_append_left (by rw [hc]; exact hu)]
  | x :: l, i + 1, u, hi, hu => by
    simp only [List.flatMap_cons, List.getElem_cons_succ]
    rw [List.getElem?_append_right (by rw [hc, Nat.add_mul]; omega), hc, show (i + 1) * k + u - k = i * k + u from by rw [Nat.add_mul]; omega]
    exact flat_at c k hc l i u (by simpa using hi) hu
theorem flat_len {α : Type} (c : α → List Value) (k : Nat) (hc : ∀ x, (c x).length = k) (l : List α) : (l.flatMap c).length = l.length * k := by
  induction l with
  | nil => simp
  | cons x l ih => simp [hc, ih, Nat.add_mul]; omega

theorem edC_len (e : Ed) : (edC e).length = 3 := rfl
theorem ndC_len (n : Nd) : (ndC n).length = 3 := rfl
theorem prC_len (p : Pr) : (prC p).length = 2 := rfl

/-- The three cells of an edge. -/
theorem Rd.edge {w : World} {B : Nat} {A : Option Addr} {es : List Ed} (h : Rd w B 3 A es.length (edsC es)) {i : Nat} (hi : i < es.length) :
    ∃ b o : Nat, A = some ⟨b, o, none⟩ ∧ b < B ∧ w.cell? ⟨b, o + i * 3, none⟩ = some (sv es[i].1) ∧ w.cell? ⟨b, o + i * 3 + 1, none⟩ = some (sv es[i].2.1) ∧ w.cell? ⟨b, o + i * 3 + 2, none⟩ = some (.int .i64 es[i].2.2) := by
  obtain ⟨b, o, e, hb, hc⟩ := h.open (by omega)
  have h0 := flat_at edC 3 edC_len es i 0 hi (by omega)
  have h1 := flat_at edC 3 edC_len es i 1 hi (by omega)
  have h2 := flat_at edC 3 edC_len es i 2 hi (by omega)
  refine ⟨b, o, e, hb, ?_, ?_, ?_⟩
  · exact (hc (i * 3) (by omega)).trans h0
  · exact (hc (i * 3 + 1) (by omega)).trans h1
  · exact (hc (i * 3 + 2) (by omega)).trans h2
theorem Rd.node {w : World} {B : Nat} {A : Option Addr} {ns : List Nd} (h : Rd w B 3 A ns.length (ndsC ns)) {i : Nat} (hi : i < ns.length) :
    ∃ b o : Nat, A = some ⟨b, o, none⟩ ∧ b < B ∧ w.cell? ⟨b, o + i * 3, none⟩ = some (sv ns[i].1) ∧ w.cell? ⟨b, o + i * 3 + 1, none⟩ = some (.int .i64 ns[i].2.1) ∧ w.cell? ⟨b, o + i * 3 + 2, none⟩ = some (.int .i64 ns[i].2.2) := by
  obtain ⟨b, o, e, hb, hc⟩ := h.open (by omega)
  have h0 := flat_at ndC 3 ndC_len ns i 0 hi (by omega)
  have h1 := flat_at ndC 3 ndC_len ns i 1 hi (by omega)
  have h2 := flat_at ndC 3 ndC_len ns i 2 hi (by omega)
  refine ⟨b, o, e, hb, ?_, ?_, ?_⟩
  · exact (hc (i * 3) (by omega)).trans h0
  · exact (hc (i * 3 + 1) (by omega)).trans h1
  · exact (hc (i * 3 + 2) (by omega)).trans h2
theorem Rd.pair {w : World} {B : Nat} {A : Option Addr} {ps : List Pr} (h : Rd w B 2 A ps.length (prsC ps)) {i : Nat} (hi : i < ps.length) :
    ∃ b o : Nat, A = some ⟨b, o, none⟩ ∧ b < B ∧ w.cell? ⟨b, o + i * 2, none⟩ = some (sv ps[i].1) ∧ w.cell? ⟨b, o + i * 2 + 1, none⟩ = some (sv ps[i].2) := by
  obtain ⟨b, o, e, hb, hc⟩ := h.open (by omega)
  have h0 := flat_at prC 2 prC_len ps i 0 hi (by omega)
  have h1 := flat_at prC 2 prC_len ps i 1 hi (by omega)
  refine ⟨b, o, e, hb, ?_, ?_⟩
  · exact (hc (i * 2) (by omega)).trans h0
  · exact (hc (i * 2 + 1) (by omega)).trans h1
theorem Rd.str {w : World} {B : Nat} {A : Option Addr} {ss : List Str} (h : Rd w B 1 A ss.length (svs ss)) {i : Nat} (hi : i < ss.length) :
    ∃ b o : Nat, A = some ⟨b, o, none⟩ ∧ b < B ∧ w.cell? ⟨b, o + i, none⟩ = some (sv ss[i]) := by
  obtain ⟨b, o, e, hb, hc⟩ := h.open (by omega)
  refine ⟨b, o, e, hb, ?_⟩
  rw [hc i (by omega)]
  simp [svs, hi]

theorem cell_blk {w : World} {a : Addr} {v : Value} (h : w.cell? a = some v) : a.block < w.heap.size := by
  rcases Nat.lt_or_ge a.block w.heap.size with h1 | h1
  · exact h1
  · unfold World.cell? at h
    rw [Array.getElem?_eq_none h1] at h
    cases h

/-- All old cells and marks read as before: what the walk wants behind a call that has made memory. -/
theorem bcell {W w1 : World} (hb : Below W.heap.size W w1) : (∀ b o, b < W.heap.size → w1.cell? ⟨b, o, none⟩ = W.cell? ⟨b, o, none⟩) ∧ (∀ b o, b < W.heap.size → w1.frozen? ⟨b, o, none⟩ = W.frozen? ⟨b, o, none⟩) :=
  ⟨fun b o h => hb.cell (p := ⟨b, o, none⟩) h, fun b o h => hb.frozen (p := ⟨b, o, none⟩) h⟩

end Go.Proofs.YtbllehjhmfehbaaGreat
end

section
/- Moves through a region that draws its order, one operation after another (what a guard shuts out too). No program. -/
namespace Go.Proofs.YtbllehjhmfehbaaGreat
open Go.RowKit
section
variable {P : Program} {ops : Array Oper} {Q : Exit → Act → World → Prop} {md : Region.Mode} {S : World → Prop}
variable {i : Nat} {dst : Option Tmp} {op : Op} {ty : TypeId} {pos : String} {aft : Array Edge} {grd : Option (Nat × Bool)} {v : Value} {fuel : Nat} {listed : Array Bool} {a : Act} {w : World}
/-- What yields its value in every world that meets S is taken first. -/
theorem take_yield (hi : ops[i]? = some ⟨dst, op, ty, pos, aft, grd⟩) (hs : Region.noSelect ops = true) (hf : Region.free md ops listed i = true) (hr : (Region.ready md ops listed).contains i = true)
    (hQ : ∀ c a w, Q (.panic c) (a.put dst v) w → Q (.panic c) a w) (hw : Region.wanted ⟨dst, op, ty, pos, aft, grd⟩ (yielded ops a.tmps) = true) (hy : ∀ w, S w → (execOp a.eval ⟨dst, op, ty, pos, aft, grd⟩).run P w = .ok (.value v) w)
    (hS : S w) (h : wpAnyH P md ops Q S fuel (listed.setIfInBounds i true) (a.put dst v) w) : wpAnyH P md ops Q S (fuel + 1) listed a w :=
  wpAnyH_take hi hs hf hr hQ (.inl ⟨hw, hy⟩) hS h
/-- What its guard shuts out is passed by. -/
theorem take_skip (hi : ops[i]? = some ⟨dst, op, ty, pos, aft, grd⟩) (hs : Region.noSelect ops = true) (hf : Region.free md ops listed i = true) (hr : (Region.ready md ops listed).contains i = true)
    (hQ : ∀ c a w, Q (.panic c) (a.put dst undef) w → Q (.panic c) a w) (hw : Region.wanted ⟨dst, op, ty, pos, aft, grd⟩ (yielded ops a.tmps) = false)
    (hS : S w) (h : wpAnyH P md ops Q S fuel (listed.setIfInBounds i true) (a.put dst undef) w) : wpAnyH P md ops Q S (fuel + 1) listed a w :=
  wpAnyH_take hi hs hf hr hQ (.inr ⟨hw, rfl⟩) hS h
/-- One alone may come up. -/
theorem ready_one (hi : ops[i]? = some ⟨dst, op, ty, pos, aft, grd⟩) (hr : Region.ready md ops listed = [i])
    (h : ∀ K' : Act → World → Prop, Shut (∀ a w, S w → (S w → wpAnyH P md ops Q S fuel (listed.setIfInBounds i true) a w) → K' a w) → if Region.wanted ⟨dst, op, ty, pos, aft, grd⟩ (yielded ops a.tmps) = true then Oper.wp P ⟨dst, op, ty, pos, aft, grd⟩ a w K' Q else K' (a.put dst undef) w) :
    wpAnyH P md ops Q S (fuel + 1) listed a w :=
  wpAnyH_ready hr (by simp) (AllReadyH.cons hi h AllReadyH.nil)
end
end Go.Proofs.YtbllehjhmfehbaaGreat
end

section
/- The moves through a region that draws its order, in short. No program. -/
namespace Go.Proofs.YtbllehjhmfehbaaGreat
open Go.RowKit
section
variable {P : Program} {ops : Array Oper} {Q : Exit → Act → World → Prop} {md : Region.Mode} {S : World → Prop}
variable {i : Nat} {dst : Option Tmp} {op : Op} {ty : TypeId} {pos : String} {aft : Array Edge} {grd : Option (Nat × Bool)} {v : Value} {fuel : Nat} {listed : Array Bool} {a : Act} {w : World}
theorem tY (hi : ops[i]? = some ⟨dst, op, ty, pos, aft, grd⟩) (hy : ∀ w, S w → (execOp a.eval ⟨dst, op, ty, pos, aft, grd⟩).run P w = .ok (.value v) w)
    (hS : S w) (h : wpAnyH P md ops Q S fuel (listed.setIfInBounds i true) (a.put dst v) w)
    (hs : Region.noSelect ops = true := by kernel_rfl) (hf : Region.free md ops listed i = true := by kernel_rfl) (hr : (Region.ready md ops listed).contains i = true := by kernel_rfl)
    (hQ : ∀ c a w, Q (.panic c) (a.put dst v) w → Q (.panic c) a w := by exact fun _ _ _ h => h) (hw : Region.wanted ⟨dst, op, ty, pos, aft, grd⟩ (yielded ops a.tmps) = true := by rfl) :
    wpAnyH P md ops Q S (fuel + 1) listed a w := take_yield hi hs hf hr hQ hw hy hS h
theorem tS (hi : ops[i]? = some ⟨dst, op, ty, pos, aft, grd⟩)
    (hS : S w) (h : wpAnyH P md ops Q S fuel (listed.setIfInBounds i true) (a.put dst undef) w)
    (hs : Region.noSelect ops = true := by kernel_rfl) (hf : Region.free md ops listed i = true := by kernel_rfl) (hr : (Region.ready md ops listed).contains i = true := by kernel_rfl)
    (hQ : ∀ c a w, Q (.panic c) (a.put dst undef) w → Q (.panic c) a w := by exact fun _ _ _ h => h) (hw : Region.wanted ⟨dst, op, ty, pos, aft, grd⟩ (yielded ops a.tmps) = false := by rfl) :
    wpAnyH P md ops Q S (fuel + 1) listed a w := take_skip hi hs hf hr hQ hw hS h
end
theorem zn1 {α : Type} {l : List α} {i : Nat} {a : α} : l.toArray.setIfInBounds i a = (l.set i a).toArray := List.setIfInBounds_toArray ..
theorem zn2 {α : Type} {l : List α} {a b : α} : (a :: l).set 0 b = b :: l := rfl
theorem zn3 {α : Type} {l : List α} {n : Nat} {a b : α} : (a :: l).set (n + 1) b = a :: l.set n b := rfl
end Go.Proofs.YtbllehjhmfehbaaGreat
end

section
/- The moves through a region that draws its order, shorter still (for texts whose bytes count). No program. -/
namespace Go.Proofs.YtbllehjhmfehbaaGreat
open Go.RowKit
section
variable {P : Program} {ops : Array Oper} {Q : Exit → Act → World → Prop} {md : Region.Mode} {S : World → Prop}
variable {dst : Option Tmp} {op : Op} {ty : TypeId} {pos : String} {aft : Array Edge} {grd : Option (Nat × Bool)} {fuel : Nat} {listed : Array Bool} {a : Act} {w : World}
theorem tV (i : Nat) (v : Value) (hy : ∀ w, S w → (execOp a.eval ⟨dst, op, ty, pos, aft, grd⟩).run P w = .ok (.value v) w) (h : wpAnyH P md ops Q S fuel (listed.setIfInBounds i true) (a.put dst v) w)
    (hi : ops[i]? = some ⟨dst, op, ty, pos, aft, grd⟩ := by rfl) (hS : S w := by assumption)
    (hs : Region.noSelect ops = true := by kernel_rfl) (hf : Region.free md ops listed i = true := by kernel_rfl) (hr : (Region.ready md ops listed).contains i = true := by kernel_rfl)
    (hQ : ∀ c a w, Q (.panic c) (a.put dst v) w → Q (.panic c) a w := by exact fun _ _ _ h => h) (hw : Region.wanted ⟨dst, op, ty, pos, aft, grd⟩ (yielded ops a.tmps) = true := by rfl) :
    wpAnyH P md ops Q S (fuel + 1) listed a w := take_yield hi hs hf hr hQ hw hy hS h
theorem tU (i : Nat) (h : wpAnyH P md ops Q S fuel (listed.setIfInBounds i true) (a.put dst undef) w)
    (hi : ops[i]? = some ⟨dst, op, ty, pos, aft, grd⟩ := by rfl) (hS : S w := by assumption)
    (hs : Region.noSelect ops = true := by kernel_rfl) (hf : Region.free md ops listed i = true := by kernel_rfl) (hr : (Region.ready md ops listed).contains i = true := by kernel_rfl)
    (hQ : ∀ c a w, Q (.panic c) (a.put dst undef) w → Q (.panic c) a w := by exact fun _ _ _ h => h) (hw : Region.wanted ⟨dst, op, ty, pos, aft, grd⟩ (yielded ops a.tmps) = false := by rfl) :
    wpAnyH P md ops Q S (fuel + 1) listed a w := take_skip hi hs hf hr hQ hw hS h
end
theorem bq {B : Nat} {w w' : World} (h : Below B w w' := by repeat (first | exact Below.refl _ _ | assumption | refine Below.alloc ?_ (by simp <;> omega) _ | refine Below.setCell ?_ (by simp <;> omega) _ | refine Below.drew ?_)) : Below B w w' := h
theorem bq2 {B : Nat} {w w' : World} (h : Below B w w' := by repeat (first | exact Below.refl _ _ | assumption | refine Below.alloc ?_ (by first | omega | (simp <;> omega)) _ | refine Below.setCell ?_ (by first | omega | (simp <;> omega)) _ | refine Below.drew ?_)) : Below B w w' := h
end Go.Proofs.YtbllehjhmfehbaaGreat
end

section
/- The walks of package order: what comes directly ahead. -/
namespace Go.Proofs.YtbllehjhmfehbaaGreat
open Go.RowKit

namespace Od
/-- The pair that an edge says: the first one ahead of the second one. -/
def pairOf (e : Ed) : Option Pr := if e.2.2 = 8 then some (e.2.1, e.1) else if e.2.2 = 7 then some (e.1, e.2.1) else none

theorem any_take_succ {α : Type} {p : α → Bool} {l : List α} {k : Nat} (hk : k < l.length) : (l.take (k + 1)).any p = ((l.take k).any p || p l[k]) := by
 rw [List.take_succ_eq_append_getElem hk]; simp only [List.any_append, List.any_cons, List.any_nil, Bool.or_false]
theorem any_of_at {α : Type} {p : α → Bool} {l : List α} {k : Nat} (hk : k < l.length) (h : p l[k] = true) : l.any p = true := List.any_eq_true.2 ⟨l[k], List.getElem_mem hk, h⟩

/-- Does an edge say that a is directly ahead of b? -/
def aheadB (a b : Str) (e : Ed) : Bool := pairOf e == some (a, b)

/-- A graph as a value. -/
abbrev gV (An : Option Addr) (nn cn : Nat) (Ae : Option Addr) (ne ce : Nat) : Value := .agg #[.slice An nn cn, .slice Ae ne ce]

end Od
end Go.Proofs.YtbllehjhmfehbaaGreat
end

section
/- The walks of small helpers: is an edge there, is a text in a row, are two rows alike. -/
namespace Go.Proofs.YtbllehjhmfehbaaGreat
open Go.RowKit

namespace Od
end Od
end Go.Proofs.YtbllehjhmfehbaaGreat
end

section
/- The walks of the references' helpers: are two rows of texts alike; has a row a text; are two graphs alike. -/
namespace Go.Proofs.YtbllehjhmfehbaaGreat
open Go.RowKit

namespace Od
theorem eq_of_at {α : Type} {xs ys : List α} (hl : xs.length = ys.length) (h : ∀ j (h1 : j < xs.length) (h2 : j < ys.length), xs[j] = ys[j]) : xs = ys := List.ext_getElem hl h
theorem at_ne {α : Type} {xs ys : List α} {k : Nat} (hx : k < xs.length) (hy : k < ys.length) (h : xs[k] ≠ ys[k]) : xs ≠ ys := fun e => by subst e; exact h rfl

def hasB (xs : List Str) (s : Str) : Bool := xs.contains s
theorem hasB_iff (xs : List Str) (s : Str) : hasB xs s = true ↔ s ∈ xs := by unfold hasB; simp
theorem hasB_any (xs : List Str) (s : Str) : xs.any (· == s) = hasB xs s := by unfold hasB; rw [List.any_beq']

set_option maxRecDepth 100000 in
set_option maxHeartbeats 1000000 in
theorem HasS_any (A : Option Addr) (c : Nat) (xs : List Str) (s : Str) (w : World) (hr : Rd w w.heap.size 1 A xs.length (svs xs)) (hb : xs.length ≤ 140737488355328) :
  Calls Tryz.prog 21 #[.slice A xs.length c, sv s] w fun e w' => e = .returned (.bool (hasB xs s)) ∧ w = w' := by
 have Hr := Lib.hid hr
 clear hr
 go_enter Tryz.func21, Tryz.ntmps21
 go_wp2_with fail
 go_loop [9] (fun i => ∃ k : Nat, k ≤ xs.length ∧ i = .int .i64 k ∧ Hid ((xs.take k).any (· == s) = false)) (fun i => xs.length - (intOf i).toNat)
 case atStart => exact ⟨0, Nat.zero_le _, rfl, by simp [Hid]⟩
 case round =>
  obtain ⟨k, hk, rfl, hall⟩ := hrel
  by_cases hlt : k < xs.length
  ·obtain ⟨b, o, rfl, hB, hcell⟩ := Hr.out.str hlt
   generalize hx : xs[k] = x at hcell
   have Hx := Lib.hid hx
   clear hx
   cases hne : (x == s)
   ·have Hne := Lib.hid hne
    go_wp2_with fail
    go_round
    case rel => exact ⟨k + 1, by omega, by go_num, by show _ = false; rw [any_take_succ hlt, hall.out, Hx.out, Hne.out]; rfl⟩
    case measure => simp [intOf]; omega
   ·have Hne := Lib.hid hne
    go_wp2_with fail
    go_ret
    exact ⟨ret_bool (by
     have := any_of_at (p := (· == s)) hlt (by rw [Hx.out]; exact Hne.out)
     rw [hasB_any] at this
     exact this.symm), rfl⟩
  ·have ha := hall.out
   rw [List.take_of_length_le (by omega), hasB_any] at ha
   have Ha := Lib.hid ha
   clear ha
   go_wp2_with fail
   go_ret
   exact ⟨ret_bool (by rw [Ha.out]), rfl⟩
end Od
end Go.Proofs.YtbllehjhmfehbaaGreat
end

section
/- The walks of cmp.Compare, cmp.Or and of what tells which of two edges or nodes stands ahead. -/
namespace Go.Proofs.YtbllehjhmfehbaaGreat
open Go.RowKit

namespace Od
def lessS (a b : Str) : Bool := Op.bytesLess a b
def cmpS (a b : Str) : Int := if lessS a b = true then -1 else if a = b then 0 else 1
def cmpI (a b : Int) : Int := if a < b then -1 else if b < a then 1 else 0
def orI : List Int → Int
 | [] => 0
 | x :: r => if x = 0 then orI r else x
def edgeCmp (e f : Ed) : Int := orI [cmpS e.1 f.1, cmpS e.2.1 f.2.1, cmpI e.2.2 f.2.2]

set_option maxHeartbeats 400000 in
theorem isNaNS_any (a : Str) (w : World) : Calls Tryz.prog 110 #[sv a] w fun e w' => e = .returned (.bool false) ∧ w = w' := by
 go_enter Tryz.func110, Tryz.ntmps110
 go_wp2
 go_ret
 exact ⟨ret_bool (by simp), rfl⟩

set_option maxHeartbeats 400000 in
theorem isNaNI_any (a : Int) (w : World) : Calls Tryz.prog 136 #[.int .i64 a] w fun e w' => e = .returned (.bool false) ∧ w = w' := by
 go_enter Tryz.func136, Tryz.ntmps136
 go_wp2
 go_ret
 exact ⟨ret_bool (by simp), rfl⟩

def IntIs (v : Int) (w : World) (e : Ending) (w' : World) : Prop := e = .returned (.int .i64 v) ∧ w = w'

set_option maxHeartbeats 400000 in
theorem CompareS_any (a b : Str) (w : World) : Calls Tryz.prog 68 #[sv a, sv b] w (IntIs (cmpS a b) w) := by
 cases h1 : Op.bytesLess a b
 ·by_cases h2 : a = b
  ·subst h2
   go_enter Tryz.func68, Tryz.ntmps68
   go_wp2_with ((go_at_call 110; refine (isNaNS_any _ _).mono ?_; rintro e w' ⟨rfl, rfl⟩))
   all_goals go_ret
   all_goals exact ⟨ret_int (by simp_all [cmpS, lessS]), rfl⟩
  ·go_enter Tryz.func68, Tryz.ntmps68
   go_wp2_with ((go_at_call 110; refine (isNaNS_any _ _).mono ?_; rintro e w' ⟨rfl, rfl⟩))
   all_goals go_ret
   all_goals exact ⟨ret_int (by simp_all [cmpS, lessS]), rfl⟩
 ·go_enter Tryz.func68, Tryz.ntmps68
  go_wp2_with ((go_at_call 110; refine (isNaNS_any _ _).mono ?_; rintro e w' ⟨rfl, rfl⟩))
  all_goals go_ret
  all_goals exact ⟨ret_int (by simp_all [cmpS, lessS]), rfl⟩

set_option maxHeartbeats 400000 in
theorem CompareI_any (a b : Int) (w : World) : Calls Tryz.prog 94 #[.int .i64 a, .int .i64 b] w (IntIs (cmpI a b) w) := by
 go_enter Tryz.func94, Tryz.ntmps94
 go_wp2_with ((go_at_call 136; refine (isNaNI_any _ _).mono ?_; rintro e w' ⟨rfl, rfl⟩))
 all_goals go_ret
 all_goals refine ⟨ret_int ?_, rfl⟩
 all_goals (unfold cmpI; (repeat' split) <;> omega)

theorem orI_cons0 (r : List Int) : orI (0 :: r) = orI r := rfl
theorem orI_cons {x : Int} (h : x ≠ 0) (r : List Int) : orI (x :: r) = x := by simp [orI, h]
theorem orI_app0 (b : List Int) : ∀ (a : List Int), orI a = 0 → orI (a ++ b) = orI b
 | [], _ => rfl
 | x :: r, ha => by
  rcases Decidable.em (x = 0) with h | h
  ·subst h
   rw [List.cons_append, orI_cons0]
   rw [orI_cons0] at ha
   exact orI_app0 b r ha
  ·rw [orI_cons h] at ha
   exact absurd ha h
theorem orI_take {xs : List Int} {k : Nat} (hk : k < xs.length) (h0 : orI (xs.take k) = 0) (hx : xs[k] ≠ 0) : orI xs = xs[k] := by
 have e : xs = xs.take k ++ (xs[k] :: xs.drop (k + 1)) := by rw [List.getElem_cons_drop, List.take_append_drop]
 have h := orI_app0 (xs[k] :: xs.drop (k + 1)) (xs.take k) h0
 rw [← e, orI_cons hx] at h
 exact h

set_option maxHeartbeats 400000 in
theorem Or_any (A : Option Addr) (c : Nat) (xs : List Int) (w : World) (hr : Rd w w.heap.size 1 A xs.length (ints xs)) (hl : xs.length ≤ 1000000) :
  Calls Tryz.prog 93 #[.slice A xs.length c] w (IntIs (orI xs) w) := by
 have Hr := Lib.hid hr
 clear hr
 go_enter Tryz.func93, Tryz.ntmps93
 go_wp2_with fail
 go_loop [8] (fun i => ∃ k : Nat, k ≤ xs.length ∧ i = .int .i64 k ∧ Hid (orI (xs.take k) = 0)) (fun i => xs.length - (intOf i).toNat)
 case atStart => exact ⟨0, Nat.zero_le _, rfl, rfl⟩
 case round =>
  obtain ⟨k, hk, rfl, hall⟩ := hrel
  by_cases hlt : k < xs.length
  ·obtain ⟨b, o, rfl, hB, hc⟩ := Hr.out.open (by omega)
   have hcell : w.cell? ⟨b, o + k, none⟩ = some (.int .i64 xs[k]) := by rw [hc k (by omega), ints_at hlt]
   clear hc
   generalize hx : xs[k] = x at hcell
   have Hx := Lib.hid hx
   clear hx
   cases hne : (x != 0)
   ·have Hne := Lib.hid hne
    go_wp2_with fail
    go_round
    case rel => exact ⟨k + 1, by omega, by go_num, by
     show _ = (0 : Int)
     rw [List.take_succ_eq_append_getElem hlt, orI_app0 _ _ hall.out, Hx.out]
     have : x = 0 := by simpa using Hne.out
     rw [this]; rfl⟩
    case measure => simp [intOf]; omega
   ·have Hne := Lib.hid hne
    go_wp2_with fail
    go_ret
    exact ⟨ret_int (by rw [orI_take hlt hall.out (by rw [Hx.out]; simpa using Hne.out), Hx.out]), rfl⟩
  ·have ha := hall.out
   rw [List.take_of_length_le (by omega)] at ha
   have Ha := Lib.hid ha
   clear ha
   go_wp2_with fail
   go_ret
   exact ⟨ret_int (by rw [Ha.out]), rfl⟩

def IntIsB (v : Int) (w : World) (e : Ending) (w' : World) : Prop := e = .returned (.int .i64 v) ∧ Below w.heap.size w w'

set_option maxHeartbeats 400000 in
theorem byName_any (a b : Nd) (w : World) :
  Calls Tryz.prog 58 #[.agg #[sv a.1, .int .i64 a.2.1, .int .i64 a.2.2], .agg #[sv b.1, .int .i64 b.2.1, .int .i64 b.2.2]] w (IntIsB (cmpS a.1 b.1) w) := by
 obtain ⟨n, k, s⟩ := a
 obtain ⟨n', k', s'⟩ := b
 go_enter Tryz.func58, Tryz.ntmps58
 go_wp2_with fail
 refine (CompareS_any _ _ _).mono ?_
 rintro e w2 ⟨rfl, rfl⟩
 go_wp2_with fail
 go_ret
 exact ⟨rfl, ((Below.refl _ _).alloc (Nat.le_refl _) _).alloc (by simp) _⟩

set_option maxRecDepth 100000 in
set_option maxHeartbeats 1000000 in
theorem byEdge_any (a b a' b' : Str) (x y : Int) (w : World) :
  Calls Tryz.prog 60 #[.agg #[sv a, sv b, .int .i64 x], .agg #[sv a', sv b', .int .i64 y]] w (IntIsB (edgeCmp (a, b, x) (a', b', y)) w) := by
 have h3 : Rd ((((w.alloc (.cells #[sv a, sv b, .int .i64 x] 45)).alloc (.cells #[sv a', sv b', .int .i64 y] 45)).alloc (.cells #[.int .i64 (cmpS a a'), .int .i64 (cmpS b b'), .int .i64 (cmpI x y)] 3)).drew) ((((w.alloc (.cells #[sv a, sv b, .int .i64 x] 45)).alloc (.cells #[sv a', sv b', .int .i64 y] 45)).alloc (.cells #[.int .i64 (cmpS a a'), .int .i64 (cmpS b b'), .int .i64 (cmpI x y)] 3)).drew).heap.size 1 (some ⟨w.heap.size + 1 + 1, 0, none⟩) 3 (ints [cmpS a a', cmpS b b', cmpI x y]) := by
  have h := (Rd.lit ((w.alloc (.cells #[sv a, sv b, .int .i64 x] 45)).alloc (.cells #[sv a', sv b', .int .i64 y] 45)) (ints [cmpS a a', cmpS b b', cmpI x y]) 3 1 3 rfl).drew
  simp only [World.size_alloc] at h
  exact h.more (by simp)
 have H3 := Lib.hid h3
 clear h3
 go_enter Tryz.func60, Tryz.ntmps60
 go_wp2_with fail
 go_region_held3 (fun w' => w'.cell? ⟨w.heap.size, 0, none⟩ = some (sv a) ∧ w'.cell? ⟨w.heap.size, 1, none⟩ = some (sv b) ∧ w'.cell? ⟨w.heap.size, 2, none⟩ = some (.int .i64 x) ∧ w'.cell? ⟨w.heap.size + 1, 0, none⟩ = some (sv a') ∧ w'.cell? ⟨w.heap.size + 1, 1, none⟩ = some (sv b') ∧ w'.cell? ⟨w.heap.size + 1, 2, none⟩ = some (.int .i64 y)) (go_keep)
  (first | (go_at_call 68; refine (CompareS_any _ _ _).mono ?_; rintro e w' ⟨rfl, rfl⟩) | (go_at_call 94; refine (CompareI_any _ _ _).mono ?_; rintro e w' ⟨rfl, rfl⟩) | (go_at_call 93; refine (Or_any (some ⟨w.heap.size + 1 + 1, 0, none⟩) 3 [cmpS a a', cmpS b b', cmpI x y] _ H3.out (by simp)).mono ?_; rintro e w' ⟨rfl, rfl⟩))
 go_wp2_with fail
 go_ret
 exact ⟨rfl, ((((Below.refl _ _).alloc (Nat.le_refl _) _).alloc (by simp) _).alloc (by simp; omega) _).drew⟩
end Od
end Go.Proofs.YtbllehjhmfehbaaGreat
end

section
/- The walks of graph.rises at edges and nodes. -/
namespace Go.Proofs.YtbllehjhmfehbaaGreat
open Go.RowKit

namespace Od
def risesB {α : Type} (c : α → α → Int) : List α → Bool
 | x :: y :: r => decide (c x y < 0) && risesB c (y :: r)
 | _ => true
theorem risesB_iff {α : Type} (c : α → α → Int) : ∀ (l : List α), risesB c l = true ↔ ∀ i (h : i + 1 < l.length), c l[i] l[i + 1] < 0
 | [] => by simp [risesB]
 | [x] => by simp [risesB]
 | x :: y :: r => by
  have ih := risesB_iff c (y :: r)
  unfold risesB
  rw [Bool.and_eq_true, decide_eq_true_eq, ih]
  constructor
  ·rintro ⟨h1, h2⟩ i hi
   cases i with
   | zero => exact h1
   | succ i => exact h2 i (by simpa using hi)
  ·intro h
   exact ⟨h 0 (by simp), fun i hi => h (i + 1) (by simpa using hi)⟩

def nodeCmp (a b : Nd) : Int := cmpS a.1 b.1

set_option maxRecDepth 100000 in
set_option maxHeartbeats 1000000 in
theorem risesE_any (A : Option Addr) (c : Nat) (es : List Ed) (w : World) (hr : Rd w w.heap.size 3 A es.length (edsC es)) (hl : es.length ≤ 1000000) :
  Calls Tryz.prog 59 #[.slice A es.length c, .func (.func 60) #[] #[]] w fun e w' => e = .returned (.bool (risesB edgeCmp es)) ∧ Below w.heap.size w w' := by
 have Hr := Lib.hid hr
 clear hr
 go_enter Tryz.func59, Tryz.ntmps59
 go_wp2_with fail
 go_loopw [5] (fun i wr => ∃ k : Nat, 1 ≤ k ∧ (k ≤ es.length ∨ k = 1) ∧ i = .int .i64 k ∧ Hid (∀ j (h : j + 1 < es.length), j + 1 < k → edgeCmp es[j] es[j + 1] < 0) ∧ Below w.heap.size w wr) (fun i _ => es.length + 1 - (intOf i).toNat)
 case atStart => exact ⟨1, by omega, .inr rfl, rfl, fun j _ h => absurd h (by omega), Below.refl _ _⟩
 case round =>
  obtain ⟨k, hk1, hk, rfl, hall, hbel⟩ := hrel
  by_cases hlt : k < es.length
  ·have hRr := Hr.out.on (Nat.le_refl _) hbel
   obtain ⟨b, o, rfl, hB, hc0, hc1, hc2⟩ := hRr.edge (i := k - 1) (by omega)
   obtain ⟨b', o', he, _, hd0, hd1, hd2⟩ := hRr.edge hlt
   injection he with he
   injection he with he1 he2
   subst he1 he2
   obtain ⟨j, rfl⟩ : ∃ j, k = j + 1 := ⟨k - 1, by omega⟩
   simp only [Nat.add_sub_cancel] at hc0 hc1 hc2
   have hz := hbel.size
   have n1 : b < wr.heap.size := by omega
   have Hbel := Lib.hid hbel
   clear hbel hRr
   generalize hx : es[j] = x at hc0 hc1 hc2
   generalize hy : es[j + 1] = y at hd0 hd1 hd2
   obtain ⟨s, d, r⟩ := x
   obtain ⟨s', d', r'⟩ := y
   have Hx := Lib.hid hx
   have Hy := Lib.hid hy
   clear hx hy
   simp only at hc0 hc1 hc2 hd0 hd1 hd2
   have k1 : (0 : Int) ≤ (j : Int) := by omega
   have k2 : (j : Int) < (es.length : Int) := by omega
   have k3 : (j : Int) + 1 < (es.length : Int) := by omega
   have k4 : IntKind.i64.wrap (j : Int) = j := IntWalk.i64_in _ (by omega)
   have k5 : IntKind.i64.wrap ((j : Int) + 1) = (j : Int) + 1 := IntWalk.i64_in _ (by omega)
   have k6 : ((j : Int) + 1).toNat = j + 1 := by omega
   have k7 : (0 : Int) ≤ (j : Int) + 1 := by omega
   have k8 : IntKind.i64.wrap ((j : Int) + 1 - 1) = j := by rw [show (j : Int) + 1 - 1 = j from by omega]; exact k4
   go_wp2_with fail
   go_region_held3 (fun w' => w'.cell? ⟨b, o + j * 3, none⟩ = some (sv s) ∧ w'.cell? ⟨b, o + j * 3 + 1, none⟩ = some (sv d) ∧ w'.cell? ⟨b, o + j * 3 + 2, none⟩ = some (.int .i64 r) ∧ w'.cell? ⟨b, o + (j + 1) * 3, none⟩ = some (sv s') ∧ w'.cell? ⟨b, o + (j + 1) * 3 + 1, none⟩ = some (sv d') ∧ w'.cell? ⟨b, o + (j + 1) * 3 + 2, none⟩ = some (.int .i64 r')) (first | go_keep | exact ⟨(hb2.cell (p := ⟨b, o + j * 3, none⟩) n1).trans hc0, (hb2.cell (p := ⟨b, o + j * 3 + 1, none⟩) n1).trans hc1, (hb2.cell (p := ⟨b, o + j * 3 + 2, none⟩) n1).trans hc2, (hb2.cell (p := ⟨b, o + (j + 1) * 3, none⟩) n1).trans hd0, (hb2.cell (p := ⟨b, o + (j + 1) * 3 + 1, none⟩) n1).trans hd1, (hb2.cell (p := ⟨b, o + (j + 1) * 3 + 2, none⟩) n1).trans hd2⟩)
    (first | (go_at_call 60; refine (byEdge_any _ _ _ _ _ _ _).mono ?_; rintro e w2 ⟨rfl, hb2⟩))
   have Hb3 := Lib.hid (Hbel.out.trans (show Below w.heap.size wr w2 from ⟨hb2.os, hb2.tape, hb2.output, hb2.size, fun i hi => hb2.block i (Nat.lt_of_lt_of_le hi hz)⟩))
   clear hb2
   by_cases hcmp : edgeCmp (s, d, r) (s', d', r') < 0
   ·have hcmp' : ¬ 0 ≤ edgeCmp (s, d, r) (s', d', r') := by omega
    go_wp2_with fail
    go_roundw
    case rel => exact ⟨j + 2, by omega, by omega, by go_num, fun i h1 h2 => by
     rcases Nat.lt_or_ge i j with h | h
     ·exact hall.out i h1 (by omega)
     ·obtain rfl : i = j := by omega
      rw [Hx.out, Hy.out]; exact hcmp, Hb3.out⟩
    case measure => simp [intOf]; omega
   ·have hcmp' : 0 ≤ edgeCmp (s, d, r) (s', d', r') := by omega
    go_wp2_with fail
    go_ret
    exact ⟨ret_bool (by
     symm
     rw [Bool.eq_false_iff, ne_eq, risesB_iff]
     intro h
     have := h j hlt
     rw [Hx.out, Hy.out] at this
     omega), Hb3.out⟩
  ·go_wp2_with fail
   go_ret
   exact ⟨ret_bool (by
    symm
    rw [risesB_iff]
    intro i hi
    exact hall.out i hi (by omega)), hbel⟩
set_option maxRecDepth 100000 in
set_option maxHeartbeats 1000000 in
theorem risesN_any (A : Option Addr) (c : Nat) (ns : List Nd) (w : World) (hr : Rd w w.heap.size 3 A ns.length (ndsC ns)) (hl : ns.length ≤ 1000000) :
  Calls Tryz.prog 57 #[.slice A ns.length c, .func (.func 58) #[] #[]] w fun e w' => e = .returned (.bool (risesB nodeCmp ns)) ∧ Below w.heap.size w w' := by
 have Hr := Lib.hid hr
 clear hr
 go_enter Tryz.func57, Tryz.ntmps57
 go_wp2_with fail
 go_loopw [5] (fun i wr => ∃ k : Nat, 1 ≤ k ∧ (k ≤ ns.length ∨ k = 1) ∧ i = .int .i64 k ∧ Hid (∀ j (h : j + 1 < ns.length), j + 1 < k → nodeCmp ns[j] ns[j + 1] < 0) ∧ Below w.heap.size w wr) (fun i _ => ns.length + 1 - (intOf i).toNat)
 case atStart => exact ⟨1, by omega, .inr rfl, rfl, fun j _ h => absurd h (by omega), Below.refl _ _⟩
 case round =>
  obtain ⟨k, hk1, hk, rfl, hall, hbel⟩ := hrel
  by_cases hlt : k < ns.length
  ·have hRr := Hr.out.on (Nat.le_refl _) hbel
   obtain ⟨b, o, rfl, hB, hc0, hc1, hc2⟩ := hRr.node (i := k - 1) (by omega)
   obtain ⟨b', o', he, _, hd0, hd1, hd2⟩ := hRr.node hlt
   injection he with he
   injection he with he1 he2
   subst he1 he2
   obtain ⟨j, rfl⟩ : ∃ j, k = j + 1 := ⟨k - 1, by omega⟩
   simp only [Nat.add_sub_cancel] at hc0 hc1 hc2
   have hz := hbel.size
   have n1 : b < wr.heap.size := by omega
   have Hbel := Lib.hid hbel
   clear hbel hRr
   generalize hx : ns[j] = x at hc0 hc1 hc2
   generalize hy : ns[j + 1] = y at hd0 hd1 hd2
   obtain ⟨s, d, r⟩ := x
   obtain ⟨s', d', r'⟩ := y
   have Hx := Lib.hid hx
   have Hy := Lib.hid hy
   clear hx hy
   simp only at hc0 hc1 hc2 hd0 hd1 hd2
   have k1 : (0 : Int) ≤ (j : Int) := by omega
   have k2 : (j : Int) < (ns.length : Int) := by omega
   have k3 : (j : Int) + 1 < (ns.length : Int) := by omega
   have k4 : IntKind.i64.wrap (j : Int) = j := IntWalk.i64_in _ (by omega)
   have k5 : IntKind.i64.wrap ((j : Int) + 1) = (j : Int) + 1 := IntWalk.i64_in _ (by omega)
   have k6 : ((j : Int) + 1).toNat = j + 1 := by omega
   have k7 : (0 : Int) ≤ (j : Int) + 1 := by omega
   have k8 : IntKind.i64.wrap ((j : Int) + 1 - 1) = j := by rw [show (j : Int) + 1 - 1 = j from by omega]; exact k4
   go_wp2_with fail
   go_region_held3 (fun w' => w'.cell? ⟨b, o + j * 3, none⟩ = some (sv s) ∧ w'.cell? ⟨b, o + j * 3 + 1, none⟩ = some (.int .i64 d) ∧ w'.cell? ⟨b, o + j * 3 + 2, none⟩ = some (.int .i64 r) ∧ w'.cell? ⟨b, o + (j + 1) * 3, none⟩ = some (sv s') ∧ w'.cell? ⟨b, o + (j + 1) * 3 + 1, none⟩ = some (.int .i64 d') ∧ w'.cell? ⟨b, o + (j + 1) * 3 + 2, none⟩ = some (.int .i64 r')) (first | go_keep | exact ⟨(hb2.cell (p := ⟨b, o + j * 3, none⟩) n1).trans hc0, (hb2.cell (p := ⟨b, o + j * 3 + 1, none⟩) n1).trans hc1, (hb2.cell (p := ⟨b, o + j * 3 + 2, none⟩) n1).trans hc2, (hb2.cell (p := ⟨b, o + (j + 1) * 3, none⟩) n1).trans hd0, (hb2.cell (p := ⟨b, o + (j + 1) * 3 + 1, none⟩) n1).trans hd1, (hb2.cell (p := ⟨b, o + (j + 1) * 3 + 2, none⟩) n1).trans hd2⟩)
    (first | (go_at_call 58; refine (byName_any (s, d, r) (s', d', r') _).mono ?_; rintro e w2 ⟨rfl, hb2⟩))
   have Hb3 := Lib.hid (Hbel.out.trans (show Below w.heap.size wr w2 from ⟨hb2.os, hb2.tape, hb2.output, hb2.size, fun i hi => hb2.block i (Nat.lt_of_lt_of_le hi hz)⟩))
   clear hb2
   by_cases hcmp : nodeCmp (s, d, r) (s', d', r') < 0
   ·have hcmp' : ¬ 0 ≤ nodeCmp (s, d, r) (s', d', r') := by omega
    go_wp2_with fail
    go_roundw
    case rel => exact ⟨j + 2, by omega, by omega, by go_num, fun i h1 h2 => by
     rcases Nat.lt_or_ge i j with h | h
     ·exact hall.out i h1 (by omega)
     ·obtain rfl : i = j := by omega
      rw [Hx.out, Hy.out]; exact hcmp, Hb3.out⟩
    case measure => simp [intOf]; omega
   ·have hcmp' : 0 ≤ nodeCmp (s, d, r) (s', d', r') := by omega
    go_wp2_with fail
    go_ret
    exact ⟨ret_bool (by
     symm
     rw [Bool.eq_false_iff, ne_eq, risesB_iff]
     intro h
     have := h j hlt
     rw [Hx.out, Hy.out] at this
     omega), Hb3.out⟩
  ·go_wp2_with fail
   go_ret
   exact ⟨ret_bool (by
    symm
    rw [risesB_iff]
    intro i hi
    exact hall.out i hi (by omega)), hbel⟩
end Od
end Go.Proofs.YtbllehjhmfehbaaGreat
end

section
/-
 DERIVED: THE SHELF's CONTRACTS AT THIS DUMP, IN PLAIN WORDS (tools/lay-plain.mjs out of 'TryzShelf.lean', which tools/lay-shelf.mjs wrote): THE SAME DECLARATIONS UNDER THE SAME NAMES: 'import', 'namespace', 'open', 'def', 'theorem' AND NOTHING ELSE: no command of the shelf's: FOR A HAND-IN. Each laying: the table of numbers ('.._ren') and one theorem, a field a fact of the dump's own or the kernel's comparison; each contract: ONE APPLICATION.
-/
namespace Go.Proofs.YtbllehjhmfehbaaGreat
open Go.Shelf
def Tryz.lays137_ren : Go.Shelf.Ren := ⟨fun | 137 => 221 | 217 => 236 | 266 => 243 | n => n, fun | 9 => 9 | 5 => 5 | 3 => 3 | n => n, fun | n => n⟩
theorem Tryz.lays137 : Go.Proofs.Lays.n137 Tryz.prog Tryz.lays137_ren := {
 mixed := by kernel_rfl
 f137 := Tryz.func221.trans (congrArg some (by kernel_rfl))
 f217 := Tryz.func236.trans (congrArg some (by kernel_rfl))
 f266 := Tryz.func243.trans (congrArg some (by kernel_rfl))
 t3 := Tryz.underlying3
 a3 := Tryz.isAgg3
 z3 := Tryz.sizeOf3
 v3 := Tryz.zeroValue3
 t5 := Tryz.underlying5
 a5 := Tryz.isAgg5
 z5 := Tryz.sizeOf5
 v5 := Tryz.zeroValue5
 t9 := Tryz.underlying9
 a9 := Tryz.isAgg9
 z9 := Tryz.sizeOf9
 v9 := Tryz.zeroValue9 }
open Go.RowKit in
/-- strings.IndexByte: "IndexByte returns the index of the first instance of c in s, or -1 if c is not present in s.": IT RETURNS 'Lib.indexByte s c'; the world is as it was. (LAID: no walk: one application.) -/
theorem Tryz.strings_IndexByte (s : ByteArray) (c : Int) (w : World) :
  Calls Tryz.prog 221 #[.string s, .int .u8 c] w fun e w' => e = .returned (.int .i64 (Lib.indexByte s.data.toList c.toNat.toUInt8)) ∧ w' = w := Any.strings_IndexByte Tryz.lays137 s c w
def Tryz.lays190_ren : Go.Shelf.Ren := ⟨fun | 190 => 83 | 125 => 92 | 258 => 122 | 128 => 134 | 129 => 135 | 302 => 162 | 303 => 163 | 304 => 164 | 305 => 165 | 306 => 166 | 307 => 167 | 308 => 168 | 309 => 169 | 310 => 170 | 333 => 203 | 329 => 182 | 330 => 183 | 334 => 204 | 335 => 205 | 336 => 110 | 344 => 231 | n => n, fun | 31 => 26 | 9 => 9 | 3 => 3 | 46 => 150 | 0 => 0 | 51 => 185 | 53 => 187 | 4 => 4 | 183 => 179 | 182 => 178 | 131 => 63 | 5 => 5 | 218 => 222 | 222 => 226 | 228 => 247 | 229 => 248 | n => n, fun | n => n⟩
theorem Tryz.lays190 : Go.Proofs.Lays.n190 Tryz.prog Tryz.lays190_ren := {
 mixed := by kernel_rfl
 f125 := Tryz.func92.trans (congrArg some (by kernel_rfl))
 f128 := Tryz.func134.trans (congrArg some (by kernel_rfl))
 f129 := Tryz.func135.trans (congrArg some (by kernel_rfl))
 f190 := Tryz.func83.trans (congrArg some (by kernel_rfl))
 f258 := Tryz.func122.trans (congrArg some (by kernel_rfl))
 f302 := Tryz.func162.trans (congrArg some (by kernel_rfl))
 f303 := Tryz.func163.trans (congrArg some (by kernel_rfl))
 f304 := Tryz.func164.trans (congrArg some (by kernel_rfl))
 f305 := Tryz.func165.trans (congrArg some (by kernel_rfl))
 f306 := Tryz.func166.trans (congrArg some (by kernel_rfl))
 f307 := Tryz.func167.trans (congrArg some (by kernel_rfl))
 f308 := Tryz.func168.trans (congrArg some (by kernel_rfl))
 f309 := Tryz.func169.trans (congrArg some (by kernel_rfl))
 f310 := Tryz.func170.trans (congrArg some (by kernel_rfl))
 f329 := Tryz.func182.trans (congrArg some (by kernel_rfl))
 f330 := Tryz.func183.trans (congrArg some (by kernel_rfl))
 f333 := Tryz.func203.trans (congrArg some (by kernel_rfl))
 f334 := Tryz.func204.trans (congrArg some (by kernel_rfl))
 f335 := Tryz.func205.trans (congrArg some (by kernel_rfl))
 f336 := Tryz.func110.trans (congrArg some (by kernel_rfl))
 f344 := Tryz.func231.trans (congrArg some (by kernel_rfl))
 t0 := Tryz.underlying0
 a0 := Tryz.isAgg0
 z0 := Tryz.sizeOf0
 v0 := Tryz.zeroValue0
 t3 := Tryz.underlying3
 a3 := Tryz.isAgg3
 z3 := Tryz.sizeOf3
 v3 := Tryz.zeroValue3
 t4 := Tryz.underlying4
 a4 := Tryz.isAgg4
 z4 := Tryz.sizeOf4
 v4 := Tryz.zeroValue4
 t5 := Tryz.underlying5
 a5 := Tryz.isAgg5
 z5 := Tryz.sizeOf5
 v5 := Tryz.zeroValue5
 t9 := Tryz.underlying9
 a9 := Tryz.isAgg9
 z9 := Tryz.sizeOf9
 v9 := Tryz.zeroValue9
 t31 := Tryz.underlying26
 a31 := Tryz.isAgg26
 z31 := Tryz.sizeOf26
 v31 := Tryz.zeroValue26
 t46 := Tryz.underlying150
 a46 := Tryz.isAgg150
 z46 := Tryz.sizeOf150
 v46 := Tryz.zeroValue150
 t51 := Tryz.underlying185
 a51 := Tryz.isAgg185
 z51 := Tryz.sizeOf185
 v51 := Tryz.zeroValue185
 t53 := Tryz.underlying187
 a53 := Tryz.isAgg187
 z53 := Tryz.sizeOf187
 v53 := Tryz.zeroValue187
 t131 := Tryz.underlying63
 a131 := Tryz.isAgg63
 z131 := Tryz.sizeOf63
 v131 := Tryz.zeroValue63
 t182 := Tryz.underlying178
 a182 := Tryz.isAgg178
 z182 := Tryz.sizeOf178
 v182 := Tryz.zeroValue178
 t183 := Tryz.underlying179
 a183 := Tryz.isAgg179
 z183 := Tryz.sizeOf179
 v183 := Tryz.zeroValue179
 t218 := Tryz.underlying222
 a218 := Tryz.isAgg222
 z218 := Tryz.sizeOf222
 v218 := Tryz.zeroValue222
 t222 := Tryz.underlying226
 a222 := Tryz.isAgg226
 z222 := Tryz.sizeOf226
 v222 := Tryz.zeroValue226
 t228 := Tryz.underlying247
 a228 := Tryz.isAgg247
 z228 := Tryz.sizeOf247
 v228 := Tryz.zeroValue247
 t229 := Tryz.underlying248
 a229 := Tryz.isAgg248
 z229 := Tryz.sizeOf248
 v229 := Tryz.zeroValue248 }
open Go.Sort Go.RowKit in
theorem Tryz.slices_Sort_string (blk off cap : Nat) (ss : List (List UInt8)) (w : World) (hH : Holds encStr w blk off ss.toArray) (hblk : blk < w.heap.size) (hsz : ss.length < 4611686018427387904) :
  Calls Tryz.prog 83 #[.slice (some ⟨blk, off, none⟩) ss.length cap] w fun e w' =>
   e = .returned (.tuple #[]) ∧ ∃ n os, w' = grow (putRow encStr (Sort.ahead w n) blk off (ss.mergeSort fun x y => decide (x ≤ y)).toArray) os := Any.slices_Sort_string Tryz.lays190 blk off cap ss w hH hblk hsz
def Tryz.lays148_ren : Go.Shelf.Ren := ⟨fun | 148 => 186 | 222 => 216 | 223 => 217 | 269 => 235 | n => n, fun | 9 => 9 | 3 => 3 | 4 => 4 | 5 => 5 | 146 => 263 | 51 => 185 | 46 => 150 | n => n, fun | n => n⟩
theorem Tryz.lays148 : Go.Proofs.Lays.n148 Tryz.prog Tryz.lays148_ren := {
 mixed := by kernel_rfl
 f148 := Tryz.func186.trans (congrArg some (by kernel_rfl))
 f222 := Tryz.func216.trans (congrArg some (by kernel_rfl))
 f223 := Tryz.func217.trans (congrArg some (by kernel_rfl))
 f269 := Tryz.func235.trans (congrArg some (by kernel_rfl))
 t3 := Tryz.underlying3
 a3 := Tryz.isAgg3
 z3 := Tryz.sizeOf3
 v3 := Tryz.zeroValue3
 t4 := Tryz.underlying4
 a4 := Tryz.isAgg4
 z4 := Tryz.sizeOf4
 v4 := Tryz.zeroValue4
 t5 := Tryz.underlying5
 a5 := Tryz.isAgg5
 z5 := Tryz.sizeOf5
 v5 := Tryz.zeroValue5
 t9 := Tryz.underlying9
 a9 := Tryz.isAgg9
 z9 := Tryz.sizeOf9
 v9 := Tryz.zeroValue9
 t46 := Tryz.underlying150
 a46 := Tryz.isAgg150
 z46 := Tryz.sizeOf150
 v46 := Tryz.zeroValue150
 t51 := Tryz.underlying185
 a51 := Tryz.isAgg185
 z51 := Tryz.sizeOf185
 v51 := Tryz.zeroValue185
 t146 := Tryz.underlying263
 a146 := Tryz.isAgg263
 z146 := Tryz.sizeOf263
 v146 := Tryz.zeroValue263 }
open Go.RowKit Go.Lib in
/-- strings.LastIndex AT A substr OF ONE BYTE (as in 'strings.LastIndex(path, "/")'): the last place of that byte, or -1. (LAID: no walk: one application.) -/
theorem Tryz.strings_LastIndex_one (s sub : ByteArray) (h1 : sub.size = 1) (hs : s.size < 4611686018427387904) (w : World) :
  Calls Tryz.prog 186 #[.string s, .string sub] w fun e w' => e = .returned (.int .i64 (Lib.lastIndexByte s ((sub[0]'(by omega)).toNat : Int))) ∧ w' = w := Any.strings_LastIndex_one Tryz.lays148 s sub h1 hs w
def Tryz.lays110_ren : Go.Shelf.Ren := ⟨fun | 110 => 108 | 109 => 149 | n => n, fun | 31 => 26 | 9 => 9 | 4 => 4 | 3 => 3 | 0 => 0 | n => n, fun | n => n⟩
theorem Tryz.lays110 : Go.Proofs.Lays.n110 Tryz.prog Tryz.lays110_ren := {
 mixed := by kernel_rfl
 f109 := Tryz.func149.trans (congrArg some (by kernel_rfl))
 f110 := Tryz.func108.trans (congrArg some (by kernel_rfl))
 t0 := Tryz.underlying0
 a0 := Tryz.isAgg0
 z0 := Tryz.sizeOf0
 v0 := Tryz.zeroValue0
 t3 := Tryz.underlying3
 a3 := Tryz.isAgg3
 z3 := Tryz.sizeOf3
 v3 := Tryz.zeroValue3
 t4 := Tryz.underlying4
 a4 := Tryz.isAgg4
 z4 := Tryz.sizeOf4
 v4 := Tryz.zeroValue4
 t9 := Tryz.underlying9
 a9 := Tryz.isAgg9
 z9 := Tryz.sizeOf9
 v9 := Tryz.zeroValue9
 t31 := Tryz.underlying26
 a31 := Tryz.isAgg26
 z31 := Tryz.sizeOf26
 v31 := Tryz.zeroValue26 }
open Go.Lib in
/-- slices.Contains at []string: "Contains reports whether v is present in s.": IT RETURNS 'Lib.containsS (the elements) v', which is true just where v is among them ('Lib.containsS_iff'); the world is as it was. ITS CALLEE slices.Index IS MET BY ITS OWN CONTRACT OFF THE SHELF (lay that first): no loop is walked here. (LAID: no walk: one application.) -/
theorem Tryz.slices_Contains_string (b off n c : Nat) (zs : List ByteArray) (x : ByteArray) (w : World) (hz : n ≤ zs.length) (hbig : n ≤ 9223372036854775807) (hc : ∀ j, j < zs.length → w.cell? ⟨b, off + j, none⟩ = some (.string (zs.getD j ByteArray.empty))) :
  Calls Tryz.prog 108 #[.slice (some ⟨b, off, none⟩) n c, .string x] w fun e w' => e = .returned (.bool (Lib.containsS (zs.take n) x)) ∧ w' = w := Any.slices_Contains_string Tryz.lays110 b off n c zs x w hz hbig hc
open Go.Lib in
/-- The same at a slice of length 0, a nil one too. (LAID: no walk: one application.) -/
theorem Tryz.slices_Contains_string_empty (a : Option Addr) (c : Nat) (x : ByteArray) (w : World) :
  Calls Tryz.prog 108 #[.slice a 0 c, .string x] w fun e w' => e = .returned (.bool false) ∧ w' = w := Any.slices_Contains_string_empty Tryz.lays110 a c x w
def Tryz.lays194_ren : Go.Shelf.Ren := ⟨fun | 194 => 104 | n => n, fun | 31 => 26 | 9 => 9 | 3 => 3 | 4 => 4 | 0 => 0 | n => n, fun | n => n⟩
theorem Tryz.lays194 : Go.Proofs.Lays.n194 Tryz.prog Tryz.lays194_ren := {
 mixed := by kernel_rfl
 f194 := Tryz.func104.trans (congrArg some (by kernel_rfl))
 t0 := Tryz.underlying0
 a0 := Tryz.isAgg0
 z0 := Tryz.sizeOf0
 v0 := Tryz.zeroValue0
 t3 := Tryz.underlying3
 a3 := Tryz.isAgg3
 z3 := Tryz.sizeOf3
 v3 := Tryz.zeroValue3
 t4 := Tryz.underlying4
 a4 := Tryz.isAgg4
 z4 := Tryz.sizeOf4
 v4 := Tryz.zeroValue4
 t9 := Tryz.underlying9
 a9 := Tryz.isAgg9
 z9 := Tryz.sizeOf9
 v9 := Tryz.zeroValue9
 t31 := Tryz.underlying26
 a31 := Tryz.isAgg26
 z31 := Tryz.sizeOf26
 v31 := Tryz.zeroValue26 }
open Go.RowKit Go.Lib Go.Sort in
/-- slices.Compact at []string: "Compact replaces consecutive runs of equal elements with a single copy. This is like the uniq command found on Unix. Compact modifies the contents of the slice s and returns the modified slice, which may have a smaller length. Compact zeroes the elements between the new length and the original length. The result preserves the nilness of s.": IT RETURNS THE SLICE CUT TO 'Lib.compact zs'; ITS CELLS HOLD 'Lib.compact zs', THEN ZERO VALUES up to the old length; all else is as it was, but for the count of draws. IN THE WORDS OF slices.Sort's CONTRACT ('Holds', 'putRow'): so the everyday 'slices.Sort(xs); xs = slices.Compact(xs)' goes from the one contract to the other. It asks 'zs.length ≤ cap' (every slice's: the reslicing 's[:k]' looks at it). Length 0, nil: '.._empty'. (LAID: no walk: one application.) -/
theorem Tryz.slices_Compact_string (blk off cap : Nat) (zs : List (List UInt8)) (w : World) (hH : Holds encStr w blk off zs.toArray) (hsz : zs.length ≤ 9223372036854775807) (hcap : zs.length ≤ cap) :
  Calls Tryz.prog 104 #[.slice (some ⟨blk, off, none⟩) zs.length cap] w fun e w' => e = .returned (.slice (some ⟨blk, off, none⟩) (Lib.compact zs).length cap) ∧ ∃ q, w' = putRow encStr (Sort.ahead w q) blk off (Lib.compact zs ++ List.replicate (zs.length - (Lib.compact zs).length) []).toArray := Any.slices_Compact_string Tryz.lays194 blk off cap zs w hH hsz hcap
open Go.RowKit Go.Lib Go.Sort in
/-- The same at a slice of length 0, a nil one too: it comes back as it is. (LAID: no walk: one application.) -/
theorem Tryz.slices_Compact_string_empty (a : Option Addr) (cap : Nat) (w : World) :
  Calls Tryz.prog 104 #[.slice a 0 cap] w fun e w' => e = .returned (.slice a 0 cap) ∧ w' = w := Any.slices_Compact_string_empty Tryz.lays194 a cap w
open Go.RowKit Go.Sort in
/-- .. and plain. (LAID: no walk: one application.) -/
theorem Tryz.slices_Sort_string_none (p : Option Addr) (cap : Nat) (w : World) :
  Calls Tryz.prog 83 #[.slice p 0 cap] w fun e w' => e = .returned (.tuple #[]) ∧ w' = w := Any.slices_Sort_string_none Tryz.lays190 p cap w
end Go.Proofs.YtbllehjhmfehbaaGreat
end

section
/- The walks of a graph's node, and of a list made rising, each once. -/
namespace Go.Proofs.YtbllehjhmfehbaaGreat
open Go.RowKit Go.Sort

namespace Od
def sortS (ss : List Str) : List Str := ss.mergeSort fun x y => decide (x ≤ y)
theorem sortS_len (ss : List Str) : (sortS ss).length = ss.length := by simp [sortS]

theorem sortS_own (base c : Nat) (A : Option Addr) (ss : List Str) (w : World) (h : w.ownsRow base 9 1 (.slice A ss.length c) ss.length (svs ss)) (hsz : ss.length ≤ 1000000) :
  Calls Tryz.prog 83 #[.slice A ss.length c] w fun e w' => e = .returned (.tuple #[]) ∧ w'.ownsRow base 9 1 (.slice A ss.length c) ss.length (svs (sortS ss)) ∧ w.grownBy w' (Value.slice A ss.length c).ownBlock := by
 rcases h.2 with ⟨hv, hn⟩ | ⟨g, cap, cur, hv, hg, hb, h1, h2, h3, h4⟩
 ·have hnil : ss = [] := List.length_eq_zero_iff.1 hn
  subst hnil
  refine (Tryz.slices_Sort_string_none _ _ _).mono ?_
  rintro e w' ⟨rfl, rfl⟩
  exact ⟨rfl, by simpa [sortS] using h, World.grownBy.refl _ _⟩
 ·injection hv with e1 _ e3
  subst e1 e3
  have hgl : g < w.heap.size := (Array.getElem?_eq_some_iff.1 hb).1
  refine (Tryz.slices_Sort_string g 0 c ss w (holds_of_block hb (by rw [Nat.mul_one] at h4; exact h4)) hgl (by omega)).mono ?_
  rintro e w' ⟨rfl, n, os, rfl⟩
  exact ⟨rfl, ownsRow_sorted (ts := sortS ss) (sortS_len ss) hg hb h1 h2 h3, grownBy_sorted _⟩

theorem take_putCells' (cur : Array Value) (ts us : List Str) (h : (ts ++ us).length ≤ cur.size) : (putCells encStr 0 (ts ++ us).toArray cur).toList.take ts.length = ts.map encStr := by
 have h1 := take_putCells cur (ts ++ us) h
 have h2 := congrArg (List.take ts.length) h1
 rw [List.take_take, Nat.min_eq_left (by simp)] at h2
 rw [h2, List.map_append, List.take_append_of_le_length (by simp), List.take_of_length_le (by simp)]

theorem compact_len_le (ss : List Str) : (Lib.compact ss).length ≤ ss.length := by
 unfold Lib.compact Lib.compactUpTo
 rw [List.length_map]
 exact Nat.le_trans (List.length_filter_le _ _) (by simp)

theorem compactS_own (base c : Nat) (A : Option Addr) (ss : List Str) (w : World) (h : w.ownsRow base 9 1 (.slice A ss.length c) ss.length (svs ss)) (hsz : ss.length ≤ 1000000) :
  Calls Tryz.prog 104 #[.slice A ss.length c] w fun e w' => e = .returned (.slice A (Lib.compact ss).length c) ∧ w'.ownsRow base 9 1 (.slice A (Lib.compact ss).length c) (Lib.compact ss).length (svs (Lib.compact ss)) ∧ w.grownBy w' (Value.slice A ss.length c).ownBlock := by
 rcases h.2 with ⟨hv, hn⟩ | ⟨g, cap, cur, hv, hg, hb, h1, h2, h3, h4⟩
 ·have hnil : ss = [] := List.length_eq_zero_iff.1 hn
  subst hnil
  refine (Tryz.slices_Compact_string_empty _ _ _).mono ?_
  rintro e w' ⟨rfl, rfl⟩
  exact ⟨rfl, h, World.grownBy.refl _ _⟩
 ·injection hv with e1 _ e3
  subst e1 e3
  have hgl : g < w.heap.size := (Array.getElem?_eq_some_iff.1 hb).1
  have hle := compact_len_le ss
  refine (Tryz.slices_Compact_string g 0 c ss w (holds_of_block hb (by rw [Nat.mul_one] at h4; exact h4)) (by omega) h1).mono ?_
  rintro e w' ⟨rfl, q, rfl⟩
  refine ⟨rfl, ⟨by simp [svs], .inr ⟨g, c, _, rfl, hg, by rw [← grow_empty (putRow _ _ _ _ _)]; exact heap_sorted _ hb, by omega, h2, by simp [putCells, h3], ?_⟩⟩, by rw [← grow_empty (putRow _ _ _ _ _)]; exact grownBy_sorted _⟩
  rw [Nat.mul_one]
  exact take_putCells' cur _ _ (by simp; omega)


/-- A node as a value. -/
abbrev ndV (n : Nd) : Value := .agg #[sv n.1, .int .i64 n.2.1, .int .i64 n.2.2]
structure SaysN (g : Nat) (caps : Array Value) (p : Nd → Bool) (w : World) : Prop where
 enters : ∀ (args : Array Value) (W : World), (callFunc g args).run Tryz.prog W = .ok (.enter g args) W
 says : ∀ (W : World) (s : Str) (d r : Int), Below w.heap.size w W → Calls Tryz.prog g (#[.agg #[sv s, .int .i64 d, .int .i64 r]] ++ caps) W fun e w' => e = .returned (.bool (p (s, d, r))) ∧ Below W.heap.size W w'

def FindIdx {α : Type} (xs : List α) (p : α → Bool) (w : World) (e : Ending) (w' : World) : Prop := ∃ r : Int, e = .returned (.int .i64 r) ∧ ((r = -1 ∧ xs.find? p = none) ∨ ∃ k, ∃ h : k < xs.length, r = (k : Int) ∧ xs.find? p = some xs[k] ∧ p xs[k] = true ∧ ∀ j, ∀ hj : j < k, p (xs[j]'(by omega)) = false) ∧ Below w.heap.size w w'
theorem find_none_take {α : Type} {p : α → Bool} {xs : List α} (h : xs.any p = false) : xs.find? p = none := by
 rw [List.find?_eq_none]
 intro x hx hp
 have := List.any_eq_false.1 h x hx
 exact this hp
theorem find_at {α : Type} {p : α → Bool} {xs : List α} {k : Nat} (hk : k < xs.length) (h0 : (xs.take k).any p = false) (hp : p xs[k] = true) : xs.find? p = some xs[k] := by
 have e : xs = xs.take k ++ (xs[k] :: xs.drop (k + 1)) := by rw [List.getElem_cons_drop, List.take_append_drop]
 have h : (xs.take k ++ (xs[k] :: xs.drop (k + 1))).find? p = some xs[k] := by
  rw [List.find?_append, find_none_take h0, Option.none_or, List.find?_cons_of_pos hp]
 rw [← e] at h
 exact h
theorem take_any_at {α : Type} {p : α → Bool} {xs : List α} {k j : Nat} (hk : k ≤ xs.length) (h0 : (xs.take k).any p = false) (hj : j < k) : p (xs[j]'(by omega)) = false := by
 have := List.any_eq_false.1 h0 (xs[j]'(by omega)) (List.mem_take_iff_getElem.2 ⟨j, by omega, rfl⟩)
 simpa using this

set_option maxRecDepth 100000 in
set_option maxHeartbeats 400000 in
theorem IndexFuncN (A : Option Addr) (c : Nat) (ns : List Nd) (g : Nat) (caps : Array Value) (p : Nd → Bool) (w : World) (hr : Rd w w.heap.size 3 A ns.length (ndsC ns)) (hl : ns.length ≤ 1000000) (hp : SaysN g caps p w) :
  Calls Tryz.prog 53 #[.slice A ns.length c, .func (.func g) #[] caps] w (FindIdx ns p w) := by
 have Hr := Lib.hid hr
 have Hp := Lib.hid hp
 have eg := hp.enters
 clear hr hp
 go_enter Tryz.func53, Tryz.ntmps53
 go_wp2_with fail
 go_loopw [8] (fun i wr => ∃ k : Nat, k ≤ ns.length ∧ i = .int .i64 k ∧ Hid ((ns.take k).any p = false) ∧ Below w.heap.size w wr) (fun i _ => ns.length - (intOf i).toNat)
 case atStart => exact ⟨0, Nat.zero_le _, rfl, by simp [Hid], Below.refl _ _⟩
 case round =>
  obtain ⟨k, hk, rfl, hall, hbel⟩ := hrel
  by_cases hlt : k < ns.length
  ·obtain ⟨b, o, rfl, hB, hc0, hc1, hc2⟩ := (Hr.out.on (Nat.le_refl _) hbel).node hlt
   have Hbel := Lib.hid hbel
   clear hbel
   generalize hx : ns[k] = x at hc0 hc1 hc2
   obtain ⟨s, d, r⟩ := x
   have Hx := Lib.hid hx
   clear hx
   simp only at hc0 hc1 hc2
   have hcall := Hp.out.says wr s d r Hbel.out
   cases hpx : p (s, d, r)
   ·rw [hpx] at hcall
    have Hpx := Lib.hid hpx
    have Hcall := Lib.hid hcall
    clear hpx hcall
    go_wp2_with fail
    refine Hcall.out.mono ?_
    rintro e w2 ⟨rfl, hb2⟩
    have Hb2 := Lib.hid hb2
    clear hb2
    go_wp2_with fail
    go_roundw
    case rel => exact ⟨k + 1, by omega, by go_num, by show _ = false; rw [any_take_succ hlt, hall.out, Hx.out, Hpx.out]; rfl, Hbel.out.trans (Hb2.out.mono Hbel.out.size)⟩
    case measure => simp [intOf]; omega
   ·rw [hpx] at hcall
    have Hpx := Lib.hid hpx
    have Hcall := Lib.hid hcall
    clear hpx hcall
    go_wp2_with fail
    refine Hcall.out.mono ?_
    rintro e w2 ⟨rfl, hb2⟩
    have Hb2 := Lib.hid hb2
    clear hb2
    go_wp2_with fail
    go_ret
    exact ⟨k, rfl, .inr ⟨k, hlt, rfl, find_at hlt hall.out (by rw [Hx.out]; exact Hpx.out), by rw [Hx.out]; exact Hpx.out, fun j hj => take_any_at hk hall.out hj⟩, Hbel.out.trans (Hb2.out.mono Hbel.out.size)⟩
  ·have hkl : k = ns.length := by omega
   have ha := hall.out
   rw [List.take_of_length_le (by omega)] at ha
   have Ha := Lib.hid ha
   clear ha hkl
   go_wp2_with fail
   go_ret
   exact ⟨-1, rfl, .inl ⟨rfl, find_none_take Ha.out⟩, hbel⟩

set_option maxHeartbeats 400000 in
theorem Node1_any (a s : Str) (d r : Int) (pa : Nat) (w : World) (ha : w.cell? ⟨pa, 0, none⟩ = some (sv a)) :
  Calls Tryz.prog 54 #[.agg #[sv s, .int .i64 d, .int .i64 r], .pointer (some ⟨pa, 0, none⟩)] w fun e w' => e = .returned (.bool (s == a)) ∧ Below w.heap.size w w' := by
 have la : pa < w.heap.size := cell_blk ha
 have n1 : ¬ pa = w.heap.size := by omega
 cases hsa : (s == a)
 ·have hsa' : ¬ s = a := by simpa using hsa
  go_enter Tryz.func54, Tryz.ntmps54
  go_wp2_with fail
  go_ret
  exact ⟨ret_bool (by simp_all), (Below.refl _ _).alloc (Nat.le_refl _) _⟩
 ·have hsa' : s = a := by simpa using hsa
  subst hsa'
  go_enter Tryz.func54, Tryz.ntmps54
  go_wp2_with fail
  go_ret
  exact ⟨ret_bool (by simp_all), (Below.refl _ _).alloc (Nat.le_refl _) _⟩
theorem says_node (a : Str) (pa : Nat) (w : World) (ha : w.cell? ⟨pa, 0, none⟩ = some (sv a)) :
  SaysN 54 #[.pointer (some ⟨pa, 0, none⟩)] (fun n => n.1 == a) w where
 enters := enters_of Tryz.func54 (by kernel_rfl) rfl
 says := fun W s d r h => Node1_any a s d r pa W ((h.cell (p := ⟨pa, 0, none⟩) (cell_blk ha)).trans ha)

/-- The node of a name, if there is one. -/
def nodeOf (ns : List Nd) (s : Str) : Option Nd := ns.find? (fun n => n.1 == s)
def nodeV (o : Option Nd) : Value := .tuple #[ndV (o.getD ([], 0, 0)), .bool o.isSome]
set_option maxRecDepth 100000 in
set_option maxHeartbeats 400000 in
theorem Node_any (An Ae : Option Addr) (ne cn ce : Nat) (ns : List Nd) (s : Str) (w : World) (hr : Rd w w.heap.size 3 An ns.length (ndsC ns)) (hl : ns.length ≤ 1000000) :
  Calls Tryz.prog 20 #[gV An ns.length cn Ae ne ce, sv s] w fun e w' => e = .returned (nodeV (nodeOf ns s)) ∧ Below w.heap.size w w' := by
 have Hr := Lib.hid hr
 clear hr
 go_enter Tryz.func20, Tryz.ntmps20
 go_wp2_with fail
 refine (IndexFuncN An cn ns _ _ (fun n => n.1 == s) _ ?hr hl (says_node s _ _ ?ha)).mono ?_
 case ha => go_simp
 case hr => exact ((((Hr.out.alloc (Nat.le_refl _) _).alloc (by simp) _).alloc (by simp; omega) _)).more (by simp; omega)
 rintro e w2 ⟨r, rfl, ⟨rfl, hnone⟩ | ⟨k, hk, rfl, hsome, _, _⟩, hb2⟩
 ·have ⟨hc, hf⟩ := bcell hb2
  have hz := hb2.size
  simp only [World.size_alloc] at hz hc hf
  have c0 : w2.cell? ⟨w.heap.size + 1 + 1, 0, none⟩ = some (sv []) := by rw [hc _ _ (by omega)]; go_simp
  have c1 : w2.cell? ⟨w.heap.size + 1 + 1, 1, none⟩ = some (.int .i64 0) := by rw [hc _ _ (by omega)]; go_simp
  have c2 : w2.cell? ⟨w.heap.size + 1 + 1, 2, none⟩ = some (.int .i64 0) := by rw [hc _ _ (by omega)]; go_simp
  have f0 : w2.frozen? ⟨w.heap.size + 1 + 1, 0, none⟩ = false := by rw [hf _ _ (by omega)]; go_simp
  have f1 : w2.frozen? ⟨w.heap.size + 1 + 1, 1, none⟩ = false := by rw [hf _ _ (by omega)]; go_simp
  have f2 : w2.frozen? ⟨w.heap.size + 1 + 1, 2, none⟩ = false := by rw [hf _ _ (by omega)]; go_simp
  have Hb2 := Lib.hid hb2
  have Hn := Lib.hid hnone
  clear hc hf hb2 hnone
  go_wp2_with fail
  have hB : Below w.heap.size w w2 := below_alloc (Nat.le_refl _) (below_alloc (Nat.le_refl _) (below_alloc (Nat.le_refl _) Hb2.out))
  refine bodyPost_ret (v := .tuple #[ndV ([], 0, 0), .bool false]) ?_ rfl ⟨by rw [show nodeOf ns s = none from Hn.out]; rfl, ((hB.setCell (by simp; omega) _).setCell (by simp; omega) _).setCell (by simp; omega) _⟩
  simp [results, Tryz.results20, go_sem, c0, c1, c2]
 ·have ⟨hc, hf⟩ := bcell hb2
  have hz := hb2.size
  simp only [World.size_alloc] at hz hc hf
  have c0 : w2.cell? ⟨w.heap.size + 1 + 1, 0, none⟩ = some (sv []) := by rw [hc _ _ (by omega)]; go_simp
  have c1 : w2.cell? ⟨w.heap.size + 1 + 1, 1, none⟩ = some (.int .i64 0) := by rw [hc _ _ (by omega)]; go_simp
  have c2 : w2.cell? ⟨w.heap.size + 1 + 1, 2, none⟩ = some (.int .i64 0) := by rw [hc _ _ (by omega)]; go_simp
  have f0 : w2.frozen? ⟨w.heap.size + 1 + 1, 0, none⟩ = false := by rw [hf _ _ (by omega)]; go_simp
  have f1 : w2.frozen? ⟨w.heap.size + 1 + 1, 1, none⟩ = false := by rw [hf _ _ (by omega)]; go_simp
  have f2 : w2.frozen? ⟨w.heap.size + 1 + 1, 2, none⟩ = false := by rw [hf _ _ (by omega)]; go_simp
  have g0 : w2.cell? ⟨w.heap.size, 0, none⟩ = some (.slice An ns.length cn) := by rw [hc _ _ (by omega)]; go_simp
  have hB : Below w.heap.size w w2 := below_alloc (Nat.le_refl _) (below_alloc (Nat.le_refl _) (below_alloc (Nat.le_refl _) hb2))
  obtain ⟨b, o, rfl, hB1, hc0, hc1, hc2⟩ := (Hr.out.on (Nat.le_refl _) hB).node hk
  have k1 : (0 : Int) ≤ (k : Int) := by omega
  have k2 : (k : Int) < (ns.length : Int) := by omega
  have k4 : IntKind.i64.wrap (k : Int) = k := IntWalk.i64_in _ (by omega)
  generalize hx : ns[k] = x at hc0 hc1 hc2
  obtain ⟨s', d', r'⟩ := x
  have Hx := Lib.hid hx
  have HB := Lib.hid hB
  have Hn := Lib.hid hsome
  simp only at hc0 hc1 hc2
  clear hc hf hb2 hsome hx hB
  go_wp2_with fail
  refine bodyPost_ret (v := .tuple #[ndV (s', d', r'), .bool true]) ?_ rfl ⟨by rw [show nodeOf ns s = some (s', d', r') from Hn.out.trans (congrArg some Hx.out)]; rfl, ((HB.out.setCell (by simp; omega) _).setCell (by simp; omega) _).setCell (by simp; omega) _⟩
  simp [results, Tryz.results20, go_sem, c0, c1, c2]
def onceS (ss : List Str) : List Str := Lib.compact (sortS ss)
set_option maxHeartbeats 400000 in
theorem once_own (base c : Nat) (A : Option Addr) (ss : List Str) (w : World) (h : w.ownsRow base 9 1 (.slice A ss.length c) ss.length (svs ss)) (hsz : ss.length ≤ 1000000) :
  Calls Tryz.prog 62 #[.slice A ss.length c] w fun e w' => e = .returned (.slice A (onceS ss).length c) ∧ w'.ownsRow base 9 1 (.slice A (onceS ss).length c) (onceS ss).length (svs (onceS ss)) ∧ w.grownBy w' (Value.slice A ss.length c).ownBlock := by
 have H := Lib.hid h
 clear h
 go_enter Tryz.func62, Tryz.ntmps62
 go_wp2_with fail
 refine (sortS_own base c A ss w H.out hsz).mono ?_
 rintro e w2 ⟨rfl, h2, g2⟩
 have H2 := Lib.hid h2
 have G2 := Lib.hid g2
 clear h2 g2
 go_wp2_with fail
 have hl := sortS_len ss
 refine (show Calls Tryz.prog 104 #[.slice A ss.length c] w2 _ from hl ▸ compactS_own base c A (sortS ss) w2 (by rw [hl]; exact H2.out) (by omega)).mono ?_
 rintro e w3 ⟨rfl, h3, g3⟩
 have H3 := Lib.hid h3
 have G3 := Lib.hid g3
 clear h3 g3
 go_wp2_with fail
 go_ret
 exact ⟨rfl, H3.out, G2.out.trans G3.out⟩
end Od
end Go.Proofs.YtbllehjhmfehbaaGreat
end

section
/- The walk of graph.Out. -/
namespace Go.Proofs.YtbllehjhmfehbaaGreat
open Go.RowKit Go.Sort

/-- The same, the new block's number in the walk's own spelling. -/
theorem wpList_pushm {P : Program} (w0 w : World) {ops : Array Oper} {rest : List Oper} {o : Oper} {a : Act} {Q : Exit → Act → World → Prop} (hgd : o.guard = none) (s x : Operand) (t : TypeId)
  (ho : o.op = .call { callee := .builtin .append, args := #[s, x], argTypes := #[t, t] })
  (base : Nat) (e : TypeId) (i : TypeInfo) (z : Value) (size bytes : Nat) (ht : P.underlying t = some (.slice e)) (hi : P.info? e = some i) (hz : i.zero = some z)
  (hsize : i.size = size) (hby : i.bytes = bytes) (hzs : z.cells.size = size) (hsz : 0 < size)
  (v : Value) (n : Nat) (xs : List Value) (hs : a.eval s = v) (hown : w.ownsRow base e size v n xs)
  (news : List Value) (m : Nat) (hm : w.heap.size = m) (hx : a.eval x = .slice (some ⟨m, 0, none⟩) 1 1) (hl : news.length = size) (h1 : ∀ u ∈ news, u.oneCell' = true)
  (h63 : n + 1 ≤ maxLen) (hbytes : (n + 1) * bytes ≤ 140737488355328) (hbase : base ≤ w.heap.size) (hbel : Below base w0 w)
  (h : ∀ A' c' w', w'.ownsRow base e size (.slice A' (n + 1) c') (n + 1) (xs ++ news) → Below base w0 w' → w.grownBy w' v.ownBlock →
   ((Value.slice A' (n + 1) c').ownBlock = v.ownBlock ∨ (Value.slice A' (n + 1) c').ownBlock = some (w.heap.size + 1)) → wpList P ops Q rest (a.put o.dst (.slice A' (n + 1) c')) w') :
  wpList P ops Q (o :: rest) a (w.alloc (.cells news.toArray e)) := by
 subst hm
 exact wpList_push w0 w hgd s x t ho base e i z size bytes ht hi hz hsize hby hzs hsz v n xs hs hown news hx hl h1 h63 hbytes hbase hbel h

namespace Od
theorem filter_take_succ {α : Type} {p : α → Bool} {xs : List α} {k : Nat} (hk : k < xs.length) : (xs.take (k + 1)).filter p = (xs.take k).filter p ++ (if p xs[k] then [xs[k]] else []) := by
 rw [List.take_succ_eq_append_getElem hk, List.filter_append]
 congr 1
 by_cases h : p xs[k] = true
 ·simp only [List.filter_cons, h, if_true, List.filter_nil]
 ·simp only [List.filter_cons, h, if_false, List.filter_nil, Bool.false_eq_true]
theorem infoS : (Tryz.prog.info? 9).map (fun i => (i.zero, i.size, i.bytes)) = some (some (.string ⟨#[]⟩), 1, 16) := by kernel_rfl
def outP (u : Str) (rel : Int) (e : Ed) : Bool := e.1 == u && e.2.2 == rel
def outRaw (es : List Ed) (u : Str) (rel : Int) : List Str := (es.filter (outP u rel)).map (fun e => e.2.1)
def outS (es : List Ed) (u : Str) (rel : Int) : List Str := onceS (outRaw es u rel)
theorem onceS_len (ss : List Str) : (onceS ss).length ≤ ss.length := Nat.le_trans (compact_len_le _) (Nat.le_of_eq (sortS_len ss))
theorem outRaw_len (es : List Ed) (u : Str) (rel : Int) : (outRaw es u rel).length ≤ es.length := by
 unfold outRaw; rw [List.length_map]; exact List.length_filter_le _ _

/-- A call hands back a slice of its own that holds these texts. -/
def OwnS (ss : List Str) (w : World) (e : Ending) (w' : World) : Prop := ∃ A c, e = .returned (.slice A ss.length c) ∧ w'.ownsRow w.heap.size 9 1 (.slice A ss.length c) ss.length (svs ss) ∧ Below w.heap.size w w'

set_option maxRecDepth 100000 in
set_option maxHeartbeats 2000000 in
theorem Out_any (An Ae : Option Addr) (nn cn ce : Nat) (es : List Ed) (u : Str) (rel : Int) (w : World) (hr : Rd w w.heap.size 3 Ae es.length (edsC es)) (hl : es.length ≤ 1000000) :
  Calls Tryz.prog 24 #[gV An nn cn Ae es.length ce, sv u, .int .i64 rel] w (OwnS (outS es u rel) w) := by
 obtain ⟨i0, hi, hz0, hz1, hz2⟩ := info_parts infoS
 have Hr := Lib.hid hr
 clear hr
 go_enter Tryz.func24, Tryz.ntmps24
 go_wp2_with fail
 go_loopw [7, 13] (fun v i wr => ∃ k : Nat, k ≤ es.length ∧ i = .int .i64 k ∧ wr.ownsRow w.heap.size 9 1 v (outRaw (es.take k) u rel).length (svs (outRaw (es.take k) u rel)) ∧ Below w.heap.size w wr) (fun _ i _ => es.length - (intOf i).toNat)
 case atStart => exact ⟨0, Nat.zero_le _, rfl, World.ownsRow_nil _ _ _ _, (Below.refl _ _).alloc (Nat.le_refl _) _⟩
 case round =>
  obtain ⟨k, hk, rfl, hown, hbel⟩ := hrel
  by_cases hlt : k < es.length
  ·obtain ⟨bb, o, rfl, hB, hc0, hc1, hc2⟩ := (Hr.out.on (Nat.le_refl _) hbel).edge hlt
   have hz := hbel.size
   have n1 : bb < wr.heap.size := by omega
   have Hbel := Lib.hid (hbel.alloc hz (.cells #[sv es[k].1, sv es[k].2.1, .int .i64 es[k].2.2] 45))
   have Hown := Lib.hid (hown.alloc (.cells #[sv es[k].1, sv es[k].2.1, .int .i64 es[k].2.2] 45))
   have hln : (outRaw (es.take k) u rel).length ≤ k := Nat.le_trans (outRaw_len _ _ _) (by simp; omega)
   have h63 : (outRaw (es.take k) u rel).length + 1 ≤ maxLen := by unfold maxLen; omega
   have hby : ((outRaw (es.take k) u rel).length + 1) * 16 ≤ 140737488355328 := by omega
   have hft : outRaw (es.take (k + 1)) u rel = outRaw (es.take k) u rel ++ (if outP u rel es[k] then [es[k].2.1] else []) := by
    unfold outRaw; rw [filter_take_succ hlt, List.map_append]; split <;> simp
   clear hbel hown
   generalize hx : es[k] = x at hc0 hc1 hc2 hft Hbel Hown
   obtain ⟨s, d, r⟩ := x
   clear hx
   simp only at hc0 hc1 hc2 Hbel Hown
   have hsz : w.heap.size ≤ (wr.alloc (.cells #[sv s, sv d, .int .i64 r] 45)).heap.size := by simp; omega
   cases hp : outP u rel (s, d, r)
   ·rw [hp] at hft
    simp only [Bool.false_eq_true, if_false, List.append_nil] at hft
    have Hft := Lib.hid hft
    clear hft
    have hp' : (s == u) = false ∨ ((s == u) = true ∧ (r == rel) = false) := by
     unfold outP at hp
     cases h1 : (s == u)
     ·exact .inl rfl
     ·simp only [h1, Bool.true_and] at hp; exact .inr ⟨rfl, hp⟩
    rcases hp' with h1 | ⟨h1, h2⟩
    ·have h1' : ¬ s = u := by simpa using h1
     go_wp2_with fail
     go_roundw
     case rel => exact ⟨k + 1, by omega, by go_num, by rw [Hft.out]; exact Hown.out, Hbel.out⟩
     case measure => simp [intOf]; omega
    ·have h1' : s = u := by simpa using h1
     subst h1'
     have h2' : ¬ r = rel := by simpa using h2
     go_wp2_with fail
     go_roundw
     case rel => exact ⟨k + 1, by omega, by go_num, by rw [Hft.out]; exact Hown.out, Hbel.out⟩
     case measure => simp [intOf]; omega
   ·rw [hp] at hft
    simp only [if_true] at hft
    have Hft := Lib.hid hft
    clear hft
    have hp2 : s = u ∧ r = rel := by simpa [outP] using hp
    obtain ⟨rfl, rfl⟩ := hp2
    go_wp2_with (at_builtin; refine wpList_pushm w (wr.alloc (.cells #[sv s, sv d, .int .i64 r] 45)) (by rfl) _ _ 26 (by rfl) w.heap.size 9 i0 (.string ⟨#[]⟩) 1 16 Tryz.underlying26 hi hz0 hz1 hz2 rfl (by decide) _ _ _ (by rfl) Hown.out [sv d] (wr.heap.size + 1) (by simp) (by rfl) rfl (by simp [Value.oneCell']) h63 hby hsz Hbel.out ?_; intro A1 c1 w1 hown1 hbel1 hg1 hat1)
    go_roundw
    case rel => exact ⟨k + 1, by omega, by go_num, by rw [Hft.out]; simpa [svs] using hown1, hbel1⟩
    case measure => simp [intOf]; omega
  ·have hkl : k = es.length := by omega
   subst hkl
   rw [List.take_length] at hown
   obtain ⟨A, c, rfl, _⟩ := own_rd hown
   have Hown := Lib.hid hown
   have Hbel := Lib.hid hbel
   clear hown hbel
   have hln := outRaw_len es u rel
   go_wp2_with fail
   refine (once_own _ c A (outRaw es u rel) _ Hown.out (by omega)).mono ?_
   rintro e w2 ⟨rfl, h2, g2⟩
   have H2 := Lib.hid h2
   have G2 := Lib.hid g2
   clear h2 g2
   go_wp2_with fail
   go_ret
   exact ⟨A, c, rfl, H2.out, Hbel.out.grown G2.out Hbel.out.size (fun j hj => (Hown.out.lt j hj).1)⟩
end Od
end Go.Proofs.YtbllehjhmfehbaaGreat
end

section
/- Plain mathematics: strictly rising lists, each element once; what compaction of a sorted list is. No program. -/
namespace Go.Proofs.YtbllehjhmfehbaaGreat

theorem nil_or_snoc {α : Type} (l : List α) : l = [] ∨ ∃ r y, l = r ++ [y] := by
 rcases List.eq_nil_or_concat l with h | ⟨r, y, h⟩
 ·exact .inl h
 ·exact .inr ⟨r, y, by rw [h, List.concat_eq_append]⟩

/-- A strict order that parts any two that are not one. -/
structure TO {α : Type} (lt : α → α → Bool) : Prop where
 irrefl : ∀ x, lt x x = false
 trans : ∀ {x y z}, lt x y = true → lt y z = true → lt x z = true
 total : ∀ {x y}, lt x y = false → lt y x = false → x = y

section
variable {α : Type} {lt : α → α → Bool}
/-- Rising, each once. -/
def SS (lt : α → α → Bool) (l : List α) : Prop := l.Pairwise (fun x y => lt x y = true)

theorem SS.unique (T : TO lt) : ∀ {l l' : List α}, SS lt l → SS lt l' → (∀ x, x ∈ l ↔ x ∈ l') → l = l'
 | [], [], _, _, _ => rfl
 | [], y :: r', _, _, h => absurd ((h y).2 (.head _)) (by simp)
 | x :: r, [], _, _, h => absurd ((h x).1 (.head _)) (by simp)
 | x :: r, y :: r', h1, h2, h => by
  obtain ⟨hx, hr⟩ := List.pairwise_cons.1 h1
  obtain ⟨hy, hr'⟩ := List.pairwise_cons.1 h2
  have exy : x = y := by
   rcases List.mem_cons.1 ((h x).1 (.head _)) with e | e
   ·exact e
   ·rcases List.mem_cons.1 ((h y).2 (.head _)) with e' | e'
    ·exact e'.symm
    ·have := T.trans (hx y e') (hy x e)
     rw [T.irrefl] at this; cases this
  subst exy
  congr 1
  refine SS.unique T hr hr' fun z => ?_
  constructor
  ·intro hz
   rcases List.mem_cons.1 ((h z).1 (.tail _ hz)) with e | e
   ·subst e; have := hx z hz; rw [T.irrefl] at this; cases this
   ·exact e
  ·intro hz
   rcases List.mem_cons.1 ((h z).2 (.tail _ hz)) with e | e
   ·subst e; have := hy z hz; rw [T.irrefl] at this; cases this
   ·exact e
theorem SS.sublist {l l' : List α} (h : SS lt l) (hs : l'.Sublist l) : SS lt l' := List.Pairwise.sublist hs h

/-- Into a rising list, once. -/
def insL [DecidableEq α] (lt : α → α → Bool) (x : α) : List α → List α
 | [] => [x]
 | y :: r => if lt y x = true then y :: insL lt x r else if y = x then y :: r else x :: y :: r
variable [DecidableEq α]
theorem mem_insL {x z : α} : ∀ {l : List α}, z ∈ insL lt x l ↔ z = x ∨ z ∈ l
 | [] => by simp [insL]
 | y :: r => by
  unfold insL
  split
  ·rw [List.mem_cons, mem_insL, List.mem_cons]
   constructor
   ·rintro (h | h | h)
    ·exact .inr (.inl h)
    ·exact .inl h
    ·exact .inr (.inr h)
   ·rintro (h | h | h)
    ·exact .inr (.inl h)
    ·exact .inl h
    ·exact .inr (.inr h)
  ·split
   ·rename_i h
    subst h
    simp
   ·simp
theorem SS.insL (T : TO lt) {x : α} : ∀ {l : List α}, SS lt l → SS lt (insL lt x l)
 | [], _ => List.pairwise_singleton _ _
 | y :: r, h => by
  obtain ⟨hy, hr⟩ := List.pairwise_cons.1 h
  unfold Proofs.YtbllehjhmfehbaaGreat.insL
  split
  ·rename_i h1
   refine List.pairwise_cons.2 ⟨fun z hz => ?_, SS.insL T hr⟩
   rcases mem_insL.1 hz with e | e
   ·rw [e]; exact h1
   ·exact hy z e
  ·rename_i h1
   split
   ·exact h
   ·rename_i h2
    have hxy : lt x y = true := by
     cases h3 : lt x y
     ·exact absurd (T.total (by simpa using h1) h3) h2
     ·rfl
    refine List.pairwise_cons.2 ⟨fun z hz => ?_, h⟩
    rcases List.mem_cons.1 hz with e | e
    ·rw [e]; exact hxy
    ·exact T.trans hxy (hy z e)
/-- A list made rising, each once. -/
def canon (lt : α → α → Bool) (l : List α) : List α := l.foldl (fun acc x => insL lt x acc) []
theorem canon_fold (T : TO lt) : ∀ (l acc : List α), SS lt acc → SS lt (l.foldl (fun acc x => insL lt x acc) acc) ∧ ∀ z, z ∈ l.foldl (fun acc x => insL lt x acc) acc ↔ z ∈ acc ∨ z ∈ l
 | [], acc, h => ⟨h, by simp⟩
 | x :: l, acc, h => by
  obtain ⟨h1, h2⟩ := canon_fold T l (insL lt x acc) (h.insL T)
  refine ⟨h1, fun z => ?_⟩
  rw [List.foldl_cons, h2, mem_insL, List.mem_cons]
  constructor
  ·rintro ((h | h) | h)
   ·exact .inr (.inl h)
   ·exact .inl h
   ·exact .inr (.inr h)
  ·rintro (h | h | h)
   ·exact .inl (.inr h)
   ·exact .inl (.inl h)
   ·exact .inr h
theorem canon_ss (T : TO lt) (l : List α) : SS lt (canon lt l) := (canon_fold T l [] List.Pairwise.nil).1
theorem mem_canon (T : TO lt) {l : List α} {z : α} : z ∈ canon lt l ↔ z ∈ l := by
 rw [canon, (canon_fold T l [] List.Pairwise.nil).2]; simp
theorem SS.eq_canon (T : TO lt) {l l' : List α} (h : SS lt l') (hm : ∀ x, x ∈ l' ↔ x ∈ l) : l' = canon lt l :=
 SS.unique T h (canon_ss T l) fun x => by rw [hm, mem_canon T]
theorem canon_len (l : List α) : (canon lt l).length ≤ l.length := by
 have h : ∀ (l acc : List α), (l.foldl (fun acc x => insL lt x acc) acc).length ≤ acc.length + l.length := by
  intro l
  induction l with
  | nil => intro acc; simp
  | cons x l ih =>
   intro acc
   have hi : ∀ acc : List α, (Proofs.YtbllehjhmfehbaaGreat.insL lt x acc).length ≤ acc.length + 1 := by
    intro acc
    induction acc with
    | nil => simp [Proofs.YtbllehjhmfehbaaGreat.insL]
    | cons y r ih => unfold Proofs.YtbllehjhmfehbaaGreat.insL; split <;> (try split) <;> simp_all
   have := ih (Proofs.YtbllehjhmfehbaaGreat.insL lt x acc)
   have := hi acc
   simp only [List.foldl_cons, List.length_cons]
   omega
 have := h l []
 simpa [canon] using this

/-- Not falling. -/
def LE (lt : α → α → Bool) (l : List α) : Prop := l.Pairwise (fun x y => lt y x = false)

section
variable [Inhabited α]
theorem compact_snoc (zs : List α) (x : α) : Lib.compact (zs ++ [x]) = Lib.compact zs ++ (if zs = [] ∨ zs.getLast? ≠ some x then [x] else []) := by
 have e : ∀ m, m ≤ zs.length → Lib.compactUpTo (zs ++ [x]).toArray m = Lib.compactUpTo zs.toArray m := by
  intro m
  induction m with
  | zero => intro _; rfl
  | succ m ih =>
   intro hm
   rw [Lib.compactUpTo_succ, Lib.compactUpTo_succ, ih (by omega)]
   have g : ∀ j, j < zs.length → (zs ++ [x]).toArray[j]! = zs.toArray[j]! := by
    intro j hj
    simp [getElem!_def, List.getElem?_append_left hj]
   have hk : Lib.keeps (zs ++ [x]).toArray m = Lib.keeps zs.toArray m := by
    unfold Lib.keeps
    rw [g m (by omega), g (m - 1) (by omega)]
   rw [hk, g m (by omega)]
 unfold Lib.compact
 rw [show (zs ++ [x]).length = zs.length + 1 by simp, Lib.compactUpTo_succ, e _ (Nat.le_refl _)]
 congr 1
 have g1 : (zs ++ [x]).toArray[zs.length]! = x := by simp
 have hk : Lib.keeps (zs ++ [x]).toArray zs.length = decide (zs = [] ∨ zs.getLast? ≠ some x) := by
  unfold Lib.keeps
  rw [g1]
  rcases nil_or_snoc zs with rfl | ⟨r, y, rfl⟩
  ·simp
  ·have g2 : (r ++ [y] ++ [x]).toArray[(r ++ [y]).length - 1]! = y := by simp
   rw [g2]
   simp
   exact eq_comm
 rw [hk, g1]
 by_cases h : zs = [] ∨ zs.getLast? ≠ some x <;> simp [h]
theorem mem_compact : ∀ {zs : List α} {x : α}, x ∈ Lib.compact zs ↔ x ∈ zs := by
 suffices h : ∀ (n : Nat) (zs : List α), zs.length = n → ∀ x, x ∈ Lib.compact zs ↔ x ∈ zs from fun {zs x} => h _ zs rfl x
 intro n
 induction n with
 | zero => intro zs hz x; rw [List.length_eq_zero_iff.1 hz]; simp [Lib.compact, Lib.compactUpTo]
 | succ n ih =>
  intro zs hz x
  rcases nil_or_snoc zs with rfl | ⟨r, y, rfl⟩
  ·simp at hz
  ·rw [compact_snoc, List.mem_append, List.mem_append, ih r (by simpa using hz)]
   by_cases h : r = [] ∨ r.getLast? ≠ some y
   ·simp [h]
   ·simp only [h, if_false, List.not_mem_nil, or_false, List.mem_singleton]
    have h2 : r.getLast? = some y := by
     rcases Classical.em (r.getLast? = some y) with e | e
     ·exact e
     ·exact absurd (.inr e) h
    constructor
    ·exact .inl
    ·rintro (e | e)
     ·exact e
     ·rw [e]; exact List.mem_of_getLast? h2
theorem compact_ss (T : TO lt) : ∀ {zs : List α}, LE lt zs → SS lt (Lib.compact zs) := by
 suffices h : ∀ (n : Nat) (zs : List α), zs.length = n → LE lt zs → SS lt (Lib.compact zs) from fun {zs} => h _ zs rfl
 intro n
 induction n with
 | zero => intro zs hz _; rw [List.length_eq_zero_iff.1 hz]; exact List.Pairwise.nil
 | succ n ih =>
  intro zs hz hs
  rcases nil_or_snoc zs with rfl | ⟨r, y, rfl⟩
  ·simp at hz
  ·obtain ⟨h1, _, h3⟩ := List.pairwise_append.1 hs
   rw [compact_snoc]
   by_cases h : r = [] ∨ r.getLast? ≠ some y
   ·simp only [h, if_true]
    refine List.pairwise_append.2 ⟨ih r (by simpa using hz) h1, List.pairwise_singleton _ _, fun a ha b hb => ?_⟩
    have hb : b = y := by simpa using hb
    subst hb
    rw [mem_compact] at ha
    -- a is below the last, which is below b
    rcases nil_or_snoc r with rfl | ⟨q, l, rfl⟩
    ·simp at ha
    ·have hl : l ≠ b := by simpa using h
     have hlb : lt l b = true := by
      cases h5 : lt l b
      ·exact absurd (T.total h5 (h3 l (by simp) b (by simp))) hl
      ·rfl
     rcases List.mem_append.1 ha with e | e
     ·have h6 := (List.pairwise_append.1 h1).2.2 a e l (by simp)
      cases h7 : lt a l
      ·rw [T.total h7 h6]; exact hlb
      ·exact T.trans h7 hlb
     ·have : a = l := by simpa using e
      rw [this]; exact hlb
   ·simp only [h, if_false, List.append_nil]
    exact ih r (by simpa using hz) h1
end
end

namespace Od
/-- Texts in order. -/
def ltS (a b : Str) : Bool := Op.bytesLess a b
theorem ltS_iff {a b : Str} : ltS a b = true ↔ a < b := by unfold ltS; rw [Go.Proofs.bytesLess_eq]; simp
theorem ltS_false {a b : Str} : ltS a b = false ↔ ¬ a < b := by rw [← ltS_iff]; simp
theorem toS : TO ltS where
 irrefl x := by rw [ltS_false]; exact List.lt_irrefl x
 trans h1 h2 := by rw [ltS_iff] at *; exact List.lt_trans h1 h2
 total h1 h2 := by
  rw [ltS_false] at h1 h2
  exact List.le_antisymm (List.not_lt.1 h2) (List.not_lt.1 h1)
/-- Pairs of texts in order. -/
def ltP (p q : Pr) : Bool := ltS p.1 q.1 || (p.1 == q.1 && ltS p.2 q.2)
end Od
end Go.Proofs.YtbllehjhmfehbaaGreat
end
