/- My texts, joined for the claim: Kit Kit2 GWords GRegion Reg OAhead OSmall OSame. -/
import Derived.WalkKit
import Derived.WalkSpells
import Derived.WalkLawsBesides
import Derived.Maps.AppendAt
import Derived.Deep.AppendLies
import Derived.Deep.Draws
import Derived.Lib.Hide
import Derived.Laws.AppendOwnNone
import Derived.Deep.RegionHeld3
import Derived.RegionTactic
import Derived.Test.YtbllehjhmfehbaaGreatRows
import Derived.Shelf.Abstract
import Derived.Deep.QuietTactic
import Derived.BigQuiet

section
/- Words for memory that my walks share: a slice that reads as a list of cells (Rd), and one that the call owns (World.ownsRow, the library's own). -/
namespace Go.Proofs.YtbllehjhmfehbaaGreat
open Go.RowKit

/-- The slice '.slice A n c' holds the cells xs, k cells an element, in a block below B. -/
def Rd (w : World) (B k : Nat) (A : Option Addr) (n : Nat) (xs : List Value) : Prop :=
  xs.length = n * k ∧ (0 < n → ∃ ad : Addr, A = some ad ∧ ad.block < B ∧ ad.spot = none ∧ ∀ j, j < n * k → w.cell? ⟨ad.block, ad.off + j, none⟩ = xs[j]?)

section
variable {w w' : World} {B B' k n : Nat} {A : Option Addr} {xs : List Value}

theorem Rd.len (h : Rd w B k A n xs) : xs.length = n * k := h.1

/-- Where something is read there is an address. -/
theorem Rd.open (h : Rd w B k A n xs) (hn : 0 < n) : ∃ b o : Nat, A = some ⟨b, o, none⟩ ∧ b < B ∧ ∀ j, j < n * k → w.cell? ⟨b, o + j, none⟩ = xs[j]? := by
  obtain ⟨⟨b, o, s⟩, e, hb, hs, hc⟩ := h.2 hn
  simp only at hs
  subst hs
  exact ⟨b, o, e, hb, hc⟩

theorem Rd.none_ : Rd w B k A 0 [] := ⟨by simp, fun h => absurd h (by omega)⟩

theorem Rd.keep (h : Rd w B k A n xs) (hk : ∀ p : Addr, p.block < B → w'.cell? p = w.cell? p) : Rd w' B k A n xs :=
  ⟨h.1, fun hn => by
    obtain ⟨ad, e, hb, hs, hc⟩ := h.2 hn
    exact ⟨ad, e, hb, hs, fun j hj => (hk ⟨ad.block, ad.off + j, none⟩ hb).trans (hc j hj)⟩⟩
theorem Rd.more (h : Rd w B k A n xs) (hB : B ≤ B') : Rd w B' k A n xs :=
  ⟨h.1, fun hn => by
    obtain ⟨ad, e, hb, hc⟩ := h.2 hn
    exact ⟨ad, e, by omega, hc⟩⟩
theorem Rd.below (h : Rd w B k A n xs) (hb : Below B w w') : Rd w' B k A n xs := h.keep fun _ hp => hb.cell hp
/-- Carried on over what a call did. -/
theorem Rd.on (h : Rd w B k A n xs) (hB : B ≤ w.heap.size) (hb : Below w.heap.size w w') : Rd w' B k A n xs := h.below (hb.mono hB)
theorem Rd.drew (h : Rd w B k A n xs) : Rd w.drew B k A n xs := h
theorem Rd.alloc (h : Rd w B k A n xs) (hB : B ≤ w.heap.size) (o : Obj) : Rd (w.alloc o) B k A n xs := h.keep fun p hp => World.cell?_alloc_lt w o p (by omega)
theorem Rd.setCell (h : Rd w B k A n xs) {p : Addr} (hB : B ≤ p.block) (u : Value) : Rd (w.setCell p u) B k A n xs :=
  h.keep fun q hq => World.cell?_setCell_other w p q u (fun e => by subst e; omega)
theorem Rd.grown (h : Rd w B k A n xs) {row : Option Nat} (hg : w.grownBy w' row) (hB : B ≤ w.heap.size) (hr : ∀ g, row = some g → B ≤ g) : Rd w' B k A n xs :=
  h.keep fun p hp => World.cell?_of_block (hg.block p.block (by omega) (fun e => by have := hr _ e.symm; omega))
end

/-- What the call owns reads as a list, whatever its address. -/
theorem own_rd {w : World} {base e k n : Nat} {v : Value} {xs : List Value} (h : w.ownsRow base e k v n xs) : ∃ (A : Option Addr) (c : Nat), v = .slice A n c ∧ Rd w w.heap.size k A n xs := by
  have h' := h
  obtain ⟨hl, ⟨rfl, rfl⟩ | ⟨g, cap, cur, rfl, hg, hh, hn, hm, hs, hx⟩⟩ := h
  · exact ⟨none, 0, rfl, hl, fun hn => absurd hn (by omega)⟩
  · have hlt : g < w.heap.size := (h'.lt g rfl).2
    refine ⟨some ⟨g, 0, none⟩, cap, rfl, hl, fun _ => ⟨_, rfl, hlt, rfl, fun j hj => ?_⟩⟩
    have := h'.cellAt (g := g) (cap := cap) j hj
    simpa using this

/-- The same where the value is written out. -/
theorem own_rd' {w : World} {base e k n m c : Nat} {A : Option Addr} {xs : List Value} (h : w.ownsRow base e k (.slice A m c) n xs) : Rd w w.heap.size k A n xs := by
  obtain ⟨A', c', hv, hr⟩ := own_rd h
  injection hv with h1 h2 h3
  subst h1
  exact hr

theorem own_alloc {w : World} {base e k n : Nat} {v : Value} {xs : List Value} (h : w.ownsRow base e k v n xs) (o : Obj) : (w.alloc o).ownsRow base e k v n xs := h.alloc o

/-- What is owned stays owned over what a call did that turned nothing of what was there. -/
theorem own_on {w w' : World} {base e k n : Nat} {v : Value} {xs : List Value} (h : w.ownsRow base e k v n xs) (hb : Below w.heap.size w w') : w'.ownsRow base e k v n xs := by
  have h' := h
  obtain ⟨hl, ⟨rfl, rfl⟩ | ⟨g, cap, cur, rfl, hg, hh, r⟩⟩ := h
  · exact ⟨hl, .inl ⟨rfl, rfl⟩⟩
  · have hlt : g < w.heap.size := (h'.lt g rfl).2
    exact ⟨hl, .inr ⟨g, cap, cur, rfl, hg, (hb.block g hlt).trans hh, r⟩⟩

/-- A base further down serves as well. -/
theorem own_base {w : World} {base base' e k n : Nat} {v : Value} {xs : List Value} (h : w.ownsRow base e k v n xs) (hb : base' ≤ base) : w.ownsRow base' e k v n xs := by
  obtain ⟨hl, h0 | ⟨g, cap, cur, hv, hg, r⟩⟩ := h
  · exact ⟨hl, .inl h0⟩
  · exact ⟨hl, .inr ⟨g, cap, cur, hv, by omega, r⟩⟩

theorem cells_new (w : World) (news : List Value) (t : TypeId) : ∀ j u, news[j]? = some u → (w.alloc (.cells news.toArray t)).cell? ((⟨w.heap.size, 0, none⟩ : Addr).add j) = some u := by
  intro j u hj
  rw [World.cell?_of_block (w := { w with heap := (w.heap.push (.cells news.toArray t)) }) (by rfl)]
  by_cases h0 : j = 0 <;> simp_all [World.cell?, Addr.add]

/-- 'out = append(out, x)' of one element, out the call's own: what is owned afterwards, and that nothing below base has turned. -/
theorem wpList_push {P : Program} (w0 w : World) {ops : Array Oper} {rest : List Oper} {o : Oper} {a : Act} {Q : Exit → Act → World → Prop} (hgd : o.guard = none) (s x : Operand) (t : TypeId)
    (ho : o.op = .call { callee := .builtin .append, args := #[s, x], argTypes := #[t, t] })
    (base : Nat) (e : TypeId) (i : TypeInfo) (z : Value) (size bytes : Nat) (ht : P.underlying t = some (.slice e)) (hi : P.info? e = some i) (hz : i.zero = some z)
    (hsize : i.size = size) (hby : i.bytes = bytes) (hzs : z.cells.size = size) (hsz : 0 < size)
    (v : Value) (n : Nat) (xs : List Value) (hs : a.eval s = v) (hown : w.ownsRow base e size v n xs)
    (news : List Value) (hx : a.eval x = .slice (some ⟨w.heap.size, 0, none⟩) 1 1) (hl : news.length = size) (h1 : ∀ u ∈ news, u.oneCell' = true)
    (h63 : n + 1 ≤ maxLen) (hbytes : (n + 1) * bytes ≤ 140737488355328) (hbase : base ≤ w.heap.size) (hbel : Below base w0 w)
    (h : ∀ A' c' w', w'.ownsRow base e size (.slice A' (n + 1) c') (n + 1) (xs ++ news) → Below base w0 w' → w.grownBy w' v.ownBlock →
      ((Value.slice A' (n + 1) c').ownBlock = v.ownBlock ∨ (Value.slice A' (n + 1) c').ownBlock = some (w.heap.size + 1)) → wpList P ops Q rest (a.put o.dst (.slice A' (n + 1) c')) w') :
    wpList P ops Q (o :: rest) a (w.alloc (.cells news.toArray e)) := by
  have hlt := hown.lt
  refine wpList_append_own_at (w.alloc (.cells news.toArray e)) hgd s x t ho base e i z size bytes ht hi hz hsize hby hzs hsz v n xs hs (hown.alloc _) ⟨w.heap.size, 0, none⟩ 1 1 news hx (by simpa using hl) (cells_new w news e) h1 h63 hbytes (by simp; omega) ?_
  intro v' w' hown' hgrow _ hat
  obtain ⟨A', c', hv, _⟩ := own_rd hown'
  subst hv
  have hg : w.grownBy w' v.ownBlock := World.grownBy.trans (World.grownBy_alloc w _ _) hgrow
  exact h A' c' w' hown' (hbel.grown hg hbase (fun k hk => (hlt k hk).1)) hg (by simpa using hat)

theorem ret_int {k : IntKind} {a b : Int} (h : a = b) : Ending.returned (.int k a) = .returned (.int k b) := by rw [h]
theorem ret_bool {a b : Bool} (h : a = b) : Ending.returned (.bool a) = .returned (.bool b) := by rw [h]
theorem ret_int_bool {k : IntKind} {a b : Int} {c d : Bool} (h : (a, c) = (b, d)) : Ending.returned (.tuple #[.int k a, .bool c]) = .returned (.tuple #[.int k b, .bool d]) := by
  injection h with h1 h2; rw [h1, h2]

/-- A slice literal's block reads as what was laid into it. -/
theorem Rd.lit (w : World) (cs : List Value) (e : TypeId) (k n : Nat) (hl : cs.length = n * k) : Rd (w.alloc (.cells cs.toArray e)) (w.alloc (.cells cs.toArray e)).heap.size k (some ⟨w.heap.size, 0, none⟩) n cs := by
  refine ⟨hl, fun _ => ⟨_, rfl, by simp, rfl, fun j hj => ?_⟩⟩
  have hj' : j < cs.length := by omega
  have := cells_new w cs e j cs[j] (List.getElem?_eq_getElem hj')
  rw [List.getElem?_eq_getElem hj']
  unfold Addr.add at this
  split at this
  · rename_i h0; subst h0; exact this
  · simp only [Nat.zero_add] at this ⊢; exact this

theorem below_alloc {B : Nat} {w w' : World} {o : Obj} (hB : B ≤ w.heap.size) (h : Below (w.alloc o).heap.size (w.alloc o) w') : Below B w w' :=
  (((Below.refl B w).alloc hB o).trans (h.mono (by simp; omega)))

/-- Numbers as cells. -/
abbrev ints (xs : List Int) : List Value := xs.map (Value.int .i64)
theorem ints_at {xs : List Int} {j : Nat} (h : j < xs.length) : (ints xs)[j]? = some (.int .i64 xs[j]) := by simp [ints, h]

end Go.Proofs.YtbllehjhmfehbaaGreat
end

section
/- Words for memory, more: 'out = append(out, xs...)', xs whatever slice that reads as a list (nil let in). -/
namespace Go.Proofs.YtbllehjhmfehbaaGreat
open Go.RowKit

/-- Two rows of the call's own that are not one. -/
def Sep (v v' : Value) : Prop := v.ownBlock = none ∨ v'.ownBlock = none ∨ v.ownBlock ≠ v'.ownBlock
theorem Sep.symm {v v' : Value} (h : Sep v v') : Sep v' v := by
  rcases h with h | h | h
  · exact .inr (.inl h)
  · exact .inl h
  · exact .inr (.inr (Ne.symm h))
theorem Sep.kept {w w' : World} {v v' : Value} {base e k n : Nat} {xs : List Value} (hs : Sep v v') (h : w.ownsRow base e k v' n xs) (hg : w.grownBy w' v.ownBlock) : w'.ownsRow base e k v' n xs := by
  refine h.kept hg ?_
  rcases hs with h1 | h1 | h1
  · cases hv : v'.ownBlock with
    | none => exact .inl rfl
    | some g => exact .inr (by rw [h1]; simp)
  · exact .inl h1
  · exact .inr (Ne.symm h1)
theorem Sep.push {w : World} {v v' v2 : Value} {base e k n : Nat} {xs : List Value} (hs : Sep v v') (h : w.ownsRow base e k v' n xs) (hat : v2.ownBlock = v.ownBlock ∨ v2.ownBlock = some (w.heap.size + 1)) : Sep v2 v' := by
  rcases hat with h1 | h1
  · unfold Sep; rw [h1]; exact hs
  · cases hv : v'.ownBlock with
    | none => exact .inr (.inl hv)
    | some g =>
      have := (h.lt g hv).2
      exact .inr (.inr (by rw [h1, hv]; simp; omega))
/-- What is made anew is another row than what was there. -/
theorem Sep.new {w w' : World} {v v' : Value} {base e k n base' e' k' n' : Nat} {xs xs' : List Value} (h : w.ownsRow base e k v n xs) (h' : w'.ownsRow base' e' k' v' n' xs') (hb : w.heap.size ≤ base') : Sep v' v := by
  cases hv : v.ownBlock with
  | none => exact .inr (.inl hv)
  | some g =>
    cases hv' : v'.ownBlock with
    | none => exact .inl hv'
    | some g' =>
      have h1 := (h.lt g hv).2
      have h2 := (h'.lt g' hv').1
      exact .inr (.inr (by rw [hv, hv']; simp; omega))
theorem own_cap {w : World} {base e k n m c : Nat} {A : Option Addr} {xs : List Value} (h : w.ownsRow base e k (.slice A m c) n xs) : n ≤ c ∧ c ≤ maxLen := by
  obtain ⟨_, ⟨hv, hn⟩ | ⟨g, cap, cur, hv, _, _, hc, hm, _⟩⟩ := h
  · injection hv with _ _ h3; subst h3; subst hn; exact ⟨by omega, by decide⟩
  · injection hv with _ _ h3; subst h3; exact ⟨hc, hm⟩
theorem Rd.take {w : World} {B k n m : Nat} {A : Option Addr} {xs : List Value} (h : Rd w B k A n xs) (hm : m ≤ n) : Rd w B k A m (xs.take (m * k)) := by
  have hmk : m * k ≤ n * k := Nat.mul_le_mul_right k hm
  refine ⟨by rw [List.length_take, h.1]; omega, fun h0 => ?_⟩
  obtain ⟨ad, h1, h2, h3, h4⟩ := h.2 (by omega)
  exact ⟨ad, h1, h2, h3, fun j hj => by rw [h4 j (by omega), List.getElem?_take_of_lt hj]⟩

section
variable {P : Program} (w : World)
theorem run_append_rd (base : Nat) (t ty e : TypeId) (i : TypeInfo) (z : Value) (size bytes : Nat) (ht : P.underlying t = some (.slice e)) (hi : P.info? e = some i) (hz : i.zero = some z)
    (hsize : i.size = size) (hby : i.bytes = bytes) (hzs : z.cells.size = size) (hsz : 0 < size) (v : Value) (n : Nat) (xs : List Value) (hown : w.ownsRow base e size v n xs)
    (B : Nat) (A : Option Addr) (m c : Nat) (news : List Value) (hr : Rd w B size A m news) (h1 : ∀ u ∈ news, u.oneCell' = true) (h63 : n + m ≤ maxLen) (hbytes : (n + m) * bytes ≤ 140737488355328) (hbase : base ≤ w.heap.size) :
    ∃ A' c' w', (Builtin.append_ #[t, t] ty #[v, .slice A m c]).run P w = .ok (.slice A' (n + m) c') w' ∧ w'.ownsRow base e size (.slice A' (n + m) c') (n + m) (xs ++ news) ∧ w.grownBy w' v.ownBlock ∧
      ((Value.slice A' (n + m) c').ownBlock = v.ownBlock ∨ (Value.slice A' (n + m) c').ownBlock = some w.heap.size) := by
  cases A with
  | none =>
    have hm : m = 0 := by
      rcases Nat.eq_zero_or_pos m with h0 | h0
      · exact h0
      · obtain ⟨ad, h, _⟩ := hr.2 h0; cases h
    subst hm
    have hn : news = [] := List.eq_nil_of_length_eq_zero (by simpa using hr.1)
    subst hn
    have hown' := hown
    obtain ⟨A0, c0, rfl, _⟩ := own_rd hown
    refine ⟨A0, c0, w, ?_, by simpa using hown, World.grownBy.refl w _, .inl rfl⟩
    rcases hown'.2 with ⟨hv, hn0⟩ | ⟨g, cap, cur, hv, _, _, hnc, _⟩
    · injection hv with h2 h3 h4
      subst h2 h3 h4
      simp [Builtin.append_, run_underlying ht, sizeOf, typeInfo, hi, Builtin.lenOf, Builtin.firstCells]
    · injection hv with h2 h3 h4
      subst h2 h4
      simp [Builtin.append_, run_underlying ht, sizeOf, typeInfo, hi, Builtin.lenOf, Builtin.firstCells, hnc, storeCells]
  | some ad =>
    have hnews : ∀ j u, news[j]? = some u → w.cell? (ad.add j) = some u := by
      intro j u hu
      have hj : j < news.length := by
        rcases Nat.lt_or_ge j news.length with h | h
        · exact h
        · rw [List.getElem?_eq_none h] at hu; cases hu
      have hm0 : 0 < m := by
        rcases Nat.eq_zero_or_pos m with h0 | h0
        · have := hr.1; rw [h0, Nat.zero_mul] at this; omega
        · exact h0
      obtain ⟨ad', he, _, hs, hc⟩ := hr.2 hm0
      injection he with he
      subst he
      have hadd : ad.add j = ⟨ad.block, ad.off + j, none⟩ := by
        unfold Addr.add
        split
        · rename_i h0; subst h0; cases ad; simp_all
        · rfl
      rw [hadd, hc j (by rw [← hr.1]; exact hj), hu]
    obtain ⟨v', w', hrun, h2, h3, _, h5⟩ := run_append_own_at (P := P) w base t ty e i z size bytes ht hi hz hsize hby hzs hsz v n xs hown ad m c news hr.1 hnews h1 h63 hbytes hbase
    obtain ⟨A', c', rfl, _⟩ := own_rd h2
    exact ⟨A', c', w', hrun, h2, h3, h5⟩

theorem wp_append_rd {o : Oper} {a : Act} {K : Act → World → Prop} {Q : Exit → Act → World → Prop} (s x : Operand) (t : TypeId)
    (ho : o.op = .call { callee := .builtin .append, args := #[s, x], argTypes := #[t, t] })
    (base : Nat) (e : TypeId) (i : TypeInfo) (z : Value) (size bytes : Nat) (ht : P.underlying t = some (.slice e)) (hi : P.info? e = some i) (hz : i.zero = some z)
    (hsize : i.size = size) (hby : i.bytes = bytes) (hzs : z.cells.size = size) (hsz : 0 < size)
    (v : Value) (n : Nat) (xs : List Value) (hs : a.eval s = v) (hown : w.ownsRow base e size v n xs)
    (B : Nat) (A : Option Addr) (m c : Nat) (news : List Value) (hx : a.eval x = .slice A m c) (hr : Rd w B size A m news) (h1 : ∀ u ∈ news, u.oneCell' = true)
    (h63 : n + m ≤ maxLen) (hbytes : (n + m) * bytes ≤ 140737488355328) (hbase : base ≤ w.heap.size)
    (h : ∀ A' c' w', w'.ownsRow base e size (.slice A' (n + m) c') (n + m) (xs ++ news) → w.grownBy w' v.ownBlock →
      ((Value.slice A' (n + m) c').ownBlock = v.ownBlock ∨ (Value.slice A' (n + m) c').ownBlock = some w.heap.size) → K (a.put o.dst (.slice A' (n + m) c')) w') : o.wp P a w K Q := by
  obtain ⟨A', c', w', hrun, h2, h3, h4⟩ := run_append_rd (P := P) w base t o.type e i z size bytes ht hi hz hsize hby hzs hsz v n xs hown B A m c news hr h1 h63 hbytes hbase
  unfold Oper.wp execOp
  simp only [ho, resolve, invoke, builtin, Sem.run_bind, Sem.run_pure, Result.andThen_ok, List.map_toArray, List.map_cons, List.map_nil, hs, hx, hrun]
  exact h A' c' w' h2 h3 h4

theorem wpList_append_rd {ops : Array Oper} {rest : List Oper} {o : Oper} {a : Act} {Q : Exit → Act → World → Prop} (hgd : o.guard = none) (s x : Operand) (t : TypeId)
    (ho : o.op = .call { callee := .builtin .append, args := #[s, x], argTypes := #[t, t] })
    (base : Nat) (e : TypeId) (i : TypeInfo) (z : Value) (size bytes : Nat) (ht : P.underlying t = some (.slice e)) (hi : P.info? e = some i) (hz : i.zero = some z)
    (hsize : i.size = size) (hby : i.bytes = bytes) (hzs : z.cells.size = size) (hsz : 0 < size)
    (v : Value) (n : Nat) (xs : List Value) (hs : a.eval s = v) (hown : w.ownsRow base e size v n xs)
    (B : Nat) (A : Option Addr) (m c : Nat) (news : List Value) (hx : a.eval x = .slice A m c) (hr : Rd w B size A m news) (h1 : ∀ u ∈ news, u.oneCell' = true)
    (h63 : n + m ≤ maxLen) (hbytes : (n + m) * bytes ≤ 140737488355328) (hbase : base ≤ w.heap.size)
    (h : ∀ A' c' w', w'.ownsRow base e size (.slice A' (n + m) c') (n + m) (xs ++ news) → w.grownBy w' v.ownBlock →
      ((Value.slice A' (n + m) c').ownBlock = v.ownBlock ∨ (Value.slice A' (n + m) c').ownBlock = some w.heap.size) → wpList P ops Q rest (a.put o.dst (.slice A' (n + m) c')) w') : wpList P ops Q (o :: rest) a w :=
  wpList_plain hgd fun _ hK => wp_append_rd w s x t ho base e i z size bytes ht hi hz hsize hby hzs hsz v n xs hs hown B A m c news hx hr h1 h63 hbytes hbase fun A' c' w' h2 h3 h4 => hK _ _ (h A' c' w' h2 h3 h4)

/-- At a step of a region that draws its order. -/
theorem step_append_rd {ops : Array Oper} {o : Oper} {a : Act} {K : Act → World → Prop} {Q : Exit → Act → World → Prop} {E : Prop} (hgd : o.guard = none) (s x : Operand) (t : TypeId)
    (ho : o.op = .call { callee := .builtin .append, args := #[s, x], argTypes := #[t, t] })
    (base : Nat) (e : TypeId) (i : TypeInfo) (z : Value) (size bytes : Nat) (ht : P.underlying t = some (.slice e)) (hi : P.info? e = some i) (hz : i.zero = some z)
    (hsize : i.size = size) (hby : i.bytes = bytes) (hzs : z.cells.size = size) (hsz : 0 < size)
    (v : Value) (n : Nat) (xs : List Value) (hs : a.eval s = v) (hown : w.ownsRow base e size v n xs)
    (B : Nat) (A : Option Addr) (m c : Nat) (news : List Value) (hx : a.eval x = .slice A m c) (hr : Rd w B size A m news) (h1 : ∀ u ∈ news, u.oneCell' = true)
    (h63 : n + m ≤ maxLen) (hbytes : (n + m) * bytes ≤ 140737488355328) (hbase : base ≤ w.heap.size)
    (h : ∀ A' c' w', w'.ownsRow base e size (.slice A' (n + m) c') (n + m) (xs ++ news) → w.grownBy w' v.ownBlock →
      ((Value.slice A' (n + m) c').ownBlock = v.ownBlock ∨ (Value.slice A' (n + m) c').ownBlock = some w.heap.size) → K (a.put o.dst (.slice A' (n + m) c')) w') :
    if Region.wanted o (yielded ops a.tmps) = true then Oper.wp P o a w K Q else E := by
  rw [if_pos (by simp [Region.wanted, hgd])]
  exact wp_append_rd w s x t ho base e i z size bytes ht hi hz hsize hby hzs hsz v n xs hs hown B A m c news hx hr h1 h63 hbytes hbase h
end

/-- 'append([]T(nil), xs...)' at a step of a region that draws its order. -/
theorem step_append_first {P : Program} (w : World) {ops : Array Oper} {o : Oper} {a : Act} {K : Act → World → Prop} {Q : Exit → Act → World → Prop} {E : Prop} (hgd : o.guard = none) (s x : Operand) (t : TypeId)
    (ho : o.op = .call { callee := .builtin .append, args := #[s, x], argTypes := #[t, t] })
    (base : Nat) (e : TypeId) (i : TypeInfo) (z : Value) (size bytes : Nat) (ht : P.underlying t = some (.slice e)) (hi : P.info? e = some i) (hz : i.zero = some z)
    (hsize : i.size = size) (hby : i.bytes = bytes) (hzs : z.cells.size = size) (hsz : 0 < size) (hs : a.eval s = .slice none 0 0)
    (B : Nat) (A : Option Addr) (m c : Nat) (news : List Value) (hx : a.eval x = .slice A m c) (hr : Rd w B size A m news) (h1 : ∀ u ∈ news, u.oneCell' = true)
    (h63 : m ≤ maxLen) (hbytes : m * bytes ≤ 140737488355328) (hbase : base ≤ w.heap.size)
    (h : ∀ A' c' w', w'.ownsRow base e size (.slice A' m c') m news → Below w.heap.size w w' → K (a.put o.dst (.slice A' m c')) w') :
    if Region.wanted o (yielded ops a.tmps) = true then Oper.wp P o a w K Q else E := by
  refine step_append_rd w hgd s x t ho base e i z size bytes ht hi hz hsize hby hzs hsz (.slice none 0 0) 0 [] hs (World.ownsRow_nil _ _ _ _) B A m c news hx hr h1 (by omega) (by simpa using hbytes) hbase ?_
  intro A' c' w' h2 h3 _
  rw [Nat.zero_add, List.nil_append] at h2
  rw [Nat.zero_add]
  exact h A' c' w' h2 ((Below.refl _ _).grown h3 (Nat.le_refl _) (by simp [Value.ownBlock]))

/-- 's[i:]' as the model writes it: the old address where nothing is left of the capacity. -/
theorem Rd.drop {w : World} {B k n m c : Nat} {A : Option Addr} {xs : List Value} (h : Rd w B k A n xs) (hm : m ≤ n) (hc : n ≤ c) : Rd w B k (if c = m then A else A.map (·.add (m * k))) (n - m) (xs.drop (m * k)) := by
  refine ⟨by rw [List.length_drop, h.1, Nat.sub_mul], fun h0 => ?_⟩
  obtain ⟨ad, rfl, h2, h3, h4⟩ := h.2 (by omega)
  rw [if_neg (by omega)]
  have hmk : m * k ≤ n * k := Nat.mul_le_mul_right k hm
  have hadd : ad.add (m * k) = ⟨ad.block, ad.off + m * k, none⟩ := by
    unfold Addr.add
    split
    · rename_i h0; rw [h0]; cases ad; simp_all
    · rfl
  refine ⟨ad.add (m * k), rfl, by rw [hadd]; exact h2, by rw [hadd], fun j hj => ?_⟩
  rw [hadd]
  rw [Nat.sub_mul] at hj
  rw [List.getElem?_drop, ← h4 (m * k + j) (by omega)]
  simp only [Nat.add_assoc]

/-- The same as the walk writes it, where it is known that something of the capacity is left; 'j' is m * k as the walk shows it. -/
theorem Rd.drop_map {w : World} {B k n m j : Nat} {A : Option Addr} {xs : List Value} (h : Rd w B k A n xs) (hm : m ≤ n) (hj : j = m * k) :
    Rd w B k (A.map fun x => { block := x.block, off := x.off + j }) (n - m) (xs.drop j) := by
  subst hj
  by_cases h0 : 0 < n - m
  · have h' := h.drop (c := n + m + 1) hm (by omega)
    rw [if_neg (by omega)] at h'
    obtain ⟨ad, rfl, _, hs, _⟩ := h.2 (by omega)
    have hadd : ad.add (m * k) = ⟨ad.block, ad.off + m * k, none⟩ := by
      unfold Addr.add
      split
      · rename_i h0; rw [h0]; cases ad; simp_all
      · rfl
    simpa [hadd] using h'
  · refine ⟨by rw [List.length_drop, h.1, Nat.sub_mul], fun h1 => absurd h1 h0⟩

/-- What is cut away wholly reads as nothing, at whatever address. -/
theorem Rd.empty {w : World} {B k : Nat} (A : Option Addr) : Rd w B k A 0 [] := ⟨by simp, fun h => absurd h (by omega)⟩

end Go.Proofs.YtbllehjhmfehbaaGreat
end

section
/- Graphs as data: texts, nodes, edges; how they lie in cells. -/
namespace Go.Proofs.YtbllehjhmfehbaaGreat
open Go.RowKit

abbrev Str := List UInt8
/-- A text as a value. -/
abbrev sv (s : Str) : Value := .string ⟨s.toArray⟩
abbrev Nd := Str × Int × Int
abbrev Ed := Str × Str × Int
abbrev Pr := Str × Str
def ndC (n : Nd) : List Value := [sv n.1, .int .i64 n.2.1, .int .i64 n.2.2]
def edC (e : Ed) : List Value := [sv e.1, sv e.2.1, .int .i64 e.2.2]
def prC (p : Pr) : List Value := [sv p.1, sv p.2]
def ndsC (l : List Nd) : List Value := l.flatMap ndC
def edsC (l : List Ed) : List Value := l.flatMap edC
def prsC (l : List Pr) : List Value := l.flatMap prC
def svs (l : List Str) : List Value := l.map sv

/-- Cells of a row of equal parts. -/
theorem flat_at {α : Type} (c : α → List Value) (k : Nat) (hc : ∀ x, (c x).length = k) : ∀ (l : List α) (i u : Nat) (hi : i < l.length), u < k → (l.flatMap c)[i * k + u]? = (c l[i])[u]?
  | x :: l, 0, u, _, hu => by
    simp only [List.flatMap_cons, Nat.zero_mul, Nat.zero_add, List.getElem_cons_zero]
    rw [List.getElem?_append_left (by rw [hc]; exact hu)]
  | x :: l, i + 1, u, hi, hu => by
    simp only [List.flatMap_cons, List.getElem_cons_succ]
    rw [List.getElem?_append_right (by rw [hc, Nat.add_mul]; omega), hc, show (i + 1) * k + u - k = i * k + u from by rw [Nat.add_mul]; omega]
    exact flat_at c k hc l i u (by simpa using hi) hu
theorem flat_len {α : Type} (c : α → List Value) (k : Nat) (hc : ∀ x, (c x).length = k) (l : List α) : (l.flatMap c).length = l.length * k := by
  induction l with
  | nil => simp
  | cons x l ih => simp [hc, ih, Nat.add_mul]; omega

theorem edC_len (e : Ed) : (edC e).length = 3 := rfl
theorem ndC_len (n : Nd) : (ndC n).length = 3 := rfl
theorem prC_len (p : Pr) : (prC p).length = 2 := rfl

/-- The three cells of an edge. -/
theorem Rd.edge {w : World} {B : Nat} {A : Option Addr} {es : List Ed} (h : Rd w B 3 A es.length (edsC es)) {i : Nat} (hi : i < es.length) :
    ∃ b o : Nat, A = some ⟨b, o, none⟩ ∧ b < B ∧ w.cell? ⟨b, o + i * 3, none⟩ = some (sv es[i].1) ∧ w.cell? ⟨b, o + i * 3 + 1, none⟩ = some (sv es[i].2.1) ∧ w.cell? ⟨b, o + i * 3 + 2, none⟩ = some (.int .i64 es[i].2.2) := by
  obtain ⟨b, o, e, hb, hc⟩ := h.open (by omega)
  have h0 := flat_at edC 3 edC_len es i 0 hi (by omega)
  have h1 := flat_at edC 3 edC_len es i 1 hi (by omega)
  have h2 := flat_at edC 3 edC_len es i 2 hi (by omega)
  refine ⟨b, o, e, hb, ?_, ?_, ?_⟩
  · exact (hc (i * 3) (by omega)).trans h0
  · exact (hc (i * 3 + 1) (by omega)).trans h1
  · exact (hc (i * 3 + 2) (by omega)).trans h2
theorem Rd.node {w : World} {B : Nat} {A : Option Addr} {ns : List Nd} (h : Rd w B 3 A ns.length (ndsC ns)) {i : Nat} (hi : i < ns.length) :
    ∃ b o : Nat, A = some ⟨b, o, none⟩ ∧ b < B ∧ w.cell? ⟨b, o + i * 3, none⟩ = some (sv ns[i].1) ∧ w.cell? ⟨b, o + i * 3 + 1, none⟩ = some (.int .i64 ns[i].2.1) ∧ w.cell? ⟨b, o + i * 3 + 2, none⟩ = some (.int .i64 ns[i].2.2) := by
  obtain ⟨b, o, e, hb, hc⟩ := h.open (by omega)
  have h0 := flat_at ndC 3 ndC_len ns i 0 hi (by omega)
  have h1 := flat_at ndC 3 ndC_len ns i 1 hi (by omega)
  have h2 := flat_at ndC 3 ndC_len ns i 2 hi (by omega)
  refine ⟨b, o, e, hb, ?_, ?_, ?_⟩
  · exact (hc (i * 3) (by omega)).trans h0
  · exact (hc (i * 3 + 1) (by omega)).trans h1
  · exact (hc (i * 3 + 2) (by omega)).trans h2
theorem Rd.pair {w : World} {B : Nat} {A : Option Addr} {ps : List Pr} (h : Rd w B 2 A ps.length (prsC ps)) {i : Nat} (hi : i < ps.length) :
    ∃ b o : Nat, A = some ⟨b, o, none⟩ ∧ b < B ∧ w.cell? ⟨b, o + i * 2, none⟩ = some (sv ps[i].1) ∧ w.cell? ⟨b, o + i * 2 + 1, none⟩ = some (sv ps[i].2) := by
  obtain ⟨b, o, e, hb, hc⟩ := h.open (by omega)
  have h0 := flat_at prC 2 prC_len ps i 0 hi (by omega)
  have h1 := flat_at prC 2 prC_len ps i 1 hi (by omega)
  refine ⟨b, o, e, hb, ?_, ?_⟩
  · exact (hc (i * 2) (by omega)).trans h0
  · exact (hc (i * 2 + 1) (by omega)).trans h1
theorem Rd.str {w : World} {B : Nat} {A : Option Addr} {ss : List Str} (h : Rd w B 1 A ss.length (svs ss)) {i : Nat} (hi : i < ss.length) :
    ∃ b o : Nat, A = some ⟨b, o, none⟩ ∧ b < B ∧ w.cell? ⟨b, o + i, none⟩ = some (sv ss[i]) := by
  obtain ⟨b, o, e, hb, hc⟩ := h.open (by omega)
  refine ⟨b, o, e, hb, ?_⟩
  rw [hc i (by omega)]
  simp [svs, hi]

theorem cell_blk {w : World} {a : Addr} {v : Value} (h : w.cell? a = some v) : a.block < w.heap.size := by
  rcases Nat.lt_or_ge a.block w.heap.size with h1 | h1
  · exact h1
  · unfold World.cell? at h
    rw [Array.getElem?_eq_none h1] at h
    cases h

/-- All old cells and marks read as before: what the walk wants behind a call that has made memory. -/
theorem bcell {W w1 : World} (hb : Below W.heap.size W w1) : (∀ b o, b < W.heap.size → w1.cell? ⟨b, o, none⟩ = W.cell? ⟨b, o, none⟩) ∧ (∀ b o, b < W.heap.size → w1.frozen? ⟨b, o, none⟩ = W.frozen? ⟨b, o, none⟩) :=
  ⟨fun b o h => hb.cell (p := ⟨b, o, none⟩) h, fun b o h => hb.frozen (p := ⟨b, o, none⟩) h⟩

end Go.Proofs.YtbllehjhmfehbaaGreat
end

section
/- Moves through a region that draws its order, one operation after another (what a guard shuts out too). No program. -/
namespace Go.Proofs.YtbllehjhmfehbaaGreat
open Go.RowKit
section
variable {P : Program} {ops : Array Oper} {Q : Exit → Act → World → Prop} {md : Region.Mode} {S : World → Prop}
variable {i : Nat} {dst : Option Tmp} {op : Op} {ty : TypeId} {pos : String} {aft : Array Edge} {grd : Option (Nat × Bool)} {v : Value} {fuel : Nat} {listed : Array Bool} {a : Act} {w : World}
/-- What yields its value in every world that meets S is taken first. -/
theorem take_yield (hi : ops[i]? = some ⟨dst, op, ty, pos, aft, grd⟩) (hs : Region.noSelect ops = true) (hf : Region.free md ops listed i = true) (hr : (Region.ready md ops listed).contains i = true)
    (hQ : ∀ c a w, Q (.panic c) (a.put dst v) w → Q (.panic c) a w) (hw : Region.wanted ⟨dst, op, ty, pos, aft, grd⟩ (yielded ops a.tmps) = true) (hy : ∀ w, S w → (execOp a.eval ⟨dst, op, ty, pos, aft, grd⟩).run P w = .ok (.value v) w)
    (hS : S w) (h : wpAnyH P md ops Q S fuel (listed.setIfInBounds i true) (a.put dst v) w) : wpAnyH P md ops Q S (fuel + 1) listed a w :=
  wpAnyH_take hi hs hf hr hQ (.inl ⟨hw, hy⟩) hS h
/-- What its guard shuts out is passed by. -/
theorem take_skip (hi : ops[i]? = some ⟨dst, op, ty, pos, aft, grd⟩) (hs : Region.noSelect ops = true) (hf : Region.free md ops listed i = true) (hr : (Region.ready md ops listed).contains i = true)
    (hQ : ∀ c a w, Q (.panic c) (a.put dst undef) w → Q (.panic c) a w) (hw : Region.wanted ⟨dst, op, ty, pos, aft, grd⟩ (yielded ops a.tmps) = false)
    (hS : S w) (h : wpAnyH P md ops Q S fuel (listed.setIfInBounds i true) (a.put dst undef) w) : wpAnyH P md ops Q S (fuel + 1) listed a w :=
  wpAnyH_take hi hs hf hr hQ (.inr ⟨hw, rfl⟩) hS h
/-- One alone may come up. -/
theorem ready_one (hi : ops[i]? = some ⟨dst, op, ty, pos, aft, grd⟩) (hr : Region.ready md ops listed = [i])
    (h : ∀ K' : Act → World → Prop, Shut (∀ a w, S w → (S w → wpAnyH P md ops Q S fuel (listed.setIfInBounds i true) a w) → K' a w) → if Region.wanted ⟨dst, op, ty, pos, aft, grd⟩ (yielded ops a.tmps) = true then Oper.wp P ⟨dst, op, ty, pos, aft, grd⟩ a w K' Q else K' (a.put dst undef) w) :
    wpAnyH P md ops Q S (fuel + 1) listed a w :=
  wpAnyH_ready hr (by simp) (AllReadyH.cons hi h AllReadyH.nil)
end
end Go.Proofs.YtbllehjhmfehbaaGreat
end

section
/- The moves through a region that draws its order, in short. No program. -/
namespace Go.Proofs.YtbllehjhmfehbaaGreat
open Go.RowKit
section
variable {P : Program} {ops : Array Oper} {Q : Exit → Act → World → Prop} {md : Region.Mode} {S : World → Prop}
variable {i : Nat} {dst : Option Tmp} {op : Op} {ty : TypeId} {pos : String} {aft : Array Edge} {grd : Option (Nat × Bool)} {v : Value} {fuel : Nat} {listed : Array Bool} {a : Act} {w : World}
theorem tY (hi : ops[i]? = some ⟨dst, op, ty, pos, aft, grd⟩) (hy : ∀ w, S w → (execOp a.eval ⟨dst, op, ty, pos, aft, grd⟩).run P w = .ok (.value v) w)
    (hS : S w) (h : wpAnyH P md ops Q S fuel (listed.setIfInBounds i true) (a.put dst v) w)
    (hs : Region.noSelect ops = true := by kernel_rfl) (hf : Region.free md ops listed i = true := by kernel_rfl) (hr : (Region.ready md ops listed).contains i = true := by kernel_rfl)
    (hQ : ∀ c a w, Q (.panic c) (a.put dst v) w → Q (.panic c) a w := by exact fun _ _ _ h => h) (hw : Region.wanted ⟨dst, op, ty, pos, aft, grd⟩ (yielded ops a.tmps) = true := by rfl) :
    wpAnyH P md ops Q S (fuel + 1) listed a w := take_yield hi hs hf hr hQ hw hy hS h
theorem tS (hi : ops[i]? = some ⟨dst, op, ty, pos, aft, grd⟩)
    (hS : S w) (h : wpAnyH P md ops Q S fuel (listed.setIfInBounds i true) (a.put dst undef) w)
    (hs : Region.noSelect ops = true := by kernel_rfl) (hf : Region.free md ops listed i = true := by kernel_rfl) (hr : (Region.ready md ops listed).contains i = true := by kernel_rfl)
    (hQ : ∀ c a w, Q (.panic c) (a.put dst undef) w → Q (.panic c) a w := by exact fun _ _ _ h => h) (hw : Region.wanted ⟨dst, op, ty, pos, aft, grd⟩ (yielded ops a.tmps) = false := by rfl) :
    wpAnyH P md ops Q S (fuel + 1) listed a w := take_skip hi hs hf hr hQ hw hS h
end
theorem zn1 {α : Type} {l : List α} {i : Nat} {a : α} : l.toArray.setIfInBounds i a = (l.set i a).toArray := List.setIfInBounds_toArray ..
theorem zn2 {α : Type} {l : List α} {a b : α} : (a :: l).set 0 b = b :: l := rfl
theorem zn3 {α : Type} {l : List α} {n : Nat} {a b : α} : (a :: l).set (n + 1) b = a :: l.set n b := rfl
end Go.Proofs.YtbllehjhmfehbaaGreat
end

section
/- The walks of package order: what comes directly ahead. -/
namespace Go.Proofs.YtbllehjhmfehbaaGreat
open Go.RowKit

namespace Od
theorem below_box {w w' : World} {B : Nat} (h : Below B w w') (hB : B ≤ w'.heap.size) (o : Obj) : Below B w (w'.alloc o) := h.alloc hB o
abbrev edV (e : Ed) : Value := .agg #[sv e.1, sv e.2.1, .int .i64 e.2.2]
abbrev prV (p : Pr) : Value := .agg #[sv p.1, sv p.2]
/-- The pair that an edge says: the first one ahead of the second one. -/
def pairOf (e : Ed) : Option Pr := if e.2.2 = 8 then some (e.2.1, e.1) else if e.2.2 = 7 then some (e.1, e.2.1) else none

def ofV (e : Ed) : Value := .tuple #[prV ((pairOf e).getD ([], [])), .bool (pairOf e).isSome]
set_option maxHeartbeats 400000 in
theorem of_any (s d : Str) (r : Int) (w : World) :
    Calls Tryz.prog 86 #[.agg #[sv s, sv d, .int .i64 r]] w fun e w' => e = .returned (ofV (s, d, r)) ∧ Below w.heap.size w w' := by
  by_cases h8 : r = 8
  · subst h8
    go_enter Tryz.func86, Tryz.ntmps86
    go_wp2
    exact bodyPost_ret (v := .tuple #[.agg #[sv d, sv s], .bool true]) (by simp [results, Tryz.results86, go_sem]) rfl ⟨by simp [pairOf, ofV], (by repeat (first | exact Below.refl _ _ | assumption | refine Below.alloc ?_ (by simp) _ | refine Below.setCell ?_ (by simp) _ | refine Below.drew ?_))⟩
  by_cases h7 : r = 7
  · subst h7
    go_enter Tryz.func86, Tryz.ntmps86
    go_wp2
    exact bodyPost_ret (v := .tuple #[.agg #[sv s, sv d], .bool true]) (by simp [results, Tryz.results86, go_sem]) rfl ⟨by simp [pairOf, ofV], (by repeat (first | exact Below.refl _ _ | assumption | refine Below.alloc ?_ (by simp) _ | refine Below.setCell ?_ (by simp) _ | refine Below.drew ?_))⟩
  · go_enter Tryz.func86, Tryz.ntmps86
    go_wp2
    exact bodyPost_ret (v := .tuple #[.agg #[sv [], sv []], .bool false]) (by simp [results, Tryz.results86, go_sem]) rfl ⟨by simp [pairOf, ofV, h8, h7], (by repeat (first | exact Below.refl _ _ | assumption | refine Below.alloc ?_ (by simp) _ | refine Below.setCell ?_ (by simp) _ | refine Below.drew ?_))⟩

/-- A function value that says of an edge whether p, whatever has been made since. -/
structure SaysE (g : Nat) (caps : Array Value) (p : Ed → Bool) (w : World) : Prop where
  enters : ∀ (args : Array Value) (W : World), (callFunc g args).run Tryz.prog W = .ok (.enter g args) W
  says : ∀ (W : World) (s d : Str) (r : Int), Below w.heap.size w W → Calls Tryz.prog g (#[.agg #[sv s, sv d, .int .i64 r]] ++ caps) W fun e w' => e = .returned (.bool (p (s, d, r))) ∧ Below W.heap.size W w'

theorem any_take_succ {α : Type} {p : α → Bool} {l : List α} {k : Nat} (hk : k < l.length) : (l.take (k + 1)).any p = ((l.take k).any p || p l[k]) := by
  rw [List.take_succ_eq_append_getElem hk]; simp only [List.any_append, List.any_cons, List.any_nil, Bool.or_false]
theorem any_of_at {α : Type} {p : α → Bool} {l : List α} {k : Nat} (hk : k < l.length) (h : p l[k] = true) : l.any p = true := List.any_eq_true.2 ⟨l[k], List.getElem_mem hk, h⟩

def SomeIdx (yes : Bool) (w : World) (e : Ending) (w' : World) : Prop := ∃ r : Int, e = .returned (.int .i64 r) ∧ (yes = true ↔ 0 ≤ r) ∧ Below w.heap.size w w'

set_option maxRecDepth 100000 in
set_option maxHeartbeats 400000 in
theorem IndexFuncE (A : Option Addr) (c : Nat) (es : List Ed) (g : Nat) (caps : Array Value) (p : Ed → Bool) (w : World) (hr : Rd w w.heap.size 3 A es.length (edsC es)) (hl : es.length ≤ 1000000) (hp : SaysE g caps p w) :
    Calls Tryz.prog 123 #[.slice A es.length c, .func (.func g) #[] caps] w (SomeIdx (es.any p) w) := by
  have Hr := Lib.hid hr
  have Hp := Lib.hid hp
  have eg := hp.enters
  clear hr hp
  go_enter Tryz.func123, Tryz.ntmps123
  go_wp2_with fail
  go_loopw [8] (fun i wr => ∃ k : Nat, k ≤ es.length ∧ i = .int .i64 k ∧ Hid ((es.take k).any p = false) ∧ Below w.heap.size w wr) (fun i _ => es.length - (intOf i).toNat)
  case atStart => exact ⟨0, Nat.zero_le _, rfl, by simp [Hid], Below.refl _ _⟩
  case round =>
    obtain ⟨k, hk, rfl, hall, hbel⟩ := hrel
    by_cases hlt : k < es.length
    · obtain ⟨b, o, rfl, hB, hc0, hc1, hc2⟩ := (Hr.out.on (Nat.le_refl _) hbel).edge hlt
      have Hbel := Lib.hid hbel
      clear hbel
      generalize hx : es[k] = x at hc0 hc1 hc2
      obtain ⟨s, d, r⟩ := x
      have Hx := Lib.hid hx
      clear hx
      simp only at hc0 hc1 hc2
      have hcall := Hp.out.says wr s d r Hbel.out
      cases hpx : p (s, d, r)
      · rw [hpx] at hcall
        have Hpx := Lib.hid hpx
        have Hcall := Lib.hid hcall
        clear hpx hcall
        go_wp2_with fail
        refine Hcall.out.mono ?_
        rintro e w2 ⟨rfl, hb2⟩
        have Hb2 := Lib.hid hb2
        clear hb2
        go_wp2_with fail
        go_roundw
        case rel => exact ⟨k + 1, by omega, by go_num, by show _ = false; rw [any_take_succ hlt, hall.out, Hx.out, Hpx.out]; rfl, Hbel.out.trans (Hb2.out.mono Hbel.out.size)⟩
        case measure => simp [intOf]; omega
      · rw [hpx] at hcall
        have Hpx := Lib.hid hpx
        have Hcall := Lib.hid hcall
        clear hpx hcall
        go_wp2_with fail
        refine Hcall.out.mono ?_
        rintro e w2 ⟨rfl, hb2⟩
        have Hb2 := Lib.hid hb2
        clear hb2
        go_wp2_with fail
        go_ret
        exact ⟨k, rfl, by rw [any_of_at hlt (by rw [Hx.out]; exact Hpx.out)]; simp, Hbel.out.trans (Hb2.out.mono Hbel.out.size)⟩
    · have hkl : k = es.length := by omega
      have ha := hall.out
      rw [List.take_of_length_le (by omega)] at ha
      have Ha := Lib.hid ha
      clear ha hkl
      go_wp2_with fail
      go_ret
      exact ⟨-1, rfl, by rw [Ha.out]; simp, hbel⟩
set_option maxHeartbeats 400000 in
theorem ContainsFuncE (A : Option Addr) (c : Nat) (es : List Ed) (g : Nat) (caps : Array Value) (p : Ed → Bool) (w : World) (hr : Rd w w.heap.size 3 A es.length (edsC es)) (hl : es.length ≤ 1000000) (hp : SaysE g caps p w) :
    Calls Tryz.prog 84 #[.slice A es.length c, .func (.func g) #[] caps] w fun e w' => e = .returned (.bool (es.any p)) ∧ Below w.heap.size w w' := by
  go_enter Tryz.func84, Tryz.ntmps84
  go_wp2_with fail
  refine (IndexFuncE A c es g caps p w hr hl hp).mono ?_
  rintro e w2 ⟨r, rfl, hiff, hb⟩
  have Hiff := Lib.hid hiff
  clear hiff
  go_wp2_with fail
  go_ret
  exact ⟨ret_bool (by rw [Bool.eq_iff_iff, Hiff.out]; simp), hb⟩

/-- Does an edge say that a is directly ahead of b? -/
def aheadB (a b : Str) (e : Ed) : Bool := pairOf e == some (a, b)

set_option maxHeartbeats 400000 in
theorem Ahead1_any (a b s d : Str) (r : Int) (pa pb : Nat) (w : World) (ha : w.cell? ⟨pa, 0, none⟩ = some (sv a)) (hb : w.cell? ⟨pb, 0, none⟩ = some (sv b)) :
    Calls Tryz.prog 85 #[.agg #[sv s, sv d, .int .i64 r], .pointer (some ⟨pa, 0, none⟩), .pointer (some ⟨pb, 0, none⟩)] w fun e w' => e = .returned (.bool (aheadB a b (s, d, r))) ∧ Below w.heap.size w w' := by
  have la := cell_blk ha
  have lb := cell_blk hb
  go_enter Tryz.func85, Tryz.ntmps85
  go_wp2_with fail
  refine (of_any s d r _).mono ?_
  rintro e w2 ⟨rfl, hb2⟩
  unfold ofV
  cases hp : pairOf (s, d, r)
  · simp only [Option.getD_none, Option.isSome_none]
    go_wp2_with fail
    go_ret
    exact ⟨ret_bool (by simp [aheadB, hp]), below_alloc (Nat.le_refl _) hb2 |>.alloc (by have := hb2.size; simp at this; omega) _⟩
  · rename_i q
    obtain ⟨x, y⟩ := q
    simp only [Option.getD_some, Option.isSome_some]
    have ⟨hc, _⟩ := bcell hb2
    have h1 : w2.cell? ⟨pa, 0, none⟩ = some (sv a) := by rw [hc pa 0 (by simp; omega), World.cell?_alloc_lt _ _ _ (by simpa using la)]; exact ha
    have h2 : w2.cell? ⟨pb, 0, none⟩ = some (sv b) := by rw [hc pb 0 (by simp; omega), World.cell?_alloc_lt _ _ _ (by simpa using lb)]; exact hb
    have hz := hb2.size
    simp only [World.size_alloc] at hz
    have Hb2 := Lib.hid hb2
    have n1 : pa < w2.heap.size := by omega
    have n2 : pb < w2.heap.size := by omega
    have n3 : ¬ pa = w2.heap.size := by omega
    have n4 : ¬ pb = w2.heap.size := by omega
    clear hc hb2 ha hb
    go_wp2_with fail
    all_goals go_ret
    all_goals refine ⟨ret_bool ?_, (below_alloc (Nat.le_refl _) Hb2.out).alloc (by omega) _⟩
    all_goals (unfold aheadB; simp_all)

theorem says_ahead (a b : Str) (pa pb : Nat) (w : World) (ha : w.cell? ⟨pa, 0, none⟩ = some (sv a)) (hb : w.cell? ⟨pb, 0, none⟩ = some (sv b)) :
    SaysE 85 #[.pointer (some ⟨pa, 0, none⟩), .pointer (some ⟨pb, 0, none⟩)] (aheadB a b) w where
  enters := enters_of Tryz.func85 (by kernel_rfl) rfl
  says := fun W s d r h => Ahead1_any a b s d r pa pb W ((h.cell (p := ⟨pa, 0, none⟩) (cell_blk ha)).trans ha) ((h.cell (p := ⟨pb, 0, none⟩) (cell_blk hb)).trans hb)

/-- A graph as a value. -/
abbrev gV (An : Option Addr) (nn cn : Nat) (Ae : Option Addr) (ne ce : Nat) : Value := .agg #[.slice An nn cn, .slice Ae ne ce]

set_option maxHeartbeats 400000 in
theorem Ahead_any (An Ae : Option Addr) (nn cn ce : Nat) (es : List Ed) (a b : Str) (w : World) (hr : Rd w w.heap.size 3 Ae es.length (edsC es)) (hl : es.length ≤ 1000000) :
    Calls Tryz.prog 42 #[gV An nn cn Ae es.length ce, sv a, sv b] w fun e w' => e = .returned (.bool (es.any (aheadB a b))) ∧ Below w.heap.size w w' := by
  have Hr := Lib.hid hr
  clear hr
  go_enter Tryz.func42, Tryz.ntmps42
  go_wp2_with fail
  refine (ContainsFuncE Ae ce es _ _ (aheadB a b) _ ?hr hl (says_ahead a b _ _ _ ?ha ?hb)).mono ?_
  case ha => go_simp
  case hb => go_simp
  case hr => exact ((((Hr.out.alloc (Nat.le_refl _) _).alloc (by simp) _).alloc (by simp; omega) _)).more (by simp; omega)
  rintro e w2 ⟨rfl, hb2⟩
  have Hb2 := Lib.hid hb2
  clear hb2
  go_wp2_with fail
  go_ret
  exact ⟨rfl, below_alloc (Nat.le_refl _) (below_alloc (Nat.le_refl _) (below_alloc (Nat.le_refl _) Hb2.out))⟩
end Od
end Go.Proofs.YtbllehjhmfehbaaGreat
end

section
/- The walks of small helpers: is an edge there, is a text in a row, are two rows alike. -/
namespace Go.Proofs.YtbllehjhmfehbaaGreat
open Go.RowKit

namespace Od
set_option maxRecDepth 100000 in
set_option maxHeartbeats 1000000 in
theorem Has_any (An Ae : Option Addr) (nn cn ce : Nat) (es : List Ed) (a b : Str) (rel : Int) (w : World) (hr : Rd w w.heap.size 3 Ae es.length (edsC es)) (hl : es.length ≤ 1000000) :
    Calls Tryz.prog 40 #[gV An nn cn Ae es.length ce, sv a, sv b, .int .i64 rel] w fun e w' => e = .returned (.bool (es.any (· == (a, b, rel)))) ∧ Below w.heap.size w w' := by
  have Hr := Lib.hid hr
  clear hr
  go_enter Tryz.func40, Tryz.ntmps40
  go_wp2_with fail
  go_loopw [14] (fun i wr => ∃ k : Nat, k ≤ es.length ∧ i = .int .i64 k ∧ Hid ((es.take k).any (· == (a, b, rel)) = false) ∧ Below w.heap.size w wr) (fun i _ => es.length - (intOf i).toNat)
  case atStart => exact ⟨0, Nat.zero_le _, rfl, by simp [Hid], (Below.refl _ _).alloc (Nat.le_refl _) _⟩
  case round =>
    obtain ⟨k, hk, rfl, hall, hbel⟩ := hrel
    by_cases hlt : k < es.length
    · obtain ⟨bb, o, rfl, hB, hc0, hc1, hc2⟩ := (Hr.out.on (Nat.le_refl _) hbel).edge hlt
      have hz := hbel.size
      have n1 : bb < wr.heap.size := by omega
      have Hbel := Lib.hid hbel
      clear hbel
      generalize hx : es[k] = x at hc0 hc1 hc2
      obtain ⟨s, d, r⟩ := x
      have Hx := Lib.hid hx
      clear hx
      simp only at hc0 hc1 hc2
      go_wp2_with fail
      · go_ret
        exact ⟨ret_bool (by rw [any_of_at hlt (by rw [Hx.out]; simp_all)]), (Hbel.out.alloc hz _)⟩
      all_goals
        go_roundw
        case rel => exact ⟨k + 1, by omega, by go_num, by show _ = false; rw [any_take_succ hlt, hall.out, Hx.out, Bool.false_or, beq_eq_false_iff_ne]; intro he; injection he with h1 he2; injection he2 with h2 h3; simp_all, Hbel.out.alloc hz _⟩
        case measure => simp [intOf]; omega
    · have ha := hall.out
      rw [List.take_of_length_le (by omega)] at ha
      have Ha := Lib.hid ha
      clear ha
      go_wp2_with fail
      go_ret
      exact ⟨ret_bool (by rw [Ha.out]), hbel⟩

theorem ahead_two (a b : Str) (es : List Ed) : (es.any (· == (b, a, (8 : Int))) || es.any (· == (a, b, (7 : Int)))) = es.any (aheadB a b) := by
  rw [Bool.eq_iff_iff]
  simp only [Bool.or_eq_true, List.any_eq_true, aheadB, beq_iff_eq]
  constructor
  · rintro (⟨x, hx, rfl⟩ | ⟨x, hx, rfl⟩)
    · exact ⟨_, hx, by simp [pairOf]⟩
    · exact ⟨_, hx, by simp [pairOf]⟩
  · rintro ⟨⟨s, d, r⟩, hx, hp⟩
    unfold pairOf at hp
    by_cases h8 : r = 8
    · simp only [h8, if_true, Option.some.injEq, Prod.mk.injEq] at hp
      exact .inl ⟨_, hx, by simp [h8, hp]⟩
    · by_cases h7 : r = 7
      · simp only [h7] at hp
        simp at hp
        exact .inr ⟨_, hx, by simp [h7, hp]⟩
      · simp [h8, h7] at hp

end Od
end Go.Proofs.YtbllehjhmfehbaaGreat
end

section
/- The walks of the references' helpers: are two rows of texts alike; has a row a text; are two graphs alike. -/
namespace Go.Proofs.YtbllehjhmfehbaaGreat
open Go.RowKit

namespace Od
theorem eq_of_at {α : Type} {xs ys : List α} (hl : xs.length = ys.length) (h : ∀ j (h1 : j < xs.length) (h2 : j < ys.length), xs[j] = ys[j]) : xs = ys := List.ext_getElem hl h
theorem at_ne {α : Type} {xs ys : List α} {k : Nat} (hx : k < xs.length) (hy : k < ys.length) (h : xs[k] ≠ ys[k]) : xs ≠ ys := fun e => by subst e; exact h rfl

set_option maxRecDepth 100000 in
set_option maxHeartbeats 1000000 in
theorem Same_any (A A' : Option Addr) (c c' : Nat) (xs ys : List Str) (w : World) (hr : Rd w w.heap.size 1 A xs.length (svs xs)) (hr' : Rd w w.heap.size 1 A' ys.length (svs ys)) (hb : xs.length ≤ 1000000) :
    Calls Tryz.prog 78 #[.slice A xs.length c, .slice A' ys.length c'] w fun e w' => e = .returned (.bool (decide (xs = ys))) ∧ Below w.heap.size w w' := by
  have Hr := Lib.hid hr
  have Hr' := Lib.hid hr'
  clear hr hr'
  by_cases hl : xs.length = ys.length
  · have Hl := Lib.hid hl
    have hl1 : ((xs.length : Int) != (ys.length : Int)) = false := by simp [hl]
    clear hl
    go_enter Tryz.func78, Tryz.ntmps78
    go_wp2_with fail
    go_loopw [13] (fun i wr => ∃ k : Nat, k ≤ xs.length ∧ i = .int .i64 k ∧ Hid (∀ j (h1 : j < xs.length) (h2 : j < ys.length), j < k → xs[j] = ys[j]) ∧ Below w.heap.size w wr) (fun i _ => xs.length - (intOf i).toNat)
    case atStart => exact ⟨0, Nat.zero_le _, rfl, fun _ _ _ h => absurd h (by omega), Below.refl _ _⟩
    case round =>
      obtain ⟨k, hk, rfl, hall, hbel⟩ := hrel
      have Hbel := Lib.hid hbel
      by_cases hlt : k < xs.length
      · have hlt' : k < ys.length := by have := Hl.out; omega
        obtain ⟨b, o, rfl, hB, hcell⟩ := (Hr.out.on (Nat.le_refl _) hbel).str hlt
        obtain ⟨b', o', rfl, hB', hcell'⟩ := (Hr'.out.on (Nat.le_refl _) hbel).str hlt'
        generalize hx : xs[k] = x at hcell
        generalize hy : ys[k] = y at hcell'
        have Hx := Lib.hid hx
        have Hy := Lib.hid hy
        have hk0 : (0 : Int) ≤ (k : Int) := by omega
        have hk1 : (k : Int) < (xs.length : Int) := by omega
        have hk2 : (k : Int) < (ys.length : Int) := by omega
        clear hx hy hbel
        cases hne : (x == y)
        · have Hne := Lib.hid hne
          go_wp2
          go_quiet (fail)
          go_wp2
          go_ret
          exact ⟨ret_bool (by
            have hd : xs[k] ≠ ys[k] := by rw [Hx.out, Hy.out]; simpa using Hne.out
            simp [at_ne hlt hlt' hd]), below_drewN Hbel.out _⟩
        · have Hne := Lib.hid hne
          go_wp2
          go_quiet (fail)
          go_wp2
          go_roundw
          case rel => exact ⟨k + 1, by omega, by go_num, fun j h1 h2 h3 => by
            rcases Nat.lt_or_ge j k with h | h
            · exact hall.out j h1 h2 h
            · obtain rfl : j = k := by omega
              rw [Hx.out, Hy.out]; simpa using Hne.out, below_drewN Hbel.out _⟩
          case measure => simp [intOf]; omega
      · go_wp2
        go_ret
        exact ⟨ret_bool (by
          have : xs = ys := eq_of_at Hl.out fun j h1 h2 => hall.out j h1 h2 (by omega)
          simp [this]), Hbel.out⟩
  · have hl1 : ((xs.length : Int) != (ys.length : Int)) = true := by rw [bne_iff_ne]; omega
    have Hl := Lib.hid hl
    clear hl
    go_enter Tryz.func78, Tryz.ntmps78
    go_wp2
    go_ret
    exact ⟨ret_bool (by
      have : ¬ xs = ys := fun e => Hl.out (by rw [e])
      simp [this]), Below.refl _ _⟩

def hasB (xs : List Str) (s : Str) : Bool := xs.contains s
theorem hasB_iff (xs : List Str) (s : Str) : hasB xs s = true ↔ s ∈ xs := by unfold hasB; simp
theorem hasB_any (xs : List Str) (s : Str) : xs.any (· == s) = hasB xs s := by unfold hasB; rw [List.any_beq']

set_option maxRecDepth 100000 in
set_option maxHeartbeats 1000000 in
theorem HasS_any (A : Option Addr) (c : Nat) (xs : List Str) (s : Str) (w : World) (hr : Rd w w.heap.size 1 A xs.length (svs xs)) (hb : xs.length ≤ 140737488355328) :
    Calls Tryz.prog 21 #[.slice A xs.length c, sv s] w fun e w' => e = .returned (.bool (hasB xs s)) ∧ w = w' := by
  have Hr := Lib.hid hr
  clear hr
  go_enter Tryz.func21, Tryz.ntmps21
  go_wp2_with fail
  go_loop [9] (fun i => ∃ k : Nat, k ≤ xs.length ∧ i = .int .i64 k ∧ Hid ((xs.take k).any (· == s) = false)) (fun i => xs.length - (intOf i).toNat)
  case atStart => exact ⟨0, Nat.zero_le _, rfl, by simp [Hid]⟩
  case round =>
    obtain ⟨k, hk, rfl, hall⟩ := hrel
    by_cases hlt : k < xs.length
    · obtain ⟨b, o, rfl, hB, hcell⟩ := Hr.out.str hlt
      generalize hx : xs[k] = x at hcell
      have Hx := Lib.hid hx
      clear hx
      cases hne : (x == s)
      · have Hne := Lib.hid hne
        go_wp2_with fail
        go_round
        case rel => exact ⟨k + 1, by omega, by go_num, by show _ = false; rw [any_take_succ hlt, hall.out, Hx.out, Hne.out]; rfl⟩
        case measure => simp [intOf]; omega
      · have Hne := Lib.hid hne
        go_wp2_with fail
        go_ret
        exact ⟨ret_bool (by
          have := any_of_at (p := (· == s)) hlt (by rw [Hx.out]; exact Hne.out)
          rw [hasB_any] at this
          exact this.symm), rfl⟩
    · have ha := hall.out
      rw [List.take_of_length_le (by omega), hasB_any] at ha
      have Ha := Lib.hid ha
      clear ha
      go_wp2_with fail
      go_ret
      exact ⟨ret_bool (by rw [Ha.out]), rfl⟩
end Od
end Go.Proofs.YtbllehjhmfehbaaGreat
end
