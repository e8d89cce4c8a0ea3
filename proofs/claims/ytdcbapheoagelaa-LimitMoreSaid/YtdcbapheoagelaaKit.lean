/- Words for memory that my walks share: a slice that reads as a list of cells (Rd), and one that the call owns (World.ownsRow, the library's own). -/
import Derived.WalkKit
import Derived.WalkSpells
import Derived.WalkLawsBesides
import Derived.Maps.AppendAt
import Derived.Deep.AppendLies
import Derived.Deep.Draws
import Derived.Lib.Hide
namespace Go.Proofs.Ytdcbapheoagelaa
open Go.RowKit

/-- The slice '.slice A n c' holds the cells xs, k cells an element, in a block below B. -/
def Rd (w : World) (B k : Nat) (A : Option Addr) (n : Nat) (xs : List Value) : Prop :=
  xs.length = n * k ∧ (0 < n → ∃ ad : Addr, A = some ad ∧ ad.block < B ∧ ad.spot = none ∧ ∀ j, j < n * k → w.cell? ⟨ad.block, ad.off + j, none⟩ = xs[j]?)

section
variable {w w' : World} {B B' k n : Nat} {A : Option Addr} {xs : List Value}

theorem Rd.len (h : Rd w B k A n xs) : xs.length = n * k := h.1

/-- Where something is read there is an address. -/
theorem Rd.open (h : Rd w B k A n xs) (hn : 0 < n) : ∃ b o : Nat, A = some ⟨b, o, none⟩ ∧ b < B ∧ ∀ j, j < n * k → w.cell? ⟨b, o + j, none⟩ = xs[j]? := by
  obtain ⟨⟨b, o, s⟩, e, hb, hs, hc⟩ := h.2 hn
  simp only at hs
  subst hs
  exact ⟨b, o, e, hb, hc⟩

theorem Rd.none_ : Rd w B k A 0 [] := ⟨by simp, fun h => absurd h (by omega)⟩

theorem Rd.keep (h : Rd w B k A n xs) (hk : ∀ p : Addr, p.block < B → w'.cell? p = w.cell? p) : Rd w' B k A n xs :=
  ⟨h.1, fun hn => by
    obtain ⟨ad, e, hb, hs, hc⟩ := h.2 hn
    exact ⟨ad, e, hb, hs, fun j hj => (hk ⟨ad.block, ad.off + j, none⟩ hb).trans (hc j hj)⟩⟩
theorem Rd.more (h : Rd w B k A n xs) (hB : B ≤ B') : Rd w B' k A n xs :=
  ⟨h.1, fun hn => by
    obtain ⟨ad, e, hb, hc⟩ := h.2 hn
    exact ⟨ad, e, by omega, hc⟩⟩
theorem Rd.below (h : Rd w B k A n xs) (hb : Below B w w') : Rd w' B k A n xs := h.keep fun _ hp => hb.cell hp
/-- Carried on over what a call did. -/
theorem Rd.on (h : Rd w B k A n xs) (hB : B ≤ w.heap.size) (hb : Below w.heap.size w w') : Rd w' B k A n xs := h.below (hb.mono hB)
theorem Rd.drew (h : Rd w B k A n xs) : Rd w.drew B k A n xs := h
theorem Rd.alloc (h : Rd w B k A n xs) (hB : B ≤ w.heap.size) (o : Obj) : Rd (w.alloc o) B k A n xs := h.keep fun p hp => World.cell?_alloc_lt w o p (by omega)
theorem Rd.setCell (h : Rd w B k A n xs) {p : Addr} (hB : B ≤ p.block) (u : Value) : Rd (w.setCell p u) B k A n xs :=
  h.keep fun q hq => World.cell?_setCell_other w p q u (fun e => by subst e; omega)
theorem Rd.grown (h : Rd w B k A n xs) {row : Option Nat} (hg : w.grownBy w' row) (hB : B ≤ w.heap.size) (hr : ∀ g, row = some g → B ≤ g) : Rd w' B k A n xs :=
  h.keep fun p hp => World.cell?_of_block (hg.block p.block (by omega) (fun e => by have := hr _ e.symm; omega))
end

/-- What the call owns reads as a list, whatever its address. -/
theorem own_rd {w : World} {base e k n : Nat} {v : Value} {xs : List Value} (h : w.ownsRow base e k v n xs) : ∃ (A : Option Addr) (c : Nat), v = .slice A n c ∧ Rd w w.heap.size k A n xs := by
  have h' := h
  obtain ⟨hl, ⟨rfl, rfl⟩ | ⟨g, cap, cur, rfl, hg, hh, hn, hm, hs, hx⟩⟩ := h
  · exact ⟨none, 0, rfl, hl, fun hn => absurd hn (by omega)⟩
  · have hlt : g < w.heap.size := (h'.lt g rfl).2
    refine ⟨some ⟨g, 0, none⟩, cap, rfl, hl, fun _ => ⟨_, rfl, hlt, rfl, fun j hj => ?_⟩⟩
    have := h'.cellAt (g := g) (cap := cap) j hj
    simpa using this

/-- The same where the value is written out. -/
theorem own_rd' {w : World} {base e k n m c : Nat} {A : Option Addr} {xs : List Value} (h : w.ownsRow base e k (.slice A m c) n xs) : Rd w w.heap.size k A n xs := by
  obtain ⟨A', c', hv, hr⟩ := own_rd h
  injection hv with h1 h2 h3
  subst h1
  exact hr

theorem own_alloc {w : World} {base e k n : Nat} {v : Value} {xs : List Value} (h : w.ownsRow base e k v n xs) (o : Obj) : (w.alloc o).ownsRow base e k v n xs := h.alloc o

/-- What is owned stays owned over what a call did that turned nothing of what was there. -/
theorem own_on {w w' : World} {base e k n : Nat} {v : Value} {xs : List Value} (h : w.ownsRow base e k v n xs) (hb : Below w.heap.size w w') : w'.ownsRow base e k v n xs := by
  have h' := h
  obtain ⟨hl, ⟨rfl, rfl⟩ | ⟨g, cap, cur, rfl, hg, hh, r⟩⟩ := h
  · exact ⟨hl, .inl ⟨rfl, rfl⟩⟩
  · have hlt : g < w.heap.size := (h'.lt g rfl).2
    exact ⟨hl, .inr ⟨g, cap, cur, rfl, hg, (hb.block g hlt).trans hh, r⟩⟩

/-- A base further down serves as well. -/
theorem own_base {w : World} {base base' e k n : Nat} {v : Value} {xs : List Value} (h : w.ownsRow base e k v n xs) (hb : base' ≤ base) : w.ownsRow base' e k v n xs := by
  obtain ⟨hl, h0 | ⟨g, cap, cur, hv, hg, r⟩⟩ := h
  · exact ⟨hl, .inl h0⟩
  · exact ⟨hl, .inr ⟨g, cap, cur, hv, by omega, r⟩⟩

theorem cells_new (w : World) (news : List Value) (t : TypeId) : ∀ j u, news[j]? = some u → (w.alloc (.cells news.toArray t)).cell? ((⟨w.heap.size, 0, none⟩ : Addr).add j) = some u := by
  intro j u hj
  rw [World.cell?_of_block (w := { w with heap := (w.heap.push (.cells news.toArray t)) }) (by rfl)]
  by_cases h0 : j = 0 <;> simp_all [World.cell?, Addr.add]

/-- 'out = append(out, x)' of one element, out the call's own: what is owned afterwards, and that nothing below base has turned. -/
theorem wpList_push {P : Program} (w0 w : World) {ops : Array Oper} {rest : List Oper} {o : Oper} {a : Act} {Q : Exit → Act → World → Prop} (hgd : o.guard = none) (s x : Operand) (t : TypeId)
    (ho : o.op = .call { callee := .builtin .append, args := #[s, x], argTypes := #[t, t] })
    (base : Nat) (e : TypeId) (i : TypeInfo) (z : Value) (size bytes : Nat) (ht : P.underlying t = some (.slice e)) (hi : P.info? e = some i) (hz : i.zero = some z)
    (hsize : i.size = size) (hby : i.bytes = bytes) (hzs : z.cells.size = size) (hsz : 0 < size)
    (v : Value) (n : Nat) (xs : List Value) (hs : a.eval s = v) (hown : w.ownsRow base e size v n xs)
    (news : List Value) (hx : a.eval x = .slice (some ⟨w.heap.size, 0, none⟩) 1 1) (hl : news.length = size) (h1 : ∀ u ∈ news, u.oneCell' = true)
    (h63 : n + 1 ≤ maxLen) (hbytes : (n + 1) * bytes ≤ 140737488355328) (hbase : base ≤ w.heap.size) (hbel : Below base w0 w)
    (h : ∀ A' c' w', w'.ownsRow base e size (.slice A' (n + 1) c') (n + 1) (xs ++ news) → Below base w0 w' → w.grownBy w' v.ownBlock →
      ((Value.slice A' (n + 1) c').ownBlock = v.ownBlock ∨ (Value.slice A' (n + 1) c').ownBlock = some (w.heap.size + 1)) → wpList P ops Q rest (a.put o.dst (.slice A' (n + 1) c')) w') :
    wpList P ops Q (o :: rest) a (w.alloc (.cells news.toArray e)) := by
  have hlt := hown.lt
  refine wpList_append_own_at (w.alloc (.cells news.toArray e)) hgd s x t ho base e i z size bytes ht hi hz hsize hby hzs hsz v n xs hs (hown.alloc _) ⟨w.heap.size, 0, none⟩ 1 1 news hx (by simpa using hl) (cells_new w news e) h1 h63 hbytes (by simp; omega) ?_
  intro v' w' hown' hgrow _ hat
  obtain ⟨A', c', hv, _⟩ := own_rd hown'
  subst hv
  have hg : w.grownBy w' v.ownBlock := World.grownBy.trans (World.grownBy_alloc w _ _) hgrow
  exact h A' c' w' hown' (hbel.grown hg hbase (fun k hk => (hlt k hk).1)) hg (by simpa using hat)

theorem ret_int {k : IntKind} {a b : Int} (h : a = b) : Ending.returned (.int k a) = .returned (.int k b) := by rw [h]
theorem ret_bool {a b : Bool} (h : a = b) : Ending.returned (.bool a) = .returned (.bool b) := by rw [h]
theorem ret_int_bool {k : IntKind} {a b : Int} {c d : Bool} (h : (a, c) = (b, d)) : Ending.returned (.tuple #[.int k a, .bool c]) = .returned (.tuple #[.int k b, .bool d]) := by
  injection h with h1 h2; rw [h1, h2]

/-- A slice literal's block reads as what was laid into it. -/
theorem Rd.lit (w : World) (cs : List Value) (e : TypeId) (k n : Nat) (hl : cs.length = n * k) : Rd (w.alloc (.cells cs.toArray e)) (w.alloc (.cells cs.toArray e)).heap.size k (some ⟨w.heap.size, 0, none⟩) n cs := by
  refine ⟨hl, fun _ => ⟨_, rfl, by simp, rfl, fun j hj => ?_⟩⟩
  have hj' : j < cs.length := by omega
  have := cells_new w cs e j cs[j] (List.getElem?_eq_getElem hj')
  rw [List.getElem?_eq_getElem hj']
  unfold Addr.add at this
  split at this
  · rename_i h0; subst h0; exact this
  · simp only [Nat.zero_add] at this ⊢; exact this

theorem below_alloc {B : Nat} {w w' : World} {o : Obj} (hB : B ≤ w.heap.size) (h : Below (w.alloc o).heap.size (w.alloc o) w') : Below B w w' :=
  (((Below.refl B w).alloc hB o).trans (h.mono (by simp; omega)))

/-- Numbers as cells. -/
abbrev ints (xs : List Int) : List Value := xs.map (Value.int .i64)
theorem ints_at {xs : List Int} {j : Nat} (h : j < xs.length) : (ints xs)[j]? = some (.int .i64 xs[j]) := by simp [ints, h]

end Go.Proofs.Ytdcbapheoagelaa
