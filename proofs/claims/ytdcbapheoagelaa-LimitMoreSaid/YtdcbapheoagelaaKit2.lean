/- Words for memory, more: 'out = append(out, xs...)', xs whatever slice that reads as a list (nil let in). -/
import Derived.Test.YtdcbapheoagelaaKit
import Derived.Laws.AppendOwnNone
import Derived.Deep.RegionHeld3
import Derived.RegionTactic
namespace Go.Proofs.Ytdcbapheoagelaa
open Go.RowKit

/-- Two rows of the call's own that are not one. -/
def Sep (v v' : Value) : Prop := v.ownBlock = none ∨ v'.ownBlock = none ∨ v.ownBlock ≠ v'.ownBlock
theorem Sep.symm {v v' : Value} (h : Sep v v') : Sep v' v := by
  rcases h with h | h | h
  · exact .inr (.inl h)
  · exact .inl h
  · exact .inr (.inr (Ne.symm h))
theorem Sep.kept {w w' : World} {v v' : Value} {base e k n : Nat} {xs : List Value} (hs : Sep v v') (h : w.ownsRow base e k v' n xs) (hg : w.grownBy w' v.ownBlock) : w'.ownsRow base e k v' n xs := by
  refine h.kept hg ?_
  rcases hs with h1 | h1 | h1
  · cases hv : v'.ownBlock with
    | none => exact .inl rfl
    | some g => exact .inr (by rw [h1]; simp)
  · exact .inl h1
  · exact .inr (Ne.symm h1)
theorem Sep.push {w : World} {v v' v2 : Value} {base e k n : Nat} {xs : List Value} (hs : Sep v v') (h : w.ownsRow base e k v' n xs) (hat : v2.ownBlock = v.ownBlock ∨ v2.ownBlock = some (w.heap.size + 1)) : Sep v2 v' := by
  rcases hat with h1 | h1
  · unfold Sep; rw [h1]; exact hs
  · cases hv : v'.ownBlock with
    | none => exact .inr (.inl hv)
    | some g =>
      have := (h.lt g hv).2
      exact .inr (.inr (by rw [h1, hv]; simp; omega))
/-- What is made anew is another row than what was there. -/
theorem Sep.new {w w' : World} {v v' : Value} {base e k n base' e' k' n' : Nat} {xs xs' : List Value} (h : w.ownsRow base e k v n xs) (h' : w'.ownsRow base' e' k' v' n' xs') (hb : w.heap.size ≤ base') : Sep v' v := by
  cases hv : v.ownBlock with
  | none => exact .inr (.inl hv)
  | some g =>
    cases hv' : v'.ownBlock with
    | none => exact .inl hv'
    | some g' =>
      have h1 := (h.lt g hv).2
      have h2 := (h'.lt g' hv').1
      exact .inr (.inr (by rw [hv, hv']; simp; omega))
theorem own_cap {w : World} {base e k n m c : Nat} {A : Option Addr} {xs : List Value} (h : w.ownsRow base e k (.slice A m c) n xs) : n ≤ c ∧ c ≤ maxLen := by
  obtain ⟨_, ⟨hv, hn⟩ | ⟨g, cap, cur, hv, _, _, hc, hm, _⟩⟩ := h
  · injection hv with _ _ h3; subst h3; subst hn; exact ⟨by omega, by decide⟩
  · injection hv with _ _ h3; subst h3; exact ⟨hc, hm⟩
theorem Rd.take {w : World} {B k n m : Nat} {A : Option Addr} {xs : List Value} (h : Rd w B k A n xs) (hm : m ≤ n) : Rd w B k A m (xs.take (m * k)) := by
  have hmk : m * k ≤ n * k := Nat.mul_le_mul_right k hm
  refine ⟨by rw [List.length_take, h.1]; omega, fun h0 => ?_⟩
  obtain ⟨ad, h1, h2, h3, h4⟩ := h.2 (by omega)
  exact ⟨ad, h1, h2, h3, fun j hj => by rw [h4 j (by omega), List.getElem?_take_of_lt hj]⟩

section
variable {P : Program} (w : World)
theorem run_append_rd (base : Nat) (t ty e : TypeId) (i : TypeInfo) (z : Value) (size bytes : Nat) (ht : P.underlying t = some (.slice e)) (hi : P.info? e = some i) (hz : i.zero = some z)
    (hsize : i.size = size) (hby : i.bytes = bytes) (hzs : z.cells.size = size) (hsz : 0 < size) (v : Value) (n : Nat) (xs : List Value) (hown : w.ownsRow base e size v n xs)
    (B : Nat) (A : Option Addr) (m c : Nat) (news : List Value) (hr : Rd w B size A m news) (h1 : ∀ u ∈ news, u.oneCell' = true) (h63 : n + m ≤ maxLen) (hbytes : (n + m) * bytes ≤ 140737488355328) (hbase : base ≤ w.heap.size) :
    ∃ A' c' w', (Builtin.append_ #[t, t] ty #[v, .slice A m c]).run P w = .ok (.slice A' (n + m) c') w' ∧ w'.ownsRow base e size (.slice A' (n + m) c') (n + m) (xs ++ news) ∧ w.grownBy w' v.ownBlock ∧
      ((Value.slice A' (n + m) c').ownBlock = v.ownBlock ∨ (Value.slice A' (n + m) c').ownBlock = some w.heap.size) := by
  cases A with
  | none =>
    have hm : m = 0 := by
      rcases Nat.eq_zero_or_pos m with h0 | h0
      · exact h0
      · obtain ⟨ad, h, _⟩ := hr.2 h0; cases h
    subst hm
    have hn : news = [] := List.eq_nil_of_length_eq_zero (by simpa using hr.1)
    subst hn
    have hown' := hown
    obtain ⟨A0, c0, rfl, _⟩ := own_rd hown
    refine ⟨A0, c0, w, ?_, by simpa using hown, World.grownBy.refl w _, .inl rfl⟩
    rcases hown'.2 with ⟨hv, hn0⟩ | ⟨g, cap, cur, hv, _, _, hnc, _⟩
    · injection hv with h2 h3 h4
      subst h2 h3 h4
      simp [Builtin.append_, run_underlying ht, sizeOf, typeInfo, hi, Builtin.lenOf, Builtin.firstCells]
    · injection hv with h2 h3 h4
      subst h2 h4
      simp [Builtin.append_, run_underlying ht, sizeOf, typeInfo, hi, Builtin.lenOf, Builtin.firstCells, hnc, storeCells]
  | some ad =>
    have hnews : ∀ j u, news[j]? = some u → w.cell? (ad.add j) = some u := by
      intro j u hu
      have hj : j < news.length := by
        rcases Nat.lt_or_ge j news.length with h | h
        · exact h
        · rw [List.getElem?_eq_none h] at hu; cases hu
      have hm0 : 0 < m := by
        rcases Nat.eq_zero_or_pos m with h0 | h0
        · have := hr.1; rw [h0, Nat.zero_mul] at this; omega
        · exact h0
      obtain ⟨ad', he, _, hs, hc⟩ := hr.2 hm0
      injection he with he
      subst he
      have hadd : ad.add j = ⟨ad.block, ad.off + j, none⟩ := by
        unfold Addr.add
        split
        · rename_i h0; subst h0; cases ad; simp_all
        · rfl
      rw [hadd, hc j (by rw [← hr.1]; exact hj), hu]
    obtain ⟨v', w', hrun, h2, h3, _, h5⟩ := run_append_own_at (P := P) w base t ty e i z size bytes ht hi hz hsize hby hzs hsz v n xs hown ad m c news hr.1 hnews h1 h63 hbytes hbase
    obtain ⟨A', c', rfl, _⟩ := own_rd h2
    exact ⟨A', c', w', hrun, h2, h3, h5⟩

theorem wp_append_rd {o : Oper} {a : Act} {K : Act → World → Prop} {Q : Exit → Act → World → Prop} (s x : Operand) (t : TypeId)
    (ho : o.op = .call { callee := .builtin .append, args := #[s, x], argTypes := #[t, t] })
    (base : Nat) (e : TypeId) (i : TypeInfo) (z : Value) (size bytes : Nat) (ht : P.underlying t = some (.slice e)) (hi : P.info? e = some i) (hz : i.zero = some z)
    (hsize : i.size = size) (hby : i.bytes = bytes) (hzs : z.cells.size = size) (hsz : 0 < size)
    (v : Value) (n : Nat) (xs : List Value) (hs : a.eval s = v) (hown : w.ownsRow base e size v n xs)
    (B : Nat) (A : Option Addr) (m c : Nat) (news : List Value) (hx : a.eval x = .slice A m c) (hr : Rd w B size A m news) (h1 : ∀ u ∈ news, u.oneCell' = true)
    (h63 : n + m ≤ maxLen) (hbytes : (n + m) * bytes ≤ 140737488355328) (hbase : base ≤ w.heap.size)
    (h : ∀ A' c' w', w'.ownsRow base e size (.slice A' (n + m) c') (n + m) (xs ++ news) → w.grownBy w' v.ownBlock →
      ((Value.slice A' (n + m) c').ownBlock = v.ownBlock ∨ (Value.slice A' (n + m) c').ownBlock = some w.heap.size) → K (a.put o.dst (.slice A' (n + m) c')) w') : o.wp P a w K Q := by
  obtain ⟨A', c', w', hrun, h2, h3, h4⟩ := run_append_rd (P := P) w base t o.type e i z size bytes ht hi hz hsize hby hzs hsz v n xs hown B A m c news hr h1 h63 hbytes hbase
  unfold Oper.wp execOp
  simp only [ho, resolve, invoke, builtin, Sem.run_bind, Sem.run_pure, Result.andThen_ok, List.map_toArray, List.map_cons, List.map_nil, hs, hx, hrun]
  exact h A' c' w' h2 h3 h4

theorem wpList_append_rd {ops : Array Oper} {rest : List Oper} {o : Oper} {a : Act} {Q : Exit → Act → World → Prop} (hgd : o.guard = none) (s x : Operand) (t : TypeId)
    (ho : o.op = .call { callee := .builtin .append, args := #[s, x], argTypes := #[t, t] })
    (base : Nat) (e : TypeId) (i : TypeInfo) (z : Value) (size bytes : Nat) (ht : P.underlying t = some (.slice e)) (hi : P.info? e = some i) (hz : i.zero = some z)
    (hsize : i.size = size) (hby : i.bytes = bytes) (hzs : z.cells.size = size) (hsz : 0 < size)
    (v : Value) (n : Nat) (xs : List Value) (hs : a.eval s = v) (hown : w.ownsRow base e size v n xs)
    (B : Nat) (A : Option Addr) (m c : Nat) (news : List Value) (hx : a.eval x = .slice A m c) (hr : Rd w B size A m news) (h1 : ∀ u ∈ news, u.oneCell' = true)
    (h63 : n + m ≤ maxLen) (hbytes : (n + m) * bytes ≤ 140737488355328) (hbase : base ≤ w.heap.size)
    (h : ∀ A' c' w', w'.ownsRow base e size (.slice A' (n + m) c') (n + m) (xs ++ news) → w.grownBy w' v.ownBlock →
      ((Value.slice A' (n + m) c').ownBlock = v.ownBlock ∨ (Value.slice A' (n + m) c').ownBlock = some w.heap.size) → wpList P ops Q rest (a.put o.dst (.slice A' (n + m) c')) w') : wpList P ops Q (o :: rest) a w :=
  wpList_plain hgd fun _ hK => wp_append_rd w s x t ho base e i z size bytes ht hi hz hsize hby hzs hsz v n xs hs hown B A m c news hx hr h1 h63 hbytes hbase fun A' c' w' h2 h3 h4 => hK _ _ (h A' c' w' h2 h3 h4)

/-- At a step of a region that draws its order. -/
theorem step_append_rd {ops : Array Oper} {o : Oper} {a : Act} {K : Act → World → Prop} {Q : Exit → Act → World → Prop} {E : Prop} (hgd : o.guard = none) (s x : Operand) (t : TypeId)
    (ho : o.op = .call { callee := .builtin .append, args := #[s, x], argTypes := #[t, t] })
    (base : Nat) (e : TypeId) (i : TypeInfo) (z : Value) (size bytes : Nat) (ht : P.underlying t = some (.slice e)) (hi : P.info? e = some i) (hz : i.zero = some z)
    (hsize : i.size = size) (hby : i.bytes = bytes) (hzs : z.cells.size = size) (hsz : 0 < size)
    (v : Value) (n : Nat) (xs : List Value) (hs : a.eval s = v) (hown : w.ownsRow base e size v n xs)
    (B : Nat) (A : Option Addr) (m c : Nat) (news : List Value) (hx : a.eval x = .slice A m c) (hr : Rd w B size A m news) (h1 : ∀ u ∈ news, u.oneCell' = true)
    (h63 : n + m ≤ maxLen) (hbytes : (n + m) * bytes ≤ 140737488355328) (hbase : base ≤ w.heap.size)
    (h : ∀ A' c' w', w'.ownsRow base e size (.slice A' (n + m) c') (n + m) (xs ++ news) → w.grownBy w' v.ownBlock →
      ((Value.slice A' (n + m) c').ownBlock = v.ownBlock ∨ (Value.slice A' (n + m) c').ownBlock = some w.heap.size) → K (a.put o.dst (.slice A' (n + m) c')) w') :
    if Region.wanted o (yielded ops a.tmps) = true then Oper.wp P o a w K Q else E := by
  rw [if_pos (by simp [Region.wanted, hgd])]
  exact wp_append_rd w s x t ho base e i z size bytes ht hi hz hsize hby hzs hsz v n xs hs hown B A m c news hx hr h1 h63 hbytes hbase h
end

/-- 'append([]T(nil), xs...)' at a step of a region that draws its order. -/
theorem step_append_first {P : Program} (w : World) {ops : Array Oper} {o : Oper} {a : Act} {K : Act → World → Prop} {Q : Exit → Act → World → Prop} {E : Prop} (hgd : o.guard = none) (s x : Operand) (t : TypeId)
    (ho : o.op = .call { callee := .builtin .append, args := #[s, x], argTypes := #[t, t] })
    (base : Nat) (e : TypeId) (i : TypeInfo) (z : Value) (size bytes : Nat) (ht : P.underlying t = some (.slice e)) (hi : P.info? e = some i) (hz : i.zero = some z)
    (hsize : i.size = size) (hby : i.bytes = bytes) (hzs : z.cells.size = size) (hsz : 0 < size) (hs : a.eval s = .slice none 0 0)
    (B : Nat) (A : Option Addr) (m c : Nat) (news : List Value) (hx : a.eval x = .slice A m c) (hr : Rd w B size A m news) (h1 : ∀ u ∈ news, u.oneCell' = true)
    (h63 : m ≤ maxLen) (hbytes : m * bytes ≤ 140737488355328) (hbase : base ≤ w.heap.size)
    (h : ∀ A' c' w', w'.ownsRow base e size (.slice A' m c') m news → Below w.heap.size w w' → K (a.put o.dst (.slice A' m c')) w') :
    if Region.wanted o (yielded ops a.tmps) = true then Oper.wp P o a w K Q else E := by
  refine step_append_rd w hgd s x t ho base e i z size bytes ht hi hz hsize hby hzs hsz (.slice none 0 0) 0 [] hs (World.ownsRow_nil _ _ _ _) B A m c news hx hr h1 (by omega) (by simpa using hbytes) hbase ?_
  intro A' c' w' h2 h3 _
  rw [Nat.zero_add, List.nil_append] at h2
  rw [Nat.zero_add]
  exact h A' c' w' h2 ((Below.refl _ _).grown h3 (Nat.le_refl _) (by simp [Value.ownBlock]))

/-- 's[i:]' as the model writes it: the old address where nothing is left of the capacity. -/
theorem Rd.drop {w : World} {B k n m c : Nat} {A : Option Addr} {xs : List Value} (h : Rd w B k A n xs) (hm : m ≤ n) (hc : n ≤ c) : Rd w B k (if c = m then A else A.map (·.add (m * k))) (n - m) (xs.drop (m * k)) := by
  refine ⟨by rw [List.length_drop, h.1, Nat.sub_mul], fun h0 => ?_⟩
  obtain ⟨ad, rfl, h2, h3, h4⟩ := h.2 (by omega)
  rw [if_neg (by omega)]
  have hmk : m * k ≤ n * k := Nat.mul_le_mul_right k hm
  have hadd : ad.add (m * k) = ⟨ad.block, ad.off + m * k, none⟩ := by
    unfold Addr.add
    split
    · rename_i h0; rw [h0]; cases ad; simp_all
    · rfl
  refine ⟨ad.add (m * k), rfl, by rw [hadd]; exact h2, by rw [hadd], fun j hj => ?_⟩
  rw [hadd]
  rw [Nat.sub_mul] at hj
  rw [List.getElem?_drop, ← h4 (m * k + j) (by omega)]
  simp only [Nat.add_assoc]

/-- The same as the walk writes it, where it is known that something of the capacity is left; 'j' is m * k as the walk shows it. -/
theorem Rd.drop_map {w : World} {B k n m j : Nat} {A : Option Addr} {xs : List Value} (h : Rd w B k A n xs) (hm : m ≤ n) (hj : j = m * k) :
    Rd w B k (A.map fun x => { block := x.block, off := x.off + j }) (n - m) (xs.drop j) := by
  subst hj
  by_cases h0 : 0 < n - m
  · have h' := h.drop (c := n + m + 1) hm (by omega)
    rw [if_neg (by omega)] at h'
    obtain ⟨ad, rfl, _, hs, _⟩ := h.2 (by omega)
    have hadd : ad.add (m * k) = ⟨ad.block, ad.off + m * k, none⟩ := by
      unfold Addr.add
      split
      · rename_i h0; rw [h0]; cases ad; simp_all
      · rfl
    simpa [hadd] using h'
  · refine ⟨by rw [List.length_drop, h.1, Nat.sub_mul], fun h1 => absurd h1 h0⟩

/-- What is cut away wholly reads as nothing, at whatever address. -/
theorem Rd.empty {w : World} {B k : Nat} (A : Option Addr) : Rd w B k A 0 [] := ⟨by simp, fun h => absurd h (by omega)⟩

end Go.Proofs.Ytdcbapheoagelaa
