/- My texts, joined for the claim: GTail GWays OBehind OPairsA OAll. -/
import Derived.Test.YtbllehjhmfehbaaGreatZB0
import Derived.Deep.AppendSrc
import Derived.Deep.Upon
import Derived.Test.YtbllehjhmfehbaaGreatZB5
import Derived.Test.YtbllehjhmfehbaaGreatZB6
import Derived.Test.YtbllehjhmfehbaaGreatZB2

section
/- A slice of the call's own that may start anywhere in its block: cut in front, appended to behind. No program. -/
namespace Go.Proofs.YtbllehjhmfehbaaGreat
open Go.RowKit

theorem setCells_size (b : Nat) : ∀ (vs : List Value) (o : Nat) (w : World), (w.setCells b o vs).heap.size = w.heap.size
  | [], _, _ => rfl
  | v :: r, o, w => by simp only [World.setCells]; rw [setCells_size b r]; simp
theorem setCells_tape (b : Nat) : ∀ (vs : List Value) (o : Nat) (w : World), (w.setCells b o vs).tape = w.tape
  | [], _, _ => rfl
  | v :: r, o, w => by simp only [World.setCells]; rw [setCells_tape b r]; simp
/-- The value v holds the n elements xs in a block of the call's own, from whatever cell on; or it is nil. -/
def Tail (w : World) (base size : Nat) (v : Value) (n : Nat) (xs : List Value) : Prop :=
  xs.length = n * size ∧ ((v = .slice none 0 0 ∧ n = 0) ∨ ∃ g off cap, v = .slice (some ⟨g, off, none⟩) n cap ∧ base ≤ g ∧ g < w.heap.size ∧ n ≤ cap ∧ cap ≤ maxLen ∧
    (∀ j, j < n * size → w.cell? ⟨g, off + j, none⟩ = xs[j]?) ∧ ∀ j, j < cap * size → (w.cell? ⟨g, off + j, none⟩).isSome = true ∧ w.frozen? ⟨g, off + j, none⟩ = false)

section
variable {w w' : World} {base size n : Nat} {v : Value} {xs : List Value}
theorem Tail.shape (h : Tail w base size v n xs) : ∃ A c, v = .slice A n c := by
  rcases h.2 with ⟨h1, h2⟩ | ⟨g, off, cap, h1, _⟩
  · exact ⟨none, 0, by rw [h1, h2]⟩
  · exact ⟨_, _, h1⟩
theorem Tail.lt (h : Tail w base size v n xs) {g : Nat} (hg : v.ownBlock = some g) : base ≤ g ∧ g < w.heap.size := by
  rcases h.2 with ⟨h1, h2⟩ | ⟨g', off, cap, h1, h3, h4, _⟩
  · rw [h1] at hg; cases hg
  · rw [h1] at hg; cases hg; exact ⟨h3, h4⟩
theorem Tail.rd {A : Option Addr} {m c : Nat} (h : Tail w base size (.slice A m c) n xs) : Rd w w.heap.size size A n xs := by
  refine ⟨h.1, fun hn => ?_⟩
  rcases h.2 with ⟨h1, h2⟩ | ⟨g, off, cap, h1, h3, h4, _, _, h5, _⟩
  · omega
  · injection h1 with e1 _ _
    exact ⟨_, e1, h4, rfl, h5⟩
theorem Tail.cap {A : Option Addr} {m c : Nat} (h : Tail w base size (.slice A m c) n xs) : n ≤ c ∧ c ≤ maxLen ∧ m = n := by
  rcases h.2 with ⟨h1, h2⟩ | ⟨g, off, cap, h1, h3, h4, h5, h6, _⟩
  · injection h1 with _ e2 e3; subst e3; subst e2; exact ⟨by omega, by decide, h2.symm⟩
  · injection h1 with _ e2 e3; subst e3; subst e2; exact ⟨h5, h6, rfl⟩
theorem Tail.same (h : Tail w base size v n xs) (hs : w.heap.size ≤ w'.heap.size) (hb : ∀ g, v.ownBlock = some g → w'.heap[g]? = w.heap[g]?) : Tail w' base size v n xs := by
  refine ⟨h.1, h.2.imp id ?_⟩
  rintro ⟨g, off, cap, rfl, h3, h4, h5, h6, h7, h8⟩
  have hb' := hb g rfl
  exact ⟨g, off, cap, rfl, h3, by omega, h5, h6, fun j hj => (World.cell?_of_block (a := ⟨g, off + j, none⟩) hb').trans (h7 j hj), fun j hj => ⟨by rw [World.cell?_of_block (a := ⟨g, off + j, none⟩) hb']; exact (h8 j hj).1, (World.frozen?_of_block (a := ⟨g, off + j, none⟩) hb').trans (h8 j hj).2⟩⟩
theorem Tail.on (h : Tail w base size v n xs) (hb : Below w.heap.size w w') : Tail w' base size v n xs := h.same hb.size fun g hg => hb.block g (h.lt hg).2
theorem Tail.alloc (h : Tail w base size v n xs) (o : Obj) : Tail (w.alloc o) base size v n xs := h.on (below_alloc (Nat.le_refl _) (Below.refl _ _))
theorem Tail.kept {row : Option Nat} (h : Tail w base size v n xs) (hg : w.grownBy w' row) (hne : ∀ g, v.ownBlock = some g → some g ≠ row) : Tail w' base size v n xs := h.same hg.size fun g h1 => hg.block g (h.lt h1).2 (hne g h1)
theorem Tail.low {base' : Nat} (h : Tail w base size v n xs) (hb : base' ≤ base) : Tail w base' size v n xs := by
  refine ⟨h.1, h.2.imp id ?_⟩
  rintro ⟨g, off, cap, h1, h3, r⟩
  exact ⟨g, off, cap, h1, by omega, r⟩
theorem Tail.nil (w : World) (base size : Nat) : Tail w base size (.slice none 0 0) 0 [] := ⟨by simp, .inl ⟨rfl, rfl⟩⟩
theorem Tail.own {e : TypeId} (h : w.ownsRow base e size v n xs) : Tail w base size v n xs := by
  have h0 := h
  obtain ⟨hl, ⟨h1, h2⟩ | ⟨g, cap, cur, h1, h3, h4, h5, h6, h7, h8⟩⟩ := h
  · exact ⟨hl, .inl ⟨h1, h2⟩⟩
  · subst h1
    have hg : g < w.heap.size := (h0.lt g rfl).2
    obtain ⟨A, c, hv, hr⟩ := own_rd h0
    injection hv with e1 _ e3
    subst e1
    refine ⟨hl, .inr ⟨g, 0, cap, rfl, h3, hg, h5, h6, fun j hj => ?_, fun j hj => ⟨?_, ?_⟩⟩⟩
    · obtain ⟨ad, e, _, _, hc⟩ := hr.2 (by rcases Nat.eq_zero_or_pos n with h | h; (subst h; omega); exact h)
      injection e with e
      subst e
      exact hc j hj
    · have : j < cur.size := by rw [h7]; exact hj
      simp [World.cell?, h4, this]
    · simp [World.frozen?, h4]
/-- One element less in front, as the walk writes it. -/
theorem Tail.drop {A : Option Addr} {c m : Nat} (h : Tail w base size (.slice A n c) n xs) (hm : m ≤ n) (hc : m < c) : Tail w base size (.slice (A.map fun x => { block := x.block, off := x.off + m * size }) (n - m) (c - m)) (n - m) (xs.drop (m * size)) := by
  rcases h.2 with ⟨h1, h2⟩ | ⟨g, off, cap, h1, h3, h4, h5, h6, h7, h8⟩
  · injection h1 with e1 _ e3; omega
  · injection h1 with e1 _ e3
    subst e1 e3
    have hmk : m * size ≤ n * size := Nat.mul_le_mul_right _ hm
    refine ⟨by rw [List.length_drop, h.1, Nat.sub_mul], .inr ⟨g, off + m * size, c - m, rfl, h3, h4, by omega, by omega, fun j hj => ?_, fun j hj => ?_⟩⟩
    · rw [Nat.sub_mul] at hj
      rw [List.getElem?_drop, ← h7 (m * size + j) (by omega), Nat.add_assoc]
    · rw [Nat.sub_mul] at hj
      have := h8 (m * size + j) (by omega)
      rw [← Nat.add_assoc] at this
      exact this
end

section
variable {P : Program}
theorem src_rd {w : World} {size : Nat} {tx e' : TypeId} (hk : P.underlying tx = some (.slice e')) {B : Nat} {A : Option Addr} {m c : Nat} {news : List Value} (hr : Rd w B size A m news) (h1 : ∀ u ∈ news, u.oneCell' = true) (hn : A = none → m = 0) : Src P size tx (.slice A m c) m news w := by
  cases A with
  | none =>
    have hm := hn rfl
    subst hm
    have hn : news = [] := List.eq_nil_of_length_eq_zero (by simpa using hr.1)
    subst hn
    exact Src.ofNil w hk c
  | some ad =>
    refine Src.ofSlice w hk ad m c news hr.1 (fun j u hu => ?_) h1
    have hj : j < news.length := by
      rcases Nat.lt_or_ge j news.length with h | h
      · exact h
      · rw [List.getElem?_eq_none h] at hu; cases hu
    have hm0 : 0 < m := by
      rcases Nat.eq_zero_or_pos m with h0 | h0
      · have := hr.1; rw [h0, Nat.zero_mul] at this; omega
      · exact h0
    obtain ⟨ad', he, _, hs, hc⟩ := hr.2 hm0
    injection he with he
    subst he
    have hadd : ad.add j = ⟨ad.block, ad.off + j, none⟩ := by
      unfold Addr.add
      split
      · rename_i h0; subst h0; cases ad; simp_all
      · rfl
    rw [hadd, hc j (by rw [← hr.1]; exact hj), hu]

theorem run_append_tail (w : World) (base : Nat) (t ty e : TypeId) (i : TypeInfo) (z : Value) (size bytes : Nat) (ht : P.underlying t = some (.slice e)) (hi : P.info? e = some i) (hz : i.zero = some z)
    (hsize : i.size = size) (hby : i.bytes = bytes) (hzs : z.cells.size = size) (v : Value) (n : Nat) (xs : List Value) (hown : Tail w base size v n xs)
    (x : Value) (m : Nat) (news : List Value) (hs : Src P size t x m news w) (h63 : n + m ≤ maxLen) (hbytes : (n + m) * bytes ≤ 140737488355328) (hbase : base ≤ w.heap.size) :
    ∃ A' c' w', (Builtin.append_ #[t, t] ty #[v, x]).run P w = .ok (.slice A' (n + m) c') w' ∧ Tail w' base size (.slice A' (n + m) c') (n + m) (xs ++ news) ∧ w.grownBy w' v.ownBlock ∧
      ((Value.slice A' (n + m) c').ownBlock = v.ownBlock ∨ (Value.slice A' (n + m) c').ownBlock = some w.heap.size) := by
  subst hsize
  subst hby
  have hnl := hs.newsLen
  have hlen : (xs ++ news).length = (n + m) * i.size := by rw [List.length_append, hown.1, hnl, Nat.add_mul]
  have hsmall : n + m ≤ 9223372036854775807 := by simp only [maxLen] at h63; omega
  have grow : ∀ (bs : Option Addr) (sc : Nat), v = .slice bs n sc → sc < n + m →
      (Builtin.firstCells i.size n (.slice bs n sc)).run P w.drew = .ok xs.toArray w.drew →
      ∃ A' c' w', (Builtin.append_ #[t, t] ty #[v, x]).run P w = .ok (.slice A' (n + m) c') w' ∧ Tail w' base i.size (.slice A' (n + m) c') (n + m) (xs ++ news) ∧ w.grownBy w' v.ownBlock ∧
        ((Value.slice A' (n + m) c').ownBlock = v.ownBlock ∨ (Value.slice A' (n + m) c').ownBlock = some w.heap.size) := by
    rintro bs sc rfl hg hold
    have hrun := run_append_grow_src (P := P) w t t ty e i z ht hi hz bs n sc xs hold x m news hs hg (by omega) (growslice_fits hg hbytes)
    have hge := grownCap_ge w (n + m) sc e
    have hcm := grownCap_le_maxLen w (n + m) sc e h63
    have hblk : ∀ k, k < w.heap.size → (w.drew.alloc (.cells ((xs ++ news).toArray ++ Builtin.zeroCells z.cells (grownCap w (n + m) sc e - (n + m))) e)).heap[k]? = w.heap[k]? := fun k hk => Below.heap_alloc w.drew _ k hk
    have hcell : ∀ j, (w.drew.alloc (.cells ((xs ++ news).toArray ++ Builtin.zeroCells z.cells (grownCap w (n + m) sc e - (n + m))) e)).cell? ⟨w.heap.size, j, none⟩ = ((xs ++ news).toArray ++ Builtin.zeroCells z.cells (grownCap w (n + m) sc e - (n + m)))[j]? := fun j => World.cell?_alloc_new w.drew _ _ j
    refine ⟨_, _, _, hrun, ⟨hlen, .inr ⟨w.heap.size, 0, _, rfl, hbase, by simp, by omega, hcm, fun j hj => ?_, fun j hj => ⟨?_, ?_⟩⟩⟩, ⟨rfl, rfl, rfl, by simp, fun k hk _ => hblk k hk⟩, .inr rfl⟩
    · rw [Nat.zero_add, hcell, Array.getElem?_append_left (by simp only [List.size_toArray]; rw [hlen]; exact hj), List.getElem?_toArray]
    · rw [Nat.zero_add, hcell]
      have hsz : ((xs ++ news).toArray ++ Builtin.zeroCells z.cells (grownCap w (n + m) sc e - (n + m))).size = grownCap w (n + m) sc e * i.size := by
        rw [Array.size_append, List.size_toArray, hlen, size_zeroCells, hzs, ← Nat.add_mul]
        congr 1
        omega
      rw [Array.getElem?_eq_getElem (by rw [hsz]; exact hj)]
      rfl
    · rw [Nat.zero_add]; exact World.frozen?_alloc_new w.drew _ _ j
  have hown' := hown
  rcases hown.2 with ⟨rfl, rfl⟩ | ⟨g, off, cap, rfl, h3, h4, h5, h6, h7, h8⟩
  · have hx : xs = [] := List.eq_nil_of_length_eq_zero (by simpa using hown.1)
    subst hx
    rcases Nat.eq_zero_or_pos m with h0 | h0
    · subst h0
      have hn : news = [] := List.eq_nil_of_length_eq_zero (by simpa using hnl)
      subst hn
      exact ⟨none, 0, w, run_append_nothing (P := P) w t t ty e i ht hi none 0 0 (Nat.le_refl _) x hs, Tail.nil _ _ _, World.grownBy.refl _ _, .inl rfl⟩
    · exact grow none 0 rfl (by omega) (run_firstCells_none w.drew i.size 0 0 0)
  · by_cases hfit : n + m ≤ cap
    · have hrc : (n + m) * i.size ≤ cap * i.size := Nat.mul_le_mul_right _ hfit
      rw [Nat.add_mul] at hrc
      have hsome : ∀ j, j < news.length → (w.cell? ⟨g, off + n * i.size + j, none⟩).isSome = true := fun j hj => by
        have := (h8 (n * i.size + j) (by omega)).1
        rwa [← Nat.add_assoc] at this
      have hfro : ∀ j, j < news.length → w.frozen? ⟨g, off + n * i.size + j, none⟩ = false := fun j hj => by
        have := (h8 (n * i.size + j) (by omega)).2
        rwa [← Nat.add_assoc] at this
      have hrun := run_append_room_src (P := P) w t t ty e i ht hi g off n cap x m news hs hfit hsome hfro
      refine ⟨_, _, _, hrun, ⟨hlen, .inr ⟨g, off, cap, rfl, h3, by rw [setCells_size]; exact h4, hfit, h6, fun j hj => ?_, fun j hj => ⟨?_, (World.frozen?_setCells g _ _ _ _).trans (h8 j hj).2⟩⟩⟩, ⟨World.os_setCells _ _ _ _, setCells_tape _ _ _ _, World.output_setCells _ _ _ _, by rw [setCells_size]; exact Nat.le_refl _, fun k hk hne => World.heap_setCells_other w g _ news hk (fun e => hne (by rw [e]; rfl))⟩, .inl rfl⟩
      · rw [Nat.add_mul] at hj
        by_cases hjo : j < n * i.size
        · rw [World.cell?_setCells_out g _ _ _ _ (fun _ _ => Or.inl (by show off + j < off + n * i.size; omega)), List.getElem?_append_left (by rw [hown.1]; exact hjo)]
          exact h7 j hjo
        · have ht' : j - n * i.size < news.length := by omega
          have := World.cell?_setCells_in g news (off + n * i.size) w hsome (j - n * i.size) ht'
          rw [show off + n * i.size + (j - n * i.size) = off + j by omega] at this
          rw [this, List.getElem?_append_right (by rw [hown.1]; omega), hown.1, List.getElem?_eq_getElem ht']
      · by_cases hin : n * i.size ≤ j ∧ j < n * i.size + news.length
        · have := World.cell?_setCells_in g news (off + n * i.size) w hsome (j - n * i.size) (by omega)
          rw [show off + n * i.size + (j - n * i.size) = off + j by omega] at this
          rw [this]; rfl
        · rw [World.cell?_setCells_out g _ _ _ _ (fun _ _ => by show off + j < off + n * i.size ∨ off + n * i.size + news.length ≤ off + j; omega)]
          exact (h8 j hj).1
    · refine grow (some ⟨g, off, none⟩) cap rfl (by omega) ?_
      refine run_firstCells_some w.drew i.size n ⟨g, off, none⟩ n cap xs hown.1 (fun j u hu => ?_)
      rw [Addr.add_lit]
      have hj : j < n * i.size := by
        have := (List.getElem?_eq_some_iff.1 hu).1
        rw [hown.1] at this
        exact this
      exact (h7 j hj).trans hu

/-- For the walk. -/
theorem wpList_append_tail (w : World) {ops : Array Oper} {rest : List Oper} {o : Oper} {a : Act} {Q : Exit → Act → World → Prop} (hgd : o.guard = none) (s x : Operand) (t : TypeId)
    (ho : o.op = .call { callee := .builtin .append, args := #[s, x], argTypes := #[t, t] })
    (base : Nat) (e : TypeId) (i : TypeInfo) (z : Value) (size bytes : Nat) (ht : P.underlying t = some (.slice e)) (hi : P.info? e = some i) (hz : i.zero = some z)
    (hsize : i.size = size) (hby : i.bytes = bytes) (hzs : z.cells.size = size)
    (v : Value) (n : Nat) (xs : List Value) (hs : a.eval s = v) (hown : Tail w base size v n xs)
    (xv : Value) (m : Nat) (news : List Value) (hx : a.eval x = xv) (hsrc : Src P size t xv m news w)
    (h63 : n + m ≤ maxLen) (hbytes : (n + m) * bytes ≤ 140737488355328) (hbase : base ≤ w.heap.size)
    (h : ∀ A' c' w', Tail w' base size (.slice A' (n + m) c') (n + m) (xs ++ news) → w.grownBy w' v.ownBlock →
      ((Value.slice A' (n + m) c').ownBlock = v.ownBlock ∨ (Value.slice A' (n + m) c').ownBlock = some w.heap.size) → wpList P ops Q rest (a.put o.dst (.slice A' (n + m) c')) w') : wpList P ops Q (o :: rest) a w := by
  refine wpList_plain hgd fun K hK => ?_
  obtain ⟨A', c', w', hrun, h2, h3, h4⟩ := run_append_tail (P := P) w base t o.type e i z size bytes ht hi hz hsize hby hzs v n xs hown xv m news hsrc h63 hbytes hbase
  unfold Oper.wp execOp
  simp only [ho, resolve, invoke, builtin, Sem.run_bind, Sem.run_pure, Result.andThen_ok, List.map_toArray, List.map_cons, List.map_nil, hs, hx, hrun]
  exact hK _ _ (h A' c' w' h2 h3 h4)
end
end Go.Proofs.YtbllehjhmfehbaaGreat
end

section
/- A map from texts to rows of texts, all the call's own: what is put, in words of pairs. -/
namespace Go.Proofs.YtbllehjhmfehbaaGreat
open Go.RowKit Go.Maps

section
variable {P : Program} {k : TypeId} {α : Type} {κ : KeyKind P k α} {ops : Array Oper} {o : Oper} {a : Act} {K : Act → World → Prop} {Q : Exit → Act → World → Prop} {E : Prop} (w : World)
/-- A look-up at a step of a region that draws its order. -/
theorem step_lookup_is (hw : Region.wanted o (yielded ops a.tmps) = true) (m x : Operand) (t : TypeId) (hop : o.op = Op.lookup t m x false) (e : TypeId) (ht : P.underlying t = some (.map k e)) (z : Value) (hz : (zeroValue e).run P w = .ok z w)
    (b n : Nat) (f : α → Option Value) (hm : a.eval m = .map (some b)) (h : MapIs κ w b n f) (key : α) (hx : a.eval x = κ.val key) (hk : κ.ok key)
    (hK : K (a.put o.dst ((f key).getD z)) w) : if Region.wanted o (yielded ops a.tmps) = true then Oper.wp P o a w K Q else E := by
  rw [if_pos hw]
  have hrun := h.lookup ht hz hk
  unfold Oper.wp
  simp [execOp, hop, hm, hx, hrun, Result.andThen]
  exact hK
open Classical in
theorem step_update_is (hw : Region.wanted o (yielded ops a.tmps) = true) (m x v : Operand) (t : TypeId) (hop : o.op = Op.mapUpdate t m x v) (e : TypeId) (ht : P.underlying t = some (.map k e))
    (b n : Nat) (f : α → Option Value) (hm : a.eval m = .map (some b)) (h : MapIs κ w b n f) (hn : n < maxLen) (key : α) (val : Value) (hx : a.eval x = κ.val key) (hv : a.eval v = val) (hk : κ.ok key)
    (hK : ∀ w', MapIs κ w' b (n + 1) (fun y => if y = key then some val else f y) → w.grownBy w' (some b) → K (a.put o.dst undef) w') :
    if Region.wanted o (yielded ops a.tmps) = true then Oper.wp P o a w K Q else E := by
  rw [if_pos hw]
  obtain ⟨w', hrun, h1, h2⟩ := h.update ht hn hk val
  unfold Oper.wp
  simp [execOp, hop, hm, hx, hv, hrun, Result.andThen]
  exact hK w' h1 h2
end

namespace Od
abbrev okS (s : Str) : Prop := s.length ≤ maxLen
abbrev rowV (o : Option Value) : Value := o.getD (.slice none 0 0)
/-- The map in block m holds, for each text, a row of the call's own with those that pairs lead to; f: the rows. -/
structure WaysFn (w : World) (base m : Nat) (l : List Pr) (f : Str → Option Value) : Prop where
  map : MapIs strK w m l.length f
  low : base ≤ m
  row : ∀ s, okS s → w.ownsRow base 9 1 (rowV (f s)) (succ l s).length (svs (succ l s))
  sep : ∀ s t, okS s → okS t → s ≠ t → Sep (rowV (f s)) (rowV (f t))
  off : ∀ s, okS s → ∀ g, (rowV (f s)).ownBlock = some g → g ≠ m
def WaysIs (w : World) (base m : Nat) (l : List Pr) : Prop := ∃ f, WaysFn w base m l f
section
variable {w w' : World} {base m : Nat} {l : List Pr} {f : Str → Option Value} {X : Nat → Prop}
theorem WaysFn.lt (h : WaysFn w base m l f) : m < w.heap.size := h.map.lt
theorem WaysFn.on (h : WaysFn w base m l f) (hb : Below w.heap.size w w') : WaysFn w' base m l f :=
  ⟨h.map.on hb, h.low, fun s hs => own_on (h.row s hs) hb, h.sep, h.off⟩
theorem WaysFn.alloc (h : WaysFn w base m l f) (o : Obj) : WaysFn (w.alloc o) base m l f := h.on (below_alloc (Nat.le_refl _) (Below.refl _ _))
theorem WaysFn.drew (h : WaysFn w base m l f) : WaysFn w.drew base m l f := h.on (Below.drew (Below.refl _ _))
theorem WaysFn.lower (h : WaysFn w base m l f) {base' : Nat} (hb : base' ≤ base) : WaysFn w base' m l f :=
  ⟨h.map, by have := h.low; omega, fun s hs => own_base (h.row s hs) hb, h.sep, h.off⟩
theorem WaysIs.lt (h : WaysIs w base m l) : m < w.heap.size := by obtain ⟨f, h⟩ := h; exact h.lt
theorem WaysIs.on (h : WaysIs w base m l) (hb : Below w.heap.size w w') : WaysIs w' base m l := by obtain ⟨f, h⟩ := h; exact ⟨f, h.on hb⟩
theorem WaysIs.lower (h : WaysIs w base m l) {base' : Nat} (hb : base' ≤ base) : WaysIs w base' m l := by obtain ⟨f, h⟩ := h; exact ⟨f, h.lower hb⟩
theorem WaysIs.low (h : WaysIs w base m l) : base ≤ m := by obtain ⟨f, h⟩ := h; exact WaysFn.low h
/-- What a call leaves as it was: the blocks of X. -/
structure Keeps (X : Nat → Prop) (w w' : World) : Prop where
  os : w'.os = w.os
  tape : w'.tape = w.tape
  output : w'.output = w.output
  size : w.heap.size ≤ w'.heap.size
  block : ∀ j, X j → w'.heap[j]? = w.heap[j]?
theorem Keeps.below {X : Nat → Prop} {w w' : World} (h : Keeps X w w') {B : Nat} (hB : ∀ j, j < B → X j) : Below B w w' := ⟨h.os, h.tape, h.output, h.size, fun j hj => h.block j (hB j hj)⟩
/-- The same, none of its blocks among those of X. -/
def WaysX (w : World) (X : Nat → Prop) (m : Nat) (l : List Pr) : Prop := ∃ f, WaysFn w 0 m l f ∧ ¬ X m ∧ ∀ s, okS s → ∀ g, (rowV (f s)).ownBlock = some g → ¬ X g
theorem WaysX.is (h : WaysX w X m l) : WaysIs w 0 m l := by obtain ⟨f, h, _⟩ := h; exact ⟨f, h⟩
theorem WaysX.on {X : Nat → Prop} (h : WaysX w X m l) (hb : Below w.heap.size w w') : WaysX w' X m l := by obtain ⟨f, h, r⟩ := h; exact ⟨f, h.on hb, r⟩
theorem WaysX.more {X Y : Nat → Prop} (h : WaysX w X m l) (hXY : ∀ j, j < w.heap.size → Y j → X j) : WaysX w Y m l := by
  obtain ⟨f, h, h1, h2⟩ := h
  exact ⟨f, h, fun hy => h1 (hXY _ h.lt hy), fun s hs g hg hy => h2 s hs g hg (hXY _ ((h.row s hs).lt g hg).2 hy)⟩
theorem WaysX.made (w : World) : WaysX (w.alloc (.map #[] 0)) (fun j => j < w.heap.size) w.heap.size [] :=
  ⟨fun _ => none, ⟨MapIs.made strK w, Nat.zero_le _, fun s _ => World.ownsRow_nil _ _ _ _, fun _ _ _ _ _ => .inl rfl, fun _ _ g h => by simp [Value.ownBlock] at h⟩, Nat.lt_irrefl _, fun _ _ g h => by simp [Value.ownBlock] at h⟩
theorem WaysIs.made (w : World) : WaysIs (w.alloc (.map #[] 0)) w.heap.size w.heap.size [] :=
  ⟨fun _ => none, MapIs.made strK w, Nat.le_refl _, fun s _ => World.ownsRow_nil _ _ _ _, fun _ _ _ _ _ => .inl rfl, fun _ _ g h => by simp [Value.ownBlock] at h⟩

/-- One pair more: the row of its first text has grown, then the map has been written. -/
theorem WaysFn.put (h : WaysFn w base m l f) {a b : Str} (ha : okS a) {w1 w2 w3 : World} {v' : Value} {f' : Str → Option Value} (hfa : f' a = some v') (hfo : ∀ y, y ≠ a → f' y = f y) (hw : Below w.heap.size w w1)
    (hown : w2.ownsRow base 9 1 v' ((succ l a).length + 1) (svs (succ l a) ++ [sv b])) (hg : w1.grownBy w2 (rowV (f a)).ownBlock) (hat : v'.ownBlock = (rowV (f a)).ownBlock ∨ ∃ k, w.heap.size ≤ k ∧ v'.ownBlock = some k)
    (hm3 : MapIs strK w2 m l.length f → MapIs strK w3 m (l.length + 1) f') (hg3 : w2.grownBy w3 (some m)) : WaysFn w3 base m (l ++ [(a, b)]) f' := by
  have h1 := h.on hw
  have hne : some m ≠ (rowV (f a)).ownBlock := fun e => h.off a ha m e.symm rfl
  have hm2 : MapIs strK w2 m l.length f := h1.map.kept hg hne
  have hsame : succ (l ++ [(a, b)]) a = succ l a ++ [b] := by rw [succ_app]; simp
  have hoth : ∀ s, s ≠ a → succ (l ++ [(a, b)]) s = succ l s := fun s hs => by rw [succ_app, if_neg (fun e => hs e.symm)]; simp
  have hblk : ∀ g, v'.ownBlock = some g → g ≠ m := by
    intro g hgv
    rcases hat with e | ⟨k, hk, e⟩
    · exact h.off a ha g (e ▸ hgv)
    · have := h.lt
      rw [e] at hgv
      cases hgv
      omega
  have hkeep : ∀ (v : Value) (n : Nat) (xs : List Value), w2.ownsRow base 9 1 v n xs → (∀ g, v.ownBlock = some g → g ≠ m) → w3.ownsRow base 9 1 v n xs := by
    intro v n xs hv hnm
    refine hv.kept hg3 ?_
    cases hvb : v.ownBlock with
    | none => exact .inl rfl
    | some g => exact .inr (fun e => hnm g hvb (Option.some.inj e))
  refine ⟨by simpa using hm3 hm2, h.low, fun s hs => ?_, fun s t hs ht hst => ?_, fun s hs => ?_⟩
  · by_cases e : s = a
    · subst e
      rw [hsame, hfa]
      have := hkeep _ _ _ hown hblk
      simpa [svs] using this
    · rw [hoth s e, hfo s e]
      exact hkeep _ _ _ ((h.sep a s ha hs (Ne.symm e)).kept (h1.row s hs) hg) (h.off s hs)
  · have hsep : ∀ t, okS t → t ≠ a → Sep v' (rowV (f t)) := by
      intro t ht hta
      rcases hat with e | ⟨k, hk, e⟩
      · have := h.sep a t ha ht (Ne.symm hta)
        unfold Sep at *
        rw [e]; exact this
      · cases hv : (rowV (f t)).ownBlock with
        | none => exact .inr (.inl hv)
        | some g =>
          have := ((h.row t ht).lt g hv).2
          exact .inr (.inr (by rw [e, hv]; simp; omega))
    by_cases es : s = a
    · have et : t ≠ a := fun e => hst (es.trans e.symm)
      rw [es, hfa, hfo t et]
      exact hsep t ht et
    · by_cases et : t = a
      · rw [et, hfa, hfo s es]
        exact (hsep s hs es).symm
      · rw [hfo s es, hfo t et]
        exact h.sep s t hs ht hst
  · by_cases e : s = a
    · rw [e, hfa]; exact hblk
    · rw [hfo s e]; exact h.off s hs
end

/-- What the walk wants behind the append: the map's write, and the box's cells. -/
theorem putStep {w w1 w2 : World} {X : Nat → Prop} {m : Nat} {l : List Pr} {f : Str → Option Value} {a b : Str} {A2 : Option Addr} {c2 : Nat} {x y : Value} (H : WaysFn w 0 m l f) (hX : ∀ j, X j → j < w.heap.size) (hXm : ¬ X m) (hXf : ∀ s, okS s → ∀ g, (rowV (f s)).ownBlock = some g → ¬ X g) (ha : okS a) (hln : l.length < maxLen) (hw : Below w.heap.size w w1) (h0 : w.heap.size < w1.heap.size)
    (ho2 : w2.ownsRow 0 9 1 (.slice A2 ((succ l a).length + 1) c2) ((succ l a).length + 1) (svs (succ l a) ++ [sv b])) (hg2 : w1.grownBy w2 (rowV (f a)).ownBlock) (ha2 : (Value.slice A2 ((succ l a).length + 1) c2).ownBlock = (rowV (f a)).ownBlock ∨ (Value.slice A2 ((succ l a).length + 1) c2).ownBlock = some w1.heap.size)
    (hx : w1.cell? ⟨w.heap.size, 0, none⟩ = some x) (hy : w1.cell? ⟨w.heap.size, 1, none⟩ = some y) :
    ∃ w3, (Instr.mapUpdate 131 (.map (some m)) (sv a) (.slice A2 ((succ l a).length + 1) c2)).run Tryz.prog w2 = .ok () w3 ∧ WaysX w3 X m (l ++ [(a, b)]) ∧ Keeps X w w3 ∧
      w2.cell? ⟨w.heap.size, 0, none⟩ = some x ∧ w2.cell? ⟨w.heap.size, 1, none⟩ = some y ∧ w3.cell? ⟨w.heap.size, 0, none⟩ = some x ∧ w3.cell? ⟨w.heap.size, 1, none⟩ = some y := by
  have h1 := H.on hw
  have hne : some m ≠ (rowV (f a)).ownBlock := fun e => H.off a ha m e.symm rfl
  have hm2 : MapIs strK w2 m l.length f := h1.map.kept hg2 hne
  obtain ⟨w3, e1, e2, e3⟩ := hm2.update Tryz.underlying131 hln ha (.slice A2 ((succ l a).length + 1) c2)
  have hb : some w.heap.size ≠ (rowV (f a)).ownBlock := fun e => by
    have := ((H.row a ha).lt _ e.symm).2
    omega
  have hm : some w.heap.size ≠ some m := fun e => by have := H.lt; cases e; omega
  have hz := hg2.size
  have p2 : ∀ o, w2.cell? ⟨w.heap.size, o, none⟩ = w1.cell? ⟨w.heap.size, o, none⟩ := fun o => World.cell?_of_block (hg2.block _ h0 hb)
  have p3 : ∀ o, w3.cell? ⟨w.heap.size, o, none⟩ = w2.cell? ⟨w.heap.size, o, none⟩ := fun o => World.cell?_of_block (e3.block _ (by show w.heap.size < _; omega) hm)
  have hf' := H.put ha (f' := fun y => @ite _ (y = a) (Classical.propDecidable _) (some (.slice A2 ((succ l a).length + 1) c2)) (f y)) (by simp) (fun y hy => by simp [hy]) hw ho2 hg2 (ha2.imp id fun h => ⟨_, by omega, h⟩) (fun _ => e2) e3
  have hw1 := hw.size
  refine ⟨w3, e1, ⟨_, hf', hXm, fun s hs g hg => ?_⟩, ⟨e3.os.trans (hg2.os.trans hw.os), e3.tape.trans (hg2.tape.trans hw.tape), e3.output.trans (hg2.output.trans hw.output), by have := e3.size; omega, fun j hj => ?_⟩, (p2 0).trans hx, (p2 1).trans hy, (p3 0).trans ((p2 0).trans hx), (p3 1).trans ((p2 1).trans hy)⟩
  · by_cases e : s = a
    · simp only [e, if_true] at hg
      rcases ha2 with h2 | h2
      · exact hXf a ha g (h2 ▸ hg)
      · intro hx
        have := hX g hx
        have h3 : (Value.slice A2 ((succ l a).length + 1) c2).ownBlock = some g := hg
        rw [h2] at h3
        cases h3
        omega
    · simp only [e, if_false] at hg
      exact hXf s hs g hg
  · have hj0 := hX j hj
    rw [e3.block j (by omega) (fun e => hXm (by cases e; exact hj)), hg2.block j (by omega) (fun e => hXf a ha j e.symm hj)]
    exact hw.block j hj0

theorem infoS' : (Tryz.prog.info? 9).map (fun i => (i.zero, i.size, i.bytes)) = some (some (.string ⟨#[]⟩), 1, 16) := by kernel_rfl
theorem zeroR (w : World) : (zeroValue 26).run Tryz.prog w = .ok (.slice none 0 0) w := Tryz.zeroValue26 w

set_option maxHeartbeats 4000000 in
set_option maxRecDepth 100000 in
theorem put_any (X : Nat → Prop) (m : Nat) (l : List Pr) (a b : Str) (w : World) (h : WaysX w X m l) (hX : ∀ j, X j → j < w.heap.size) (ha : okS a) (hl : l.length ≤ 1000000) :
    Calls Tryz.prog 121 #[.map (some m), prV (a, b)] w fun e w' => e = .returned (.tuple #[]) ∧ WaysX w' X m (l ++ [(a, b)]) ∧ Keeps X w w' := by
  obtain ⟨i0, hi, hz0, hz1, hz2⟩ := info_parts infoS'
  obtain ⟨f, h, hXm, hXf⟩ := h
  have hsz := h.lt
  have XH := Lib.hid (And.intro hX (And.intro hXm hXf))
  clear hX hXm hXf
  have H := Lib.hid h
  have hsl := succ_len l a
  have h63 : (succ l a).length + 1 ≤ maxLen := by unfold maxLen; omega
  have hby : ((succ l a).length + 1) * 16 ≤ 140737488355328 := by omega
  have hln : l.length < maxLen := by unfold maxLen; omega
  clear h
  have hk1 : (Instr.lookup 131 (.map (some m)) (sv a) false).run Tryz.prog (w.alloc (.cells #[sv a, sv b] 137)).drew = .ok (rowV (f a)) (w.alloc (.cells #[sv a, sv b] 137)).drew :=
    (H.out.alloc _).drew.map.lookup Tryz.underlying131 (zeroR _) ha
  have hk2 : (Instr.lookup 131 (.map (some m)) (sv a) false).run Tryz.prog ((w.alloc (.cells #[sv a, sv b] 137)).alloc (.cells #[sv b] 9)).drew = .ok (rowV (f a)) ((w.alloc (.cells #[sv a, sv b] 137)).alloc (.cells #[sv b] 9)).drew :=
    ((H.out.alloc _).alloc _).drew.map.lookup Tryz.underlying131 (zeroR _) ha
  have hs1 : w.heap.size ≤ (((w.alloc (.cells #[sv a, sv b] 137)).alloc (.cells #[sv b] 9)).drew).heap.size := by simp; omega
  have hbel1 : Below w.heap.size w (((w.alloc (.cells #[sv a, sv b] 137)).alloc (.cells #[sv b] 9)).drew) := (((Below.refl _ _).alloc (Nat.le_refl _) _).alloc (by simp) _).drew
  have hbase : 0 ≤ (((w.alloc (.cells #[sv a, sv b] 137)).alloc (.cells #[sv b] 9)).drew).heap.size := Nat.zero_le _
  have hlit : Rd (((w.alloc (.cells #[sv a, sv b] 137)).alloc (.cells #[sv b] 9)).drew) (w.heap.size + 1 + 1) 1 (some ⟨w.heap.size + 1, 0, none⟩) 1 [sv b] := by
    have h := (Rd.lit (w.alloc (.cells #[sv a, sv b] 137)) [sv b] 9 1 1 rfl).drew
    simp only [World.size_alloc] at h
    exact h
  have hone : ∀ u ∈ [sv b], u.oneCell' = true := by simp [Value.oneCell']
  have K6 := Lib.hid (show (((w.alloc (.cells #[sv a, sv b] 137)).alloc (.cells #[sv b] 9)).drew).cell? ⟨w.heap.size, 0, none⟩ = some (sv a) by go_simp)
  have K7 := Lib.hid (show (((w.alloc (.cells #[sv a, sv b] 137)).alloc (.cells #[sv b] 9)).drew).cell? ⟨w.heap.size, 1, none⟩ = some (sv b) by go_simp)
  have K8 := Lib.hid (show w.heap.size < (((w.alloc (.cells #[sv a, sv b] 137)).alloc (.cells #[sv b] 9)).drew).heap.size by simp; omega)
  have K1 := Lib.hid hs1
  have K2 := Lib.hid hbel1
  have K3 := Lib.hid hbase
  have K4 := Lib.hid hlit
  have K5 := Lib.hid hone
  clear hs1 hbel1 hbase hlit hone
  go_enter Tryz.func121, Tryz.ntmps121
  go_wp2_with fail
  go_region_held3 (fun w' => w'.cell? ⟨w.heap.size, 0, none⟩ = some (sv a) ∧ w'.cell? ⟨w.heap.size, 1, none⟩ = some (sv b)) (go_keep)
    (first
      | (refine step_append_rd _ (by rfl) (.tmp 10) (.tmp 13) 26 (by rfl) 0 9 i0 (.string ⟨#[]⟩) 1 16 Tryz.underlying26 hi hz0 hz1 hz2 rfl (by decide) (rowV (f a)) _ _ (by rfl) (((H.out.alloc _).alloc _).drew.row a ha) (w.heap.size + 1 + 1) _ 1 1 [sv b] (by rfl) K4.out K5.out h63 hby K3.out ?_; intro A2 c2 w2 ho2 hg2 ha2; obtain ⟨w3, hup, hm3, hg3, hc20, hc21, hc30, hc31⟩ := putStep H.out XH.out.1 XH.out.2.1 XH.out.2.2 ha hln K2.out K8.out ho2 hg2 ha2 K6.out K7.out; have M3 := Lib.hid hm3; have G3 := Lib.hid hg3; clear hm3 hg3 ho2 hg2 ha2)
      )
  all_goals go_wp2_with fail
  all_goals refine bodyPost_end (results_none rfl _ _ _) rfl ?_
  all_goals exact ⟨rfl, M3.out, G3.out⟩
end Od
end Go.Proofs.YtbllehjhmfehbaaGreat
end

section
/- The walk of (order.ways).behind: all that one leads to. -/
namespace Go.Proofs.YtbllehjhmfehbaaGreat
open Go.RowKit Go.Maps Go.Sort

namespace Od
/-- slices.Clone at texts, whatever the slice. -/
theorem cloneS_rd (A : Option Addr) (c : Nat) (ss : List Str) (w : World) (hr : Rd w w.heap.size 1 A ss.length (svs ss)) (hl : ss.length ≤ 1000000) :
    Calls Tryz.prog 113 #[.slice A ss.length c] w (OwnS ss w) := by
  cases A with
  | none =>
    have hn : ss = [] := by
      rcases Nat.eq_zero_or_pos ss.length with h | h
      · exact List.length_eq_zero_iff.1 h
      · obtain ⟨_, _, e, _⟩ := hr.open h; cases e
    subst hn
    refine (Tryz.slices_Clone_string_nil _ _ _).mono ?_
    rintro e w' ⟨rfl, rfl⟩
    exact ⟨none, 0, rfl, World.ownsRow_nil _ _ _ _, Below.refl _ _⟩
  | some ad =>
    rcases Nat.eq_zero_or_pos ss.length with h0 | h0
    · have hn := List.length_eq_zero_iff.1 h0
      subst hn
      refine (Tryz.slices_Clone_string_zero ad c w).mono ?_
      rintro e w' ⟨v, rfl, h1, _, h2⟩
      obtain ⟨A', c', rfl, _⟩ := own_rd h1
      exact ⟨A', c', rfl, h1, h2⟩
    · obtain ⟨b, o, e, hb, hc⟩ := hr.open h0
      rw [e]
      have hz : ((ss.map fun s => (⟨s.toArray⟩ : ByteArray)).take ss.length).map Value.string = svs ss := by
        rw [List.take_of_length_le (by simp)]
        simp [svs]
      refine (Tryz.slices_Clone_string b o ss.length c (ss.map fun s => ⟨s.toArray⟩) w (by simp) (by omega) (fun j hj => ?_)).mono ?_
      · have hj' : j < ss.length := by simpa using hj
        rw [hc j (by omega)]
        simp [svs, hj']
      · rintro e w' ⟨v, rfl, h1, _, h2⟩
        rw [hz] at h1
        obtain ⟨A', c', rfl, _⟩ := own_rd h1
        exact ⟨A', c', rfl, h1, h2⟩

open Classical in
/-- What a set of texts holds. -/
noncomputable def setF (D : List Str) (s : Str) : Option Value := if s ∈ D then some (.bool true) else none
theorem setF_cons (b : Str) (D : List Str) (f : Str → Option Value) (ha : f b = some (.bool true)) (ho : ∀ s, s ≠ b → f s = setF D s) : f = setF (b :: D) := by
  funext s
  by_cases h : s = b
  · subst h; rw [ha]; simp [setF]
  · rw [ho s h]; simp [setF, h]
theorem set_put {w : World} {m n : Nat} {b : Str} {D : List Str} {f : Str → Option Value} (h : MapIs strK w m n f) (h1 : f b = some (.bool true)) (h2 : ∀ s, s ≠ b → f s = setF D s) : MapIs strK w m n (setF (b :: D)) := by
  rw [setF_cons b D f h1 h2] at h; exact h
theorem zeroB (w : World) : (zeroValue 4).run Tryz.prog w = .ok (.bool false) w := Tryz.zeroValue4 w

/-- A call hands back a set of texts of its own. -/
def SetIs (S : Str → Prop) (n : Nat) (w : World) (e : Ending) (w' : World) : Prop := ∃ b D, e = .returned (.map (some b)) ∧ MapIs strK w' b n (setF D) ∧ (∀ s, s ∈ D ↔ S s) ∧ w.heap.size ≤ b ∧ D.length ≤ n ∧ Below w.heap.size w w'

theorem tail_head {w : World} {base c : Nat} {A : Option Addr} {b : Str} {T : List Str} (h : Tail w base 1 (.slice A (b :: T).length c) (b :: T).length (svs (b :: T))) :
    ∃ g o, A = some ⟨g, o, none⟩ ∧ base ≤ g ∧ g < w.heap.size ∧ w.cell? ⟨g, o, none⟩ = some (sv b) := by
  rcases h.2 with ⟨_, h2⟩ | ⟨g, off, cap, h1, h3, h4, _, _, h7, _⟩
  · simp at h2
  · injection h1 with e1 _ e3
    subst e1
    exact ⟨g, off, rfl, h3, h4, by have := h7 0 (by simp); simpa [svs] using this⟩
theorem tail_next {w : World} {base c g o : Nat} {b : Str} {T : List Str} (h : Tail w base 1 (.slice (some ⟨g, o, none⟩) (b :: T).length c) (b :: T).length (svs (b :: T))) :
    Tail w base 1 (.slice (some ⟨g, o + 1, none⟩) T.length (c - 1)) T.length (svs T) := by
  rcases h.2 with ⟨_, h2⟩ | ⟨g, off, cap, h1, h3, h4, h5, h6, h7, h8⟩
  · simp at h2
  · injection h1 with e1 _ e3
    injection e1 with e1
    injection e1 with e1 e2
    subst e1 e2 e3
    simp only [List.length_cons] at h5 h7
    refine ⟨by simp [svs], .inr ⟨g, o + 1, c - 1, rfl, h3, h4, by omega, by omega, fun j hj => ?_, fun j hj => ?_⟩⟩
    · have := h7 (j + 1) (by omega)
      rw [show o + 1 + j = o + (j + 1) by omega, this]
      simp [svs]
    · have := h8 (j + 1) (by omega)
      rwa [show o + (j + 1) = o + 1 + j by omega] at this
theorem tail_next0 {w : World} {base c g o : Nat} {b : Str} {T : List Str} (h : Tail w base 1 (.slice (some ⟨g, o, none⟩) (b :: T).length c) (b :: T).length (svs (b :: T))) (hc : c = 1) :
    Tail w base 1 (.slice (some ⟨g, o, none⟩) T.length 0) T.length (svs T) := by
  subst hc
  rcases h.2 with ⟨_, h2⟩ | ⟨g, off, cap, h1, h3, h4, h5, h6, h7, h8⟩
  · simp at h2
  · injection h1 with e1 _ e3
    injection e1 with e1
    injection e1 with e1 e2
    subst e1 e2 e3
    simp only [List.length_cons] at h5
    exact ⟨by simp [svs], .inr ⟨g, o, 0, rfl, h3, h4, by omega, by omega, fun j hj => by omega, fun j hj => by omega⟩⟩
theorem rd_none_len {w : World} {B k n : Nat} {A : Option Addr} {xs : List Value} (h : Rd w B k A n xs) (hA : A = none) : n = 0 := by
  rcases Nat.eq_zero_or_pos n with h0 | h0
  · exact h0
  · obtain ⟨_, e, _⟩ := h.2 h0; rw [hA] at e; cases e

set_option maxHeartbeats 4000000 in
set_option maxRecDepth 100000 in
theorem behind_any (base m : Nat) (l : List Pr) (a : Str) (w : World) (h : WaysIs w base m l) (ha : okS a) (hall : ∀ p, p ∈ l → okS p.1 ∧ okS p.2) (hl : l.length ≤ 300000) :
    Calls Tryz.prog 82 #[.map (some m), sv a] w (SetIs (fun s => s ∈ reachL l a) (2 * l.length) w) := by
  obtain ⟨i0, hi, hz0, hz1, hz2⟩ := info_parts infoS'
  obtain ⟨f, h⟩ := h
  have hsz := h.lt
  have H := Lib.hid h
  have HA := Lib.hid hall
  have hsl := succ_len l a
  have HM := Lib.hid (MapIs.made strK w)
  have hb0 : Below w.heap.size w (w.alloc (.map #[] 0)) := (Below.refl _ _).alloc (Nat.le_refl _) _
  have H1 := Lib.hid (h.on hb0)
  have hrow := (h.on hb0).row a ha
  obtain ⟨A0, c0, hv0, hr0⟩ := own_rd hrow
  have HR := Lib.hid hr0
  have HB := Lib.hid hb0
  clear h hall hrow hr0 hb0
  have hln : 2 * l.length < maxLen := by unfold maxLen; omega
  have hmm : ∀ (t : TypeId) (w : World), (Instr.makeMap t none).run Tryz.prog w = .ok (.map (some w.heap.size)) (w.alloc (.map #[] 0)) := fun _ _ => rfl
  go_enter Tryz.func82, Tryz.ntmps82
  go_wp2_with (first
    | (at_lookup; refine wpList_lookup_is _ (by rfl) (.tmp 9) (.tmp 10) 131 (by rfl) 26 Tryz.underlying131 (.slice none 0 0) (zeroR _) m l.length f (by rfl) H1.out.map a (by rfl) ha ?_; rw [show (f a).getD (.slice none 0 0) = .slice A0 (succ l a).length c0 from hv0])
    | fail)
  refine (cloneS_rd A0 c0 (succ l a) _ HR.out (by omega)).mono ?_
  rintro e w1 ⟨A1, c1, rfl, ho1, hb1⟩
  have HO := Lib.hid ho1
  have HB1 := Lib.hid hb1
  clear ho1 hb1
  go_wp2_with fail
  go_loopg [6] (2 * l.length) (fun g s6 wr => ∃ D T A c, s6 = .slice A (List.length T) c ∧ Tail wr (w.heap.size + 1) 1 (.slice A (List.length T) c) (List.length T) (svs T) ∧ MapIs strK wr w.heap.size (List.length D) (setF D) ∧ Bfs l a D T ∧ List.length D + mea l D T ≤ 2 * l.length ∧ mea l D T ≤ g ∧ Below w.heap.size w wr)
  case atStart =>
    have hm : MapIs strK w1 w.heap.size 0 (setF []) := by
      have := HM.out.on HB1.out
      rwa [show (fun _ => none : Str → Option Value) = setF [] from by funext s; simp [setF]] at this
    refine ⟨[], succ l a, A1, c1, rfl, (Tail.own HO.out).low (by simp), hm, Bfs.start l a, ?_, mea_start l a, below_alloc (Nat.le_refl _) HB1.out⟩
    have := mea_start l a
    simpa using this
  case round =>
    obtain ⟨D, T, A, c, rfl, htail, hmap, hbfs, hle, hg, hbel⟩ := hrel
    cases T with
    | nil =>
      have HT := Lib.hid htail
      have HMp := Lib.hid hmap
      have HBf := Lib.hid hbfs
      have HBl := Lib.hid hbel
      clear htail hmap hbfs hbel
      go_wp2_with fail
      go_ret
      exact ⟨w.heap.size, D, rfl, HMp.out.mono (by omega), HBf.out.end, Nat.le_refl _, by omega, HBl.out⟩
    | cons b T =>
      obtain ⟨g0, o0, rfl, hg0, hg1, hc0⟩ := tail_head htail
      have hok : okS b := by
        obtain ⟨x, hx, _⟩ := (hbfs.todo b (.head _)).last
        exact (HA.out _ hx).2
      have hcap := htail.cap
      have HT := Lib.hid htail
      have HMp := Lib.hid hmap
      have HBf := Lib.hid hbfs
      have HBl := Lib.hid hbel
      clear htail hmap hbfs hbel
      by_cases hb : b ∈ D
      · have hbs : (setF D b).getD (.bool false) = .bool true := by simp [setF, hb]
        have HD := Lib.hid hb
        clear hb
        go_wp2_with (first
          | (at_lookup; refine wpList_lookup_is _ (by rfl) (.tmp 21) (.tmp 22) 35 (by rfl) 4 Tryz.underlying35 (.bool false) (zeroB _) w.heap.size _ _ (by rfl) HMp.out b (by rfl) hok ?_; rw [hbs])
          | fail)
        all_goals
          go_roundg (mea l D T)
          case measure => have := mea_skip l b D T; omega
          case rel =>
            have hms := mea_skip l b D T
            exact ⟨D, T, _, _, rfl, by first | exact tail_next HT.out | exact tail_next0 HT.out (by assumption), HMp.out, HBf.out.skip HD.out, by omega, Nat.le_refl _, HBl.out⟩
      · have hbs : (setF D b).getD (.bool false) = .bool false := by simp [setF, hb]
        have HD := Lib.hid hb
        clear hb
        have hD : D.length < maxLen := by omega
        have hsb := succ_len l b
        have hms := mea_take (l := l) (T := T) HD.out
        have hTm : (T ++ succ l b).length ≤ mea l (b :: D) (T ++ succ l b) := by unfold mea; omega
        have hTl : (T ++ succ l b).length ≤ 2 * l.length := by omega
        have h63 : (b :: T).length + (succ l b).length ≤ maxLen := by simp only [List.length_append, List.length_cons] at *; omega
        have hby : ((b :: T).length + (succ l b).length) * 16 ≤ 140737488355328 := by simp only [List.length_append, List.length_cons] at *; omega
        go_wp2_with (first
          | (at_lookup; refine wpList_lookup_is _ (by rfl) (.tmp 21) (.tmp 22) 35 (by rfl) 4 Tryz.underlying35 (.bool false) (zeroB _) w.heap.size _ _ (by rfl) HMp.out b (by rfl) hok ?_; rw [hbs])
          | (at_mapUpdate; refine wpList_update_is _ (by rfl) (.tmp 25) (.tmp 26) (.const (.bool true)) 35 (by rfl) 4 Tryz.underlying35 w.heap.size _ _ (by rfl) HMp.out hD b (.bool true) (by rfl) (by rfl) hok ?_; intro w2 hm2 hg2
             have hb2 : Below w.heap.size w w2 := HBl.out.grown hg2 HBl.out.size (fun g hg => by cases hg; exact Nat.le_refl _)
             have ht2 := HT.out.kept hg2 (fun g hg => by have := (HT.out.lt hg).1; intro e; cases e; omega)
             obtain ⟨A3, c3, hv3, hr3⟩ := own_rd ((H.out.on hb2).row b hok)
             have HM2 := Lib.hid hm2; have HG2 := Lib.hid hg2; have HB2 := Lib.hid hb2; have HT2 := Lib.hid ht2; have HR3 := Lib.hid hr3
             clear hm2 hg2 hb2 ht2 hr3)
          | (at_lookup; refine wpList_lookup_is _ (by rfl) (.tmp 28) (.tmp 29) 131 (by rfl) 26 Tryz.underlying131 (.slice none 0 0) (zeroR _) m l.length f (by rfl) (H.out.on HB2.out).map b (by rfl) hok ?_; rw [show (f b).getD (.slice none 0 0) = .slice A3 (succ l b).length c3 from hv3])
          | (at_builtin; refine wpList_append_tail _ (by rfl) (.tmp 27) (.tmp 30) 26 (by rfl) (w.heap.size + 1) 9 i0 (.string ⟨#[]⟩) 1 16 Tryz.underlying26 hi hz0 hz1 hz2 rfl _ _ (svs (b :: T)) (by rfl) HT2.out _ (succ l b).length (svs (succ l b)) (by rfl) (src_rd Tryz.underlying26 HR3.out (by simp [svs, Value.oneCell']) (rd_none_len HR3.out)) h63 hby (by have := HG2.out.size; omega) ?_
             intro A4 c4 w4 ht4 hg4 ha4
             have ht5 : Tail w4 (w.heap.size + 1) 1 (.slice A4 (b :: (T ++ succ l b)).length c4) (b :: (T ++ succ l b)).length (svs (b :: (T ++ succ l b))) := by
               have e : (b :: T).length + (succ l b).length = (b :: (T ++ succ l b)).length := by simp; omega
               rw [e] at ht4
               simpa [svs] using ht4
             have hcap4 := ht5.cap
             obtain ⟨g4, o4, rfl, hg40, hg41, hc4⟩ := tail_head ht5
             have hb4 : Below w.heap.size w w4 := HB2.out.grown hg4 HB2.out.size (fun g hg => by have := (HT2.out.lt hg).1; omega)
             have hm4 : MapIs strK w4 w.heap.size _ _ := HM2.out.kept hg4 (fun e => by have := (HT2.out.lt e.symm).1; omega)
             have HT4 := Lib.hid ht5; have HB4 := Lib.hid hb4; have HM4 := Lib.hid hm4
             have hcc : (T.length : Int) + 1 + (succ l b).length ≤ c4 := by have := hcap4.1; simp at this; omega
             clear ht4 ht5 hb4 hm4 hg4 ha4)
          | fail)
        all_goals
          go_roundg (mea l (b :: D) (T ++ succ l b))
          case measure => omega
          case rel =>
            have e : T.length + (succ l b).length = (T ++ succ l b).length := by simp
            refine ⟨b :: D, T ++ succ l b, _, _, by rw [e], ?_, ?_, HBf.out.take, by simp only [List.length_cons]; omega, Nat.le_refl _, HB4.out⟩
            · first | exact tail_next HT4.out | exact tail_next0 HT4.out (by assumption)
            · exact set_put HM4.out (by simp) (by intro s hs; simp [hs])
end Od
end Go.Proofs.YtbllehjhmfehbaaGreat
end

section
/- The walk of order.pairs: all that edges say, each once, by rising units. -/
namespace Go.Proofs.YtbllehjhmfehbaaGreat
open Go.RowKit Go.Sort

namespace Od
theorem pairOf_eq : pairOf = pairE := rfl
def rawP (es : List Ed) : List Pr := es.filterMap pairE
theorem rawP_len (es : List Ed) : (rawP es).length ≤ es.length := List.length_filterMap_le _ _
theorem rawP_succ {es : List Ed} {k : Nat} (hk : k < es.length) : rawP (es.take (k + 1)) = rawP (es.take k) ++ (match pairE es[k] with | none => [] | some p => [p]) := by
  unfold rawP
  rw [List.take_succ_eq_append_getElem hk, List.filterMap_append]
  congr 1
  cases h : pairE es[k] <;> simp [h]
theorem compact_sort (es : List Ed) : Lib.compact (sortP (rawP es)) = prsL es := compact_canon toP (sortP_le _) (fun _ => mem_sortP)
/-- A call hands back pairs of its own. -/
def OwnP (ps : List Pr) (w : World) (e : Ending) (w' : World) : Prop := ∃ A c, e = .returned (.slice A ps.length c) ∧ w'.ownsRow w.heap.size 137 2 (.slice A ps.length c) ps.length (prsC ps) ∧ Below w.heap.size w w'

set_option maxRecDepth 100000 in
set_option maxHeartbeats 4000000 in
theorem pairs_any (An Ae : Option Addr) (nn cn ce : Nat) (es : List Ed) (w : World) (hr : Rd w w.heap.size 3 Ae es.length (edsC es)) (hl : es.length ≤ 300000) :
    Calls Tryz.prog 120 #[gV An nn cn Ae es.length ce] w (OwnP (prsL es) w) := by
  obtain ⟨i0, hi, hz0, hz1, hz2⟩ := info_parts infoP
  have Hr := Lib.hid hr
  clear hr
  go_enter Tryz.func120, Tryz.ntmps120
  go_wp2_with fail
  go_loopw [3, 11] (fun v i wr => ∃ k : Nat, k ≤ es.length ∧ i = .int .i64 k ∧ wr.ownsRow w.heap.size 137 2 v (rawP (es.take k)).length (prsC (rawP (es.take k))) ∧ Below w.heap.size w wr) (fun _ i _ => es.length - (intOf i).toNat)
  case atStart => exact ⟨0, Nat.zero_le _, rfl, World.ownsRow_nil _ _ _ _, (Below.refl _ _).alloc (Nat.le_refl _) _⟩
  case round =>
    obtain ⟨k, hk, rfl, hown, hbel⟩ := hrel
    by_cases hlt : k < es.length
    · obtain ⟨bb, o, rfl, hB, hc0, hc1, hc2⟩ := (Hr.out.on (Nat.le_refl _) hbel).edge hlt
      have hz := hbel.size
      have n1 : bb < wr.heap.size := by omega
      have hln : (rawP (es.take k)).length ≤ k := Nat.le_trans (rawP_len _) (by simp; omega)
      have h63 : (rawP (es.take k)).length + 1 ≤ maxLen := by unfold maxLen; omega
      have hby : ((rawP (es.take k)).length + 1) * 32 ≤ 140737488355328 := by omega
      have hft := rawP_succ hlt
      have Hbel := Lib.hid hbel
      have Hown := Lib.hid hown
      clear hbel hown
      generalize hx : es[k] = x at hc0 hc1 hc2 hft
      obtain ⟨s, d, r⟩ := x
      have Hft := Lib.hid hft
      clear hx hft
      simp only at hc0 hc1 hc2
      go_wp2_with fail
      refine (of_any s d r _).mono ?_
      rintro e w2 ⟨rfl, hb2⟩
      have hB2 : Below w.heap.size w w2 := Hbel.out.trans ((below_alloc (Nat.le_refl _) hb2).mono hz)
      have hO2 := own_on (own_alloc Hown.out _) hb2
      have h2z := hB2.size
      unfold ofV
      rw [pairOf_eq]
      cases hp : pairE (s, d, r) with
      | none =>
        have hft := Hft.out
        rw [hp] at hft
        simp only [List.append_nil] at hft
        have HB2 := Lib.hid hB2
        have HO2 := Lib.hid hO2
        have HF := Lib.hid hft
        clear hB2 hO2 hb2 hft hp
        simp only [Option.getD_none, Option.isSome_none]
        go_wp2_with fail
        go_roundw
        case rel => exact ⟨k + 1, by omega, by go_num, by rw [HF.out]; exact HO2.out.alloc _, HB2.out.alloc h2z _⟩
        case measure => simp [intOf]; omega
      | some p =>
        obtain ⟨x, y⟩ := p
        have hft := Hft.out
        rw [hp] at hft
        simp only at hft
        have HB2 := Lib.hid (hB2.alloc h2z (.cells #[sv x, sv y] 137))
        have HO2 := Lib.hid (hO2.alloc (.cells #[sv x, sv y] 137))
        have hsz : w.heap.size ≤ (w2.alloc (.cells #[sv x, sv y] 137)).heap.size := by simp; omega
        have HF := Lib.hid hft
        clear hB2 hO2 hb2 hft hp
        simp only [Option.getD_some, Option.isSome_some]
        go_wp2_with (at_builtin; refine wpList_pushm w (w2.alloc (.cells #[sv x, sv y] 137)) (by rfl) _ _ 169 (by rfl) w.heap.size 137 i0 _ 2 32 Tryz.underlying169 hi hz0 hz1 hz2 rfl (by decide) _ _ _ (by rfl) HO2.out [sv x, sv y] (w2.heap.size + 1) (by simp) (by rfl) rfl (by simp [Value.oneCell']) h63 hby hsz HB2.out ?_; intro A1 c1 w3 hown1 hbel1 hg1 hat1)
        go_roundw
        case rel => exact ⟨k + 1, by omega, by go_num, by rw [HF.out]; simpa [prsC, prC] using hown1, hbel1⟩
        case measure => simp [intOf]; omega
    · have hkl : k = es.length := by omega
      subst hkl
      rw [List.take_length] at hown
      obtain ⟨A, c, rfl, _⟩ := own_rd hown
      have Hown := Lib.hid hown
      have Hbel := Lib.hid hbel
      clear hown hbel
      have hln := rawP_len es
      go_wp2_with fail
      refine (sortP_own _ c A (rawP es) _ Hown.out (by omega)).mono ?_
      rintro e w2 ⟨rfl, h2, g2⟩
      have H2 := Lib.hid h2
      have G2 := Lib.hid g2
      clear h2 g2
      go_wp2_with fail
      have hl2 := sortP_len (rawP es)
      refine (show Calls Tryz.prog 161 #[.slice A (rawP es).length c] w2 _ from hl2 ▸ compactP_own w.heap.size c A (sortP (rawP es)) w2 (by rw [hl2]; exact H2.out) (by omega)).mono ?_
      rintro e w3 ⟨rfl, h3, g3⟩
      rw [compact_sort] at h3 ⊢
      have H3 := Lib.hid h3
      have G3 := Lib.hid g3
      clear h3 g3
      go_wp2_with fail
      go_ret
      exact ⟨A, c, rfl, H3.out, (Hbel.out.grown G2.out Hbel.out.size (fun j hj => (Hown.out.lt j hj).1)).grown G3.out (Nat.le_trans Hbel.out.size G2.out.size) (fun j hj => (Hown.out.lt j hj).1)⟩
end Od
end Go.Proofs.YtbllehjhmfehbaaGreat
end

section
/- The walks of order.all, order.Is, order.Behind. -/
namespace Go.Proofs.YtbllehjhmfehbaaGreat
open Go.RowKit Go.Maps Go.Sort

namespace Od
section
variable {X : Nat → Prop} {w w1 w2 : World}
theorem Keeps.refl (X : Nat → Prop) (w : World) : Keeps X w w := ⟨rfl, rfl, rfl, Nat.le_refl _, fun _ _ => rfl⟩
theorem Keeps.trans (h : Keeps X w w1) (h' : Keeps X w1 w2) : Keeps X w w2 :=
  ⟨h'.os.trans h.os, h'.tape.trans h.tape, h'.output.trans h.output, Nat.le_trans h.size h'.size, fun j hj => (h'.block j hj).trans (h.block j hj)⟩
theorem Keeps.of_below (hX : ∀ j, X j → j < w.heap.size) (h : Below w.heap.size w w1) : Keeps X w w1 := ⟨h.os, h.tape, h.output, h.size, fun j hj => h.block j (hX j hj)⟩
theorem Keeps.then (h : Keeps X w w1) (hX : ∀ j, X j → j < w.heap.size) (h' : Below w1.heap.size w1 w2) : Keeps X w w2 :=
  h.trans (Keeps.of_below (fun j hj => Nat.lt_of_lt_of_le (hX j hj) h.size) h')
theorem Keeps.own (h : Keeps X w w1) {base e k n : Nat} {v : Value} {xs : List Value} (ho : w.ownsRow base e k v n xs) (hX : ∀ g, v.ownBlock = some g → X g) : w1.ownsRow base e k v n xs := by
  obtain ⟨hl, ⟨rfl, rfl⟩ | ⟨g, cap, cur, rfl, hg, hh, r⟩⟩ := ho
  · exact ⟨hl, .inl ⟨rfl, rfl⟩⟩
  · exact ⟨hl, .inr ⟨g, cap, cur, rfl, hg, (h.block g (hX g rfl)).trans hh, r⟩⟩
theorem Keeps.map {k : TypeId} {α : Type} {κ : KeyKind Tryz.prog k α} {b n : Nat} {f : α → Option Value} (h : Keeps X w w1) (hm : MapIs κ w b n f) (hX : X b) : MapIs κ w1 b n f := hm.same (h.block b hX)
theorem Keeps.rd (h : Keeps X w w1) {B k n : Nat} {A : Option Addr} {xs : List Value} (hr : Rd w B k A n xs) (hX : ∀ j, j < B → X j) : Rd w1 B k A n xs := hr.keep fun p hp => World.cell?_of_block (h.block p.block (hX _ hp))
end
theorem WaysX.empty {w w' : World} (hb : Below (w.alloc (.map #[] 0)).heap.size (w.alloc (.map #[] 0)) w') : WaysX w' (fun j => j < w'.heap.size ∧ j ≠ w.heap.size) w.heap.size [] :=
  ⟨fun _ => none, ⟨(MapIs.made strK w).on hb, Nat.zero_le _, fun s _ => World.ownsRow_nil _ _ _ _, fun _ _ _ _ _ => .inl rfl, fun _ _ g h => by simp [Value.ownBlock] at h⟩, fun h => h.2 rfl, fun _ _ g h => by simp [Value.ownBlock] at h⟩

/-- Texts of edges are texts. -/
def OkE (es : List Ed) : Prop := ∀ e, e ∈ es → okS e.1 ∧ okS e.2.1
theorem OkE.prs {es : List Ed} (h : OkE es) : ∀ p, p ∈ prsL es → okS p.1 ∧ okS p.2 := by
  intro p hp
  obtain ⟨e, he, hpe⟩ := mem_prsL.1 hp
  have := h e he
  unfold pairE at hpe
  split at hpe
  · cases hpe; exact ⟨this.2, this.1⟩
  · split at hpe
    · cases hpe; exact this
    · cases hpe

/-- A call hands back a map of rows of its own. -/
def WaysRet (l : List Pr) (w : World) (e : Ending) (w' : World) : Prop := ∃ m, e = .returned (.map (some m)) ∧ WaysX w' (fun j => j < w.heap.size) m l ∧ Below w.heap.size w w'

set_option maxRecDepth 100000 in
set_option maxHeartbeats 4000000 in
theorem all_any (An Ae : Option Addr) (nn cn ce : Nat) (es : List Ed) (w : World) (hr : Rd w w.heap.size 3 Ae es.length (edsC es)) (hok : OkE es) (hl : es.length ≤ 300000) :
    Calls Tryz.prog 81 #[gV An nn cn Ae es.length ce] w (WaysRet (prsL es) w) := by
  have Hr := Lib.hid hr
  have HO := Lib.hid hok
  have hpl := prsL_len es
  clear hr hok
  have hmm : ∀ (t : TypeId) (w : World), (Instr.makeMap t none).run Tryz.prog w = .ok (.map (some w.heap.size)) (w.alloc (.map #[] 0)) := fun _ _ => rfl
  go_enter Tryz.func81, Tryz.ntmps81
  go_wp2_with fail
  refine (pairs_any An Ae nn cn ce es _ ?hr hl).mono ?_
  case hr => exact ((Hr.out.alloc (Nat.le_refl _) _).alloc (by simp) _).more (by simp; omega)
  rintro e w2 ⟨A, c, rfl, hown, hb2⟩
  have hx := WaysX.empty (w := w.alloc (.cells #[.slice An nn cn, .slice Ae es.length ce] 25)) hb2
  simp only [World.size_alloc] at hx
  have hz2 := hb2.size
  simp only [World.size_alloc] at hz2
  have hlo : ∀ g, (Value.slice A (prsL es).length c).ownBlock = some g → g < w2.heap.size ∧ g ≠ w.heap.size + 1 := fun g hg => by
    have := hown.lt g hg
    simp only [World.size_alloc] at this
    exact ⟨this.2, by omega⟩
  have HX := Lib.hid hx
  have HW := Lib.hid hown
  have HL := Lib.hid hlo
  have HB := Lib.hid (below_alloc (Nat.le_refl _) (below_alloc (Nat.le_refl _) hb2))
  clear hx hown hlo hb2
  go_wp2_with fail
  go_loopw [10] (fun i wr => ∃ k : Nat, k ≤ (prsL es).length ∧ i = .int .i64 k ∧ WaysX wr (fun j => j < w2.heap.size ∧ j ≠ w.heap.size + 1) (w.heap.size + 1) ((prsL es).take k) ∧ Keeps (fun j => j < w2.heap.size ∧ j ≠ w.heap.size + 1) w2 wr) (fun i _ => (prsL es).length - (intOf i).toNat)
  case atStart => exact ⟨0, Nat.zero_le _, rfl, HX.out, Keeps.refl _ _⟩
  case round =>
    obtain ⟨k, hk, rfl, hw, hkeep⟩ := hrel
    by_cases hlt : k < (prsL es).length
    · have hw3 := hkeep.own HW.out HL.out
      obtain ⟨bb, o, rfl, hB, hc0, hc1⟩ := (own_rd' hw3).pair hlt
      have hp := HO.out.prs _ (List.getElem_mem hlt)
      have hts := List.take_succ_eq_append_getElem hlt
      have hz := hkeep.size
      generalize hx : (prsL es)[k] = x at hc0 hc1 hp hts
      obtain ⟨x, y⟩ := x
      have HT := Lib.hid hts
      have HW3 := Lib.hid hw
      have HK := Lib.hid hkeep
      simp only at hc0 hc1 hp
      clear hw hkeep hx hts hw3
      go_wp2_with fail
      refine (put_any (fun j => j < w2.heap.size ∧ j ≠ w.heap.size + 1) (w.heap.size + 1) ((prsL es).take k) x y _ (HW3.out.on ((Below.refl _ _).alloc (Nat.le_refl _) _)) (fun j hj => by have := hj.1; simp; omega) hp.1 (by simp; omega)).mono ?_
      rintro e w3 ⟨rfl, h3, hk3⟩
      have H3 := Lib.hid h3
      have HK3 := Lib.hid ((HK.out.then (fun j hj => hj.1) ((Below.refl wr.heap.size wr).alloc (Nat.le_refl _) (.cells #[sv x, sv y] 137))).trans hk3)
      clear h3 hk3
      go_wp2_with fail
      go_roundw
      case rel => exact ⟨k + 1, by omega, by go_num, by rw [HT.out]; exact H3.out, HK3.out⟩
      case measure => simp [intOf]; omega
    · have hkl : k = (prsL es).length := by omega
      rw [List.take_of_length_le (by omega)] at hw
      have HW3 := Lib.hid hw
      have HK := Lib.hid hkeep
      clear hw hkeep
      go_wp2_with fail
      go_ret
      exact ⟨_, rfl, HW3.out.more (fun j _ hj => ⟨by omega, by omega⟩), HB.out.trans (HK.out.below (fun j hj => ⟨by omega, by omega⟩))⟩
end Od
end Go.Proofs.YtbllehjhmfehbaaGreat
end
