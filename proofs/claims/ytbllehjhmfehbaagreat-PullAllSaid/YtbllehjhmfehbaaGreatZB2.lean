/- My texts, joined for the claim: OOnce OOut GMath GReach GOrder Kit3. -/
import Derived.Test.YtbllehjhmfehbaaGreatZB1
import Derived.Sort.OwnSorted
import Derived.Test.YtbllehjhmfehbaaGreatZB0
import Derived.Lib.SlicesCompact
import Derived.Sort.Walk0

section
/- The walks of a graph's node, and of a list made rising, each once. -/
namespace Go.Proofs.YtbllehjhmfehbaaGreat
open Go.RowKit Go.Sort

namespace Od
theorem encStr_sv (s : Str) : encStr s = sv s := rfl
theorem map_encStr (ss : List Str) : ss.map encStr = svs ss := rfl
def sortS (ss : List Str) : List Str := ss.mergeSort fun x y => decide (x ≤ y)
theorem sortS_len (ss : List Str) : (sortS ss).length = ss.length := by simp [sortS]

theorem sortS_own (base c : Nat) (A : Option Addr) (ss : List Str) (w : World) (h : w.ownsRow base 9 1 (.slice A ss.length c) ss.length (svs ss)) (hsz : ss.length ≤ 1000000) :
    Calls Tryz.prog 83 #[.slice A ss.length c] w fun e w' => e = .returned (.tuple #[]) ∧ w'.ownsRow base 9 1 (.slice A ss.length c) ss.length (svs (sortS ss)) ∧ w.grownBy w' (Value.slice A ss.length c).ownBlock := by
  rcases h.2 with ⟨hv, hn⟩ | ⟨g, cap, cur, hv, hg, hb, h1, h2, h3, h4⟩
  · have hnil : ss = [] := List.length_eq_zero_iff.1 hn
    subst hnil
    refine (Tryz.slices_Sort_string_none _ _ _).mono ?_
    rintro e w' ⟨rfl, rfl⟩
    exact ⟨rfl, by simpa [sortS] using h, World.grownBy.refl _ _⟩
  · injection hv with e1 _ e3
    subst e1 e3
    have hgl : g < w.heap.size := (Array.getElem?_eq_some_iff.1 hb).1
    refine (Tryz.slices_Sort_string g 0 c ss w (holds_of_block hb (by rw [Nat.mul_one] at h4; exact h4)) hgl (by omega)).mono ?_
    rintro e w' ⟨rfl, n, os, rfl⟩
    exact ⟨rfl, ownsRow_sorted (ts := sortS ss) (sortS_len ss) hg hb h1 h2 h3, grownBy_sorted _⟩

theorem take_putCells' (cur : Array Value) (ts us : List Str) (h : (ts ++ us).length ≤ cur.size) : (putCells encStr 0 (ts ++ us).toArray cur).toList.take ts.length = ts.map encStr := by
  have h1 := take_putCells cur (ts ++ us) h
  have h2 := congrArg (List.take ts.length) h1
  rw [List.take_take, Nat.min_eq_left (by simp)] at h2
  rw [h2, List.map_append, List.take_append_of_le_length (by simp), List.take_of_length_le (by simp)]

theorem compact_len_le (ss : List Str) : (Lib.compact ss).length ≤ ss.length := by
  unfold Lib.compact Lib.compactUpTo
  rw [List.length_map]
  exact Nat.le_trans (List.length_filter_le _ _) (by simp)

theorem compactS_own (base c : Nat) (A : Option Addr) (ss : List Str) (w : World) (h : w.ownsRow base 9 1 (.slice A ss.length c) ss.length (svs ss)) (hsz : ss.length ≤ 1000000) :
    Calls Tryz.prog 104 #[.slice A ss.length c] w fun e w' => e = .returned (.slice A (Lib.compact ss).length c) ∧ w'.ownsRow base 9 1 (.slice A (Lib.compact ss).length c) (Lib.compact ss).length (svs (Lib.compact ss)) ∧ w.grownBy w' (Value.slice A ss.length c).ownBlock := by
  rcases h.2 with ⟨hv, hn⟩ | ⟨g, cap, cur, hv, hg, hb, h1, h2, h3, h4⟩
  · have hnil : ss = [] := List.length_eq_zero_iff.1 hn
    subst hnil
    refine (Tryz.slices_Compact_string_empty _ _ _).mono ?_
    rintro e w' ⟨rfl, rfl⟩
    exact ⟨rfl, h, World.grownBy.refl _ _⟩
  · injection hv with e1 _ e3
    subst e1 e3
    have hgl : g < w.heap.size := (Array.getElem?_eq_some_iff.1 hb).1
    have hle := compact_len_le ss
    refine (Tryz.slices_Compact_string g 0 c ss w (holds_of_block hb (by rw [Nat.mul_one] at h4; exact h4)) (by omega) h1).mono ?_
    rintro e w' ⟨rfl, q, rfl⟩
    refine ⟨rfl, ⟨by simp [svs], .inr ⟨g, c, _, rfl, hg, by rw [← grow_empty (putRow _ _ _ _ _)]; exact heap_sorted _ hb, by omega, h2, by simp [putCells, h3], ?_⟩⟩, by rw [← grow_empty (putRow _ _ _ _ _)]; exact grownBy_sorted _⟩
    rw [Nat.mul_one]
    exact take_putCells' cur _ _ (by simp; omega)


/-- A node as a value. -/
abbrev ndV (n : Nd) : Value := .agg #[sv n.1, .int .i64 n.2.1, .int .i64 n.2.2]
structure SaysN (g : Nat) (caps : Array Value) (p : Nd → Bool) (w : World) : Prop where
  enters : ∀ (args : Array Value) (W : World), (callFunc g args).run Tryz.prog W = .ok (.enter g args) W
  says : ∀ (W : World) (s : Str) (d r : Int), Below w.heap.size w W → Calls Tryz.prog g (#[.agg #[sv s, .int .i64 d, .int .i64 r]] ++ caps) W fun e w' => e = .returned (.bool (p (s, d, r))) ∧ Below W.heap.size W w'

def FindIdx {α : Type} (xs : List α) (p : α → Bool) (w : World) (e : Ending) (w' : World) : Prop := ∃ r : Int, e = .returned (.int .i64 r) ∧ ((r = -1 ∧ xs.find? p = none) ∨ ∃ k, ∃ h : k < xs.length, r = (k : Int) ∧ xs.find? p = some xs[k] ∧ p xs[k] = true ∧ ∀ j, ∀ hj : j < k, p (xs[j]'(by omega)) = false) ∧ Below w.heap.size w w'
theorem find_none_take {α : Type} {p : α → Bool} {xs : List α} (h : xs.any p = false) : xs.find? p = none := by
  rw [List.find?_eq_none]
  intro x hx hp
  have := List.any_eq_false.1 h x hx
  exact this hp
theorem find_at {α : Type} {p : α → Bool} {xs : List α} {k : Nat} (hk : k < xs.length) (h0 : (xs.take k).any p = false) (hp : p xs[k] = true) : xs.find? p = some xs[k] := by
  have e : xs = xs.take k ++ (xs[k] :: xs.drop (k + 1)) := by rw [List.getElem_cons_drop, List.take_append_drop]
  have h : (xs.take k ++ (xs[k] :: xs.drop (k + 1))).find? p = some xs[k] := by
    rw [List.find?_append, find_none_take h0, Option.none_or, List.find?_cons_of_pos hp]
  rw [← e] at h
  exact h
theorem take_any_at {α : Type} {p : α → Bool} {xs : List α} {k j : Nat} (hk : k ≤ xs.length) (h0 : (xs.take k).any p = false) (hj : j < k) : p (xs[j]'(by omega)) = false := by
  have := List.any_eq_false.1 h0 (xs[j]'(by omega)) (List.mem_take_iff_getElem.2 ⟨j, by omega, rfl⟩)
  simpa using this

set_option maxRecDepth 100000 in
set_option maxHeartbeats 400000 in
theorem IndexFuncN (A : Option Addr) (c : Nat) (ns : List Nd) (g : Nat) (caps : Array Value) (p : Nd → Bool) (w : World) (hr : Rd w w.heap.size 3 A ns.length (ndsC ns)) (hl : ns.length ≤ 1000000) (hp : SaysN g caps p w) :
    Calls Tryz.prog 53 #[.slice A ns.length c, .func (.func g) #[] caps] w (FindIdx ns p w) := by
  have Hr := Lib.hid hr
  have Hp := Lib.hid hp
  have eg := hp.enters
  clear hr hp
  go_enter Tryz.func53, Tryz.ntmps53
  go_wp2_with fail
  go_loopw [8] (fun i wr => ∃ k : Nat, k ≤ ns.length ∧ i = .int .i64 k ∧ Hid ((ns.take k).any p = false) ∧ Below w.heap.size w wr) (fun i _ => ns.length - (intOf i).toNat)
  case atStart => exact ⟨0, Nat.zero_le _, rfl, by simp [Hid], Below.refl _ _⟩
  case round =>
    obtain ⟨k, hk, rfl, hall, hbel⟩ := hrel
    by_cases hlt : k < ns.length
    · obtain ⟨b, o, rfl, hB, hc0, hc1, hc2⟩ := (Hr.out.on (Nat.le_refl _) hbel).node hlt
      have Hbel := Lib.hid hbel
      clear hbel
      generalize hx : ns[k] = x at hc0 hc1 hc2
      obtain ⟨s, d, r⟩ := x
      have Hx := Lib.hid hx
      clear hx
      simp only at hc0 hc1 hc2
      have hcall := Hp.out.says wr s d r Hbel.out
      cases hpx : p (s, d, r)
      · rw [hpx] at hcall
        have Hpx := Lib.hid hpx
        have Hcall := Lib.hid hcall
        clear hpx hcall
        go_wp2_with fail
        refine Hcall.out.mono ?_
        rintro e w2 ⟨rfl, hb2⟩
        have Hb2 := Lib.hid hb2
        clear hb2
        go_wp2_with fail
        go_roundw
        case rel => exact ⟨k + 1, by omega, by go_num, by show _ = false; rw [any_take_succ hlt, hall.out, Hx.out, Hpx.out]; rfl, Hbel.out.trans (Hb2.out.mono Hbel.out.size)⟩
        case measure => simp [intOf]; omega
      · rw [hpx] at hcall
        have Hpx := Lib.hid hpx
        have Hcall := Lib.hid hcall
        clear hpx hcall
        go_wp2_with fail
        refine Hcall.out.mono ?_
        rintro e w2 ⟨rfl, hb2⟩
        have Hb2 := Lib.hid hb2
        clear hb2
        go_wp2_with fail
        go_ret
        exact ⟨k, rfl, .inr ⟨k, hlt, rfl, find_at hlt hall.out (by rw [Hx.out]; exact Hpx.out), by rw [Hx.out]; exact Hpx.out, fun j hj => take_any_at hk hall.out hj⟩, Hbel.out.trans (Hb2.out.mono Hbel.out.size)⟩
    · have hkl : k = ns.length := by omega
      have ha := hall.out
      rw [List.take_of_length_le (by omega)] at ha
      have Ha := Lib.hid ha
      clear ha hkl
      go_wp2_with fail
      go_ret
      exact ⟨-1, rfl, .inl ⟨rfl, find_none_take Ha.out⟩, hbel⟩

set_option maxHeartbeats 400000 in
theorem Node1_any (a s : Str) (d r : Int) (pa : Nat) (w : World) (ha : w.cell? ⟨pa, 0, none⟩ = some (sv a)) :
    Calls Tryz.prog 54 #[.agg #[sv s, .int .i64 d, .int .i64 r], .pointer (some ⟨pa, 0, none⟩)] w fun e w' => e = .returned (.bool (s == a)) ∧ Below w.heap.size w w' := by
  have la : pa < w.heap.size := cell_blk ha
  have n1 : ¬ pa = w.heap.size := by omega
  cases hsa : (s == a)
  · have hsa' : ¬ s = a := by simpa using hsa
    go_enter Tryz.func54, Tryz.ntmps54
    go_wp2_with fail
    go_ret
    exact ⟨ret_bool (by simp_all), (Below.refl _ _).alloc (Nat.le_refl _) _⟩
  · have hsa' : s = a := by simpa using hsa
    subst hsa'
    go_enter Tryz.func54, Tryz.ntmps54
    go_wp2_with fail
    go_ret
    exact ⟨ret_bool (by simp_all), (Below.refl _ _).alloc (Nat.le_refl _) _⟩
theorem says_node (a : Str) (pa : Nat) (w : World) (ha : w.cell? ⟨pa, 0, none⟩ = some (sv a)) :
    SaysN 54 #[.pointer (some ⟨pa, 0, none⟩)] (fun n => n.1 == a) w where
  enters := enters_of Tryz.func54 (by kernel_rfl) rfl
  says := fun W s d r h => Node1_any a s d r pa W ((h.cell (p := ⟨pa, 0, none⟩) (cell_blk ha)).trans ha)

/-- The node of a name, if there is one. -/
def nodeOf (ns : List Nd) (s : Str) : Option Nd := ns.find? (fun n => n.1 == s)
def nodeV (o : Option Nd) : Value := .tuple #[ndV (o.getD ([], 0, 0)), .bool o.isSome]
set_option maxRecDepth 100000 in
set_option maxHeartbeats 400000 in
theorem Node_any (An Ae : Option Addr) (ne cn ce : Nat) (ns : List Nd) (s : Str) (w : World) (hr : Rd w w.heap.size 3 An ns.length (ndsC ns)) (hl : ns.length ≤ 1000000) :
    Calls Tryz.prog 20 #[gV An ns.length cn Ae ne ce, sv s] w fun e w' => e = .returned (nodeV (nodeOf ns s)) ∧ Below w.heap.size w w' := by
  have Hr := Lib.hid hr
  clear hr
  go_enter Tryz.func20, Tryz.ntmps20
  go_wp2_with fail
  refine (IndexFuncN An cn ns _ _ (fun n => n.1 == s) _ ?hr hl (says_node s _ _ ?ha)).mono ?_
  case ha => go_simp
  case hr => exact ((((Hr.out.alloc (Nat.le_refl _) _).alloc (by simp) _).alloc (by simp; omega) _)).more (by simp; omega)
  rintro e w2 ⟨r, rfl, ⟨rfl, hnone⟩ | ⟨k, hk, rfl, hsome, _, _⟩, hb2⟩
  · have ⟨hc, hf⟩ := bcell hb2
    have hz := hb2.size
    simp only [World.size_alloc] at hz hc hf
    have c0 : w2.cell? ⟨w.heap.size + 1 + 1, 0, none⟩ = some (sv []) := by rw [hc _ _ (by omega)]; go_simp
    have c1 : w2.cell? ⟨w.heap.size + 1 + 1, 1, none⟩ = some (.int .i64 0) := by rw [hc _ _ (by omega)]; go_simp
    have c2 : w2.cell? ⟨w.heap.size + 1 + 1, 2, none⟩ = some (.int .i64 0) := by rw [hc _ _ (by omega)]; go_simp
    have f0 : w2.frozen? ⟨w.heap.size + 1 + 1, 0, none⟩ = false := by rw [hf _ _ (by omega)]; go_simp
    have f1 : w2.frozen? ⟨w.heap.size + 1 + 1, 1, none⟩ = false := by rw [hf _ _ (by omega)]; go_simp
    have f2 : w2.frozen? ⟨w.heap.size + 1 + 1, 2, none⟩ = false := by rw [hf _ _ (by omega)]; go_simp
    have Hb2 := Lib.hid hb2
    have Hn := Lib.hid hnone
    clear hc hf hb2 hnone
    go_wp2_with fail
    have hB : Below w.heap.size w w2 := below_alloc (Nat.le_refl _) (below_alloc (Nat.le_refl _) (below_alloc (Nat.le_refl _) Hb2.out))
    refine bodyPost_ret (v := .tuple #[ndV ([], 0, 0), .bool false]) ?_ rfl ⟨by rw [show nodeOf ns s = none from Hn.out]; rfl, ((hB.setCell (by simp; omega) _).setCell (by simp; omega) _).setCell (by simp; omega) _⟩
    simp [results, Tryz.results20, go_sem, c0, c1, c2]
  · have ⟨hc, hf⟩ := bcell hb2
    have hz := hb2.size
    simp only [World.size_alloc] at hz hc hf
    have c0 : w2.cell? ⟨w.heap.size + 1 + 1, 0, none⟩ = some (sv []) := by rw [hc _ _ (by omega)]; go_simp
    have c1 : w2.cell? ⟨w.heap.size + 1 + 1, 1, none⟩ = some (.int .i64 0) := by rw [hc _ _ (by omega)]; go_simp
    have c2 : w2.cell? ⟨w.heap.size + 1 + 1, 2, none⟩ = some (.int .i64 0) := by rw [hc _ _ (by omega)]; go_simp
    have f0 : w2.frozen? ⟨w.heap.size + 1 + 1, 0, none⟩ = false := by rw [hf _ _ (by omega)]; go_simp
    have f1 : w2.frozen? ⟨w.heap.size + 1 + 1, 1, none⟩ = false := by rw [hf _ _ (by omega)]; go_simp
    have f2 : w2.frozen? ⟨w.heap.size + 1 + 1, 2, none⟩ = false := by rw [hf _ _ (by omega)]; go_simp
    have g0 : w2.cell? ⟨w.heap.size, 0, none⟩ = some (.slice An ns.length cn) := by rw [hc _ _ (by omega)]; go_simp
    have hB : Below w.heap.size w w2 := below_alloc (Nat.le_refl _) (below_alloc (Nat.le_refl _) (below_alloc (Nat.le_refl _) hb2))
    obtain ⟨b, o, rfl, hB1, hc0, hc1, hc2⟩ := (Hr.out.on (Nat.le_refl _) hB).node hk
    have k1 : (0 : Int) ≤ (k : Int) := by omega
    have k2 : (k : Int) < (ns.length : Int) := by omega
    have k4 : IntKind.i64.wrap (k : Int) = k := IntWalk.i64_in _ (by omega)
    generalize hx : ns[k] = x at hc0 hc1 hc2
    obtain ⟨s', d', r'⟩ := x
    have Hx := Lib.hid hx
    have HB := Lib.hid hB
    have Hn := Lib.hid hsome
    simp only at hc0 hc1 hc2
    clear hc hf hb2 hsome hx hB
    go_wp2_with fail
    refine bodyPost_ret (v := .tuple #[ndV (s', d', r'), .bool true]) ?_ rfl ⟨by rw [show nodeOf ns s = some (s', d', r') from Hn.out.trans (congrArg some Hx.out)]; rfl, ((HB.out.setCell (by simp; omega) _).setCell (by simp; omega) _).setCell (by simp; omega) _⟩
    simp [results, Tryz.results20, go_sem, c0, c1, c2]
def onceS (ss : List Str) : List Str := Lib.compact (sortS ss)
set_option maxHeartbeats 400000 in
theorem once_own (base c : Nat) (A : Option Addr) (ss : List Str) (w : World) (h : w.ownsRow base 9 1 (.slice A ss.length c) ss.length (svs ss)) (hsz : ss.length ≤ 1000000) :
    Calls Tryz.prog 62 #[.slice A ss.length c] w fun e w' => e = .returned (.slice A (onceS ss).length c) ∧ w'.ownsRow base 9 1 (.slice A (onceS ss).length c) (onceS ss).length (svs (onceS ss)) ∧ w.grownBy w' (Value.slice A ss.length c).ownBlock := by
  have H := Lib.hid h
  clear h
  go_enter Tryz.func62, Tryz.ntmps62
  go_wp2_with fail
  refine (sortS_own base c A ss w H.out hsz).mono ?_
  rintro e w2 ⟨rfl, h2, g2⟩
  have H2 := Lib.hid h2
  have G2 := Lib.hid g2
  clear h2 g2
  go_wp2_with fail
  have hl := sortS_len ss
  refine (show Calls Tryz.prog 104 #[.slice A ss.length c] w2 _ from hl ▸ compactS_own base c A (sortS ss) w2 (by rw [hl]; exact H2.out) (by omega)).mono ?_
  rintro e w3 ⟨rfl, h3, g3⟩
  have H3 := Lib.hid h3
  have G3 := Lib.hid g3
  clear h3 g3
  go_wp2_with fail
  go_ret
  exact ⟨rfl, H3.out, G2.out.trans G3.out⟩
end Od
end Go.Proofs.YtbllehjhmfehbaaGreat
end

section
/- The walk of graph.Out. -/
namespace Go.Proofs.YtbllehjhmfehbaaGreat
open Go.RowKit Go.Sort

/-- The same, the new block's number in the walk's own spelling. -/
theorem wpList_pushm {P : Program} (w0 w : World) {ops : Array Oper} {rest : List Oper} {o : Oper} {a : Act} {Q : Exit → Act → World → Prop} (hgd : o.guard = none) (s x : Operand) (t : TypeId)
    (ho : o.op = .call { callee := .builtin .append, args := #[s, x], argTypes := #[t, t] })
    (base : Nat) (e : TypeId) (i : TypeInfo) (z : Value) (size bytes : Nat) (ht : P.underlying t = some (.slice e)) (hi : P.info? e = some i) (hz : i.zero = some z)
    (hsize : i.size = size) (hby : i.bytes = bytes) (hzs : z.cells.size = size) (hsz : 0 < size)
    (v : Value) (n : Nat) (xs : List Value) (hs : a.eval s = v) (hown : w.ownsRow base e size v n xs)
    (news : List Value) (m : Nat) (hm : w.heap.size = m) (hx : a.eval x = .slice (some ⟨m, 0, none⟩) 1 1) (hl : news.length = size) (h1 : ∀ u ∈ news, u.oneCell' = true)
    (h63 : n + 1 ≤ maxLen) (hbytes : (n + 1) * bytes ≤ 140737488355328) (hbase : base ≤ w.heap.size) (hbel : Below base w0 w)
    (h : ∀ A' c' w', w'.ownsRow base e size (.slice A' (n + 1) c') (n + 1) (xs ++ news) → Below base w0 w' → w.grownBy w' v.ownBlock →
      ((Value.slice A' (n + 1) c').ownBlock = v.ownBlock ∨ (Value.slice A' (n + 1) c').ownBlock = some (w.heap.size + 1)) → wpList P ops Q rest (a.put o.dst (.slice A' (n + 1) c')) w') :
    wpList P ops Q (o :: rest) a (w.alloc (.cells news.toArray e)) := by
  subst hm
  exact wpList_push w0 w hgd s x t ho base e i z size bytes ht hi hz hsize hby hzs hsz v n xs hs hown news hx hl h1 h63 hbytes hbase hbel h

namespace Od
theorem filter_take_succ {α : Type} {p : α → Bool} {xs : List α} {k : Nat} (hk : k < xs.length) : (xs.take (k + 1)).filter p = (xs.take k).filter p ++ (if p xs[k] then [xs[k]] else []) := by
  rw [List.take_succ_eq_append_getElem hk, List.filter_append]
  congr 1
  by_cases h : p xs[k] = true
  · simp only [List.filter_cons, h, if_true, List.filter_nil]
  · simp only [List.filter_cons, h, if_false, List.filter_nil, Bool.false_eq_true]
theorem filter_take_le {α : Type} {p : α → Bool} {xs : List α} {k : Nat} : ((xs.take k).filter p).length ≤ xs.length :=
  Nat.le_trans (List.length_filter_le _ _) (by simp; omega)

theorem infoS : (Tryz.prog.info? 9).map (fun i => (i.zero, i.size, i.bytes)) = some (some (.string ⟨#[]⟩), 1, 16) := by kernel_rfl
theorem infoE : (Tryz.prog.info? 45).map (fun i => (i.zero, i.size, i.bytes)) = some (some (.agg #[.string ⟨#[]⟩, .string ⟨#[]⟩, .int .i64 0]), 3, 40) := by kernel_rfl
theorem infoN : (Tryz.prog.info? 39).map (fun i => (i.zero, i.size, i.bytes)) = some (some (.agg #[.string ⟨#[]⟩, .int .i64 0, .int .i64 0]), 3, 32) := by kernel_rfl
theorem infoP : (Tryz.prog.info? 137).map (fun i => (i.zero, i.size, i.bytes)) = some (some (.agg #[.string ⟨#[]⟩, .string ⟨#[]⟩]), 2, 32) := by kernel_rfl
def outP (u : Str) (rel : Int) (e : Ed) : Bool := e.1 == u && e.2.2 == rel
def outRaw (es : List Ed) (u : Str) (rel : Int) : List Str := (es.filter (outP u rel)).map (fun e => e.2.1)
def outS (es : List Ed) (u : Str) (rel : Int) : List Str := onceS (outRaw es u rel)
theorem onceS_len (ss : List Str) : (onceS ss).length ≤ ss.length := Nat.le_trans (compact_len_le _) (Nat.le_of_eq (sortS_len ss))
theorem outRaw_len (es : List Ed) (u : Str) (rel : Int) : (outRaw es u rel).length ≤ es.length := by
  unfold outRaw; rw [List.length_map]; exact List.length_filter_le _ _

/-- A call hands back a slice of its own that holds these texts. -/
def OwnS (ss : List Str) (w : World) (e : Ending) (w' : World) : Prop := ∃ A c, e = .returned (.slice A ss.length c) ∧ w'.ownsRow w.heap.size 9 1 (.slice A ss.length c) ss.length (svs ss) ∧ Below w.heap.size w w'

set_option maxRecDepth 100000 in
set_option maxHeartbeats 2000000 in
theorem Out_any (An Ae : Option Addr) (nn cn ce : Nat) (es : List Ed) (u : Str) (rel : Int) (w : World) (hr : Rd w w.heap.size 3 Ae es.length (edsC es)) (hl : es.length ≤ 1000000) :
    Calls Tryz.prog 24 #[gV An nn cn Ae es.length ce, sv u, .int .i64 rel] w (OwnS (outS es u rel) w) := by
  obtain ⟨i0, hi, hz0, hz1, hz2⟩ := info_parts infoS
  have Hr := Lib.hid hr
  clear hr
  go_enter Tryz.func24, Tryz.ntmps24
  go_wp2_with fail
  go_loopw [7, 13] (fun v i wr => ∃ k : Nat, k ≤ es.length ∧ i = .int .i64 k ∧ wr.ownsRow w.heap.size 9 1 v (outRaw (es.take k) u rel).length (svs (outRaw (es.take k) u rel)) ∧ Below w.heap.size w wr) (fun _ i _ => es.length - (intOf i).toNat)
  case atStart => exact ⟨0, Nat.zero_le _, rfl, World.ownsRow_nil _ _ _ _, (Below.refl _ _).alloc (Nat.le_refl _) _⟩
  case round =>
    obtain ⟨k, hk, rfl, hown, hbel⟩ := hrel
    by_cases hlt : k < es.length
    · obtain ⟨bb, o, rfl, hB, hc0, hc1, hc2⟩ := (Hr.out.on (Nat.le_refl _) hbel).edge hlt
      have hz := hbel.size
      have n1 : bb < wr.heap.size := by omega
      have Hbel := Lib.hid (hbel.alloc hz (.cells #[sv es[k].1, sv es[k].2.1, .int .i64 es[k].2.2] 45))
      have Hown := Lib.hid (hown.alloc (.cells #[sv es[k].1, sv es[k].2.1, .int .i64 es[k].2.2] 45))
      have hln : (outRaw (es.take k) u rel).length ≤ k := Nat.le_trans (outRaw_len _ _ _) (by simp; omega)
      have h63 : (outRaw (es.take k) u rel).length + 1 ≤ maxLen := by unfold maxLen; omega
      have hby : ((outRaw (es.take k) u rel).length + 1) * 16 ≤ 140737488355328 := by omega
      have hft : outRaw (es.take (k + 1)) u rel = outRaw (es.take k) u rel ++ (if outP u rel es[k] then [es[k].2.1] else []) := by
        unfold outRaw; rw [filter_take_succ hlt, List.map_append]; split <;> simp
      clear hbel hown
      generalize hx : es[k] = x at hc0 hc1 hc2 hft Hbel Hown
      obtain ⟨s, d, r⟩ := x
      clear hx
      simp only at hc0 hc1 hc2 Hbel Hown
      have hsz : w.heap.size ≤ (wr.alloc (.cells #[sv s, sv d, .int .i64 r] 45)).heap.size := by simp; omega
      cases hp : outP u rel (s, d, r)
      · rw [hp] at hft
        simp only [Bool.false_eq_true, if_false, List.append_nil] at hft
        have Hft := Lib.hid hft
        clear hft
        have hp' : (s == u) = false ∨ ((s == u) = true ∧ (r == rel) = false) := by
          unfold outP at hp
          cases h1 : (s == u)
          · exact .inl rfl
          · simp only [h1, Bool.true_and] at hp; exact .inr ⟨rfl, hp⟩
        rcases hp' with h1 | ⟨h1, h2⟩
        · have h1' : ¬ s = u := by simpa using h1
          go_wp2_with fail
          go_roundw
          case rel => exact ⟨k + 1, by omega, by go_num, by rw [Hft.out]; exact Hown.out, Hbel.out⟩
          case measure => simp [intOf]; omega
        · have h1' : s = u := by simpa using h1
          subst h1'
          have h2' : ¬ r = rel := by simpa using h2
          go_wp2_with fail
          go_roundw
          case rel => exact ⟨k + 1, by omega, by go_num, by rw [Hft.out]; exact Hown.out, Hbel.out⟩
          case measure => simp [intOf]; omega
      · rw [hp] at hft
        simp only [if_true] at hft
        have Hft := Lib.hid hft
        clear hft
        have hp2 : s = u ∧ r = rel := by simpa [outP] using hp
        obtain ⟨rfl, rfl⟩ := hp2
        go_wp2_with (at_builtin; refine wpList_pushm w (wr.alloc (.cells #[sv s, sv d, .int .i64 r] 45)) (by rfl) _ _ 26 (by rfl) w.heap.size 9 i0 (.string ⟨#[]⟩) 1 16 Tryz.underlying26 hi hz0 hz1 hz2 rfl (by decide) _ _ _ (by rfl) Hown.out [sv d] (wr.heap.size + 1) (by simp) (by rfl) rfl (by simp [Value.oneCell']) h63 hby hsz Hbel.out ?_; intro A1 c1 w1 hown1 hbel1 hg1 hat1)
        go_roundw
        case rel => exact ⟨k + 1, by omega, by go_num, by rw [Hft.out]; simpa [svs] using hown1, hbel1⟩
        case measure => simp [intOf]; omega
    · have hkl : k = es.length := by omega
      subst hkl
      rw [List.take_length] at hown
      obtain ⟨A, c, rfl, _⟩ := own_rd hown
      have Hown := Lib.hid hown
      have Hbel := Lib.hid hbel
      clear hown hbel
      have hln := outRaw_len es u rel
      go_wp2_with fail
      refine (once_own _ c A (outRaw es u rel) _ Hown.out (by omega)).mono ?_
      rintro e w2 ⟨rfl, h2, g2⟩
      have H2 := Lib.hid h2
      have G2 := Lib.hid g2
      clear h2 g2
      go_wp2_with fail
      go_ret
      exact ⟨A, c, rfl, H2.out, Hbel.out.grown G2.out Hbel.out.size (fun j hj => (Hown.out.lt j hj).1)⟩
end Od
end Go.Proofs.YtbllehjhmfehbaaGreat
end

section
/- Plain mathematics: strictly rising lists, each element once; what compaction of a sorted list is. No program. -/
namespace Go.Proofs.YtbllehjhmfehbaaGreat

theorem nil_or_snoc {α : Type} (l : List α) : l = [] ∨ ∃ r y, l = r ++ [y] := by
  rcases List.eq_nil_or_concat l with h | ⟨r, y, h⟩
  · exact .inl h
  · exact .inr ⟨r, y, by rw [h, List.concat_eq_append]⟩

/-- A strict order that parts any two that are not one. -/
structure TO {α : Type} (lt : α → α → Bool) : Prop where
  irrefl : ∀ x, lt x x = false
  trans : ∀ {x y z}, lt x y = true → lt y z = true → lt x z = true
  total : ∀ {x y}, lt x y = false → lt y x = false → x = y

section
variable {α : Type} {lt : α → α → Bool}
/-- Rising, each once. -/
def SS (lt : α → α → Bool) (l : List α) : Prop := l.Pairwise (fun x y => lt x y = true)

theorem SS.unique (T : TO lt) : ∀ {l l' : List α}, SS lt l → SS lt l' → (∀ x, x ∈ l ↔ x ∈ l') → l = l'
  | [], [], _, _, _ => rfl
  | [], y :: r', _, _, h => absurd ((h y).2 (.head _)) (by simp)
  | x :: r, [], _, _, h => absurd ((h x).1 (.head _)) (by simp)
  | x :: r, y :: r', h1, h2, h => by
    obtain ⟨hx, hr⟩ := List.pairwise_cons.1 h1
    obtain ⟨hy, hr'⟩ := List.pairwise_cons.1 h2
    have exy : x = y := by
      rcases List.mem_cons.1 ((h x).1 (.head _)) with e | e
      · exact e
      · rcases List.mem_cons.1 ((h y).2 (.head _)) with e' | e'
        · exact e'.symm
        · have := T.trans (hx y e') (hy x e)
          rw [T.irrefl] at this; cases this
    subst exy
    congr 1
    refine SS.unique T hr hr' fun z => ?_
    constructor
    · intro hz
      rcases List.mem_cons.1 ((h z).1 (.tail _ hz)) with e | e
      · subst e; have := hx z hz; rw [T.irrefl] at this; cases this
      · exact e
    · intro hz
      rcases List.mem_cons.1 ((h z).2 (.tail _ hz)) with e | e
      · subst e; have := hy z hz; rw [T.irrefl] at this; cases this
      · exact e
theorem SS.nodup (T : TO lt) {l : List α} (h : SS lt l) : l.Nodup := h.imp fun {a b} hab e => by subst e; rw [T.irrefl] at hab; cases hab
theorem SS.sublist {l l' : List α} (h : SS lt l) (hs : l'.Sublist l) : SS lt l' := List.Pairwise.sublist hs h

/-- Into a rising list, once. -/
def insL [DecidableEq α] (lt : α → α → Bool) (x : α) : List α → List α
  | [] => [x]
  | y :: r => if lt y x = true then y :: insL lt x r else if y = x then y :: r else x :: y :: r
variable [DecidableEq α]
theorem mem_insL {x z : α} : ∀ {l : List α}, z ∈ insL lt x l ↔ z = x ∨ z ∈ l
  | [] => by simp [insL]
  | y :: r => by
    unfold insL
    split
    · rw [List.mem_cons, mem_insL, List.mem_cons]
      constructor
      · rintro (h | h | h)
        · exact .inr (.inl h)
        · exact .inl h
        · exact .inr (.inr h)
      · rintro (h | h | h)
        · exact .inr (.inl h)
        · exact .inl h
        · exact .inr (.inr h)
    · split
      · rename_i h
        subst h
        simp
      · simp
theorem SS.insL (T : TO lt) {x : α} : ∀ {l : List α}, SS lt l → SS lt (insL lt x l)
  | [], _ => List.pairwise_singleton _ _
  | y :: r, h => by
    obtain ⟨hy, hr⟩ := List.pairwise_cons.1 h
    unfold Proofs.YtbllehjhmfehbaaGreat.insL
    split
    · rename_i h1
      refine List.pairwise_cons.2 ⟨fun z hz => ?_, SS.insL T hr⟩
      rcases mem_insL.1 hz with e | e
      · rw [e]; exact h1
      · exact hy z e
    · rename_i h1
      split
      · exact h
      · rename_i h2
        have hxy : lt x y = true := by
          cases h3 : lt x y
          · exact absurd (T.total (by simpa using h1) h3) h2
          · rfl
        refine List.pairwise_cons.2 ⟨fun z hz => ?_, h⟩
        rcases List.mem_cons.1 hz with e | e
        · rw [e]; exact hxy
        · exact T.trans hxy (hy z e)
/-- A list made rising, each once. -/
def canon (lt : α → α → Bool) (l : List α) : List α := l.foldl (fun acc x => insL lt x acc) []
theorem canon_fold (T : TO lt) : ∀ (l acc : List α), SS lt acc → SS lt (l.foldl (fun acc x => insL lt x acc) acc) ∧ ∀ z, z ∈ l.foldl (fun acc x => insL lt x acc) acc ↔ z ∈ acc ∨ z ∈ l
  | [], acc, h => ⟨h, by simp⟩
  | x :: l, acc, h => by
    obtain ⟨h1, h2⟩ := canon_fold T l (insL lt x acc) (h.insL T)
    refine ⟨h1, fun z => ?_⟩
    rw [List.foldl_cons, h2, mem_insL, List.mem_cons]
    constructor
    · rintro ((h | h) | h)
      · exact .inr (.inl h)
      · exact .inl h
      · exact .inr (.inr h)
    · rintro (h | h | h)
      · exact .inl (.inr h)
      · exact .inl (.inl h)
      · exact .inr h
theorem canon_ss (T : TO lt) (l : List α) : SS lt (canon lt l) := (canon_fold T l [] List.Pairwise.nil).1
theorem mem_canon (T : TO lt) {l : List α} {z : α} : z ∈ canon lt l ↔ z ∈ l := by
  rw [canon, (canon_fold T l [] List.Pairwise.nil).2]; simp
theorem SS.eq_canon (T : TO lt) {l l' : List α} (h : SS lt l') (hm : ∀ x, x ∈ l' ↔ x ∈ l) : l' = canon lt l :=
  SS.unique T h (canon_ss T l) fun x => by rw [hm, mem_canon T]
theorem canon_len (l : List α) : (canon lt l).length ≤ l.length := by
  have h : ∀ (l acc : List α), (l.foldl (fun acc x => insL lt x acc) acc).length ≤ acc.length + l.length := by
    intro l
    induction l with
    | nil => intro acc; simp
    | cons x l ih =>
      intro acc
      have hi : ∀ acc : List α, (Proofs.YtbllehjhmfehbaaGreat.insL lt x acc).length ≤ acc.length + 1 := by
        intro acc
        induction acc with
        | nil => simp [Proofs.YtbllehjhmfehbaaGreat.insL]
        | cons y r ih => unfold Proofs.YtbllehjhmfehbaaGreat.insL; split <;> (try split) <;> simp_all
      have := ih (Proofs.YtbllehjhmfehbaaGreat.insL lt x acc)
      have := hi acc
      simp only [List.foldl_cons, List.length_cons]
      omega
  have := h l []
  simpa [canon] using this

/-- Not falling. -/
def LE (lt : α → α → Bool) (l : List α) : Prop := l.Pairwise (fun x y => lt y x = false)

section
variable [Inhabited α]
theorem compact_snoc (zs : List α) (x : α) : Lib.compact (zs ++ [x]) = Lib.compact zs ++ (if zs = [] ∨ zs.getLast? ≠ some x then [x] else []) := by
  have e : ∀ m, m ≤ zs.length → Lib.compactUpTo (zs ++ [x]).toArray m = Lib.compactUpTo zs.toArray m := by
    intro m
    induction m with
    | zero => intro _; rfl
    | succ m ih =>
      intro hm
      rw [Lib.compactUpTo_succ, Lib.compactUpTo_succ, ih (by omega)]
      have g : ∀ j, j < zs.length → (zs ++ [x]).toArray[j]! = zs.toArray[j]! := by
        intro j hj
        simp [getElem!_def, List.getElem?_append_left hj]
      have hk : Lib.keeps (zs ++ [x]).toArray m = Lib.keeps zs.toArray m := by
        unfold Lib.keeps
        rw [g m (by omega), g (m - 1) (by omega)]
      rw [hk, g m (by omega)]
  unfold Lib.compact
  rw [show (zs ++ [x]).length = zs.length + 1 by simp, Lib.compactUpTo_succ, e _ (Nat.le_refl _)]
  congr 1
  have g1 : (zs ++ [x]).toArray[zs.length]! = x := by simp
  have hk : Lib.keeps (zs ++ [x]).toArray zs.length = decide (zs = [] ∨ zs.getLast? ≠ some x) := by
    unfold Lib.keeps
    rw [g1]
    rcases nil_or_snoc zs with rfl | ⟨r, y, rfl⟩
    · simp
    · have g2 : (r ++ [y] ++ [x]).toArray[(r ++ [y]).length - 1]! = y := by simp
      rw [g2]
      simp
      exact eq_comm
  rw [hk, g1]
  by_cases h : zs = [] ∨ zs.getLast? ≠ some x <;> simp [h]
theorem mem_compact : ∀ {zs : List α} {x : α}, x ∈ Lib.compact zs ↔ x ∈ zs := by
  suffices h : ∀ (n : Nat) (zs : List α), zs.length = n → ∀ x, x ∈ Lib.compact zs ↔ x ∈ zs from fun {zs x} => h _ zs rfl x
  intro n
  induction n with
  | zero => intro zs hz x; rw [List.length_eq_zero_iff.1 hz]; simp [Lib.compact, Lib.compactUpTo]
  | succ n ih =>
    intro zs hz x
    rcases nil_or_snoc zs with rfl | ⟨r, y, rfl⟩
    · simp at hz
    · rw [compact_snoc, List.mem_append, List.mem_append, ih r (by simpa using hz)]
      by_cases h : r = [] ∨ r.getLast? ≠ some y
      · simp [h]
      · simp only [h, if_false, List.not_mem_nil, or_false, List.mem_singleton]
        have h2 : r.getLast? = some y := by
          rcases Classical.em (r.getLast? = some y) with e | e
          · exact e
          · exact absurd (.inr e) h
        constructor
        · exact .inl
        · rintro (e | e)
          · exact e
          · rw [e]; exact List.mem_of_getLast? h2
theorem compact_ss (T : TO lt) : ∀ {zs : List α}, LE lt zs → SS lt (Lib.compact zs) := by
  suffices h : ∀ (n : Nat) (zs : List α), zs.length = n → LE lt zs → SS lt (Lib.compact zs) from fun {zs} => h _ zs rfl
  intro n
  induction n with
  | zero => intro zs hz _; rw [List.length_eq_zero_iff.1 hz]; exact List.Pairwise.nil
  | succ n ih =>
    intro zs hz hs
    rcases nil_or_snoc zs with rfl | ⟨r, y, rfl⟩
    · simp at hz
    · obtain ⟨h1, _, h3⟩ := List.pairwise_append.1 hs
      rw [compact_snoc]
      by_cases h : r = [] ∨ r.getLast? ≠ some y
      · simp only [h, if_true]
        refine List.pairwise_append.2 ⟨ih r (by simpa using hz) h1, List.pairwise_singleton _ _, fun a ha b hb => ?_⟩
        have hb : b = y := by simpa using hb
        subst hb
        rw [mem_compact] at ha
        -- a is below the last, which is below b
        rcases nil_or_snoc r with rfl | ⟨q, l, rfl⟩
        · simp at ha
        · have hl : l ≠ b := by simpa using h
          have hlb : lt l b = true := by
            cases h5 : lt l b
            · exact absurd (T.total h5 (h3 l (by simp) b (by simp))) hl
            · rfl
          rcases List.mem_append.1 ha with e | e
          · have h6 := (List.pairwise_append.1 h1).2.2 a e l (by simp)
            cases h7 : lt a l
            · rw [T.total h7 h6]; exact hlb
            · exact T.trans h7 hlb
          · have : a = l := by simpa using e
            rw [this]; exact hlb
      · simp only [h, if_false, List.append_nil]
        exact ih r (by simpa using hz) h1
theorem compact_canon (T : TO lt) {zs l : List α} (h : LE lt zs) (hm : ∀ x, x ∈ zs ↔ x ∈ l) : Lib.compact zs = canon lt l :=
  SS.eq_canon T (compact_ss T h) fun x => by rw [mem_compact, hm]
end
end

namespace Od
/-- Texts in order. -/
def ltS (a b : Str) : Bool := Op.bytesLess a b
theorem ltS_iff {a b : Str} : ltS a b = true ↔ a < b := by unfold ltS; rw [Go.Proofs.bytesLess_eq]; simp
theorem ltS_false {a b : Str} : ltS a b = false ↔ ¬ a < b := by rw [← ltS_iff]; simp
theorem toS : TO ltS where
  irrefl x := by rw [ltS_false]; exact List.lt_irrefl x
  trans h1 h2 := by rw [ltS_iff] at *; exact List.lt_trans h1 h2
  total h1 h2 := by
    rw [ltS_false] at h1 h2
    exact List.le_antisymm (List.not_lt.1 h2) (List.not_lt.1 h1)
/-- Pairs of texts in order. -/
def ltP (p q : Pr) : Bool := ltS p.1 q.1 || (p.1 == q.1 && ltS p.2 q.2)
theorem toP : TO ltP where
  irrefl x := by simp [ltP, toS.irrefl]
  trans {x y z} h1 h2 := by
    simp only [ltP, Bool.or_eq_true, Bool.and_eq_true, beq_iff_eq] at *
    rcases h1 with h1 | ⟨e1, h1⟩ <;> rcases h2 with h2 | ⟨e2, h2⟩
    · exact .inl (toS.trans h1 h2)
    · exact .inl (e2 ▸ h1)
    · exact .inl (e1 ▸ h2)
    · exact .inr ⟨e1.trans e2, toS.trans h1 h2⟩
  total {x y} h1 h2 := by
    simp only [ltP, Bool.or_eq_false_iff, Bool.and_eq_false_iff, beq_eq_false_iff_ne] at *
    have e1 := toS.total h1.1 h2.1
    rcases h1.2 with h | h
    · exact absurd e1 h
    · rcases h2.2 with h' | h'
      · exact absurd e1.symm h'
      · exact Prod.ext e1 (toS.total h h')
end Od
end Go.Proofs.YtbllehjhmfehbaaGreat
end

section
/- Plain mathematics: what one leads to by pairs, directly or through others. No program. -/
namespace Go.Proofs.YtbllehjhmfehbaaGreat

section
variable {α : Type} [DecidableEq α] {lt : α → α → Bool}
theorem insL_of_mem (T : TO lt) {x : α} : ∀ {l : List α}, SS lt l → x ∈ l → insL lt x l = l
  | y :: r, h, hx => by
    obtain ⟨hy, hr⟩ := List.pairwise_cons.1 h
    unfold insL
    rcases List.mem_cons.1 hx with e | e
    · subst e; rw [T.irrefl]; simp
    · rw [hy x e, if_pos rfl, insL_of_mem T hr e]
theorem insL_len (T : TO lt) {x : α} : ∀ {l : List α}, SS lt l → x ∉ l → (insL lt x l).length = l.length + 1
  | [], _, _ => rfl
  | y :: r, h, hx => by
    obtain ⟨hy, hr⟩ := List.pairwise_cons.1 h
    unfold insL
    split
    · simp [insL_len T hr (fun e => hx (.tail _ e))]
    · split
      · rename_i e; subst e; exact absurd (.head _) hx
      · simp
theorem SS.sublist_of_subset (T : TO lt) : ∀ {l l' : List α}, SS lt l → SS lt l' → (∀ x, x ∈ l → x ∈ l') → l.Sublist l'
  | [], _, _, _, _ => List.nil_sublist _
  | x :: r, [], _, _, h => absurd (h x (.head _)) (by simp)
  | x :: r, y :: r', h1, h2, h => by
    obtain ⟨hx, hr⟩ := List.pairwise_cons.1 h1
    obtain ⟨hy, hr'⟩ := List.pairwise_cons.1 h2
    by_cases e : x = y
    · subst e
      refine List.Sublist.cons_cons _ (SS.sublist_of_subset T hr hr' fun z hz => ?_)
      rcases List.mem_cons.1 (h z (.tail _ hz)) with e | e
      · subst e; have := hx z hz; rw [T.irrefl] at this; cases this
      · exact e
    · have hxr : x ∈ r' := by
        rcases List.mem_cons.1 (h x (.head _)) with e' | e'
        · exact absurd e' e
        · exact e'
      have hyx := hy x hxr
      refine List.Sublist.cons _ (SS.sublist_of_subset T h1 hr' fun z hz => ?_)
      rcases List.mem_cons.1 (h z hz) with e' | e'
      · subst e'
        rcases List.mem_cons.1 hz with e2 | e2
        · exact absurd e2.symm e
        · have := T.trans hyx (hx z e2); rw [T.irrefl] at this; cases this
      · exact e'
end

namespace Od
/-- One leads to another by pairs, directly or through others. -/
def R (l : List Pr) (a b : Str) : Prop := Relation.TransGen (fun x y => (x, y) ∈ l) a b
theorem R.one {l : List Pr} {a b : Str} (h : (a, b) ∈ l) : R l a b := .single h
theorem R.snoc {l : List Pr} {a b c : Str} (h : R l a b) (h' : (b, c) ∈ l) : R l a c := .tail h h'
theorem R.trans {l : List Pr} {a b c : Str} (h : R l a b) (h' : R l b c) : R l a c := by
  induction h' with
  | single h1 => exact .tail h h1
  | tail _ h2 ih => exact .tail ih h2
theorem R.mono {l l' : List Pr} (hs : ∀ p, p ∈ l → p ∈ l') {a b : Str} (h : R l a b) : R l' a b := by
  induction h with
  | single h1 => exact .single (hs _ h1)
  | tail _ h2 ih => exact .tail ih (hs _ h2)
theorem R.head {l : List Pr} {a c : Str} (h : R l a c) : ∃ b, (a, b) ∈ l ∧ (b = c ∨ R l b c) := by
  induction h with
  | single h1 => exact ⟨_, h1, .inl rfl⟩
  | tail h1 h2 ih =>
    obtain ⟨b, hb, e | e⟩ := ih
    · subst e; exact ⟨_, hb, .inr (.single h2)⟩
    · exact ⟨_, hb, .inr (e.snoc h2)⟩
theorem R.last {l : List Pr} {a c : Str} (h : R l a c) : ∃ b, (b, c) ∈ l ∧ (a = b ∨ R l a b) := by
  cases h with
  | single h1 => exact ⟨_, h1, .inl rfl⟩
  | tail h1 h2 => exact ⟨_, h2, .inr h1⟩

def Closed (l : List Pr) (a : Str) (S : List Str) : Prop := ∀ p, p ∈ l → (p.1 = a ∨ p.1 ∈ S) → p.2 ∈ S
theorem Closed.all {l : List Pr} {a b : Str} {S : List Str} (hc : Closed l a S) (h : R l a b) : b ∈ S := by
  induction h with
  | single h1 => exact hc _ h1 (.inl rfl)
  | tail _ h2 ih => exact hc _ h2 (.inr ih)

/-- A list that is what one leads to. -/
def Reached (l : List Pr) (a : Str) (S : List Str) : Prop := SS ltS S ∧ ∀ b, b ∈ S ↔ R l a b
theorem Reached.of {l : List Pr} {a : Str} {S : List Str} (h1 : SS ltS S) (h2 : ∀ b, b ∈ S → R l a b) (h3 : Closed l a S) : Reached l a S :=
  ⟨h1, fun b => ⟨h2 b, h3.all⟩⟩

def stepL (l : List Pr) (a : Str) (S : List Str) : List Str := l.foldl (fun S p => if p.1 = a ∨ p.1 ∈ S then insL ltS p.2 S else S) S
def iterL (l : List Pr) (a : Str) : Nat → List Str
  | 0 => []
  | n + 1 => stepL l a (iterL l a n)
def reachL (l : List Pr) (a : Str) : List Str := iterL l a (l.length + 1)

theorem step_fold (L : List Pr) (a : Str) : ∀ (l : List Pr) (S : List Str), (∀ p, p ∈ l → p ∈ L) → SS ltS S → (∀ b, b ∈ S → R L a b) →
    SS ltS (l.foldl (fun S p => if p.1 = a ∨ p.1 ∈ S then insL ltS p.2 S else S) S) ∧ (∀ b, b ∈ l.foldl (fun S p => if p.1 = a ∨ p.1 ∈ S then insL ltS p.2 S else S) S → R L a b) ∧
    S.length ≤ (l.foldl (fun S p => if p.1 = a ∨ p.1 ∈ S then insL ltS p.2 S else S) S).length ∧
    ((l.foldl (fun S p => if p.1 = a ∨ p.1 ∈ S then insL ltS p.2 S else S) S).length = S.length → l.foldl (fun S p => if p.1 = a ∨ p.1 ∈ S then insL ltS p.2 S else S) S = S ∧ ∀ p, p ∈ l → (p.1 = a ∨ p.1 ∈ S) → p.2 ∈ S)
  | [], S, _, h2, h3 => ⟨h2, h3, Nat.le_refl _, fun _ => ⟨rfl, by simp⟩⟩
  | p :: l, S, h1, h2, h3 => by
    rw [List.foldl_cons]
    by_cases hn : p.1 = a ∨ p.1 ∈ S
    · rw [if_pos hn]
      have hR : R L a p.2 := by
        rcases hn with e | e
        · exact .one (e ▸ h1 p (.head _))
        · exact (h3 _ e).snoc (h1 p (.head _))
      have hIns : ∀ b, b ∈ insL ltS p.2 S → R L a b := fun b hb => by
        rcases mem_insL.1 hb with e | e
        · exact e ▸ hR
        · exact h3 b e
      obtain ⟨i1, i2, i3, i4⟩ := step_fold L a l (insL ltS p.2 S) (fun q hq => h1 q (.tail _ hq)) (h2.insL toS) hIns
      by_cases hm : p.2 ∈ S
      · rw [insL_of_mem toS h2 hm] at *
        refine ⟨i1, i2, i3, fun e => ?_⟩
        obtain ⟨j1, j2⟩ := i4 e
        refine ⟨j1, fun q hq hq2 => ?_⟩
        rcases List.mem_cons.1 hq with e' | e'
        · rw [e']; exact hm
        · exact j2 q e' hq2
      · have hl := insL_len toS h2 hm
        exact ⟨i1, i2, by omega, fun e => by omega⟩
    · rw [if_neg hn]
      obtain ⟨i1, i2, i3, i4⟩ := step_fold L a l S (fun q hq => h1 q (.tail _ hq)) h2 h3
      refine ⟨i1, i2, i3, fun e => ?_⟩
      obtain ⟨j1, j2⟩ := i4 e
      refine ⟨j1, fun q hq hq2 => ?_⟩
      rcases List.mem_cons.1 hq with e' | e'
      · rw [e'] at hq2; exact absurd hq2 hn
      · exact j2 q e' hq2

theorem iter_ok (l : List Pr) (a : Str) : ∀ n, SS ltS (iterL l a n) ∧ (∀ b, b ∈ iterL l a n → R l a b) ∧ (Closed l a (iterL l a n) ∨ n ≤ (iterL l a n).length)
  | 0 => ⟨List.Pairwise.nil, by simp [iterL], .inr (Nat.zero_le _)⟩
  | n + 1 => by
    obtain ⟨h1, h2, h3⟩ := iter_ok l a n
    obtain ⟨i1, i2, i3, i4⟩ := step_fold l a l (iterL l a n) (fun _ h => h) h1 h2
    refine ⟨i1, i2, ?_⟩
    rcases Nat.lt_or_ge (iterL l a n).length (stepL l a (iterL l a n)).length with h | h
    · rcases h3 with h3 | h3
      · left
        intro p hp hn
        have hmem : ∀ b, b ∈ stepL l a (iterL l a n) → b ∈ iterL l a n := fun b hb => h3.all (i2 b hb)
        have h4 : (stepL l a (iterL l a n)).Sublist (iterL l a n) := SS.sublist_of_subset toS i1 h1 hmem
        have := h4.length_le
        omega
      · right
        show n + 1 ≤ (stepL l a (iterL l a n)).length
        omega
    · obtain ⟨j1, j2⟩ := i4 (Nat.le_antisymm h i3)
      left
      show Closed l a (stepL l a (iterL l a n))
      intro p hp hn
      rw [show stepL l a (iterL l a n) = iterL l a n from j1] at *
      exact j2 p hp hn
theorem R.in_snds {l : List Pr} {a b : Str} (h : R l a b) : b ∈ l.map Prod.snd := by
  obtain ⟨x, hx, _⟩ := h.last
  exact List.mem_map.2 ⟨_, hx, rfl⟩
theorem reached_len {l : List Pr} {a : Str} {S : List Str} (h1 : SS ltS S) (h2 : ∀ b, b ∈ S → R l a b) : S.length ≤ l.length := by
  have h3 : S.Sublist (canon ltS (l.map Prod.snd)) := SS.sublist_of_subset toS h1 (canon_ss toS _) fun b hb => (mem_canon toS).2 (h2 b hb).in_snds
  have := h3.length_le
  have := canon_len (lt := ltS) (l.map Prod.snd)
  simp at this
  omega
theorem reachL_ok (l : List Pr) (a : Str) : Reached l a (reachL l a) := by
  obtain ⟨h1, h2, h3⟩ := iter_ok l a (l.length + 1)
  refine Reached.of h1 h2 ?_
  rcases h3 with h3 | h3
  · exact h3
  · have := reached_len h1 h2
    omega
theorem mem_reachL {l : List Pr} {a b : Str} : b ∈ reachL l a ↔ R l a b := (reachL_ok l a).2 b
theorem Reached.eq {l : List Pr} {a : Str} {S : List Str} (h : Reached l a S) : S = reachL l a :=
  SS.unique toS h.1 (reachL_ok l a).1 fun b => by rw [h.2, mem_reachL]
theorem Reached.same {l l' : List Pr} {a : Str} (hs : ∀ p, p ∈ l ↔ p ∈ l') : reachL l a = reachL l' a :=
  SS.unique toS (reachL_ok l a).1 (reachL_ok l' a).1 fun b => by
    rw [mem_reachL, mem_reachL]
    exact ⟨R.mono fun p hp => (hs p).1 hp, R.mono fun p hp => (hs p).2 hp⟩
end Od
end Go.Proofs.YtbllehjhmfehbaaGreat
end

section
/- Plain mathematics of chapter 16: pairs, what stays, what is straight. No program. -/
namespace Go.Proofs.YtbllehjhmfehbaaGreat
namespace Od
/-- The pair that an edge says: the first one ahead of the second one. -/
def pairE (e : Ed) : Option Pr := if e.2.2 = 8 then some (e.2.1, e.1) else if e.2.2 = 7 then some (e.1, e.2.1) else none
/-- All pairs, rising, each once. -/
def prsL (es : List Ed) : List Pr := canon ltP (es.filterMap pairE)
theorem mem_prsL {es : List Ed} {p : Pr} : p ∈ prsL es ↔ ∃ e ∈ es, pairE e = some p := by
  rw [prsL, mem_canon toP, List.mem_filterMap]
theorem prsL_ss (es : List Ed) : SS ltP (prsL es) := canon_ss toP _
theorem prsL_len (es : List Ed) : (prsL es).length ≤ es.length := Nat.le_trans (canon_len _) (List.length_filterMap_le _ _)
def hasE (es : List Ed) (a b : Str) (r : Int) : Bool := es.any (· == (a, b, r))
theorem hasE_iff {es : List Ed} {a b : Str} {r : Int} : hasE es a b r = true ↔ (a, b, r) ∈ es := by simp [hasE]
def needsB (es : List Ed) (p : Pr) : Bool := hasE es p.2 p.1 1 || hasE es p.2 p.1 4

def Acyclic (l : List Pr) : Prop := ∀ a, ¬ R l a a
theorem Acyclic.mono {l l' : List Pr} (h : Acyclic l') (hs : ∀ p, p ∈ l → p ∈ l') : Acyclic l := fun a ha => h a (ha.mono hs)
theorem R_app {l : List Pr} {p : Pr} {a b : Str} (h : R (l ++ [p]) a b) : R l a b ∨ ((a = p.1 ∨ R l a p.1) ∧ (b = p.2 ∨ R l p.2 b)) := by
  induction h with
  | single h1 =>
    rcases List.mem_append.1 h1 with h | h
    · exact .inl (.one h)
    · have : p = _ := (List.mem_singleton.1 h).symm
      subst this
      exact .inr ⟨.inl rfl, .inl rfl⟩
  | tail h1 h2 ih =>
    rcases List.mem_append.1 h2 with h | h
    · rcases ih with ih | ⟨ih1, ih2⟩
      · exact .inl (ih.snoc h)
      · refine .inr ⟨ih1, .inr ?_⟩
        rcases ih2 with e | e
        · subst e; exact .one h
        · exact e.snoc h
    · have : p = _ := (List.mem_singleton.1 h).symm
      subst this
      rcases ih with ih | ⟨ih1, _⟩
      · exact .inr ⟨.inr ih, .inl rfl⟩
      · exact .inr ⟨ih1, .inl rfl⟩
theorem Acyclic.app {l : List Pr} {p : Pr} (h : Acyclic l) (hne : p.1 ≠ p.2) (hr : ¬ R l p.2 p.1) : Acyclic (l ++ [p]) := fun a ha => by
  rcases R_app ha with h1 | ⟨h1, h2⟩
  · exact h a h1
  · rcases h1 with e1 | e1 <;> rcases h2 with e2 | e2
    · exact hne (e1.symm.trans e2)
    · subst e1; exact hr e2
    · subst e2; exact hr e1
    · exact hr (e2.trans e1)

def keepB (es : List Ed) (first : Bool) (acc : List Pr) (p : Pr) : Bool := needsB es p == first && (!(p.1 == p.2) && !(decide (p.1 ∈ reachL acc p.2)))
theorem keepB_iff {es : List Ed} {first : Bool} {acc : List Pr} {p : Pr} : keepB es first acc p = true ↔ needsB es p = first ∧ p.1 ≠ p.2 ∧ ¬ R acc p.2 p.1 := by
  simp [keepB, mem_reachL]
def phase (es : List Ed) (first : Bool) (acc l : List Pr) : List Pr := l.foldl (fun acc p => if keepB es first acc p = true then acc ++ [p] else acc) acc
theorem phase_cons (es : List Ed) (first : Bool) (acc l : List Pr) (p : Pr) : phase es first acc (p :: l) = phase es first (if keepB es first acc p = true then acc ++ [p] else acc) l := rfl
theorem phase_app (es : List Ed) (first : Bool) (acc l : List Pr) (p : Pr) : phase es first acc (l ++ [p]) = if keepB es first (phase es first acc l) p = true then phase es first acc l ++ [p] else phase es first acc l := by
  unfold phase; rw [List.foldl_append]; rfl
theorem phase_ok (es : List Ed) (first : Bool) : ∀ (l acc : List Pr), Acyclic acc →
    Acyclic (phase es first acc l) ∧ (∀ p, p ∈ acc → p ∈ phase es first acc l) ∧ (∀ p, p ∈ phase es first acc l → p ∈ acc ∨ (p ∈ l ∧ needsB es p = first)) ∧
    (∀ p, p ∈ l → needsB es p = first → p ∈ phase es first acc l ∨ p.1 = p.2 ∨ R (phase es first acc l) p.2 p.1)
  | [], acc, h => ⟨h, fun _ h => h, fun _ h => .inl h, by simp⟩
  | p :: l, acc, h => by
    rw [phase_cons]
    by_cases hk : keepB es first acc p = true
    · rw [if_pos hk]
      obtain ⟨h1, h2, h3⟩ := keepB_iff.1 hk
      obtain ⟨i1, i2, i3, i4⟩ := phase_ok es first l (acc ++ [p]) (h.app h2 h3)
      refine ⟨i1, fun q hq => i2 q (List.mem_append_left _ hq), fun q hq => ?_, fun q hq hn => ?_⟩
      · rcases i3 q hq with e | ⟨e1, e2⟩
        · rcases List.mem_append.1 e with e | e
          · exact .inl e
          · rw [List.mem_singleton.1 e]; exact .inr ⟨.head _, h1⟩
        · exact .inr ⟨.tail _ e1, e2⟩
      · rcases List.mem_cons.1 hq with e | e
        · subst e; exact .inl (i2 _ (List.mem_append_right _ (.head _)))
        · exact i4 q e hn
    · rw [if_neg hk]
      obtain ⟨i1, i2, i3, i4⟩ := phase_ok es first l acc h
      refine ⟨i1, i2, fun q hq => ?_, fun q hq hn => ?_⟩
      · rcases i3 q hq with e | ⟨e1, e2⟩
        · exact .inl e
        · exact .inr ⟨.tail _ e1, e2⟩
      · rcases List.mem_cons.1 hq with e | e
        · subst e
          by_cases h2 : q.1 = q.2
          · exact .inr (.inl h2)
          · by_cases h3 : R acc q.2 q.1
            · exact .inr (.inr (h3.mono i2))
            · exact absurd (keepB_iff.2 ⟨hn, h2, h3⟩) hk
        · exact i4 q e hn
/-- The pairs that stay, as they were put. -/
def keptL (es : List Ed) : List Pr := phase es false (phase es true [] (prsL es)) (prsL es)
theorem acyclic_nil : Acyclic [] := fun a ha => by obtain ⟨b, hb, _⟩ := ha.head; simp at hb
theorem kept_acyclic (es : List Ed) : Acyclic (keptL es) := (phase_ok es false _ _ (phase_ok es true (prsL es) [] acyclic_nil).1).1
theorem kept_sub {es : List Ed} {p : Pr} (h : p ∈ keptL es) : p ∈ prsL es := by
  rcases (phase_ok es false (prsL es) _ (phase_ok es true (prsL es) [] acyclic_nil).1).2.2.1 p h with e | e
  · rcases (phase_ok es true (prsL es) [] acyclic_nil).2.2.1 p e with e | e
    · simp at e
    · exact e.1
  · exact e.1
theorem kept_or {es : List Ed} {p : Pr} (h : p ∈ prsL es) : p ∈ keptL es ∨ p.1 = p.2 ∨ R (keptL es) p.2 p.1 := by
  have h1 := phase_ok es true (prsL es) [] acyclic_nil
  have h2 := phase_ok es false (prsL es) _ h1.1
  cases hn : needsB es p
  · exact h2.2.2.2 p h hn
  · rcases h1.2.2.2 p h hn with e | e | e
    · exact .inl (h2.2.1 p e)
    · exact .inr (.inl e)
    · exact .inr (.inr (e.mono h2.2.1))
/-- What never goes round stays whole. -/
theorem kept_all {es : List Ed} (h : Acyclic (prsL es)) {p : Pr} (hp : p ∈ prsL es) : p ∈ keptL es := by
  rcases kept_or hp with e | e | e
  · exact e
  · exact absurd (R.one (show (p.1, p.1) ∈ prsL es from by rw (config := { occs := .pos [2] }) [e]; exact hp)) (h p.1)
  · exact absurd ((R.one (show (p.1, p.2) ∈ prsL es from hp)).trans (e.mono fun _ => kept_sub)) (h p.1)
/-- Needs that alone never go round stay. -/
theorem kept_needs {es : List Ed} (h : Acyclic ((prsL es).filter (needsB es))) {p : Pr} (hp : p ∈ prsL es) (hn : needsB es p = true) : p ∈ keptL es := by
  have h1 := phase_ok es true (prsL es) [] acyclic_nil
  have h2 := phase_ok es false (prsL es) _ h1.1
  have hsub : ∀ q, q ∈ phase es true [] (prsL es) → q ∈ (prsL es).filter (needsB es) := fun q hq => by
    rcases h1.2.2.1 q hq with e | ⟨e1, e2⟩
    · simp at e
    · exact List.mem_filter.2 ⟨e1, e2⟩
  have hpf : (p.1, p.2) ∈ (prsL es).filter (needsB es) := List.mem_filter.2 ⟨hp, hn⟩
  rcases h1.2.2.2 p hp hn with e | e | e
  · exact h2.2.1 p e
  · exact absurd (R.one (show (p.1, p.1) ∈ _ from by rw (config := { occs := .pos [2] }) [e]; exact hpf)) (h p.1)
  · exact absurd ((R.one hpf).trans (e.mono hsub)) (h p.1)

/-- Does an edge stay? -/
def stays (es : List Ed) (e : Ed) : Bool := match pairE e with | none => true | some p => decide (p ∈ keptL es)
def straight (es : List Ed) : List Ed := es.filter (stays es)
def gone (es : List Ed) : List Ed := es.filter (fun e => !stays es e)
theorem mem_prs_straight {es : List Ed} {p : Pr} : p ∈ prsL (straight es) ↔ p ∈ keptL es := by
  rw [mem_prsL]
  constructor
  · rintro ⟨e, he, hp⟩
    have := (List.mem_filter.1 he).2
    unfold stays at this
    rw [hp] at this
    simpa using this
  · intro h
    obtain ⟨e, he, hp⟩ := mem_prsL.1 (kept_sub h)
    exact ⟨e, List.mem_filter.2 ⟨he, by unfold stays; rw [hp]; simpa using h⟩, hp⟩
theorem straight_acyclic (es : List Ed) : Acyclic (prsL (straight es)) := (kept_acyclic es).mono fun _ => mem_prs_straight.1
theorem kept_straight {es : List Ed} {p : Pr} : p ∈ keptL (straight es) ↔ p ∈ keptL es :=
  ⟨fun h => mem_prs_straight.1 (kept_sub h), fun h => kept_all (straight_acyclic es) (mem_prs_straight.2 h)⟩
theorem straight_of_acyclic {es : List Ed} (h : Acyclic (prsL es)) : straight es = es := by
  refine List.filter_eq_self.2 fun e he => ?_
  unfold stays
  cases hp : pairE e with
  | none => rfl
  | some p => simpa using kept_all h (mem_prsL.2 ⟨e, he, hp⟩)
theorem straight_twice (es : List Ed) : straight (straight es) = straight es := straight_of_acyclic (straight_acyclic es)
theorem gone_straight (es : List Ed) : gone (straight es) = [] := by
  have h := straight_twice es
  rw [gone, List.filter_eq_nil_iff]
  intro e he
  have := List.filter_eq_self.1 h e he
  simp [this]
theorem stay_gone_len (es : List Ed) : (straight es).length + (gone es).length = es.length := by
  unfold straight gone
  generalize stays es = f
  induction es with
  | nil => rfl
  | cons e l ih => cases h : f e <;> simp [h] <;> omega
/-- Does nothing go round? -/
def isB (es : List Ed) : Bool := !(prsL es).any (fun p => p.1 == p.2 || decide (p.1 ∈ reachL (prsL es) p.2))
theorem isB_iff {es : List Ed} : isB es = true ↔ Acyclic (prsL es) := by
  unfold isB
  rw [Bool.not_eq_true', List.any_eq_false]
  simp only [Bool.or_eq_true, beq_iff_eq, decide_eq_true_eq, mem_reachL, not_or]
  constructor
  · intro h a ha
    obtain ⟨b, hb, e | e⟩ := ha.head
    · exact (h _ hb).1 e.symm
    · exact (h _ hb).2 e
  · intro h p hp
    refine ⟨fun e => h p.1 (.one (by rw (config := { occs := .pos [2] }) [e]; exact hp)), fun e => h p.1 ((R.one hp).trans e)⟩
end Od
end Go.Proofs.YtbllehjhmfehbaaGreat
end

section
/- Words for walks by check points: the world at hand under a name of its own, and all that is known of it carried over by one 'Below'. -/
namespace Go.Proofs.YtbllehjhmfehbaaGreat
open Go.RowKit

/-- The world at hand under a name. -/
theorem wp_named {P : Program} {c : Code} {Q : Exit → Act → World → Prop} {a : Act} {w : World} (h : ∀ W, W = w → c.wp P Q a W) : c.wp P Q a w := h w rfl
theorem calls_named {P : Program} {f : FuncId} {args : Array Value} {w : World} {Q : Ending → World → Prop} (h : ∀ W, W = w → Calls P f args W Q) : Calls P f args w Q := h w rfl
section
variable {w w' w2 : World} {B k n : Nat} {A : Option Addr} {xs : List Value}
/-- What reads as a list in a world still does in a later one. -/
theorem Rd.at (h : Rd w w.heap.size k A n xs) (hb : Below w.heap.size w w') : Rd w' w'.heap.size k A n xs := (h.on (Nat.le_refl _) hb).more hb.size
theorem Rd.at' (h : Rd w B k A n xs) (hB : B ≤ w.heap.size) (hb : Below w.heap.size w w') : Rd w' w'.heap.size k A n xs := (h.on hB hb).more (Nat.le_trans hB hb.size)
/-- First one, then what a call made of it. -/
theorem lift (h : Below w.heap.size w w') (g : Below w'.heap.size w' w2) : Below w.heap.size w w2 := h.trans (g.mono h.size)
theorem liftB (h : Below B w w') (hB : B ≤ w.heap.size) (g : Below w'.heap.size w' w2) : Below B w w2 := h.trans (g.mono (Nat.le_trans hB h.size))
theorem cellAt {b o : Nat} {v : Value} (c : w.cell? ⟨b, o, none⟩ = some v) (hb : Below w.heap.size w w') (n : b < w.heap.size) : w'.cell? ⟨b, o, none⟩ = some v := (hb.cell (p := ⟨b, o, none⟩) n).trans c
theorem froAt {b o : Nat} (c : w.frozen? ⟨b, o, none⟩ = false) (hb : Below w.heap.size w w') (n : b < w.heap.size) : w'.frozen? ⟨b, o, none⟩ = false := (hb.frozen (p := ⟨b, o, none⟩) n).trans c
theorem ltAt {b : Nat} (n : b < w.heap.size) (hb : Below w.heap.size w w') : b < w'.heap.size := Nat.lt_of_lt_of_le n hb.size
theorem leAt {b : Nat} (n : b ≤ w.heap.size) (hb : Below w.heap.size w w') : b ≤ w'.heap.size := Nat.le_trans n hb.size
end
end Go.Proofs.YtbllehjhmfehbaaGreat
end
