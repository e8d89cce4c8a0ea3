/- My texts, joined for the claim: ORise OOnce NMay. -/
import Derived.Test.YtanfnejbnmenkaaGreatZB2
import Derived.Test.YtanfnejbnmenkaaGreatZB1
import Derived.Sort.OwnSorted

section
/- The walks of graph.rises at edges and nodes. -/
namespace Go.Proofs.YtanfnejbnmenkaaGreat
open Go.RowKit

namespace Od
def risesB {α : Type} (c : α → α → Int) : List α → Bool
  | x :: y :: r => decide (c x y < 0) && risesB c (y :: r)
  | _ => true
theorem risesB_iff {α : Type} (c : α → α → Int) : ∀ (l : List α), risesB c l = true ↔ ∀ i (h : i + 1 < l.length), c l[i] l[i + 1] < 0
  | [] => by simp [risesB]
  | [x] => by simp [risesB]
  | x :: y :: r => by
    have ih := risesB_iff c (y :: r)
    unfold risesB
    rw [Bool.and_eq_true, decide_eq_true_eq, ih]
    constructor
    · rintro ⟨h1, h2⟩ i hi
      cases i with
      | zero => exact h1
      | succ i => exact h2 i (by simpa using hi)
    · intro h
      exact ⟨h 0 (by simp), fun i hi => h (i + 1) (by simpa using hi)⟩

def nodeCmp (a b : Nd) : Int := cmpS a.1 b.1

set_option maxRecDepth 100000 in
set_option maxHeartbeats 1000000 in
theorem risesE_any (A : Option Addr) (c : Nat) (es : List Ed) (w : World) (hr : Rd w w.heap.size 3 A es.length (edsC es)) (hl : es.length ≤ 1000000) :
    Calls Tryz.prog 72 #[.slice A es.length c, .func (.func 73) #[] #[]] w fun e w' => e = .returned (.bool (risesB edgeCmp es)) ∧ Below w.heap.size w w' := by
  have Hr := Lib.hid hr
  clear hr
  go_enter Tryz.func72, Tryz.ntmps72
  go_wp2_with fail
  go_loopw [5] (fun i wr => ∃ k : Nat, 1 ≤ k ∧ (k ≤ es.length ∨ k = 1) ∧ i = .int .i64 k ∧ Hid (∀ j (h : j + 1 < es.length), j + 1 < k → edgeCmp es[j] es[j + 1] < 0) ∧ Below w.heap.size w wr) (fun i _ => es.length + 1 - (intOf i).toNat)
  case atStart => exact ⟨1, by omega, .inr rfl, rfl, fun j _ h => absurd h (by omega), Below.refl _ _⟩
  case round =>
    obtain ⟨k, hk1, hk, rfl, hall, hbel⟩ := hrel
    by_cases hlt : k < es.length
    · have hRr := Hr.out.on (Nat.le_refl _) hbel
      obtain ⟨b, o, rfl, hB, hc0, hc1, hc2⟩ := hRr.edge (i := k - 1) (by omega)
      obtain ⟨b', o', he, _, hd0, hd1, hd2⟩ := hRr.edge hlt
      injection he with he
      injection he with he1 he2
      subst he1 he2
      obtain ⟨j, rfl⟩ : ∃ j, k = j + 1 := ⟨k - 1, by omega⟩
      simp only [Nat.add_sub_cancel] at hc0 hc1 hc2
      have hz := hbel.size
      have n1 : b < wr.heap.size := by omega
      have Hbel := Lib.hid hbel
      clear hbel hRr
      generalize hx : es[j] = x at hc0 hc1 hc2
      generalize hy : es[j + 1] = y at hd0 hd1 hd2
      obtain ⟨s, d, r⟩ := x
      obtain ⟨s', d', r'⟩ := y
      have Hx := Lib.hid hx
      have Hy := Lib.hid hy
      clear hx hy
      simp only at hc0 hc1 hc2 hd0 hd1 hd2
      have k1 : (0 : Int) ≤ (j : Int) := by omega
      have k2 : (j : Int) < (es.length : Int) := by omega
      have k3 : (j : Int) + 1 < (es.length : Int) := by omega
      have k4 : IntKind.i64.wrap (j : Int) = j := IntWalk.i64_in _ (by omega)
      have k5 : IntKind.i64.wrap ((j : Int) + 1) = (j : Int) + 1 := IntWalk.i64_in _ (by omega)
      have k6 : ((j : Int) + 1).toNat = j + 1 := by omega
      have k7 : (0 : Int) ≤ (j : Int) + 1 := by omega
      have k8 : IntKind.i64.wrap ((j : Int) + 1 - 1) = j := by rw [show (j : Int) + 1 - 1 = j from by omega]; exact k4
      go_wp2_with fail
      go_region_held3 (fun w' => w'.cell? ⟨b, o + j * 3, none⟩ = some (sv s) ∧ w'.cell? ⟨b, o + j * 3 + 1, none⟩ = some (sv d) ∧ w'.cell? ⟨b, o + j * 3 + 2, none⟩ = some (.int .i64 r) ∧ w'.cell? ⟨b, o + (j + 1) * 3, none⟩ = some (sv s') ∧ w'.cell? ⟨b, o + (j + 1) * 3 + 1, none⟩ = some (sv d') ∧ w'.cell? ⟨b, o + (j + 1) * 3 + 2, none⟩ = some (.int .i64 r')) (first | go_keep | exact ⟨(hb2.cell (p := ⟨b, o + j * 3, none⟩) n1).trans hc0, (hb2.cell (p := ⟨b, o + j * 3 + 1, none⟩) n1).trans hc1, (hb2.cell (p := ⟨b, o + j * 3 + 2, none⟩) n1).trans hc2, (hb2.cell (p := ⟨b, o + (j + 1) * 3, none⟩) n1).trans hd0, (hb2.cell (p := ⟨b, o + (j + 1) * 3 + 1, none⟩) n1).trans hd1, (hb2.cell (p := ⟨b, o + (j + 1) * 3 + 2, none⟩) n1).trans hd2⟩)
        (first | (go_at_call 73; refine (byEdge_any _ _ _ _ _ _ _).mono ?_; rintro e w2 ⟨rfl, hb2⟩))
      have Hb3 := Lib.hid (Hbel.out.trans (show Below w.heap.size wr w2 from ⟨hb2.os, hb2.tape, hb2.output, hb2.size, fun i hi => hb2.block i (Nat.lt_of_lt_of_le hi hz)⟩))
      clear hb2
      by_cases hcmp : edgeCmp (s, d, r) (s', d', r') < 0
      · have hcmp' : ¬ 0 ≤ edgeCmp (s, d, r) (s', d', r') := by omega
        go_wp2_with fail
        go_roundw
        case rel => exact ⟨j + 2, by omega, by omega, by go_num, fun i h1 h2 => by
          rcases Nat.lt_or_ge i j with h | h
          · exact hall.out i h1 (by omega)
          · obtain rfl : i = j := by omega
            rw [Hx.out, Hy.out]; exact hcmp, Hb3.out⟩
        case measure => simp [intOf]; omega
      · have hcmp' : 0 ≤ edgeCmp (s, d, r) (s', d', r') := by omega
        go_wp2_with fail
        go_ret
        exact ⟨ret_bool (by
          symm
          rw [Bool.eq_false_iff, ne_eq, risesB_iff]
          intro h
          have := h j hlt
          rw [Hx.out, Hy.out] at this
          omega), Hb3.out⟩
    · go_wp2_with fail
      go_ret
      exact ⟨ret_bool (by
        symm
        rw [risesB_iff]
        intro i hi
        exact hall.out i hi (by omega)), hbel⟩
set_option maxRecDepth 100000 in
set_option maxHeartbeats 1000000 in
theorem risesN_any (A : Option Addr) (c : Nat) (ns : List Nd) (w : World) (hr : Rd w w.heap.size 3 A ns.length (ndsC ns)) (hl : ns.length ≤ 1000000) :
    Calls Tryz.prog 70 #[.slice A ns.length c, .func (.func 71) #[] #[]] w fun e w' => e = .returned (.bool (risesB nodeCmp ns)) ∧ Below w.heap.size w w' := by
  have Hr := Lib.hid hr
  clear hr
  go_enter Tryz.func70, Tryz.ntmps70
  go_wp2_with fail
  go_loopw [5] (fun i wr => ∃ k : Nat, 1 ≤ k ∧ (k ≤ ns.length ∨ k = 1) ∧ i = .int .i64 k ∧ Hid (∀ j (h : j + 1 < ns.length), j + 1 < k → nodeCmp ns[j] ns[j + 1] < 0) ∧ Below w.heap.size w wr) (fun i _ => ns.length + 1 - (intOf i).toNat)
  case atStart => exact ⟨1, by omega, .inr rfl, rfl, fun j _ h => absurd h (by omega), Below.refl _ _⟩
  case round =>
    obtain ⟨k, hk1, hk, rfl, hall, hbel⟩ := hrel
    by_cases hlt : k < ns.length
    · have hRr := Hr.out.on (Nat.le_refl _) hbel
      obtain ⟨b, o, rfl, hB, hc0, hc1, hc2⟩ := hRr.node (i := k - 1) (by omega)
      obtain ⟨b', o', he, _, hd0, hd1, hd2⟩ := hRr.node hlt
      injection he with he
      injection he with he1 he2
      subst he1 he2
      obtain ⟨j, rfl⟩ : ∃ j, k = j + 1 := ⟨k - 1, by omega⟩
      simp only [Nat.add_sub_cancel] at hc0 hc1 hc2
      have hz := hbel.size
      have n1 : b < wr.heap.size := by omega
      have Hbel := Lib.hid hbel
      clear hbel hRr
      generalize hx : ns[j] = x at hc0 hc1 hc2
      generalize hy : ns[j + 1] = y at hd0 hd1 hd2
      obtain ⟨s, d, r⟩ := x
      obtain ⟨s', d', r'⟩ := y
      have Hx := Lib.hid hx
      have Hy := Lib.hid hy
      clear hx hy
      simp only at hc0 hc1 hc2 hd0 hd1 hd2
      have k1 : (0 : Int) ≤ (j : Int) := by omega
      have k2 : (j : Int) < (ns.length : Int) := by omega
      have k3 : (j : Int) + 1 < (ns.length : Int) := by omega
      have k4 : IntKind.i64.wrap (j : Int) = j := IntWalk.i64_in _ (by omega)
      have k5 : IntKind.i64.wrap ((j : Int) + 1) = (j : Int) + 1 := IntWalk.i64_in _ (by omega)
      have k6 : ((j : Int) + 1).toNat = j + 1 := by omega
      have k7 : (0 : Int) ≤ (j : Int) + 1 := by omega
      have k8 : IntKind.i64.wrap ((j : Int) + 1 - 1) = j := by rw [show (j : Int) + 1 - 1 = j from by omega]; exact k4
      go_wp2_with fail
      go_region_held3 (fun w' => w'.cell? ⟨b, o + j * 3, none⟩ = some (sv s) ∧ w'.cell? ⟨b, o + j * 3 + 1, none⟩ = some (.int .i64 d) ∧ w'.cell? ⟨b, o + j * 3 + 2, none⟩ = some (.int .i64 r) ∧ w'.cell? ⟨b, o + (j + 1) * 3, none⟩ = some (sv s') ∧ w'.cell? ⟨b, o + (j + 1) * 3 + 1, none⟩ = some (.int .i64 d') ∧ w'.cell? ⟨b, o + (j + 1) * 3 + 2, none⟩ = some (.int .i64 r')) (first | go_keep | exact ⟨(hb2.cell (p := ⟨b, o + j * 3, none⟩) n1).trans hc0, (hb2.cell (p := ⟨b, o + j * 3 + 1, none⟩) n1).trans hc1, (hb2.cell (p := ⟨b, o + j * 3 + 2, none⟩) n1).trans hc2, (hb2.cell (p := ⟨b, o + (j + 1) * 3, none⟩) n1).trans hd0, (hb2.cell (p := ⟨b, o + (j + 1) * 3 + 1, none⟩) n1).trans hd1, (hb2.cell (p := ⟨b, o + (j + 1) * 3 + 2, none⟩) n1).trans hd2⟩)
        (first | (go_at_call 71; refine (byName_any (s, d, r) (s', d', r') _).mono ?_; rintro e w2 ⟨rfl, hb2⟩))
      have Hb3 := Lib.hid (Hbel.out.trans (show Below w.heap.size wr w2 from ⟨hb2.os, hb2.tape, hb2.output, hb2.size, fun i hi => hb2.block i (Nat.lt_of_lt_of_le hi hz)⟩))
      clear hb2
      by_cases hcmp : nodeCmp (s, d, r) (s', d', r') < 0
      · have hcmp' : ¬ 0 ≤ nodeCmp (s, d, r) (s', d', r') := by omega
        go_wp2_with fail
        go_roundw
        case rel => exact ⟨j + 2, by omega, by omega, by go_num, fun i h1 h2 => by
          rcases Nat.lt_or_ge i j with h | h
          · exact hall.out i h1 (by omega)
          · obtain rfl : i = j := by omega
            rw [Hx.out, Hy.out]; exact hcmp, Hb3.out⟩
        case measure => simp [intOf]; omega
      · have hcmp' : 0 ≤ nodeCmp (s, d, r) (s', d', r') := by omega
        go_wp2_with fail
        go_ret
        exact ⟨ret_bool (by
          symm
          rw [Bool.eq_false_iff, ne_eq, risesB_iff]
          intro h
          have := h j hlt
          rw [Hx.out, Hy.out] at this
          omega), Hb3.out⟩
    · go_wp2_with fail
      go_ret
      exact ⟨ret_bool (by
        symm
        rw [risesB_iff]
        intro i hi
        exact hall.out i hi (by omega)), hbel⟩
end Od
end Go.Proofs.YtanfnejbnmenkaaGreat
end

section
/- The walks of a graph's node, and of a list made rising, each once. -/
namespace Go.Proofs.YtanfnejbnmenkaaGreat
open Go.RowKit Go.Sort

namespace Od
theorem encStr_sv (s : Str) : encStr s = sv s := rfl
theorem map_encStr (ss : List Str) : ss.map encStr = svs ss := rfl
def sortS (ss : List Str) : List Str := ss.mergeSort fun x y => decide (x ≤ y)
theorem sortS_len (ss : List Str) : (sortS ss).length = ss.length := by simp [sortS]

theorem sortS_own (base c : Nat) (A : Option Addr) (ss : List Str) (w : World) (h : w.ownsRow base 9 1 (.slice A ss.length c) ss.length (svs ss)) (hsz : ss.length ≤ 1000000) :
    Calls Tryz.prog 147 #[.slice A ss.length c] w fun e w' => e = .returned (.tuple #[]) ∧ w'.ownsRow base 9 1 (.slice A ss.length c) ss.length (svs (sortS ss)) ∧ w.grownBy w' (Value.slice A ss.length c).ownBlock := by
  rcases h.2 with ⟨hv, hn⟩ | ⟨g, cap, cur, hv, hg, hb, h1, h2, h3, h4⟩
  · have hnil : ss = [] := List.length_eq_zero_iff.1 hn
    subst hnil
    refine (Tryz.slices_Sort_string_none _ _ _).mono ?_
    rintro e w' ⟨rfl, rfl⟩
    exact ⟨rfl, by simpa [sortS] using h, World.grownBy.refl _ _⟩
  · injection hv with e1 _ e3
    subst e1 e3
    have hgl : g < w.heap.size := (Array.getElem?_eq_some_iff.1 hb).1
    refine (Tryz.slices_Sort_string g 0 c ss w (holds_of_block hb (by rw [Nat.mul_one] at h4; exact h4)) hgl (by omega)).mono ?_
    rintro e w' ⟨rfl, n, os, rfl⟩
    exact ⟨rfl, ownsRow_sorted (ts := sortS ss) (sortS_len ss) hg hb h1 h2 h3, grownBy_sorted _⟩

theorem take_putCells' (cur : Array Value) (ts us : List Str) (h : (ts ++ us).length ≤ cur.size) : (putCells encStr 0 (ts ++ us).toArray cur).toList.take ts.length = ts.map encStr := by
  have h1 := take_putCells cur (ts ++ us) h
  have h2 := congrArg (List.take ts.length) h1
  rw [List.take_take, Nat.min_eq_left (by simp)] at h2
  rw [h2, List.map_append, List.take_append_of_le_length (by simp), List.take_of_length_le (by simp)]

theorem compact_len_le (ss : List Str) : (Lib.compact ss).length ≤ ss.length := by
  unfold Lib.compact Lib.compactUpTo
  rw [List.length_map]
  exact Nat.le_trans (List.length_filter_le _ _) (by simp)

theorem compactS_own (base c : Nat) (A : Option Addr) (ss : List Str) (w : World) (h : w.ownsRow base 9 1 (.slice A ss.length c) ss.length (svs ss)) (hsz : ss.length ≤ 1000000) :
    Calls Tryz.prog 148 #[.slice A ss.length c] w fun e w' => e = .returned (.slice A (Lib.compact ss).length c) ∧ w'.ownsRow base 9 1 (.slice A (Lib.compact ss).length c) (Lib.compact ss).length (svs (Lib.compact ss)) ∧ w.grownBy w' (Value.slice A ss.length c).ownBlock := by
  rcases h.2 with ⟨hv, hn⟩ | ⟨g, cap, cur, hv, hg, hb, h1, h2, h3, h4⟩
  · have hnil : ss = [] := List.length_eq_zero_iff.1 hn
    subst hnil
    refine (Tryz.slices_Compact_string_empty _ _ _).mono ?_
    rintro e w' ⟨rfl, rfl⟩
    exact ⟨rfl, h, World.grownBy.refl _ _⟩
  · injection hv with e1 _ e3
    subst e1 e3
    have hgl : g < w.heap.size := (Array.getElem?_eq_some_iff.1 hb).1
    have hle := compact_len_le ss
    refine (Tryz.slices_Compact_string g 0 c ss w (holds_of_block hb (by rw [Nat.mul_one] at h4; exact h4)) (by omega) h1).mono ?_
    rintro e w' ⟨rfl, q, rfl⟩
    refine ⟨rfl, ⟨by simp [svs], .inr ⟨g, c, _, rfl, hg, by rw [← grow_empty (putRow _ _ _ _ _)]; exact heap_sorted _ hb, by omega, h2, by simp [putCells, h3], ?_⟩⟩, by rw [← grow_empty (putRow _ _ _ _ _)]; exact grownBy_sorted _⟩
    rw [Nat.mul_one]
    exact take_putCells' cur _ _ (by simp; omega)


/-- A node as a value. -/
abbrev ndV (n : Nd) : Value := .agg #[sv n.1, .int .i64 n.2.1, .int .i64 n.2.2]
structure SaysN (g : Nat) (caps : Array Value) (p : Nd → Bool) (w : World) : Prop where
  enters : ∀ (args : Array Value) (W : World), (callFunc g args).run Tryz.prog W = .ok (.enter g args) W
  says : ∀ (W : World) (s : Str) (d r : Int), Below w.heap.size w W → Calls Tryz.prog g (#[.agg #[sv s, .int .i64 d, .int .i64 r]] ++ caps) W fun e w' => e = .returned (.bool (p (s, d, r))) ∧ Below W.heap.size W w'

def FindIdx {α : Type} (xs : List α) (p : α → Bool) (w : World) (e : Ending) (w' : World) : Prop := ∃ r : Int, e = .returned (.int .i64 r) ∧ ((r = -1 ∧ xs.find? p = none) ∨ ∃ k, ∃ h : k < xs.length, r = (k : Int) ∧ xs.find? p = some xs[k] ∧ p xs[k] = true ∧ ∀ j, ∀ hj : j < k, p (xs[j]'(by omega)) = false) ∧ Below w.heap.size w w'
theorem find_none_take {α : Type} {p : α → Bool} {xs : List α} (h : xs.any p = false) : xs.find? p = none := by
  rw [List.find?_eq_none]
  intro x hx hp
  have := List.any_eq_false.1 h x hx
  exact this hp
theorem find_at {α : Type} {p : α → Bool} {xs : List α} {k : Nat} (hk : k < xs.length) (h0 : (xs.take k).any p = false) (hp : p xs[k] = true) : xs.find? p = some xs[k] := by
  have e : xs = xs.take k ++ (xs[k] :: xs.drop (k + 1)) := by rw [List.getElem_cons_drop, List.take_append_drop]
  have h : (xs.take k ++ (xs[k] :: xs.drop (k + 1))).find? p = some xs[k] := by
    rw [List.find?_append, find_none_take h0, Option.none_or, List.find?_cons_of_pos hp]
  rw [← e] at h
  exact h
theorem take_any_at {α : Type} {p : α → Bool} {xs : List α} {k j : Nat} (hk : k ≤ xs.length) (h0 : (xs.take k).any p = false) (hj : j < k) : p (xs[j]'(by omega)) = false := by
  have := List.any_eq_false.1 h0 (xs[j]'(by omega)) (List.mem_take_iff_getElem.2 ⟨j, by omega, rfl⟩)
  simpa using this

set_option maxRecDepth 100000 in
set_option maxHeartbeats 400000 in
theorem IndexFuncN (A : Option Addr) (c : Nat) (ns : List Nd) (g : Nat) (caps : Array Value) (p : Nd → Bool) (w : World) (hr : Rd w w.heap.size 3 A ns.length (ndsC ns)) (hl : ns.length ≤ 1000000) (hp : SaysN g caps p w) :
    Calls Tryz.prog 100 #[.slice A ns.length c, .func (.func g) #[] caps] w (FindIdx ns p w) := by
  have Hr := Lib.hid hr
  have Hp := Lib.hid hp
  have eg := hp.enters
  clear hr hp
  go_enter Tryz.func100, Tryz.ntmps100
  go_wp2_with fail
  go_loopw [8] (fun i wr => ∃ k : Nat, k ≤ ns.length ∧ i = .int .i64 k ∧ Hid ((ns.take k).any p = false) ∧ Below w.heap.size w wr) (fun i _ => ns.length - (intOf i).toNat)
  case atStart => exact ⟨0, Nat.zero_le _, rfl, by simp [Hid], Below.refl _ _⟩
  case round =>
    obtain ⟨k, hk, rfl, hall, hbel⟩ := hrel
    by_cases hlt : k < ns.length
    · obtain ⟨b, o, rfl, hB, hc0, hc1, hc2⟩ := (Hr.out.on (Nat.le_refl _) hbel).node hlt
      have Hbel := Lib.hid hbel
      clear hbel
      generalize hx : ns[k] = x at hc0 hc1 hc2
      obtain ⟨s, d, r⟩ := x
      have Hx := Lib.hid hx
      clear hx
      simp only at hc0 hc1 hc2
      have hcall := Hp.out.says wr s d r Hbel.out
      cases hpx : p (s, d, r)
      · rw [hpx] at hcall
        have Hpx := Lib.hid hpx
        have Hcall := Lib.hid hcall
        clear hpx hcall
        go_wp2_with fail
        refine Hcall.out.mono ?_
        rintro e w2 ⟨rfl, hb2⟩
        have Hb2 := Lib.hid hb2
        clear hb2
        go_wp2_with fail
        go_roundw
        case rel => exact ⟨k + 1, by omega, by go_num, by show _ = false; rw [any_take_succ hlt, hall.out, Hx.out, Hpx.out]; rfl, Hbel.out.trans (Hb2.out.mono Hbel.out.size)⟩
        case measure => simp [intOf]; omega
      · rw [hpx] at hcall
        have Hpx := Lib.hid hpx
        have Hcall := Lib.hid hcall
        clear hpx hcall
        go_wp2_with fail
        refine Hcall.out.mono ?_
        rintro e w2 ⟨rfl, hb2⟩
        have Hb2 := Lib.hid hb2
        clear hb2
        go_wp2_with fail
        go_ret
        exact ⟨k, rfl, .inr ⟨k, hlt, rfl, find_at hlt hall.out (by rw [Hx.out]; exact Hpx.out), by rw [Hx.out]; exact Hpx.out, fun j hj => take_any_at hk hall.out hj⟩, Hbel.out.trans (Hb2.out.mono Hbel.out.size)⟩
    · have hkl : k = ns.length := by omega
      have ha := hall.out
      rw [List.take_of_length_le (by omega)] at ha
      have Ha := Lib.hid ha
      clear ha hkl
      go_wp2_with fail
      go_ret
      exact ⟨-1, rfl, .inl ⟨rfl, find_none_take Ha.out⟩, hbel⟩

set_option maxHeartbeats 400000 in
theorem Node1_any (a s : Str) (d r : Int) (pa : Nat) (w : World) (ha : w.cell? ⟨pa, 0, none⟩ = some (sv a)) :
    Calls Tryz.prog 101 #[.agg #[sv s, .int .i64 d, .int .i64 r], .pointer (some ⟨pa, 0, none⟩)] w fun e w' => e = .returned (.bool (s == a)) ∧ Below w.heap.size w w' := by
  have la : pa < w.heap.size := cell_blk ha
  have n1 : ¬ pa = w.heap.size := by omega
  cases hsa : (s == a)
  · have hsa' : ¬ s = a := by simpa using hsa
    go_enter Tryz.func101, Tryz.ntmps101
    go_wp2_with fail
    go_ret
    exact ⟨ret_bool (by simp_all), (Below.refl _ _).alloc (Nat.le_refl _) _⟩
  · have hsa' : s = a := by simpa using hsa
    subst hsa'
    go_enter Tryz.func101, Tryz.ntmps101
    go_wp2_with fail
    go_ret
    exact ⟨ret_bool (by simp_all), (Below.refl _ _).alloc (Nat.le_refl _) _⟩
theorem says_node (a : Str) (pa : Nat) (w : World) (ha : w.cell? ⟨pa, 0, none⟩ = some (sv a)) :
    SaysN 101 #[.pointer (some ⟨pa, 0, none⟩)] (fun n => n.1 == a) w where
  enters := enters_of Tryz.func101 (by kernel_rfl) rfl
  says := fun W s d r h => Node1_any a s d r pa W ((h.cell (p := ⟨pa, 0, none⟩) (cell_blk ha)).trans ha)

/-- The node of a name, if there is one. -/
def nodeOf (ns : List Nd) (s : Str) : Option Nd := ns.find? (fun n => n.1 == s)
def nodeV (o : Option Nd) : Value := .tuple #[ndV (o.getD ([], 0, 0)), .bool o.isSome]
set_option maxRecDepth 100000 in
set_option maxHeartbeats 400000 in
theorem Node_any (An Ae : Option Addr) (ne cn ce : Nat) (ns : List Nd) (s : Str) (w : World) (hr : Rd w w.heap.size 3 An ns.length (ndsC ns)) (hl : ns.length ≤ 1000000) :
    Calls Tryz.prog 75 #[gV An ns.length cn Ae ne ce, sv s] w fun e w' => e = .returned (nodeV (nodeOf ns s)) ∧ Below w.heap.size w w' := by
  have Hr := Lib.hid hr
  clear hr
  go_enter Tryz.func75, Tryz.ntmps75
  go_wp2_with fail
  refine (IndexFuncN An cn ns _ _ (fun n => n.1 == s) _ ?hr hl (says_node s _ _ ?ha)).mono ?_
  case ha => go_simp
  case hr => exact ((((Hr.out.alloc (Nat.le_refl _) _).alloc (by simp) _).alloc (by simp; omega) _)).more (by simp; omega)
  rintro e w2 ⟨r, rfl, ⟨rfl, hnone⟩ | ⟨k, hk, rfl, hsome, _, _⟩, hb2⟩
  · have ⟨hc, hf⟩ := bcell hb2
    have hz := hb2.size
    simp only [World.size_alloc] at hz hc hf
    have c0 : w2.cell? ⟨w.heap.size + 1 + 1, 0, none⟩ = some (sv []) := by rw [hc _ _ (by omega)]; go_simp
    have c1 : w2.cell? ⟨w.heap.size + 1 + 1, 1, none⟩ = some (.int .i64 0) := by rw [hc _ _ (by omega)]; go_simp
    have c2 : w2.cell? ⟨w.heap.size + 1 + 1, 2, none⟩ = some (.int .i64 0) := by rw [hc _ _ (by omega)]; go_simp
    have f0 : w2.frozen? ⟨w.heap.size + 1 + 1, 0, none⟩ = false := by rw [hf _ _ (by omega)]; go_simp
    have f1 : w2.frozen? ⟨w.heap.size + 1 + 1, 1, none⟩ = false := by rw [hf _ _ (by omega)]; go_simp
    have f2 : w2.frozen? ⟨w.heap.size + 1 + 1, 2, none⟩ = false := by rw [hf _ _ (by omega)]; go_simp
    have Hb2 := Lib.hid hb2
    have Hn := Lib.hid hnone
    clear hc hf hb2 hnone
    go_wp2_with fail
    have hB : Below w.heap.size w w2 := below_alloc (Nat.le_refl _) (below_alloc (Nat.le_refl _) (below_alloc (Nat.le_refl _) Hb2.out))
    refine bodyPost_ret (v := .tuple #[ndV ([], 0, 0), .bool false]) ?_ rfl ⟨by rw [show nodeOf ns s = none from Hn.out]; rfl, ((hB.setCell (by simp; omega) _).setCell (by simp; omega) _).setCell (by simp; omega) _⟩
    simp [results, Tryz.results75, go_sem, c0, c1, c2]
  · have ⟨hc, hf⟩ := bcell hb2
    have hz := hb2.size
    simp only [World.size_alloc] at hz hc hf
    have c0 : w2.cell? ⟨w.heap.size + 1 + 1, 0, none⟩ = some (sv []) := by rw [hc _ _ (by omega)]; go_simp
    have c1 : w2.cell? ⟨w.heap.size + 1 + 1, 1, none⟩ = some (.int .i64 0) := by rw [hc _ _ (by omega)]; go_simp
    have c2 : w2.cell? ⟨w.heap.size + 1 + 1, 2, none⟩ = some (.int .i64 0) := by rw [hc _ _ (by omega)]; go_simp
    have f0 : w2.frozen? ⟨w.heap.size + 1 + 1, 0, none⟩ = false := by rw [hf _ _ (by omega)]; go_simp
    have f1 : w2.frozen? ⟨w.heap.size + 1 + 1, 1, none⟩ = false := by rw [hf _ _ (by omega)]; go_simp
    have f2 : w2.frozen? ⟨w.heap.size + 1 + 1, 2, none⟩ = false := by rw [hf _ _ (by omega)]; go_simp
    have g0 : w2.cell? ⟨w.heap.size, 0, none⟩ = some (.slice An ns.length cn) := by rw [hc _ _ (by omega)]; go_simp
    have hB : Below w.heap.size w w2 := below_alloc (Nat.le_refl _) (below_alloc (Nat.le_refl _) (below_alloc (Nat.le_refl _) hb2))
    obtain ⟨b, o, rfl, hB1, hc0, hc1, hc2⟩ := (Hr.out.on (Nat.le_refl _) hB).node hk
    have k1 : (0 : Int) ≤ (k : Int) := by omega
    have k2 : (k : Int) < (ns.length : Int) := by omega
    have k4 : IntKind.i64.wrap (k : Int) = k := IntWalk.i64_in _ (by omega)
    generalize hx : ns[k] = x at hc0 hc1 hc2
    obtain ⟨s', d', r'⟩ := x
    have Hx := Lib.hid hx
    have HB := Lib.hid hB
    have Hn := Lib.hid hsome
    simp only at hc0 hc1 hc2
    clear hc hf hb2 hsome hx hB
    go_wp2_with fail
    refine bodyPost_ret (v := .tuple #[ndV (s', d', r'), .bool true]) ?_ rfl ⟨by rw [show nodeOf ns s = some (s', d', r') from Hn.out.trans (congrArg some Hx.out)]; rfl, ((HB.out.setCell (by simp; omega) _).setCell (by simp; omega) _).setCell (by simp; omega) _⟩
    simp [results, Tryz.results75, go_sem, c0, c1, c2]
def onceS (ss : List Str) : List Str := Lib.compact (sortS ss)
set_option maxHeartbeats 400000 in
theorem once_own (base c : Nat) (A : Option Addr) (ss : List Str) (w : World) (h : w.ownsRow base 9 1 (.slice A ss.length c) ss.length (svs ss)) (hsz : ss.length ≤ 1000000) :
    Calls Tryz.prog 127 #[.slice A ss.length c] w fun e w' => e = .returned (.slice A (onceS ss).length c) ∧ w'.ownsRow base 9 1 (.slice A (onceS ss).length c) (onceS ss).length (svs (onceS ss)) ∧ w.grownBy w' (Value.slice A ss.length c).ownBlock := by
  have H := Lib.hid h
  clear h
  go_enter Tryz.func127, Tryz.ntmps127
  go_wp2_with fail
  refine (sortS_own base c A ss w H.out hsz).mono ?_
  rintro e w2 ⟨rfl, h2, g2⟩
  have H2 := Lib.hid h2
  have G2 := Lib.hid g2
  clear h2 g2
  go_wp2_with fail
  have hl := sortS_len ss
  refine (show Calls Tryz.prog 148 #[.slice A ss.length c] w2 _ from hl ▸ compactS_own base c A (sortS ss) w2 (by rw [hl]; exact H2.out) (by omega)).mono ?_
  rintro e w3 ⟨rfl, h3, g3⟩
  have H3 := Lib.hid h3
  have G3 := Lib.hid g3
  clear h3 g3
  go_wp2_with fail
  go_ret
  exact ⟨rfl, H3.out, G2.out.trans G3.out⟩
end Od
end Go.Proofs.YtanfnejbnmenkaaGreat
end

section
/- The walks of graph.mayNode and graph.May. -/
namespace Go.Proofs.YtanfnejbnmenkaaGreat
open Go.RowKit

namespace Od
def mayN (n : Nd) : Bool := kindS n.1 != 0 && ((n.2.1 == kindS n.1) && (decide (1 ≤ n.2.2) && decide (n.2.2 ≤ 4)))
set_option maxRecDepth 100000 in
set_option maxHeartbeats 4000000 in
theorem mayNode_any (s : Str) (k r : Int) (w : World) (hl : s.length ≤ 140737488355328) : Calls Tryz.prog 74 #[.agg #[sv s, .int .i64 k, .int .i64 r]] w fun e w' => e = .returned (.bool (mayN (s, k, r))) ∧ Below w.heap.size w w' := by
  have hm : mayN (s, k, r) = (kindS s != 0 && ((k == kindS s) && (decide (1 ≤ r) && decide (r ≤ 4)))) := rfl
  have HM := Lib.hid hm
  clear hm
  go_enter Tryz.func74, Tryz.ntmps74
  go_wp2_with fail
  first | (refine wp_named ?_; intro W1 hW) | (refine calls_named ?_; intro W1 hW)
  have B1 : Below w.heap.size w W1 := by rw [hW]; exact (by repeat (first | exact Below.refl _ _ | assumption | refine Below.alloc ?_ (by simp <;> omega) _ | refine Below.setCell ?_ (by simp <;> omega) _ | refine Below.drew ?_))
  have n1 : w.heap.size < W1.heap.size := by rw [hW]; simp <;> omega
  have c0 : W1.cell? ⟨w.heap.size, 0, none⟩ = some (sv s) := by rw [hW]; go_simp
  have c1 : W1.cell? ⟨w.heap.size, 1, none⟩ = some (.int .i64 k) := by rw [hW]; go_simp
  have c2 : W1.cell? ⟨w.heap.size, 2, none⟩ = some (.int .i64 r) := by rw [hW]; go_simp
  clear hW
  have HB := Lib.hid B1
  clear B1
  cases h1 : (kindS s != 0)
  · have H1 := Lib.hid h1
    try go_wp2_with fail
    refine wp_region_held_drew (S := fun w' => Below W1.heap.size W1 w') (by kernel_rfl) (Below.drew (Below.refl _ _)) (fun hHeld => ?_)
    refine tY (i := 0) (v := ?_) rfl ?_ hHeld ?_; rotate_left 1; focus (intro w' hSw; clear hSw; go_simp; try with_reducible rfl)
    (try simp only [Act.put, zn1, zn2, zn3])
    refine tY (i := 1) (v := ?_) rfl ?_ hHeld ?_; rotate_left 1; focus (intro w' hSw; have hCell := fun (b o : Nat) (h : b < W1.heap.size) => hSw.cell (p := ⟨b, o, none⟩) h; clear hSw; go_simp; try with_reducible rfl)
    (try simp only [Act.put, zn1, zn2, zn3])
    refine ready_one (i := 2) rfl (by kernel_rfl) (fun K hK => ?_)
    go_simp
    refine (May_any s _ hl).mono ?_
    rintro e v2 ⟨rfl, hb⟩
    refine hK.out _ _ ?_ (fun hHeld2 => ?_)
    · (try dsimp only); first | exact Below.trans hHeld (Below.mono hb hHeld.size) | exact hHeld | exact Below.drew hHeld | exact (by repeat (first | exact Below.refl _ _ | assumption | refine Below.alloc ?_ (by simp <;> omega) _ | refine Below.setCell ?_ (by simp <;> omega) _ | refine Below.drew ?_))
    clear hK K hHeld; have hHeld := hHeld2; clear hHeld2; (try simp only [Act.put, zn1, zn2, zn3])
    refine tY (i := 3) (v := ?_) rfl ?_ hHeld ?_; rotate_left 1; focus (intro w' hSw; clear hSw; go_simp; try with_reducible rfl)
    (try simp only [Act.put, zn1, zn2, zn3])
    refine tS (i := 4) rfl hHeld ?_; (try simp only [Act.put, zn1, zn2, zn3])
    refine tS (i := 5) rfl hHeld ?_; (try simp only [Act.put, zn1, zn2, zn3])
    refine tS (i := 6) rfl hHeld ?_; (try simp only [Act.put, zn1, zn2, zn3])
    refine tS (i := 7) rfl hHeld ?_; (try simp only [Act.put, zn1, zn2, zn3])
    refine tS (i := 8) rfl hHeld ?_; (try simp only [Act.put, zn1, zn2, zn3])
    refine tS (i := 9) rfl hHeld ?_; (try simp only [Act.put, zn1, zn2, zn3])
    refine tY (i := 10) (v := ?_) rfl ?_ hHeld ?_; rotate_left 1; focus (intro w' hSw; clear hSw; go_simp; try with_reducible rfl)
    (try simp only [Act.put, zn1, zn2, zn3])
    refine tY (i := 11) (v := ?_) rfl ?_ hHeld ?_; rotate_left 1; focus (intro w' hSw; clear hSw; go_simp; try with_reducible rfl)
    (try simp only [Act.put, zn1, zn2, zn3])
    refine tS (i := 12) rfl hHeld ?_; (try simp only [Act.put, zn1, zn2, zn3])
    refine tS (i := 13) rfl hHeld ?_; (try simp only [Act.put, zn1, zn2, zn3])
    refine tS (i := 14) rfl hHeld ?_; (try simp only [Act.put, zn1, zn2, zn3])
    refine tY (i := 15) (v := ?_) rfl ?_ hHeld ?_; rotate_left 1; focus (intro w' hSw; clear hSw; go_simp; try with_reducible rfl)
    (try simp only [Act.put, zn1, zn2, zn3])
    refine tY (i := 16) (v := ?_) rfl ?_ hHeld ?_; rotate_left 1; focus (intro w' hSw; clear hSw; go_simp; try with_reducible rfl)
    (try simp only [Act.put, zn1, zn2, zn3])
    refine tS (i := 17) rfl hHeld ?_; (try simp only [Act.put, zn1, zn2, zn3])
    refine tS (i := 18) rfl hHeld ?_; (try simp only [Act.put, zn1, zn2, zn3])
    refine tS (i := 19) rfl hHeld ?_; (try simp only [Act.put, zn1, zn2, zn3])
    refine tY (i := 20) (v := ?_) rfl ?_ hHeld ?_; rotate_left 1; focus (intro w' hSw; clear hSw; go_simp; try with_reducible rfl)
    (try simp only [Act.put, zn1, zn2, zn3])
    refine tY (i := 21) (v := ?_) rfl ?_ hHeld ?_; rotate_left 1; focus (intro w' hSw; clear hSw; go_simp; try with_reducible rfl)
    (try simp only [Act.put, zn1, zn2, zn3])
    refine wpAnyH_done (by kernel_rfl) ?_ _
    go_wp2_with fail
    go_ret
    exact ⟨ret_bool (by rw [HM.out]; simp [H1.out]), lift HB.out hHeld⟩
  · have H1 := Lib.hid h1
    cases h2 : (k == kindS s)
    · have H2 := Lib.hid h2
      try go_wp2_with fail
      refine wp_region_held_drew (S := fun w' => Below W1.heap.size W1 w') (by kernel_rfl) (Below.drew (Below.refl _ _)) (fun hHeld => ?_)
      refine tY (i := 0) (v := ?_) rfl ?_ hHeld ?_; rotate_left 1; focus (intro w' hSw; clear hSw; go_simp; try with_reducible rfl)
      (try simp only [Act.put, zn1, zn2, zn3])
      refine tY (i := 1) (v := ?_) rfl ?_ hHeld ?_; rotate_left 1; focus (intro w' hSw; have hCell := fun (b o : Nat) (h : b < W1.heap.size) => hSw.cell (p := ⟨b, o, none⟩) h; clear hSw; go_simp; try with_reducible rfl)
      (try simp only [Act.put, zn1, zn2, zn3])
      refine ready_one (i := 2) rfl (by kernel_rfl) (fun K hK => ?_)
      go_simp
      refine (May_any s _ hl).mono ?_
      rintro e v2 ⟨rfl, hb⟩
      refine hK.out _ _ ?_ (fun hHeld2 => ?_)
      · (try dsimp only); first | exact Below.trans hHeld (Below.mono hb hHeld.size) | exact hHeld | exact Below.drew hHeld | exact (by repeat (first | exact Below.refl _ _ | assumption | refine Below.alloc ?_ (by simp <;> omega) _ | refine Below.setCell ?_ (by simp <;> omega) _ | refine Below.drew ?_))
      clear hK K hHeld; have hHeld := hHeld2; clear hHeld2; (try simp only [Act.put, zn1, zn2, zn3])
      refine tY (i := 3) (v := ?_) rfl ?_ hHeld ?_; rotate_left 1; focus (intro w' hSw; clear hSw; go_simp; try with_reducible rfl)
      (try simp only [Act.put, zn1, zn2, zn3])
      refine tY (i := 4) (v := ?_) rfl ?_ hHeld ?_; rotate_left 1; focus (intro w' hSw; clear hSw; go_simp; try with_reducible rfl)
      (try simp only [Act.put, zn1, zn2, zn3])
      refine tY (i := 5) (v := ?_) rfl ?_ hHeld ?_; rotate_left 1; focus (intro w' hSw; have hCell := fun (b o : Nat) (h : b < W1.heap.size) => hSw.cell (p := ⟨b, o, none⟩) h; clear hSw; go_simp; try with_reducible rfl)
      (try simp only [Act.put, zn1, zn2, zn3])
      refine tY (i := 6) (v := ?_) rfl ?_ hHeld ?_; rotate_left 1; focus (intro w' hSw; clear hSw; go_simp; try with_reducible rfl)
      (try simp only [Act.put, zn1, zn2, zn3])
      refine tY (i := 7) (v := ?_) rfl ?_ hHeld ?_; rotate_left 1; focus (intro w' hSw; have hCell := fun (b o : Nat) (h : b < W1.heap.size) => hSw.cell (p := ⟨b, o, none⟩) h; clear hSw; go_simp; try with_reducible rfl)
      (try simp only [Act.put, zn1, zn2, zn3])
      refine ready_one (i := 8) rfl (by kernel_rfl) (fun K hK => ?_)
      go_simp
      refine (Kind_any s _ hl).mono ?_
      rintro e v3 ⟨rfl, hb⟩
      refine hK.out _ _ ?_ (fun hHeld2 => ?_)
      · (try dsimp only); first | exact Below.trans hHeld (Below.mono hb hHeld.size) | exact hHeld | exact Below.drew hHeld | exact (by repeat (first | exact Below.refl _ _ | assumption | refine Below.alloc ?_ (by simp <;> omega) _ | refine Below.setCell ?_ (by simp <;> omega) _ | refine Below.drew ?_))
      clear hK K hHeld; have hHeld := hHeld2; clear hHeld2; (try simp only [Act.put, zn1, zn2, zn3])
      refine tY (i := 9) (v := ?_) rfl ?_ hHeld ?_; rotate_left 1; focus (intro w' hSw; clear hSw; go_simp; try with_reducible rfl)
      (try simp only [Act.put, zn1, zn2, zn3])
      refine tY (i := 10) (v := ?_) rfl ?_ hHeld ?_; rotate_left 1; focus (intro w' hSw; clear hSw; go_simp; try with_reducible rfl)
      (try simp only [Act.put, zn1, zn2, zn3])
      refine tY (i := 11) (v := ?_) rfl ?_ hHeld ?_; rotate_left 1; focus (intro w' hSw; clear hSw; go_simp; try with_reducible rfl)
      (try simp only [Act.put, zn1, zn2, zn3])
      refine tS (i := 12) rfl hHeld ?_; (try simp only [Act.put, zn1, zn2, zn3])
      refine tS (i := 13) rfl hHeld ?_; (try simp only [Act.put, zn1, zn2, zn3])
      refine tS (i := 14) rfl hHeld ?_; (try simp only [Act.put, zn1, zn2, zn3])
      refine tY (i := 15) (v := ?_) rfl ?_ hHeld ?_; rotate_left 1; focus (intro w' hSw; clear hSw; go_simp; try with_reducible rfl)
      (try simp only [Act.put, zn1, zn2, zn3])
      refine tY (i := 16) (v := ?_) rfl ?_ hHeld ?_; rotate_left 1; focus (intro w' hSw; clear hSw; go_simp; try with_reducible rfl)
      (try simp only [Act.put, zn1, zn2, zn3])
      refine tS (i := 17) rfl hHeld ?_; (try simp only [Act.put, zn1, zn2, zn3])
      refine tS (i := 18) rfl hHeld ?_; (try simp only [Act.put, zn1, zn2, zn3])
      refine tS (i := 19) rfl hHeld ?_; (try simp only [Act.put, zn1, zn2, zn3])
      refine tY (i := 20) (v := ?_) rfl ?_ hHeld ?_; rotate_left 1; focus (intro w' hSw; clear hSw; go_simp; try with_reducible rfl)
      (try simp only [Act.put, zn1, zn2, zn3])
      refine tY (i := 21) (v := ?_) rfl ?_ hHeld ?_; rotate_left 1; focus (intro w' hSw; clear hSw; go_simp; try with_reducible rfl)
      (try simp only [Act.put, zn1, zn2, zn3])
      refine wpAnyH_done (by kernel_rfl) ?_ _
      go_wp2_with fail
      go_ret
      exact ⟨ret_bool (by rw [HM.out]; simp [H1.out, H2.out]), lift HB.out hHeld⟩
    · have H2 := Lib.hid h2
      cases h3 : decide (1 ≤ r)
      · have H3 := Lib.hid h3
        try go_wp2_with fail
        refine wp_region_held_drew (S := fun w' => Below W1.heap.size W1 w') (by kernel_rfl) (Below.drew (Below.refl _ _)) (fun hHeld => ?_)
        refine tY (i := 0) (v := ?_) rfl ?_ hHeld ?_; rotate_left 1; focus (intro w' hSw; clear hSw; go_simp; try with_reducible rfl)
        (try simp only [Act.put, zn1, zn2, zn3])
        refine tY (i := 1) (v := ?_) rfl ?_ hHeld ?_; rotate_left 1; focus (intro w' hSw; have hCell := fun (b o : Nat) (h : b < W1.heap.size) => hSw.cell (p := ⟨b, o, none⟩) h; clear hSw; go_simp; try with_reducible rfl)
        (try simp only [Act.put, zn1, zn2, zn3])
        refine ready_one (i := 2) rfl (by kernel_rfl) (fun K hK => ?_)
        go_simp
        refine (May_any s _ hl).mono ?_
        rintro e v2 ⟨rfl, hb⟩
        refine hK.out _ _ ?_ (fun hHeld2 => ?_)
        · (try dsimp only); first | exact Below.trans hHeld (Below.mono hb hHeld.size) | exact hHeld | exact Below.drew hHeld | exact (by repeat (first | exact Below.refl _ _ | assumption | refine Below.alloc ?_ (by simp <;> omega) _ | refine Below.setCell ?_ (by simp <;> omega) _ | refine Below.drew ?_))
        clear hK K hHeld; have hHeld := hHeld2; clear hHeld2; (try simp only [Act.put, zn1, zn2, zn3])
        refine tY (i := 3) (v := ?_) rfl ?_ hHeld ?_; rotate_left 1; focus (intro w' hSw; clear hSw; go_simp; try with_reducible rfl)
        (try simp only [Act.put, zn1, zn2, zn3])
        refine tY (i := 4) (v := ?_) rfl ?_ hHeld ?_; rotate_left 1; focus (intro w' hSw; clear hSw; go_simp; try with_reducible rfl)
        (try simp only [Act.put, zn1, zn2, zn3])
        refine tY (i := 5) (v := ?_) rfl ?_ hHeld ?_; rotate_left 1; focus (intro w' hSw; have hCell := fun (b o : Nat) (h : b < W1.heap.size) => hSw.cell (p := ⟨b, o, none⟩) h; clear hSw; go_simp; try with_reducible rfl)
        (try simp only [Act.put, zn1, zn2, zn3])
        refine tY (i := 6) (v := ?_) rfl ?_ hHeld ?_; rotate_left 1; focus (intro w' hSw; clear hSw; go_simp; try with_reducible rfl)
        (try simp only [Act.put, zn1, zn2, zn3])
        refine tY (i := 7) (v := ?_) rfl ?_ hHeld ?_; rotate_left 1; focus (intro w' hSw; have hCell := fun (b o : Nat) (h : b < W1.heap.size) => hSw.cell (p := ⟨b, o, none⟩) h; clear hSw; go_simp; try with_reducible rfl)
        (try simp only [Act.put, zn1, zn2, zn3])
        refine ready_one (i := 8) rfl (by kernel_rfl) (fun K hK => ?_)
        go_simp
        refine (Kind_any s _ hl).mono ?_
        rintro e v3 ⟨rfl, hb⟩
        refine hK.out _ _ ?_ (fun hHeld2 => ?_)
        · (try dsimp only); first | exact Below.trans hHeld (Below.mono hb hHeld.size) | exact hHeld | exact Below.drew hHeld | exact (by repeat (first | exact Below.refl _ _ | assumption | refine Below.alloc ?_ (by simp <;> omega) _ | refine Below.setCell ?_ (by simp <;> omega) _ | refine Below.drew ?_))
        clear hK K hHeld; have hHeld := hHeld2; clear hHeld2; (try simp only [Act.put, zn1, zn2, zn3])
        refine tY (i := 9) (v := ?_) rfl ?_ hHeld ?_; rotate_left 1; focus (intro w' hSw; clear hSw; go_simp; try with_reducible rfl)
        (try simp only [Act.put, zn1, zn2, zn3])
        refine tY (i := 10) (v := ?_) rfl ?_ hHeld ?_; rotate_left 1; focus (intro w' hSw; clear hSw; go_simp; try with_reducible rfl)
        (try simp only [Act.put, zn1, zn2, zn3])
        refine tY (i := 11) (v := ?_) rfl ?_ hHeld ?_; rotate_left 1; focus (intro w' hSw; clear hSw; go_simp; try with_reducible rfl)
        (try simp only [Act.put, zn1, zn2, zn3])
        refine tY (i := 12) (v := ?_) rfl ?_ hHeld ?_; rotate_left 1; focus (intro w' hSw; clear hSw; go_simp; try with_reducible rfl)
        (try simp only [Act.put, zn1, zn2, zn3])
        refine tY (i := 13) (v := ?_) rfl ?_ hHeld ?_; rotate_left 1; focus (intro w' hSw; have hCell := fun (b o : Nat) (h : b < W1.heap.size) => hSw.cell (p := ⟨b, o, none⟩) h; clear hSw; go_simp; try with_reducible rfl)
        (try simp only [Act.put, zn1, zn2, zn3])
        refine tY (i := 14) (v := ?_) rfl ?_ hHeld ?_; rotate_left 1; focus (intro w' hSw; clear hSw; go_simp; try with_reducible rfl)
        (try simp only [Act.put, zn1, zn2, zn3])
        refine tY (i := 15) (v := ?_) rfl ?_ hHeld ?_; rotate_left 1; focus (intro w' hSw; clear hSw; go_simp; try with_reducible rfl)
        (try simp only [Act.put, zn1, zn2, zn3])
        refine tY (i := 16) (v := ?_) rfl ?_ hHeld ?_; rotate_left 1; focus (intro w' hSw; clear hSw; go_simp; try with_reducible rfl)
        (try simp only [Act.put, zn1, zn2, zn3])
        refine tS (i := 17) rfl hHeld ?_; (try simp only [Act.put, zn1, zn2, zn3])
        refine tS (i := 18) rfl hHeld ?_; (try simp only [Act.put, zn1, zn2, zn3])
        refine tS (i := 19) rfl hHeld ?_; (try simp only [Act.put, zn1, zn2, zn3])
        refine tY (i := 20) (v := ?_) rfl ?_ hHeld ?_; rotate_left 1; focus (intro w' hSw; clear hSw; go_simp; try with_reducible rfl)
        (try simp only [Act.put, zn1, zn2, zn3])
        refine tY (i := 21) (v := ?_) rfl ?_ hHeld ?_; rotate_left 1; focus (intro w' hSw; clear hSw; go_simp; try with_reducible rfl)
        (try simp only [Act.put, zn1, zn2, zn3])
        refine wpAnyH_done (by kernel_rfl) ?_ _
        go_wp2_with fail
        go_ret
        exact ⟨ret_bool (by rw [HM.out]; simp [H1.out, H2.out, H3.out]), lift HB.out hHeld⟩
      · have H3 := Lib.hid h3
        try go_wp2_with fail
        refine wp_region_held_drew (S := fun w' => Below W1.heap.size W1 w') (by kernel_rfl) (Below.drew (Below.refl _ _)) (fun hHeld => ?_)
        refine tY (i := 0) (v := ?_) rfl ?_ hHeld ?_; rotate_left 1; focus (intro w' hSw; clear hSw; go_simp; try with_reducible rfl)
        (try simp only [Act.put, zn1, zn2, zn3])
        refine tY (i := 1) (v := ?_) rfl ?_ hHeld ?_; rotate_left 1; focus (intro w' hSw; have hCell := fun (b o : Nat) (h : b < W1.heap.size) => hSw.cell (p := ⟨b, o, none⟩) h; clear hSw; go_simp; try with_reducible rfl)
        (try simp only [Act.put, zn1, zn2, zn3])
        refine ready_one (i := 2) rfl (by kernel_rfl) (fun K hK => ?_)
        go_simp
        refine (May_any s _ hl).mono ?_
        rintro e v2 ⟨rfl, hb⟩
        refine hK.out _ _ ?_ (fun hHeld2 => ?_)
        · (try dsimp only); first | exact Below.trans hHeld (Below.mono hb hHeld.size) | exact hHeld | exact Below.drew hHeld | exact (by repeat (first | exact Below.refl _ _ | assumption | refine Below.alloc ?_ (by simp <;> omega) _ | refine Below.setCell ?_ (by simp <;> omega) _ | refine Below.drew ?_))
        clear hK K hHeld; have hHeld := hHeld2; clear hHeld2; (try simp only [Act.put, zn1, zn2, zn3])
        refine tY (i := 3) (v := ?_) rfl ?_ hHeld ?_; rotate_left 1; focus (intro w' hSw; clear hSw; go_simp; try with_reducible rfl)
        (try simp only [Act.put, zn1, zn2, zn3])
        refine tY (i := 4) (v := ?_) rfl ?_ hHeld ?_; rotate_left 1; focus (intro w' hSw; clear hSw; go_simp; try with_reducible rfl)
        (try simp only [Act.put, zn1, zn2, zn3])
        refine tY (i := 5) (v := ?_) rfl ?_ hHeld ?_; rotate_left 1; focus (intro w' hSw; have hCell := fun (b o : Nat) (h : b < W1.heap.size) => hSw.cell (p := ⟨b, o, none⟩) h; clear hSw; go_simp; try with_reducible rfl)
        (try simp only [Act.put, zn1, zn2, zn3])
        refine tY (i := 6) (v := ?_) rfl ?_ hHeld ?_; rotate_left 1; focus (intro w' hSw; clear hSw; go_simp; try with_reducible rfl)
        (try simp only [Act.put, zn1, zn2, zn3])
        refine tY (i := 7) (v := ?_) rfl ?_ hHeld ?_; rotate_left 1; focus (intro w' hSw; have hCell := fun (b o : Nat) (h : b < W1.heap.size) => hSw.cell (p := ⟨b, o, none⟩) h; clear hSw; go_simp; try with_reducible rfl)
        (try simp only [Act.put, zn1, zn2, zn3])
        refine ready_one (i := 8) rfl (by kernel_rfl) (fun K hK => ?_)
        go_simp
        refine (Kind_any s _ hl).mono ?_
        rintro e v3 ⟨rfl, hb⟩
        refine hK.out _ _ ?_ (fun hHeld2 => ?_)
        · (try dsimp only); first | exact Below.trans hHeld (Below.mono hb hHeld.size) | exact hHeld | exact Below.drew hHeld | exact (by repeat (first | exact Below.refl _ _ | assumption | refine Below.alloc ?_ (by simp <;> omega) _ | refine Below.setCell ?_ (by simp <;> omega) _ | refine Below.drew ?_))
        clear hK K hHeld; have hHeld := hHeld2; clear hHeld2; (try simp only [Act.put, zn1, zn2, zn3])
        refine tY (i := 9) (v := ?_) rfl ?_ hHeld ?_; rotate_left 1; focus (intro w' hSw; clear hSw; go_simp; try with_reducible rfl)
        (try simp only [Act.put, zn1, zn2, zn3])
        refine tY (i := 10) (v := ?_) rfl ?_ hHeld ?_; rotate_left 1; focus (intro w' hSw; clear hSw; go_simp; try with_reducible rfl)
        (try simp only [Act.put, zn1, zn2, zn3])
        refine tY (i := 11) (v := ?_) rfl ?_ hHeld ?_; rotate_left 1; focus (intro w' hSw; clear hSw; go_simp; try with_reducible rfl)
        (try simp only [Act.put, zn1, zn2, zn3])
        refine tY (i := 12) (v := ?_) rfl ?_ hHeld ?_; rotate_left 1; focus (intro w' hSw; clear hSw; go_simp; try with_reducible rfl)
        (try simp only [Act.put, zn1, zn2, zn3])
        refine tY (i := 13) (v := ?_) rfl ?_ hHeld ?_; rotate_left 1; focus (intro w' hSw; have hCell := fun (b o : Nat) (h : b < W1.heap.size) => hSw.cell (p := ⟨b, o, none⟩) h; clear hSw; go_simp; try with_reducible rfl)
        (try simp only [Act.put, zn1, zn2, zn3])
        refine tY (i := 14) (v := ?_) rfl ?_ hHeld ?_; rotate_left 1; focus (intro w' hSw; clear hSw; go_simp; try with_reducible rfl)
        (try simp only [Act.put, zn1, zn2, zn3])
        refine tY (i := 15) (v := ?_) rfl ?_ hHeld ?_; rotate_left 1; focus (intro w' hSw; clear hSw; go_simp; try with_reducible rfl)
        (try simp only [Act.put, zn1, zn2, zn3])
        refine tY (i := 16) (v := ?_) rfl ?_ hHeld ?_; rotate_left 1; focus (intro w' hSw; clear hSw; go_simp; try with_reducible rfl)
        (try simp only [Act.put, zn1, zn2, zn3])
        refine tY (i := 17) (v := ?_) rfl ?_ hHeld ?_; rotate_left 1; focus (intro w' hSw; clear hSw; go_simp; try with_reducible rfl)
        (try simp only [Act.put, zn1, zn2, zn3])
        refine tY (i := 18) (v := ?_) rfl ?_ hHeld ?_; rotate_left 1; focus (intro w' hSw; have hCell := fun (b o : Nat) (h : b < W1.heap.size) => hSw.cell (p := ⟨b, o, none⟩) h; clear hSw; go_simp; try with_reducible rfl)
        (try simp only [Act.put, zn1, zn2, zn3])
        refine tY (i := 19) (v := ?_) rfl ?_ hHeld ?_; rotate_left 1; focus (intro w' hSw; clear hSw; go_simp; try with_reducible rfl)
        (try simp only [Act.put, zn1, zn2, zn3])
        refine tY (i := 20) (v := ?_) rfl ?_ hHeld ?_; rotate_left 1; focus (intro w' hSw; clear hSw; go_simp; try with_reducible rfl)
        (try simp only [Act.put, zn1, zn2, zn3])
        refine tY (i := 21) (v := ?_) rfl ?_ hHeld ?_; rotate_left 1; focus (intro w' hSw; clear hSw; go_simp; try with_reducible rfl)
        (try simp only [Act.put, zn1, zn2, zn3])
        refine wpAnyH_done (by kernel_rfl) ?_ _
        go_wp2_with fail
        go_ret
        exact ⟨ret_bool (by rw [HM.out]; simp [H1.out, H2.out, H3.out]), lift HB.out hHeld⟩
/-- May an edge stand in a graph with these nodes? -/
def edgeOk (ns : List Nd) (e : Ed) : Bool := (nodeOf ns e.1).isSome && ((nodeOf ns e.2.1).isSome && (!(e.1 == e.2.1) && (((nodeOf ns e.1).getD ([], 0, 0)).2.2 == 1 && (!decide (e.2.2 < 1) && !decide (10 < e.2.2)))))
def mayG (ns : List Nd) (es : List Ed) : Bool := !decide ((64 : Int) < (ns.length : Int)) && (risesB nodeCmp ns && (risesB edgeCmp es && (ns.all mayN && es.all (edgeOk ns))))
def OkNs (ns : List Nd) : Prop := ∀ n ∈ ns, n.1.length ≤ 140737488355328
theorem all_take_succ {α : Type} {p : α → Bool} {l : List α} {k : Nat} (hk : k < l.length) : (l.take (k + 1)).all p = ((l.take k).all p && p l[k]) := by
  rw [List.take_succ_eq_append_getElem hk, List.all_append]; simp
theorem all_false_at {α : Type} {p : α → Bool} {l : List α} {k : Nat} (hk : k < l.length) (h : p l[k] = false) : l.all p = false := by
  rw [List.all_eq_false]; exact ⟨l[k], List.getElem_mem hk, by simp [h]⟩
set_option maxRecDepth 100000 in
set_option maxHeartbeats 8000000 in
theorem MayG_any (An Ae : Option Addr) (cn ce : Nat) (ns : List Nd) (es : List Ed) (w : World) (hn : Rd w w.heap.size 3 An ns.length (ndsC ns)) (hr : Rd w w.heap.size 3 Ae es.length (edsC es)) (hln : ns.length ≤ 1000000) (hl : es.length ≤ 1000000) (hok : OkNs ns) :
    Calls Tryz.prog 43 #[gV An ns.length cn Ae es.length ce] w fun e w' => e = .returned (.bool (mayG ns es)) ∧ Below w.heap.size w w' := by
  have Hn := Lib.hid hn
  have Hr := Lib.hid hr
  have HO := Lib.hid hok
  have HM := Lib.hid (show mayG ns es = (!decide ((64 : Int) < (ns.length : Int)) && (risesB nodeCmp ns && (risesB edgeCmp es && (ns.all mayN && es.all (edgeOk ns))))) from rfl)
  clear hn hr hok
  by_cases h64 : (64 : Int) < (ns.length : Int)
  · have h1 : decide ((64 : Int) < (ns.length : Int)) = true := by simpa using h64
    have H1 := Lib.hid h1
    go_enter Tryz.func43, Tryz.ntmps43
    go_wp2_with fail
    go_ret
    exact ⟨ret_bool (by rw [HM.out, H1.out]; rfl), (by repeat (first | exact Below.refl _ _ | assumption | refine Below.alloc ?_ (by simp <;> omega) _ | refine Below.setCell ?_ (by simp <;> omega) _ | refine Below.drew ?_))⟩
  · have h1 : decide ((64 : Int) < (ns.length : Int)) = false := by simpa using h64
    have H1 := Lib.hid h1
    go_enter Tryz.func43, Tryz.ntmps43
    go_wp2_with fail
    first | (refine wp_named ?_; intro W1 hW) | (refine calls_named ?_; intro W1 hW)
    have B1 : Below w.heap.size w W1 := by rw [hW]; exact (by repeat (first | exact Below.refl _ _ | assumption | refine Below.alloc ?_ (by simp <;> omega) _ | refine Below.setCell ?_ (by simp <;> omega) _ | refine Below.drew ?_))
    replace Hr := Lib.hid (Hr.out.at B1)
    replace Hn := Lib.hid (Hn.out.at B1)
    have n1 : w.heap.size < W1.heap.size := by rw [hW]; simp <;> omega
    have c0 : W1.cell? ⟨w.heap.size, 0, none⟩ = some (.slice An ns.length cn) := by rw [hW]; go_simp
    have c1 : W1.cell? ⟨w.heap.size, 1, none⟩ = some (.slice Ae es.length ce) := by rw [hW]; go_simp
    clear hW
    have HB := Lib.hid B1
    clear B1
    go_wp2_with fail
    refine (risesN_any _ cn ns W1 Hn.out hln).mono ?_
    rintro e v1 ⟨rfl, hb⟩
    replace c0 := cellAt c0 hb (by omega)
    replace c1 := cellAt c1 hb (by omega)
    replace Hr := Lib.hid (Hr.out.at hb)
    replace Hn := Lib.hid (Hn.out.at hb)
    replace n1 : w.heap.size < v1.heap.size := ltAt n1 hb
    replace HB := Lib.hid (lift HB.out hb)
    clear hb
    cases h2 : risesB nodeCmp ns
    · have H2 := Lib.hid h2
      go_wp2_with fail
      go_ret
      exact ⟨ret_bool (by rw [HM.out, H1.out, H2.out]; simp), HB.out⟩
    · have H2 := Lib.hid h2
      go_wp2_with fail
      refine (risesE_any _ ce es v1 Hr.out hl).mono ?_
      rintro e v2 ⟨rfl, hb⟩
      replace c0 := cellAt c0 hb (by omega)
      replace c1 := cellAt c1 hb (by omega)
      replace Hr := Lib.hid (Hr.out.at hb)
      replace Hn := Lib.hid (Hn.out.at hb)
      replace n1 : w.heap.size < v2.heap.size := ltAt n1 hb
      replace HB := Lib.hid (lift HB.out hb)
      clear hb
      cases h3 : risesB edgeCmp es
      · have H3 := Lib.hid h3
        go_wp2_with fail
        go_ret
        exact ⟨ret_bool (by rw [HM.out, H1.out, H2.out, H3.out]; simp), HB.out⟩
      · have H3 := Lib.hid h3
        go_wp2_with fail
        go_loopw [30] (fun i wr => ∃ k : Nat, k ≤ ns.length ∧ i = .int .i64 k ∧ Hid ((ns.take k).all mayN = true) ∧ Below v2.heap.size v2 wr) (fun i _ => ns.length - (intOf i).toNat)
        case atStart => exact ⟨0, Nat.zero_le _, rfl, by simp [Hid], Below.refl _ _⟩
        case round =>
          obtain ⟨k, hk, rfl, hall, hb⟩ := hrel
          replace c0 := cellAt c0 hb (by omega)
          replace c1 := cellAt c1 hb (by omega)
          replace Hr := Lib.hid (Hr.out.at hb)
          replace Hn := Lib.hid (Hn.out.at hb)
          replace n1 : w.heap.size < wr.heap.size := ltAt n1 hb
          replace HB := Lib.hid (lift HB.out hb)
          have Hb := Lib.hid hb
          clear hb
          by_cases hlt : k < ns.length
          · obtain ⟨b, o, rfl, hB, x0, x1, x2⟩ := Hn.out.node hlt
            have hat := @all_take_succ Nd mayN ns k hlt
            have haf := @all_false_at Nd mayN ns k hlt
            have hlen := HO.out _ (List.getElem_mem hlt)
            generalize ns[k] = p at x0 x1 x2 hat haf hlen
            obtain ⟨s, u, r⟩ := p
            have HA := Lib.hid (And.intro hat haf)
            simp only at x0 x1 x2 hlen
            clear hat haf
            go_wp2_with fail
            first | (refine wp_named ?_; intro W2 hW) | (refine calls_named ?_; intro W2 hW)
            have B2 : Below wr.heap.size wr W2 := by rw [hW]; exact (by repeat (first | exact Below.refl _ _ | assumption | refine Below.alloc ?_ (by simp <;> omega) _ | refine Below.setCell ?_ (by simp <;> omega) _ | refine Below.drew ?_))
            replace c0 := cellAt c0 B2 (by omega)
            replace c1 := cellAt c1 B2 (by omega)
            replace Hr := Lib.hid (Hr.out.at B2)
            replace Hn := Lib.hid (Hn.out.at B2)
            replace n1 : w.heap.size < W2.heap.size := ltAt n1 B2
            replace HB := Lib.hid (lift HB.out B2)
            replace hB := ltAt hB B2
            replace Hb := Lib.hid (lift Hb.out B2)
            clear hW
            refine (mayNode_any s u r W2 hlen).mono ?_
            rintro e v3 ⟨rfl, hb⟩
            replace c0 := cellAt c0 hb (by omega)
            replace c1 := cellAt c1 hb (by omega)
            replace Hr := Lib.hid (Hr.out.at hb)
            replace Hn := Lib.hid (Hn.out.at hb)
            replace n1 : w.heap.size < v3.heap.size := ltAt n1 hb
            replace HB := Lib.hid (lift HB.out hb)
            replace hB := ltAt hB hb
            replace Hb := Lib.hid (lift Hb.out hb)
            clear hb B2
            cases hp : mayN (s, u, r)
            · have HP := Lib.hid (HA.out.2 hp)
              go_wp2_with fail
              go_ret
              exact ⟨ret_bool (by rw [HM.out, H1.out, H2.out, H3.out, HP.out]; simp), HB.out⟩
            · have HP := Lib.hid hp
              go_wp2_with fail
              go_roundw
              case rel => exact ⟨k + 1, by omega, by go_num, by show _ = true; rw [HA.out.1, hall.out, HP.out]; rfl, Hb.out⟩
              case measure => simp [intOf]; omega
          · have hkn : k = ns.length := by omega
            have h4 := hall.out
            rw [hkn, List.take_length] at h4
            have H4 := Lib.hid h4
            obtain ⟨w4, rfl⟩ : ∃ wo : World, wo = wr := ⟨_, rfl⟩
            clear hkn h4 Hb
            go_wp2_with fail
            go_loopw [41] (fun i wr => ∃ k : Nat, k ≤ es.length ∧ i = .int .i64 k ∧ Hid ((es.take k).all (edgeOk ns) = true) ∧ Below w4.heap.size w4 wr) (fun i _ => es.length - (intOf i).toNat)
            case atStart => exact ⟨0, Nat.zero_le _, rfl, by simp [Hid], Below.refl _ _⟩
            case round =>
              obtain ⟨k2, hk2, rfl, hall2, hb⟩ := hrel
              replace c0 := cellAt c0 hb (by omega)
              replace c1 := cellAt c1 hb (by omega)
              replace Hr := Lib.hid (Hr.out.at hb)
              replace Hn := Lib.hid (Hn.out.at hb)
              replace n1 : w.heap.size < wr.heap.size := ltAt n1 hb
              replace HB := Lib.hid (lift HB.out hb)
              have Hb := Lib.hid hb
              clear hb
              by_cases hlt2 : k2 < es.length
              · obtain ⟨b, o, rfl, hB, x0, x1, x2⟩ := Hr.out.edge hlt2
                have hat := @all_take_succ Ed (edgeOk ns) es k2 hlt2
                have haf := @all_false_at Ed (edgeOk ns) es k2 hlt2
                generalize es[k2] = p at x0 x1 x2 hat haf
                obtain ⟨s, d, r⟩ := p
                have HA := Lib.hid (And.intro hat haf)
                simp only at x0 x1 x2
                have hek : edgeOk ns (s, d, r) = ((nodeOf ns s).isSome && ((nodeOf ns d).isSome && (!(s == d) && (((nodeOf ns s).getD ([], 0, 0)).2.2 == 1 && (!decide (r < 1) && !decide (10 < r)))))) := rfl
                have HE := Lib.hid hek
                clear hat haf hek
                go_wp2_with fail
                first | (refine wp_named ?_; intro W2 hW) | (refine calls_named ?_; intro W2 hW)
                have B2 : Below wr.heap.size wr W2 := by rw [hW]; exact (by repeat (first | exact Below.refl _ _ | assumption | refine Below.alloc ?_ (by simp <;> omega) _ | refine Below.setCell ?_ (by simp <;> omega) _ | refine Below.drew ?_))
                replace c0 := cellAt c0 B2 (by omega)
                replace c1 := cellAt c1 B2 (by omega)
                replace Hr := Lib.hid (Hr.out.at B2)
                replace Hn := Lib.hid (Hn.out.at B2)
                replace n1 : w.heap.size < W2.heap.size := ltAt n1 B2
                replace HB := Lib.hid (lift HB.out B2)
                replace Hb := Lib.hid (lift Hb.out B2)
                have m1 : wr.heap.size < W2.heap.size := by rw [hW]; simp <;> omega
                have e0 : W2.cell? ⟨wr.heap.size, 0, none⟩ = some (sv s) := by rw [hW]; go_simp
                have e1 : W2.cell? ⟨wr.heap.size, 1, none⟩ = some (sv d) := by rw [hW]; go_simp
                have e2 : W2.cell? ⟨wr.heap.size, 2, none⟩ = some (.int .i64 r) := by rw [hW]; go_simp
                clear hW
                clear B2
                refine (Node_any _ _ es.length cn ce ns s W2 Hn.out hln).mono ?_
                rintro e v3 ⟨rfl, hb⟩
                replace c0 := cellAt c0 hb (by omega)
                replace c1 := cellAt c1 hb (by omega)
                replace e0 := cellAt e0 hb (by omega)
                replace e1 := cellAt e1 hb (by omega)
                replace e2 := cellAt e2 hb (by omega)
                replace Hr := Lib.hid (Hr.out.at hb)
                replace Hn := Lib.hid (Hn.out.at hb)
                replace n1 : w.heap.size < v3.heap.size := ltAt n1 hb
                replace HB := Lib.hid (lift HB.out hb)
                replace Hb := Lib.hid (lift Hb.out hb)
                replace m1 : wr.heap.size < v3.heap.size := ltAt m1 hb
                clear hb
                unfold nodeV
                generalize ho1 : nodeOf ns s = o1 at *
                generalize hn1 : o1.getD ([], 0, 0) = nd1
                obtain ⟨nm, kd, st⟩ := nd1
                have HN1 := Lib.hid (And.intro ho1 hn1)
                clear ho1 hn1
                go_wp2_with fail
                first | (refine wp_named ?_; intro W4 hW) | (refine calls_named ?_; intro W4 hW)
                have B4 : Below v3.heap.size v3 W4 := by rw [hW]; exact (by repeat (first | exact Below.refl _ _ | assumption | refine Below.alloc ?_ (by simp <;> omega) _ | refine Below.setCell ?_ (by simp <;> omega) _ | refine Below.drew ?_))
                replace c0 := cellAt c0 B4 (by omega)
                replace c1 := cellAt c1 B4 (by omega)
                replace e0 := cellAt e0 B4 (by omega)
                replace e1 := cellAt e1 B4 (by omega)
                replace e2 := cellAt e2 B4 (by omega)
                replace Hr := Lib.hid (Hr.out.at B4)
                replace Hn := Lib.hid (Hn.out.at B4)
                replace n1 : w.heap.size < W4.heap.size := ltAt n1 B4
                replace HB := Lib.hid (lift HB.out B4)
                replace Hb := Lib.hid (lift Hb.out B4)
                replace m1 : wr.heap.size < W4.heap.size := ltAt m1 B4
                have m4 : v3.heap.size < W4.heap.size := by rw [hW]; simp <;> omega
                have f0 : W4.cell? ⟨v3.heap.size, 0, none⟩ = some (sv nm) := by rw [hW]; go_simp
                have f1 : W4.cell? ⟨v3.heap.size, 1, none⟩ = some (.int .i64 kd) := by rw [hW]; go_simp
                have f2 : W4.cell? ⟨v3.heap.size, 2, none⟩ = some (.int .i64 st) := by rw [hW]; go_simp
                clear hW
                clear B4
                refine (Node_any _ _ es.length cn ce ns d W4 Hn.out hln).mono ?_
                rintro e v5 ⟨rfl, hb⟩
                replace c0 := cellAt c0 hb (by omega)
                replace c1 := cellAt c1 hb (by omega)
                replace e0 := cellAt e0 hb (by omega)
                replace e1 := cellAt e1 hb (by omega)
                replace e2 := cellAt e2 hb (by omega)
                replace f0 := cellAt f0 hb (by omega)
                replace f1 := cellAt f1 hb (by omega)
                replace f2 := cellAt f2 hb (by omega)
                replace Hr := Lib.hid (Hr.out.at hb)
                replace Hn := Lib.hid (Hn.out.at hb)
                replace n1 : w.heap.size < v5.heap.size := ltAt n1 hb
                replace HB := Lib.hid (lift HB.out hb)
                replace Hb := Lib.hid (lift Hb.out hb)
                replace m1 : wr.heap.size < v5.heap.size := ltAt m1 hb
                replace m4 : v3.heap.size < v5.heap.size := ltAt m4 hb
                clear hb
                unfold nodeV
                generalize ho2 : nodeOf ns d = o2 at *
                have HN2 := Lib.hid ho2
                clear ho2
                cases k1 : o1.isSome
                · have K1 := Lib.hid k1
                  have hno : edgeOk ns (s, d, r) = false := by rw [HE.out, K1.out]; simp
                  have HNo := Lib.hid (HA.out.2 hno)
                  clear hno
                  go_wp2_with fail
                  go_ret
                  exact ⟨ret_bool (by rw [HM.out, H1.out, H2.out, H3.out, H4.out, HNo.out]; rfl), HB.out.alloc HB.out.size _⟩
                · have K1 := Lib.hid k1
                  cases k2' : o2.isSome
                  · have K2 := Lib.hid k2'
                    have hno : edgeOk ns (s, d, r) = false := by rw [HE.out, K2.out]; simp
                    have HNo := Lib.hid (HA.out.2 hno)
                    clear hno
                    go_wp2_with fail
                    go_ret
                    exact ⟨ret_bool (by rw [HM.out, H1.out, H2.out, H3.out, H4.out, HNo.out]; rfl), HB.out.alloc HB.out.size _⟩
                  · have K2 := Lib.hid k2'
                    cases k3 : (s == d)
                    · have K3 := Lib.hid k3
                      cases k4 : (st == 1)
                      · have K4 := Lib.hid k4
                        have k4' : (st != 1) = true := by rw [bne, k4]; rfl
                        have hno : edgeOk ns (s, d, r) = false := by rw [HE.out, HN1.out.2, K4.out]; simp
                        have HNo := Lib.hid (HA.out.2 hno)
                        clear hno
                        go_wp2_with fail
                        go_ret
                        exact ⟨ret_bool (by rw [HM.out, H1.out, H2.out, H3.out, H4.out, HNo.out]; rfl), HB.out.alloc HB.out.size _⟩
                      · have K4 := Lib.hid k4
                        have k4' : (st != 1) = false := by rw [bne, k4]; rfl
                        cases k5 : decide (r < 1)
                        · have K5 := Lib.hid k5
                          cases k6 : decide (10 < r)
                          · have K6 := Lib.hid k6
                            have hyes : edgeOk ns (s, d, r) = true := by rw [HE.out, HN1.out.2, K1.out, K2.out, K3.out, K4.out, K5.out, K6.out]; rfl
                            have HY := Lib.hid hyes
                            clear hyes
                            go_wp2_with fail
                            go_roundw
                            case rel => exact ⟨k2 + 1, by omega, by go_num, by show _ = true; rw [HA.out.1, hall2.out, HY.out]; rfl, Hb.out.alloc Hb.out.size _⟩
                            case measure => simp [intOf]; omega
                          · have K6 := Lib.hid k6
                            have p6 : (10 : Int) < r := by simpa using k6
                            have hno : edgeOk ns (s, d, r) = false := by rw [HE.out, K6.out]; simp
                            have HNo := Lib.hid (HA.out.2 hno)
                            clear hno
                            go_wp2_with fail
                            go_ret
                            exact ⟨ret_bool (by rw [HM.out, H1.out, H2.out, H3.out, H4.out, HNo.out]; rfl), HB.out.alloc HB.out.size _⟩
                        · have K5 := Lib.hid k5
                          have p5 : r < (1 : Int) := by simpa using k5
                          have hno : edgeOk ns (s, d, r) = false := by rw [HE.out, K5.out]; simp
                          have HNo := Lib.hid (HA.out.2 hno)
                          clear hno
                          go_wp2_with fail
                          go_ret
                          exact ⟨ret_bool (by rw [HM.out, H1.out, H2.out, H3.out, H4.out, HNo.out]; rfl), HB.out.alloc HB.out.size _⟩
                    · have K3 := Lib.hid k3
                      have hno : edgeOk ns (s, d, r) = false := by rw [HE.out, K3.out]; simp
                      have HNo := Lib.hid (HA.out.2 hno)
                      clear hno
                      go_wp2_with fail
                      go_ret
                      exact ⟨ret_bool (by rw [HM.out, H1.out, H2.out, H3.out, H4.out, HNo.out]; rfl), HB.out.alloc HB.out.size _⟩
              · have hkn2 : k2 = es.length := by omega
                have h5 := hall2.out
                rw [hkn2, List.take_length] at h5
                have H5 := Lib.hid h5
                clear hkn2 h5
                go_wp2_with fail
                go_ret
                exact ⟨ret_bool (by rw [HM.out, H1.out, H2.out, H3.out, H4.out, H5.out]; rfl), HB.out⟩
end Od
end Go.Proofs.YtanfnejbnmenkaaGreat
end
