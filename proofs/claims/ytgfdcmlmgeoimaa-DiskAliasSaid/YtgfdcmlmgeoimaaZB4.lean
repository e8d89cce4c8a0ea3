/- My texts, joined for the claim: DKit DKN QOf QName DMath. -/
import Derived.Test.YtgfdcmlmgeoimaaZB2
import Derived.Test.YtgfdcmlmgeoimaaZB3
import Derived.Test.YtgfdcmlmgeoimaaZB0
import Derived.Sort.OwnSorted
import Derived.Laws.Concat
import Derived.RegionTactic

section
/- What Disk needs of older texts, second part: rows of texts. (bel2) -/
namespace Go.Proofs.Ytgfdcmlmgeoimaa
open Go.RowKit Go.Sort
set_option linter.unusedSimpArgs false
namespace Od
set_option maxRecDepth 100000 in
set_option maxHeartbeats 1000000 in
theorem Same_any (A A' : Option Addr) (c c' : Nat) (xs ys : List Str) (w : World) (hr : Rd w w.heap.size 1 A xs.length (svs xs)) (hr' : Rd w w.heap.size 1 A' ys.length (svs ys)) (hb : xs.length ≤ 1000000) :
    Calls Try.prog 9 #[.slice A xs.length c, .slice A' ys.length c'] w fun e w' => e = .returned (.bool (decide (xs = ys))) ∧ Below w.heap.size w w' := by
  have Hr := Lib.hid hr
  have Hr' := Lib.hid hr'
  clear hr hr'
  by_cases hl : xs.length = ys.length
  · have Hl := Lib.hid hl
    have hl1 : ((xs.length : Int) != (ys.length : Int)) = false := by simp [hl]
    clear hl
    go_enter Try.func9, Try.ntmps9
    go_wp2_with fail
    go_loopw [13] (fun i wr => ∃ k : Nat, k ≤ xs.length ∧ i = .int .i64 k ∧ Hid (∀ j (h1 : j < xs.length) (h2 : j < ys.length), j < k → xs[j] = ys[j]) ∧ Below w.heap.size w wr) (fun i _ => xs.length - (intOf i).toNat)
    case atStart => exact ⟨0, Nat.zero_le _, rfl, fun _ _ _ h => absurd h (by omega), Below.refl _ _⟩
    case round =>
      obtain ⟨k, hk, rfl, hall, hbel⟩ := hrel
      have Hbel := Lib.hid hbel
      by_cases hlt : k < xs.length
      · have hlt' : k < ys.length := by have := Hl.out; omega
        obtain ⟨b, o, rfl, hB, hcell⟩ := (Hr.out.on (Nat.le_refl _) hbel).str hlt
        obtain ⟨b', o', rfl, hB', hcell'⟩ := (Hr'.out.on (Nat.le_refl _) hbel).str hlt'
        generalize hx : xs[k] = x at hcell
        generalize hy : ys[k] = y at hcell'
        have Hx := Lib.hid hx
        have Hy := Lib.hid hy
        have hk0 : (0 : Int) ≤ (k : Int) := by omega
        have hk1 : (k : Int) < (xs.length : Int) := by omega
        have hk2 : (k : Int) < (ys.length : Int) := by omega
        clear hx hy hbel
        cases hne : (x == y)
        · have Hne := Lib.hid hne
          go_wp2
          go_quiet (fail)
          go_wp2
          go_ret
          exact ⟨ret_bool (by
            have hd : xs[k] ≠ ys[k] := by rw [Hx.out, Hy.out]; simpa using Hne.out
            simp [at_ne hlt hlt' hd]), below_drewN Hbel.out _⟩
        · have Hne := Lib.hid hne
          go_wp2
          go_quiet (fail)
          go_wp2
          go_roundw
          case rel => exact ⟨k + 1, by omega, by go_num, fun j h1 h2 h3 => by
            rcases Nat.lt_or_ge j k with h | h
            · exact hall.out j h1 h2 h
            · obtain rfl : j = k := by omega
              rw [Hx.out, Hy.out]; simpa using Hne.out, below_drewN Hbel.out _⟩
          case measure => simp [intOf]; omega
      · go_wp2
        go_ret
        exact ⟨ret_bool (by
          have : xs = ys := eq_of_at Hl.out fun j h1 h2 => hall.out j h1 h2 (by omega)
          simp [this]), Hbel.out⟩
  · have hl1 : ((xs.length : Int) != (ys.length : Int)) = true := by rw [bne_iff_ne]; omega
    have Hl := Lib.hid hl
    clear hl
    go_enter Try.func9, Try.ntmps9
    go_wp2
    go_ret
    exact ⟨ret_bool (by
      have : ¬ xs = ys := fun e => Hl.out (by rw [e])
      simp [this]), Below.refl _ _⟩
def hasB (xs : List Str) (s : Str) : Bool := xs.contains s
theorem hasB_iff (xs : List Str) (s : Str) : hasB xs s = true ↔ s ∈ xs := by unfold hasB; simp
theorem encStr_sv (s : Str) : encStr s = sv s := rfl
def sortS (ss : List Str) : List Str := ss.mergeSort fun x y => decide (x ≤ y)
theorem sortS_len (ss : List Str) : (sortS ss).length = ss.length := by simp [sortS]
theorem sortS_own (base c : Nat) (A : Option Addr) (ss : List Str) (w : World) (h : w.ownsRow base 9 1 (.slice A ss.length c) ss.length (svs ss)) (hsz : ss.length ≤ 1000000) :
    Calls Try.prog 34 #[.slice A ss.length c] w fun e w' => e = .returned (.tuple #[]) ∧ w'.ownsRow base 9 1 (.slice A ss.length c) ss.length (svs (sortS ss)) ∧ w.grownBy w' (Value.slice A ss.length c).ownBlock := by
  rcases h.2 with ⟨hv, hn⟩ | ⟨g, cap, cur, hv, hg, hb, h1, h2, h3, h4⟩
  · have hnil : ss = [] := List.length_eq_zero_iff.1 hn
    subst hnil
    refine (Try.slices_Sort_string_none _ _ _).mono ?_
    rintro e w' ⟨rfl, rfl⟩
    exact ⟨rfl, by simpa [sortS] using h, World.grownBy.refl _ _⟩
  · injection hv with e1 _ e3
    subst e1 e3
    have hgl : g < w.heap.size := (Array.getElem?_eq_some_iff.1 hb).1
    refine (Try.slices_Sort_string g 0 c ss w (holds_of_block hb (by rw [Nat.mul_one] at h4; exact h4)) hgl (by omega)).mono ?_
    rintro e w' ⟨rfl, n, os, rfl⟩
    exact ⟨rfl, ownsRow_sorted (ts := sortS ss) (sortS_len ss) hg hb h1 h2 h3, grownBy_sorted _⟩
theorem take_putCells' (cur : Array Value) (ts us : List Str) (h : (ts ++ us).length ≤ cur.size) : (putCells encStr 0 (ts ++ us).toArray cur).toList.take ts.length = ts.map encStr := by
  have h1 := take_putCells cur (ts ++ us) h
  have h2 := congrArg (List.take ts.length) h1
  rw [List.take_take, Nat.min_eq_left (by simp)] at h2
  rw [h2, List.map_append, List.take_append_of_le_length (by simp), List.take_of_length_le (by simp)]
theorem compact_len_le (ss : List Str) : (Lib.compact ss).length ≤ ss.length := by
  unfold Lib.compact Lib.compactUpTo
  rw [List.length_map]
  exact Nat.le_trans (List.length_filter_le _ _) (by simp)
theorem compactS_own (base c : Nat) (A : Option Addr) (ss : List Str) (w : World) (h : w.ownsRow base 9 1 (.slice A ss.length c) ss.length (svs ss)) (hsz : ss.length ≤ 1000000) :
    Calls Try.prog 35 #[.slice A ss.length c] w fun e w' => e = .returned (.slice A (Lib.compact ss).length c) ∧ w'.ownsRow base 9 1 (.slice A (Lib.compact ss).length c) (Lib.compact ss).length (svs (Lib.compact ss)) ∧ w.grownBy w' (Value.slice A ss.length c).ownBlock := by
  rcases h.2 with ⟨hv, hn⟩ | ⟨g, cap, cur, hv, hg, hb, h1, h2, h3, h4⟩
  · have hnil : ss = [] := List.length_eq_zero_iff.1 hn
    subst hnil
    refine (Try.slices_Compact_string_empty _ _ _).mono ?_
    rintro e w' ⟨rfl, rfl⟩
    exact ⟨rfl, h, World.grownBy.refl _ _⟩
  · injection hv with e1 _ e3
    subst e1 e3
    have hgl : g < w.heap.size := (Array.getElem?_eq_some_iff.1 hb).1
    have hle := compact_len_le ss
    refine (Try.slices_Compact_string g 0 c ss w (holds_of_block hb (by rw [Nat.mul_one] at h4; exact h4)) (by omega) h1).mono ?_
    rintro e w' ⟨rfl, q, rfl⟩
    refine ⟨rfl, ⟨by simp [svs], .inr ⟨g, c, _, rfl, hg, by rw [← grow_empty (putRow _ _ _ _ _)]; exact heap_sorted _ hb, by omega, h2, by simp [putCells, h3], ?_⟩⟩, by rw [← grow_empty (putRow _ _ _ _ _)]; exact grownBy_sorted _⟩
    rw [Nat.mul_one]
    exact take_putCells' cur _ _ (by simp; omega)
def onceS (ss : List Str) : List Str := Lib.compact (sortS ss)
/-- A call hands back a slice of its own that holds these texts. -/
def OwnS (ss : List Str) (w : World) (e : Ending) (w' : World) : Prop := ∃ A c, e = .returned (.slice A ss.length c) ∧ w'.ownsRow w.heap.size 9 1 (.slice A ss.length c) ss.length (svs ss) ∧ Below w.heap.size w w'
theorem sortS_le (ss : List Str) : LE ltS (sortS ss) := by
  have h := List.pairwise_mergeSort (le := fun x y : Str => decide (x ≤ y)) (fun a b c h1 h2 => by
    simp only [decide_eq_true_eq] at *
    exact List.le_trans h1 h2) (fun a b => by
    simp only [Bool.or_eq_true, decide_eq_true_eq]
    exact List.le_total a b) ss
  refine h.imp fun {a b} hab => ?_
  rw [ltS_false]
  exact List.not_lt.2 (by simpa using hab)
theorem mem_sortS {ss : List Str} {s : Str} : s ∈ sortS ss ↔ s ∈ ss := (List.mergeSort_perm _ _).mem_iff
theorem onceS_ss (ss : List Str) : SS ltS (onceS ss) := compact_ss toS (sortS_le ss)
theorem mem_onceS {ss : List Str} {s : Str} : s ∈ onceS ss ↔ s ∈ ss := by unfold onceS; rw [mem_compact, mem_sortS]
theorem onceS_canon (ss : List Str) : onceS ss = canon ltS ss := SS.eq_canon toS (onceS_ss ss) fun _ => mem_onceS
theorem idxOf_zs (ss : List Str) (x : Str) : Lib.containsS (ss.map fun s => (⟨s.toArray⟩ : ByteArray)) ⟨x.toArray⟩ = decide (x ∈ ss) := by
  rw [Bool.eq_iff_iff, Lib.containsS_iff, decide_eq_true_eq, List.mem_map]
  constructor
  · rintro ⟨a, ha, e⟩
    injection e with e
    have : a = x := by simpa using e
    exact this ▸ ha
  · intro h
    exact ⟨x, h, rfl⟩
end Od
end Go.Proofs.Ytgfdcmlmgeoimaa
end

section
/- What stands for NMay where there is no graph. No program. -/
end

section
/- The walks of the reference's names: matinsref1.Letter, Digit, nameByte, Suffix, Of, May. (bel2) -/
namespace Go.Proofs.Ytgfdcmlmgeoimaa
open Go.RowKit
set_option linter.unusedSimpArgs false

namespace Od
def nameB (c : Int) : Bool := letterB c || (digitB c || (c == 58 || (c == 45 || (c == 95 || (c == 46 || c == 92)))))
theorem nameB_ok : ∀ n : Nat, n < 256 → nameB (n : Int) = okB (n : Int) := by decide +kernel
/-! A name's pieces -/
def endS (k : Nat) : Str := 46 :: sufS k
def fitsB (s : Str) (k : Nat) : Bool := decide ((endS k).length < s.length) && s.drop (s.length - (endS k).length) == endS k
def pk (s : Str) : Nat → Int × Str
  | 0 => (0, [])
  | k + 1 => if fitsB s (k + 1) = true then ((k + 1 : Nat), s.take (s.length - (endS (k + 1)).length)) else pk s k
end Od
end Go.Proofs.Ytgfdcmlmgeoimaa
end

section
/- Names as texts: the reference's pieces are the program's. No program. -/
namespace Go.Proofs.Ytgfdcmlmgeoimaa
set_option linter.unusedSimpArgs false
namespace Od
theorem last_split {a b t u : Str} (h : a ++ 46 :: t = b ++ 46 :: u) (ht : (46 : UInt8) ∉ t) (hu : (46 : UInt8) ∉ u) : a = b ∧ t = u := by
  rcases List.append_eq_append_iff.1 h with ⟨c, h1, h2⟩ | ⟨c, h1, h2⟩
  · cases c with
    | nil => simp at h1 h2; exact ⟨h1.symm, h2⟩
    | cons z c =>
      injection h2 with h3 h4
      exact absurd (by rw [h4]; simp) ht
  · cases c with
    | nil => simp at h1 h2; exact ⟨h1, h2.symm⟩
    | cons z c =>
      injection h2 with h3 h4
      exact absurd (by rw [h4]; simp) hu
theorem last_list (s : Str) : (Lib.lastIndexByte ⟨s.toArray⟩ 46 = -1 ∧ (46 : UInt8) ∉ s) ∨ ∃ i, i < s.length ∧ Lib.lastIndexByte ⟨s.toArray⟩ 46 = (i : Nat) ∧ s = s.take i ++ 46 :: s.drop (i + 1) ∧ (46 : UInt8) ∉ s.drop (i + 1) := by
  have hb : ∀ {j : Nat} (hj : j < s.length), (((⟨s.toArray⟩ : ByteArray).data[j]!).toNat : Int) = (s[j].toNat : Int) := by
    intro j hj; simp [hj]
  have h46 : ∀ b : UInt8, ((b.toNat : Int) = 46) ↔ b = 46 := by
    intro b
    constructor
    · intro h
      have : b.toNat = (46 : UInt8).toNat := by simp; omega
      exact UInt8.toNat_inj.1 this
    · intro h; subst h; rfl
  rcases Lib.lastIndexByte_spec ⟨s.toArray⟩ 46 with ⟨h1, h2⟩ | ⟨i, hi, h1, h2, h3⟩
  · refine .inl ⟨h1, fun hm => ?_⟩
    obtain ⟨j, hj, e⟩ := List.mem_iff_getElem.1 hm
    refine h2 j (by simpa [ByteArray.size] using hj) ?_
    rw [hb hj, e]; rfl
  · have hi' : i < s.length := by simpa [ByteArray.size] using hi
    rw [hb hi', h46] at h2
    refine .inr ⟨i, hi', h1, ?_, fun hm => ?_⟩
    · rw [← h2, List.getElem_cons_drop, List.take_append_drop]
    · obtain ⟨j, hj, e⟩ := List.mem_iff_getElem.1 hm
      rw [List.getElem_drop] at e
      have hj' : i + 1 + j < s.length := by rw [List.length_drop] at hj; omega
      refine h3 (i + 1 + j) (by omega) (by simpa [ByteArray.size] using hj') ?_
      rw [hb hj', e]; rfl
theorem sufS_no {k : Nat} (h1 : 1 ≤ k) (h4 : k ≤ 4) : (46 : UInt8) ∉ sufS k := by
  rcases (show k = 1 ∨ k = 2 ∨ k = 3 ∨ k = 4 by omega) with rfl | rfl | rfl | rfl <;> decide
theorem fits_split {s : Str} {k : Nat} (h : fitsB s k = true) : (endS k).length < s.length ∧ s = s.take (s.length - (endS k).length) ++ 46 :: sufS k := by
  unfold fitsB at h
  rw [Bool.and_eq_true, decide_eq_true_eq, beq_iff_eq] at h
  refine ⟨h.1, ?_⟩
  have h2 : s.drop (s.length - (endS k).length) = 46 :: sufS k := h.2
  rw [← h2, List.take_append_drop]
theorem fits_none {s : Str} {k : Nat} (h : (46 : UInt8) ∉ s) : fitsB s k = false := by
  cases hf : fitsB s k
  · rfl
  · exact absurd (by rw [(fits_split hf).2]; simp) h
theorem fits_at {s : Str} {i k : Nat} (h1 : 1 ≤ k) (h4 : k ≤ 4) (hi : i < s.length) (hs : s = s.take i ++ 46 :: s.drop (i + 1)) (hn : (46 : UInt8) ∉ s.drop (i + 1)) : fitsB s k = (decide (0 < i) && decide (sufS k = s.drop (i + 1))) := by
  rw [Bool.eq_iff_iff, Bool.and_eq_true, decide_eq_true_eq, decide_eq_true_eq]
  constructor
  · intro hf
    obtain ⟨h5, h6⟩ := fits_split hf
    obtain ⟨h7, h8⟩ := last_split (hs.symm.trans h6) hn (sufS_no h1 h4)
    refine ⟨?_, h8.symm⟩
    have := congrArg List.length h7
    rw [List.length_take, List.length_take] at this
    omega
  · rintro ⟨h5, h6⟩
    have hl : (endS k).length = s.length - i := by
      show (46 :: sufS k).length = _
      rw [List.length_cons, h6, List.length_drop]; omega
    unfold fitsB
    rw [Bool.and_eq_true, decide_eq_true_eq, beq_iff_eq, hl]
    refine ⟨by omega, ?_⟩
    rw [show s.length - (s.length - i) = i by omega]
    show _ = 46 :: sufS k
    rw [h6]
    have h9 : s[i]'hi = 46 := by
      have h10 : s[i]'hi = (s.take i ++ 46 :: s.drop (i + 1))[i]'(by rw [← hs]; exact hi) := by congr 1
      rw [h10, List.getElem_append_right (by rw [List.length_take]; omega)]
      simp [List.length_take, Nat.min_eq_left (Nat.le_of_lt hi)]
    rw [← h9, List.getElem_cons_drop]
theorem pk_cases (s : Str) : (pk s 4 = (0, []) ∧ ((nameCut s).1 = [] ∨ sufK (nameCut s).2 = 0)) ∨ (pk s 4 = (sufK (nameCut s).2, (nameCut s).1) ∧ sufK (nameCut s).2 ≠ 0) := by
  rcases last_list s with ⟨h1, h2⟩ | ⟨i, hi, h1, h2, h3⟩
  · refine .inl ⟨?_, .inl ?_⟩
    · simp [pk, fits_none h2]
    · unfold nameCut; rw [h1]; rfl
  · have hc : nameCut s = (s.take i, s.drop (i + 1)) := by
      unfold nameCut; rw [h1, if_neg (by omega)]; simp
    have hf : ∀ k, 1 ≤ k → k ≤ 4 → fitsB s k = (decide (0 < i) && decide (sufS k = s.drop (i + 1))) := fun k a b => fits_at a b hi h2 h3
    rw [hc]
    simp only
    have hlen : ∀ k : Nat, sufS k = s.drop (i + 1) → s.take (s.length - (endS k).length) = s.take i := by
      intro k hk
      have hl : (endS k).length = s.length - i := by
        show (46 :: sufS k).length = _
        rw [List.length_cons, hk, List.length_drop]; omega
      rw [hl, show s.length - (s.length - i) = i by omega]
    by_cases h0 : 0 < i
    · have hf' : ∀ k, 1 ≤ k → k ≤ 4 → fitsB s k = decide (sufS k = s.drop (i + 1)) := fun k a b => by rw [hf k a b]; simp [h0]
      have e1 := hf' 1 (by omega) (by omega)
      have e2 := hf' 2 (by omega) (by omega)
      have e3 := hf' 3 (by omega) (by omega)
      have e4 := hf' 4 (by omega) (by omega)
      have l1 := hlen 1
      have l2 := hlen 2
      have l3 := hlen 3
      have l4 := hlen 4
      generalize s.drop (i + 1) = t at *
      unfold sufK
      simp only [pk, Nat.zero_add, Nat.reduceAdd, e1, e2, e3, e4, decide_eq_true_eq]
      by_cases t1 : sufS 1 = t
      · subst t1
        exact .inr ⟨by simp [sufS] at l1 ⊢; exact l1, by simp⟩
      · by_cases t2 : sufS 2 = t
        · subst t2
          exact .inr ⟨by simp [sufS] at l2 ⊢; exact l2, by simp [sufS]⟩
        · by_cases t3 : sufS 3 = t
          · subst t3
            exact .inr ⟨by simp [sufS] at l3 ⊢; exact l3, by simp [sufS]⟩
          · by_cases t4 : sufS 4 = t
            · subst t4
              exact .inr ⟨by simp [sufS] at l4 ⊢; exact l4, by simp [sufS]⟩
            · have u1 : ¬ sufS (1 : Nat) = t := t1
              have u2 : ¬ sufS (2 : Nat) = t := t2
              have u3 : ¬ sufS (3 : Nat) = t := t3
              have u4 : ¬ sufS (4 : Nat) = t := t4
              exact .inl ⟨by rw [if_neg u4, if_neg u3, if_neg u2, if_neg u1], .inr (by rw [if_neg t1, if_neg t2, if_neg t3, if_neg t4])⟩
    · have hf' : ∀ k, 1 ≤ k → k ≤ 4 → fitsB s k = false := fun k a b => by rw [hf k a b]; simp [h0]
      refine .inl ⟨?_, .inl ?_⟩
      · simp [pk, hf' 1, hf' 2, hf' 3, hf' 4]
      · have : i = 0 := by omega
        rw [this]; rfl
/-- A name's pieces: its kind (0: it may not be), its prefix, its instance, whether there is an at. -/
def ofS (s : Str) : Int × Str × Str × Bool :=
  if 60 < s.length ∨ (pk s 4).1 = 0 ∨ (atCut (pk s 4).2).1 = [] ∨ allB nameB ((atCut (pk s 4).2).1 ++ (atCut (pk s 4).2).2) = false then (0, [], [], false)
  else ((pk s 4).1, (atCut (pk s 4).2).1, (atCut (pk s 4).2).2, decide (0 ≤ Lib.indexByte (pk s 4).2 64))
theorem allB_name (s : Str) : allB nameB s = allB okB s := by
  unfold allB
  refine Bool.eq_iff_iff.2 ?_
  rw [List.all_eq_true, List.all_eq_true]
  have h : ∀ c : UInt8, nameB (c.toNat : Int) = okB (c.toNat : Int) := fun c => nameB_ok _ c.toNat_lt
  simp only [h]
theorem allB_app (p : Int → Bool) (a b : Str) : allB p (a ++ b) = (allB p a && allB p b) := by unfold allB; rw [List.all_append]
theorem ofS_kind (s : Str) : (ofS s).1 = kindS s := by
  unfold ofS kindS badName
  rw [allB_name, allB_app]
  rcases pk_cases s with ⟨h1, h2⟩ | ⟨h1, h2⟩
  · rw [h1, if_pos (.inr (.inl rfl))]
    rcases h2 with h2 | h2
    · rw [h2]; simp [atCut, Lib.indexByte]
    · rw [h2]; simp
  · rw [h1]
    simp only
    by_cases c1 : 60 < s.length
    · rw [if_pos (.inl c1), if_pos (by simp; omega)]
    · by_cases c2 : (atCut (nameCut s).1).1 = []
      · rw [if_pos (.inr (.inr (.inl c2))), if_pos (by simp [c2])]
      · cases c3 : allB okB (atCut (nameCut s).1).1
        · rw [if_pos (by simp), if_pos (by simp)]
        · cases c4 : allB okB (atCut (nameCut s).1).2
          · rw [if_pos (by simp), if_pos (by simp)]
          · rw [if_neg (by simp [c2, h2]; omega), if_neg (by simp [c2]; omega)]
end Od
end Go.Proofs.Ytgfdcmlmgeoimaa
end

section
/- Files in places as data: paths in pieces, which files may be, what a name has, what is laid over it, whom links name. No program. -/
namespace Go.Proofs.Ytgfdcmlmgeoimaa
set_option linter.unusedSimpArgs false
namespace Od
/-- A file: its path, its text, its link. -/
abbrev Fl := Str × Str × Str
/-- What is found: its name, its path, whether it is masked, what is laid over it. -/
abbrev Fd := Str × Str × Bool × List Str
def etcS : Str := [101, 116, 99]
def runS : Str := [114, 117, 110]
def libS : Str := [108, 105, 98]
def placesL : List Str := [etcS, runS, libS]
def nullS : Str := [110, 117, 108, 108]
def dropsS : Str := [46, 100]
def wantsS : Str := [46, 119, 97, 110, 116, 115]
def reqsS : Str := [46, 114, 101, 113, 117, 105, 114, 101, 115]
def confS : Str := [46, 99, 111, 110, 102]
/-- A text up to a byte, and behind it. -/
def cutR (c : UInt8) : Str → Option (Str × Str)
  | [] => none
  | x :: s => if x = c then some ([], s) else (cutR c s).map fun p => (x :: p.1, p.2)
theorem cutR_none {c : UInt8} : ∀ {s : Str}, cutR c s = none ↔ c ∉ s
  | [] => by simp [cutR]
  | x :: s => by
    unfold cutR
    by_cases h : x = c
    · simp [h]
    · rw [if_neg h, Option.map_eq_none_iff, cutR_none (s := s), List.mem_cons]
      exact ⟨fun a b => b.elim (fun e => h e.symm) a, fun a b => a (.inr b)⟩
theorem cutR_some {c : UInt8} {a b : Str} : ∀ {s : Str}, cutR c s = some (a, b) ↔ s = a ++ c :: b ∧ c ∉ a
  | [] => by simp [cutR]
  | x :: s => by
    unfold cutR
    by_cases h : x = c
    · subst h
      rw [if_pos rfl]
      constructor
      · intro e
        injection e with e
        injection e with e1 e2
        subst e1; subst e2
        simp
      · rintro ⟨e, hn⟩
        cases a with
        | nil => simp only [List.nil_append] at e; injection e with _ e; rw [e]
        | cons y a => simp only [List.cons_append] at e; injection e with e _; exact absurd (List.mem_cons.2 (.inl e)) hn
    · rw [if_neg h, Option.map_eq_some_iff]
      constructor
      · rintro ⟨⟨p, q⟩, hp, e⟩
        obtain ⟨h1, h2⟩ := cutR_some.1 hp
        simp only at e
        injection e with e1 e2
        subst e1; subst e2
        exact ⟨by rw [h1]; rfl, fun hm => (List.mem_cons.1 hm).elim (fun e => h e.symm) h2⟩
      · rintro ⟨e, hn⟩
        cases a with
        | nil => simp only [List.nil_append] at e; injection e with e _; exact absurd e h
        | cons y a =>
          simp only [List.cons_append] at e
          injection e with e1 e2
          subst e1
          exact ⟨(a, b), cutR_some.2 ⟨e2, fun hm => hn (List.mem_cons_of_mem _ hm)⟩, rfl⟩
theorem cutR_at {c : UInt8} {a b : Str} (h : c ∉ a) : cutR c (a ++ c :: b) = some (a, b) := cutR_some.2 ⟨rfl, h⟩
/-- A text without what it ends in. -/
def endsW (s e : Str) : Option Str := if e.length < s.length ∧ s.drop (s.length - e.length) = e then some (s.take (s.length - e.length)) else none
theorem endsW_some {s e u : Str} : endsW s e = some u ↔ s = u ++ e ∧ u ≠ [] := by
  unfold endsW
  by_cases h : e.length < s.length ∧ s.drop (s.length - e.length) = e
  · rw [if_pos h]
    constructor
    · intro x
      injection x with x
      subst x
      refine ⟨by conv => lhs; rw [← List.take_append_drop (s.length - e.length) s, h.2], fun h0 => ?_⟩
      have := congrArg List.length h0
      rw [List.length_take, List.length_nil] at this
      omega
    · rintro ⟨rfl, hu⟩
      simp
  · rw [if_neg h]
    constructor
    · intro x; cases x
    · rintro ⟨rfl, hu⟩
      refine absurd ⟨?_, ?_⟩ h
      · have := List.length_pos_iff.2 hu
        rw [List.length_append]; omega
      · simp
/-- A name as the document has it: a template's, an instance's. -/
def tmplS (s : Str) : Bool := (ofS s).2.2.2 && (ofS s).2.2.1 == ([] : Str)
def instS (s : Str) : Bool := (ofS s).2.2.2 && !((ofS s).2.2.1 == ([] : Str))
def makeS (c : Int × Str × Str × Bool) : Str := if c.2.2.2 then c.2.1 ++ 64 :: (c.2.2.1 ++ 46 :: sufS c.1) else c.2.1 ++ 46 :: sufS c.1
def templS (s : Str) : Str := if instS s then makeS ((ofS s).1, (ofS s).2.1, [], true) else []
def instOf (t i : Str) : Str × Bool :=
  if !tmplS t || i == ([] : Str) then ([], false)
  else if ofS (makeS ((ofS t).1, (ofS t).2.1, i, true)) = ((ofS t).1, (ofS t).2.1, i, true) then (makeS ((ofS t).1, (ofS t).2.1, i, true), true) else ([], false)
/-- A folder's name: of which unit, of which kind (1: texts laid over it, 2: wants, 3: requires). -/
def okU (o : Option Str) : Option Str := o.filter (fun u => kindS u != 0)
def foldS (h : Str) : Option (Nat × Str) :=
  match okU (endsW h dropsS) with
  | some u => some (1, u)
  | none => match okU (endsW h wantsS) with
    | some u => some (2, u)
    | none => (okU (endsW h reqsS)).map fun u => (3, u)
def dropB (c : Int) : Bool := letterB c || (digitB c || (c == 45 || c == 95))
def dropN (x : Str) : Bool := !(x == ([] : Str)) && (!decide (20 < x.length) && allB dropB x)
/-- A path in pieces: its kind (0: it is none), its place, whose, what. -/
abbrev Wy := Nat × Str × Str × Str
def way0 : Wy := (0, [], [], [])
def wayF (k : Nat) (p u f : Str) : Wy :=
  if k = 1 then match endsW f confS with
    | some x => if dropN x then (2, p, u, x) else way0
    | none => way0
  else if kindS f != 0 && !tmplS f then (k + 1, p, u, f) else way0
def wayS (s : Str) : Wy :=
  match cutR 47 s with
  | none => way0
  | some (p, r) => if p ∈ placesL then
      match cutR 47 r with
      | none => if kindS r != 0 then (1, p, r, []) else way0
      | some (h, f) => match foldS h with
        | none => way0
        | some (k, u) => wayF k p u f
    else way0
/-- May a file be? -/
def mayW (w : Wy) (t l : Str) : Bool :=
  !(!(t == ([] : Str)) && !(l == ([] : Str))) &&
    (if w.1 = 1 then l == ([] : Str) || (l == nullS || (kindS l == kindS w.2.2.1 && tmplS w.2.2.1 == tmplS l))
     else if w.1 = 2 then l == ([] : Str)
     else if w.1 = 3 ∨ w.1 = 4 then kindS l != 0
     else false)
def mayF (f : Fl) : Bool := !decide (20000 < f.2.1.length) && mayW (wayS f.1) f.2.1 f.2.2
theorem mayW_zero (t l : Str) : mayW way0 t l = false := by unfold mayW; cases (!(!(t == ([] : Str)) && !(l == ([] : Str)))) <;> rfl
def mayFs (fs : List Fl) : Bool := decide (fs.length ≤ 120) && (fs.all mayF && decide ((fs.map (·.1)).Nodup))
/-- The file of a path; of the first place that has a name. -/
def atF (fs : List Fl) (p : Str) : Option Fl := fs.find? (fun f => f.1 == p)
def pathU (p u : Str) : Str := p ++ 47 :: u
def firstF (fs : List Fl) (u : Str) : Option Fl := placesL.findSome? (fun p => atF fs (pathU p u))
/-- A name's own file, or its template's; whether it is its own. -/
def ownedF (fs : List Fl) (n : Str) : Option (Fl × Bool) :=
  match firstF fs n with
  | some f => some (f, true)
  | none => if instS n then (firstF fs (templS n)).map fun f => (f, false) else none
def foldersF (u : Str) : List Str := u :: (if instS u then [templS u] else [])
def pathX (p u x : Str) : Str := p ++ 47 :: (u ++ dropsS ++ 47 :: (x ++ confS))
def overF (us : List Str) (f : Fl) : Option Str := if (wayS f.1).1 = 2 ∧ (wayS f.1).2.2.1 ∈ us then some (wayS f.1).2.2.2 else none
def bestF (fs : List Fl) (u x : Str) : Str := (((foldersF u).flatMap fun v => placesL.map fun p => pathX p v x).find? fun q => (atF fs q).isSome).getD []
def dropsF (fs : List Fl) (u : Str) : List Str := (canon ltS (fs.filterMap (overF (foldersF u)))).map (bestF fs u)
def found0 : Fd := ([], [], false, [])
/-- One hop: the end, or the next name. -/
inductive Hop where
  | done (x : Fd) (e : Int)
  | next (n : Str)
def hopF (fs : List Fl) (asked : List Str) (n : Str) : Hop :=
  match ownedF fs n with
  | none => .done found0 (if asked.length = 1 then 6 else 17)
  | some (f, own) =>
    if f.2.2 = [] then .done (n, f.1, false, dropsF fs n) 0
    else if f.2.2 = nullS then .done (n, f.1, true, []) 0
    else
      let t := if own then (f.2.2, true) else instOf f.2.2 (ofS n).2.2.1
      if t.2 = false ∨ t.1 ∈ asked ∨ 8 < asked.length then .done found0 17 else .next t.1
def goF (fs : List Fl) : Nat → List Str → Str → Fd × Int
  | 0, _, _ => (found0, 17)
  | k + 1, asked, n => match hopF fs asked n with
    | .done x e => (x, e)
    | .next m => goF fs k (asked ++ [m]) m
def findF (fs : List Fl) (u : Str) : Fd × Int :=
  if mayFs fs = false then (found0, 1) else if kindS u = 0 then (found0, 5) else goF fs 9 [u] u
/-- Whom links name. -/
def linkF (k : Nat) (u : Str) (f : Fl) : Option Str := if (wayS f.1).1 = k ∧ (wayS f.1).2.2.1 = u then some (wayS f.1).2.2.2 else none
def linksF (fs : List Fl) (k : Nat) (u : Str) : List Str := if mayFs fs then canon ltS (fs.filterMap (linkF k u)) else []
end Od
end Go.Proofs.Ytgfdcmlmgeoimaa
end
