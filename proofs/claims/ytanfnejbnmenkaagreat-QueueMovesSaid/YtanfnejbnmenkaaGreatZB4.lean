/- My texts, joined for the claim: QOf QName QOfA QOfW QWords OOut. -/
import Derived.Test.YtanfnejbnmenkaaGreatZB3
import Derived.Laws.Concat
import Derived.RegionTactic
import Derived.BigRegion
import Derived.Test.YtanfnejbnmenkaaGreatZB1

section
/- The walks of the reference's names: matinsref1.Letter, Digit, nameByte, Suffix, Of, May. (bel2) -/
namespace Go.Proofs.YtanfnejbnmenkaaGreat
open Go.RowKit
set_option linter.unusedSimpArgs false

namespace Od
set_option maxHeartbeats 1000000 in
theorem Letter1_any (c : Int) (w : World) : Calls Tryz.prog 115 #[.int .u8 c] w fun e w' => e = .returned (.bool (letterB c)) ∧ w = w' := by
  by_cases h1 : (97 : Int) ≤ c
  · have d1 : decide ((97 : Int) ≤ c) = true := by simpa using h1
    have e3 : decide ((65 : Int) ≤ c) = true := by simp; omega
    by_cases h2 : c ≤ (122 : Int)
    · have d2 : decide (c ≤ (122 : Int)) = true := by simpa using h2
      go_enter Tryz.func115, Tryz.ntmps115
      go_wp2
      go_ret
      exact ⟨ret_bool (by simp [letterB, d1, d2]), rfl⟩
    · have d2 : decide (c ≤ (122 : Int)) = false := by simpa using h2
      have d4 : decide (c ≤ (90 : Int)) = false := by simp; omega
      go_enter Tryz.func115, Tryz.ntmps115
      go_wp2
      go_ret
      exact ⟨ret_bool (by simp [letterB, d1, d2, e3, d4]), rfl⟩
  · have d1 : decide ((97 : Int) ≤ c) = false := by simpa using h1
    by_cases h3 : (65 : Int) ≤ c
    · have d3 : decide ((65 : Int) ≤ c) = true := by simpa using h3
      go_enter Tryz.func115, Tryz.ntmps115
      go_wp2
      go_ret
      exact ⟨ret_bool (by simp [letterB, d1, d3]), rfl⟩
    · have d3 : decide ((65 : Int) ≤ c) = false := by simpa using h3
      go_enter Tryz.func115, Tryz.ntmps115
      go_wp2
      go_ret
      exact ⟨ret_bool (by simp [letterB, d1, d3]), rfl⟩
set_option maxHeartbeats 1000000 in
theorem Digit1_any (c : Int) (w : World) : Calls Tryz.prog 116 #[.int .u8 c] w fun e w' => e = .returned (.bool (digitB c)) ∧ w = w' := by
  by_cases h1 : (48 : Int) ≤ c
  · have d1 : decide ((48 : Int) ≤ c) = true := by simpa using h1
    go_enter Tryz.func116, Tryz.ntmps116
    go_wp2
    go_ret
    exact ⟨ret_bool (by simp [digitB, d1]), rfl⟩
  · have d1 : decide ((48 : Int) ≤ c) = false := by simpa using h1
    go_enter Tryz.func116, Tryz.ntmps116
    go_wp2
    go_ret
    exact ⟨ret_bool (by simp [digitB, d1]), rfl⟩
def nameB (c : Int) : Bool := letterB c || (digitB c || (c == 58 || (c == 45 || (c == 95 || (c == 46 || c == 92)))))
theorem nameB_ok : ∀ n : Nat, n < 256 → nameB (n : Int) = okB (n : Int) := by decide +kernel
set_option maxHeartbeats 2000000 in
theorem nameByte_any (c : Int) (w : World) : Calls Tryz.prog 96 #[.int .u8 c] w fun e w' => e = .returned (.bool (nameB c)) ∧ w = w' := by
  have HM := Lib.hid (show nameB c = (letterB c || (digitB c || (c == 58 || (c == 45 || (c == 95 || (c == 46 || c == 92)))))) from rfl)
  cases h1 : letterB c
  · cases h2 : digitB c
    · cases h3 : (c == 58)
      · cases h4 : (c == 45)
        · cases h5 : (c == 95)
          · cases h6 : (c == 46)
            · cases h7 : (c == 92)
              · go_enter Tryz.func96, Tryz.ntmps96
                go_wp2_with fail
                refine (Letter1_any c w).mono ?_
                rintro e w1 ⟨rfl, rfl⟩
                go_wp2_with fail
                refine (Digit1_any c w).mono ?_
                rintro e w1 ⟨rfl, rfl⟩
                go_wp2_with fail
                go_ret
                exact ⟨ret_bool (by rw [HM.out]; simp [*]), rfl⟩
              · go_enter Tryz.func96, Tryz.ntmps96
                go_wp2_with fail
                refine (Letter1_any c w).mono ?_
                rintro e w1 ⟨rfl, rfl⟩
                go_wp2_with fail
                refine (Digit1_any c w).mono ?_
                rintro e w1 ⟨rfl, rfl⟩
                go_wp2_with fail
                go_ret
                exact ⟨ret_bool (by rw [HM.out]; simp [*]), rfl⟩
            · go_enter Tryz.func96, Tryz.ntmps96
              go_wp2_with fail
              refine (Letter1_any c w).mono ?_
              rintro e w1 ⟨rfl, rfl⟩
              go_wp2_with fail
              refine (Digit1_any c w).mono ?_
              rintro e w1 ⟨rfl, rfl⟩
              go_wp2_with fail
              go_ret
              exact ⟨ret_bool (by rw [HM.out]; simp [*]), rfl⟩
          · go_enter Tryz.func96, Tryz.ntmps96
            go_wp2_with fail
            refine (Letter1_any c w).mono ?_
            rintro e w1 ⟨rfl, rfl⟩
            go_wp2_with fail
            refine (Digit1_any c w).mono ?_
            rintro e w1 ⟨rfl, rfl⟩
            go_wp2_with fail
            go_ret
            exact ⟨ret_bool (by rw [HM.out]; simp [*]), rfl⟩
        · go_enter Tryz.func96, Tryz.ntmps96
          go_wp2_with fail
          refine (Letter1_any c w).mono ?_
          rintro e w1 ⟨rfl, rfl⟩
          go_wp2_with fail
          refine (Digit1_any c w).mono ?_
          rintro e w1 ⟨rfl, rfl⟩
          go_wp2_with fail
          go_ret
          exact ⟨ret_bool (by rw [HM.out]; simp [*]), rfl⟩
      · go_enter Tryz.func96, Tryz.ntmps96
        go_wp2_with fail
        refine (Letter1_any c w).mono ?_
        rintro e w1 ⟨rfl, rfl⟩
        go_wp2_with fail
        refine (Digit1_any c w).mono ?_
        rintro e w1 ⟨rfl, rfl⟩
        go_wp2_with fail
        go_ret
        exact ⟨ret_bool (by rw [HM.out]; simp [*]), rfl⟩
    · go_enter Tryz.func96, Tryz.ntmps96
      go_wp2_with fail
      refine (Letter1_any c w).mono ?_
      rintro e w1 ⟨rfl, rfl⟩
      go_wp2_with fail
      refine (Digit1_any c w).mono ?_
      rintro e w1 ⟨rfl, rfl⟩
      go_wp2_with fail
      go_ret
      exact ⟨ret_bool (by rw [HM.out]; simp [*]), rfl⟩
  · go_enter Tryz.func96, Tryz.ntmps96
    go_wp2_with fail
    refine (Letter1_any c w).mono ?_
    rintro e w1 ⟨rfl, rfl⟩
    go_wp2_with fail
    go_ret
    exact ⟨ret_bool (by rw [HM.out]; simp [*]), rfl⟩
theorem sufS_neg {k : Int} (h1 : ¬ k = 1) (h2 : ¬ k = 2) (h3 : ¬ k = 3) (h4 : ¬ k = 4) : sufS k = [] := by simp [sufS, h1, h2, h3, h4]
set_option maxHeartbeats 1000000 in
theorem Suffix1_any (k : Int) (w : World) (h1 : 1 ≤ k) (h4 : k ≤ 4) : Calls Tryz.prog 95 #[.int .i64 k] w fun e w' => e = .returned (sv (sufS k)) ∧ w = w' := by
  rcases (show k = 1 ∨ k = 2 ∨ k = 3 ∨ k = 4 by omega) with rfl | rfl | rfl | rfl
  · go_enter Tryz.func95, Tryz.ntmps95
    go_wp2
    go_ret
    exact ⟨rfl, rfl⟩
  · go_enter Tryz.func95, Tryz.ntmps95
    go_wp2
    go_ret
    exact ⟨rfl, rfl⟩
  · go_enter Tryz.func95, Tryz.ntmps95
    go_wp2
    go_ret
    exact ⟨rfl, rfl⟩
  · go_enter Tryz.func95, Tryz.ntmps95
    go_wp2
    go_ret
    exact ⟨rfl, rfl⟩
/-! A name's pieces -/
def endS (k : Nat) : Str := 46 :: sufS k
def fitsB (s : Str) (k : Nat) : Bool := decide ((endS k).length < s.length) && s.drop (s.length - (endS k).length) == endS k
def pk (s : Str) : Nat → Int × Str
  | 0 => (0, [])
  | k + 1 => if fitsB s (k + 1) = true then ((k + 1 : Nat), s.take (s.length - (endS (k + 1)).length)) else pk s k
end Od
end Go.Proofs.YtanfnejbnmenkaaGreat
end

section
/- Names as texts: the reference's pieces are the program's. No program. -/
namespace Go.Proofs.YtanfnejbnmenkaaGreat
set_option linter.unusedSimpArgs false
namespace Od
theorem last_split {a b t u : Str} (h : a ++ 46 :: t = b ++ 46 :: u) (ht : (46 : UInt8) ∉ t) (hu : (46 : UInt8) ∉ u) : a = b ∧ t = u := by
  rcases List.append_eq_append_iff.1 h with ⟨c, h1, h2⟩ | ⟨c, h1, h2⟩
  · cases c with
    | nil => simp at h1 h2; exact ⟨h1.symm, h2⟩
    | cons z c =>
      injection h2 with h3 h4
      exact absurd (by rw [h4]; simp) ht
  · cases c with
    | nil => simp at h1 h2; exact ⟨h1, h2.symm⟩
    | cons z c =>
      injection h2 with h3 h4
      exact absurd (by rw [h4]; simp) hu
theorem last_list (s : Str) : (Lib.lastIndexByte ⟨s.toArray⟩ 46 = -1 ∧ (46 : UInt8) ∉ s) ∨ ∃ i, i < s.length ∧ Lib.lastIndexByte ⟨s.toArray⟩ 46 = (i : Nat) ∧ s = s.take i ++ 46 :: s.drop (i + 1) ∧ (46 : UInt8) ∉ s.drop (i + 1) := by
  have hb : ∀ {j : Nat} (hj : j < s.length), (((⟨s.toArray⟩ : ByteArray).data[j]!).toNat : Int) = (s[j].toNat : Int) := by
    intro j hj; simp [hj]
  have h46 : ∀ b : UInt8, ((b.toNat : Int) = 46) ↔ b = 46 := by
    intro b
    constructor
    · intro h
      have : b.toNat = (46 : UInt8).toNat := by simp; omega
      exact UInt8.toNat_inj.1 this
    · intro h; subst h; rfl
  rcases Lib.lastIndexByte_spec ⟨s.toArray⟩ 46 with ⟨h1, h2⟩ | ⟨i, hi, h1, h2, h3⟩
  · refine .inl ⟨h1, fun hm => ?_⟩
    obtain ⟨j, hj, e⟩ := List.mem_iff_getElem.1 hm
    refine h2 j (by simpa [ByteArray.size] using hj) ?_
    rw [hb hj, e]; rfl
  · have hi' : i < s.length := by simpa [ByteArray.size] using hi
    rw [hb hi', h46] at h2
    refine .inr ⟨i, hi', h1, ?_, fun hm => ?_⟩
    · rw [← h2, List.getElem_cons_drop, List.take_append_drop]
    · obtain ⟨j, hj, e⟩ := List.mem_iff_getElem.1 hm
      rw [List.getElem_drop] at e
      have hj' : i + 1 + j < s.length := by rw [List.length_drop] at hj; omega
      refine h3 (i + 1 + j) (by omega) (by simpa [ByteArray.size] using hj') ?_
      rw [hb hj', e]; rfl
theorem sufS_no {k : Nat} (h1 : 1 ≤ k) (h4 : k ≤ 4) : (46 : UInt8) ∉ sufS k := by
  rcases (show k = 1 ∨ k = 2 ∨ k = 3 ∨ k = 4 by omega) with rfl | rfl | rfl | rfl <;> decide
theorem fits_split {s : Str} {k : Nat} (h : fitsB s k = true) : (endS k).length < s.length ∧ s = s.take (s.length - (endS k).length) ++ 46 :: sufS k := by
  unfold fitsB at h
  rw [Bool.and_eq_true, decide_eq_true_eq, beq_iff_eq] at h
  refine ⟨h.1, ?_⟩
  have h2 : s.drop (s.length - (endS k).length) = 46 :: sufS k := h.2
  rw [← h2, List.take_append_drop]
theorem fits_none {s : Str} {k : Nat} (h : (46 : UInt8) ∉ s) : fitsB s k = false := by
  cases hf : fitsB s k
  · rfl
  · exact absurd (by rw [(fits_split hf).2]; simp) h
theorem fits_at {s : Str} {i k : Nat} (h1 : 1 ≤ k) (h4 : k ≤ 4) (hi : i < s.length) (hs : s = s.take i ++ 46 :: s.drop (i + 1)) (hn : (46 : UInt8) ∉ s.drop (i + 1)) : fitsB s k = (decide (0 < i) && decide (sufS k = s.drop (i + 1))) := by
  rw [Bool.eq_iff_iff, Bool.and_eq_true, decide_eq_true_eq, decide_eq_true_eq]
  constructor
  · intro hf
    obtain ⟨h5, h6⟩ := fits_split hf
    obtain ⟨h7, h8⟩ := last_split (hs.symm.trans h6) hn (sufS_no h1 h4)
    refine ⟨?_, h8.symm⟩
    have := congrArg List.length h7
    rw [List.length_take, List.length_take] at this
    omega
  · rintro ⟨h5, h6⟩
    have hl : (endS k).length = s.length - i := by
      show (46 :: sufS k).length = _
      rw [List.length_cons, h6, List.length_drop]; omega
    unfold fitsB
    rw [Bool.and_eq_true, decide_eq_true_eq, beq_iff_eq, hl]
    refine ⟨by omega, ?_⟩
    rw [show s.length - (s.length - i) = i by omega]
    show _ = 46 :: sufS k
    rw [h6]
    have h9 : s[i]'hi = 46 := by
      have h10 : s[i]'hi = (s.take i ++ 46 :: s.drop (i + 1))[i]'(by rw [← hs]; exact hi) := by congr 1
      rw [h10, List.getElem_append_right (by rw [List.length_take]; omega)]
      simp [List.length_take, Nat.min_eq_left (Nat.le_of_lt hi)]
    rw [← h9, List.getElem_cons_drop]
theorem pk_cases (s : Str) : (pk s 4 = (0, []) ∧ ((nameCut s).1 = [] ∨ sufK (nameCut s).2 = 0)) ∨ (pk s 4 = (sufK (nameCut s).2, (nameCut s).1) ∧ sufK (nameCut s).2 ≠ 0) := by
  rcases last_list s with ⟨h1, h2⟩ | ⟨i, hi, h1, h2, h3⟩
  · refine .inl ⟨?_, .inl ?_⟩
    · simp [pk, fits_none h2]
    · unfold nameCut; rw [h1]; rfl
  · have hc : nameCut s = (s.take i, s.drop (i + 1)) := by
      unfold nameCut; rw [h1, if_neg (by omega)]; simp
    have hf : ∀ k, 1 ≤ k → k ≤ 4 → fitsB s k = (decide (0 < i) && decide (sufS k = s.drop (i + 1))) := fun k a b => fits_at a b hi h2 h3
    rw [hc]
    simp only
    have hlen : ∀ k : Nat, sufS k = s.drop (i + 1) → s.take (s.length - (endS k).length) = s.take i := by
      intro k hk
      have hl : (endS k).length = s.length - i := by
        show (46 :: sufS k).length = _
        rw [List.length_cons, hk, List.length_drop]; omega
      rw [hl, show s.length - (s.length - i) = i by omega]
    by_cases h0 : 0 < i
    · have hf' : ∀ k, 1 ≤ k → k ≤ 4 → fitsB s k = decide (sufS k = s.drop (i + 1)) := fun k a b => by rw [hf k a b]; simp [h0]
      have e1 := hf' 1 (by omega) (by omega)
      have e2 := hf' 2 (by omega) (by omega)
      have e3 := hf' 3 (by omega) (by omega)
      have e4 := hf' 4 (by omega) (by omega)
      have l1 := hlen 1
      have l2 := hlen 2
      have l3 := hlen 3
      have l4 := hlen 4
      generalize s.drop (i + 1) = t at *
      unfold sufK
      simp only [pk, Nat.zero_add, Nat.reduceAdd, e1, e2, e3, e4, decide_eq_true_eq]
      by_cases t1 : sufS 1 = t
      · subst t1
        exact .inr ⟨by simp [sufS] at l1 ⊢; exact l1, by simp⟩
      · by_cases t2 : sufS 2 = t
        · subst t2
          exact .inr ⟨by simp [sufS] at l2 ⊢; exact l2, by simp [sufS]⟩
        · by_cases t3 : sufS 3 = t
          · subst t3
            exact .inr ⟨by simp [sufS] at l3 ⊢; exact l3, by simp [sufS]⟩
          · by_cases t4 : sufS 4 = t
            · subst t4
              exact .inr ⟨by simp [sufS] at l4 ⊢; exact l4, by simp [sufS]⟩
            · have u1 : ¬ sufS (1 : Nat) = t := t1
              have u2 : ¬ sufS (2 : Nat) = t := t2
              have u3 : ¬ sufS (3 : Nat) = t := t3
              have u4 : ¬ sufS (4 : Nat) = t := t4
              exact .inl ⟨by rw [if_neg u4, if_neg u3, if_neg u2, if_neg u1], .inr (by rw [if_neg t1, if_neg t2, if_neg t3, if_neg t4])⟩
    · have hf' : ∀ k, 1 ≤ k → k ≤ 4 → fitsB s k = false := fun k a b => by rw [hf k a b]; simp [h0]
      refine .inl ⟨?_, .inl ?_⟩
      · simp [pk, hf' 1, hf' 2, hf' 3, hf' 4]
      · have : i = 0 := by omega
        rw [this]; rfl
/-- A name's pieces: its kind (0: it may not be), its prefix, its instance, whether there is an at. -/
def ofS (s : Str) : Int × Str × Str × Bool :=
  if 60 < s.length ∨ (pk s 4).1 = 0 ∨ (atCut (pk s 4).2).1 = [] ∨ allB nameB ((atCut (pk s 4).2).1 ++ (atCut (pk s 4).2).2) = false then (0, [], [], false)
  else ((pk s 4).1, (atCut (pk s 4).2).1, (atCut (pk s 4).2).2, decide (0 ≤ Lib.indexByte (pk s 4).2 64))
theorem allB_name (s : Str) : allB nameB s = allB okB s := by
  unfold allB
  refine Bool.eq_iff_iff.2 ?_
  rw [List.all_eq_true, List.all_eq_true]
  have h : ∀ c : UInt8, nameB (c.toNat : Int) = okB (c.toNat : Int) := fun c => nameB_ok _ c.toNat_lt
  simp only [h]
theorem allB_app (p : Int → Bool) (a b : Str) : allB p (a ++ b) = (allB p a && allB p b) := by unfold allB; rw [List.all_append]
theorem ofS_kind (s : Str) : (ofS s).1 = kindS s := by
  unfold ofS kindS badName
  rw [allB_name, allB_app]
  rcases pk_cases s with ⟨h1, h2⟩ | ⟨h1, h2⟩
  · rw [h1, if_pos (.inr (.inl rfl))]
    rcases h2 with h2 | h2
    · rw [h2]; simp [atCut, Lib.indexByte]
    · rw [h2]; simp
  · rw [h1]
    simp only
    by_cases c1 : 60 < s.length
    · rw [if_pos (.inl c1), if_pos (by simp; omega)]
    · by_cases c2 : (atCut (nameCut s).1).1 = []
      · rw [if_pos (.inr (.inr (.inl c2))), if_pos (by simp [c2])]
      · cases c3 : allB okB (atCut (nameCut s).1).1
        · rw [if_pos (by simp), if_pos (by simp)]
        · cases c4 : allB okB (atCut (nameCut s).1).2
          · rw [if_pos (by simp), if_pos (by simp)]
          · rw [if_neg (by simp [c2, h2]; omega), if_neg (by simp [c2]; omega)]
end Od
end Go.Proofs.YtanfnejbnmenkaaGreat
end

section
/- The walk of matinsref1.Of. (bel2) -/
namespace Go.Proofs.YtanfnejbnmenkaaGreat
open Go.RowKit
set_option linter.unusedSimpArgs false

namespace Od
abbrev cutC (r : Int × Str × Str × Bool) : Value := .agg #[.int .i64 r.1, sv r.2.1, sv r.2.2.1, .bool r.2.2.2]
theorem end_add (k : Nat) : ((⟨#[46]⟩ : ByteArray) ++ ⟨(sufS k).toArray⟩) = ⟨(endS k).toArray⟩ := by
  apply ByteArray.ext
  simp [endS]
theorem str_add (a b : Str) : ((⟨a.toArray⟩ : ByteArray) ++ ⟨b.toArray⟩) = ⟨(a ++ b).toArray⟩ := by
  apply ByteArray.ext
  simp
/-- The cells of what Of makes. -/
structure OfAt (w0 w : World) (k : Int) (p i : Str) (a : Bool) : Prop where
  lt : w0.heap.size + 1 < w.heap.size
  c0 : w.cell? ⟨w0.heap.size + 1, 0, none⟩ = some (.int .i64 k)
  c1 : w.cell? ⟨w0.heap.size + 1, 1, none⟩ = some (sv p)
  c2 : w.cell? ⟨w0.heap.size + 1, 2, none⟩ = some (sv i)
  c3 : w.cell? ⟨w0.heap.size + 1, 3, none⟩ = some (.bool a)
  r0 : w.cell? ⟨w0.heap.size, 0, none⟩ = some (.int .i64 0)
  r1 : w.cell? ⟨w0.heap.size, 1, none⟩ = some (sv [])
  r2 : w.cell? ⟨w0.heap.size, 2, none⟩ = some (sv [])
  r3 : w.cell? ⟨w0.heap.size, 3, none⟩ = some (.bool false)
  f0 : w.frozen? ⟨w0.heap.size + 1, 0, none⟩ = false
  f1 : w.frozen? ⟨w0.heap.size + 1, 1, none⟩ = false
  f2 : w.frozen? ⟨w0.heap.size + 1, 2, none⟩ = false
  f3 : w.frozen? ⟨w0.heap.size + 1, 3, none⟩ = false
  g0 : w.frozen? ⟨w0.heap.size, 0, none⟩ = false
  g1 : w.frozen? ⟨w0.heap.size, 1, none⟩ = false
  g2 : w.frozen? ⟨w0.heap.size, 2, none⟩ = false
  g3 : w.frozen? ⟨w0.heap.size, 3, none⟩ = false
  bel : Below w0.heap.size w0 w
theorem OfAt.set0 {w0 w : World} {k : Int} {p i : Str} {a : Bool} (h : OfAt w0 w k p i a) (k' : Int) : OfAt w0 (w.setCell ⟨w0.heap.size + 1, 0, none⟩ (.int .i64 k')) k' p i a where
  lt := by rw [World.size_setCell]; exact h.lt
  c0 := World.cell?_setCell_same _ _ _ h.c0
  c1 := (World.cell?_setCell_other _ _ _ _ (by simp)).trans h.c1
  c2 := (World.cell?_setCell_other _ _ _ _ (by simp)).trans h.c2
  c3 := (World.cell?_setCell_other _ _ _ _ (by simp)).trans h.c3
  r0 := (World.cell?_setCell_other _ _ _ _ (by simp)).trans h.r0
  r1 := (World.cell?_setCell_other _ _ _ _ (by simp)).trans h.r1
  r2 := (World.cell?_setCell_other _ _ _ _ (by simp)).trans h.r2
  r3 := (World.cell?_setCell_other _ _ _ _ (by simp)).trans h.r3
  f0 := by rw [World.frozen?_setCell]; exact h.f0
  f1 := by rw [World.frozen?_setCell]; exact h.f1
  f2 := by rw [World.frozen?_setCell]; exact h.f2
  f3 := by rw [World.frozen?_setCell]; exact h.f3
  g0 := by rw [World.frozen?_setCell]; exact h.g0
  g1 := by rw [World.frozen?_setCell]; exact h.g1
  g2 := by rw [World.frozen?_setCell]; exact h.g2
  g3 := by rw [World.frozen?_setCell]; exact h.g3
  bel := h.bel.setCell (by simp) _
theorem OfAt.set1 {w0 w : World} {k : Int} {p i : Str} {a : Bool} (h : OfAt w0 w k p i a) (p' : Str) : OfAt w0 (w.setCell ⟨w0.heap.size + 1, 1, none⟩ (sv p')) k p' i a where
  lt := by rw [World.size_setCell]; exact h.lt
  c0 := (World.cell?_setCell_other _ _ _ _ (by simp)).trans h.c0
  c1 := World.cell?_setCell_same _ _ _ h.c1
  c2 := (World.cell?_setCell_other _ _ _ _ (by simp)).trans h.c2
  c3 := (World.cell?_setCell_other _ _ _ _ (by simp)).trans h.c3
  r0 := (World.cell?_setCell_other _ _ _ _ (by simp)).trans h.r0
  r1 := (World.cell?_setCell_other _ _ _ _ (by simp)).trans h.r1
  r2 := (World.cell?_setCell_other _ _ _ _ (by simp)).trans h.r2
  r3 := (World.cell?_setCell_other _ _ _ _ (by simp)).trans h.r3
  f0 := by rw [World.frozen?_setCell]; exact h.f0
  f1 := by rw [World.frozen?_setCell]; exact h.f1
  f2 := by rw [World.frozen?_setCell]; exact h.f2
  f3 := by rw [World.frozen?_setCell]; exact h.f3
  g0 := by rw [World.frozen?_setCell]; exact h.g0
  g1 := by rw [World.frozen?_setCell]; exact h.g1
  g2 := by rw [World.frozen?_setCell]; exact h.g2
  g3 := by rw [World.frozen?_setCell]; exact h.g3
  bel := h.bel.setCell (by simp) _
theorem OfAt.set2 {w0 w : World} {k : Int} {p i : Str} {a : Bool} (h : OfAt w0 w k p i a) (i' : Str) : OfAt w0 (w.setCell ⟨w0.heap.size + 1, 2, none⟩ (sv i')) k p i' a where
  lt := by rw [World.size_setCell]; exact h.lt
  c0 := (World.cell?_setCell_other _ _ _ _ (by simp)).trans h.c0
  c1 := (World.cell?_setCell_other _ _ _ _ (by simp)).trans h.c1
  c2 := World.cell?_setCell_same _ _ _ h.c2
  c3 := (World.cell?_setCell_other _ _ _ _ (by simp)).trans h.c3
  r0 := (World.cell?_setCell_other _ _ _ _ (by simp)).trans h.r0
  r1 := (World.cell?_setCell_other _ _ _ _ (by simp)).trans h.r1
  r2 := (World.cell?_setCell_other _ _ _ _ (by simp)).trans h.r2
  r3 := (World.cell?_setCell_other _ _ _ _ (by simp)).trans h.r3
  f0 := by rw [World.frozen?_setCell]; exact h.f0
  f1 := by rw [World.frozen?_setCell]; exact h.f1
  f2 := by rw [World.frozen?_setCell]; exact h.f2
  f3 := by rw [World.frozen?_setCell]; exact h.f3
  g0 := by rw [World.frozen?_setCell]; exact h.g0
  g1 := by rw [World.frozen?_setCell]; exact h.g1
  g2 := by rw [World.frozen?_setCell]; exact h.g2
  g3 := by rw [World.frozen?_setCell]; exact h.g3
  bel := h.bel.setCell (by simp) _
theorem OfAt.set3 {w0 w : World} {k : Int} {p i : Str} {a : Bool} (h : OfAt w0 w k p i a) (a' : Bool) : OfAt w0 (w.setCell ⟨w0.heap.size + 1, 3, none⟩ (.bool a')) k p i a' where
  lt := by rw [World.size_setCell]; exact h.lt
  c0 := (World.cell?_setCell_other _ _ _ _ (by simp)).trans h.c0
  c1 := (World.cell?_setCell_other _ _ _ _ (by simp)).trans h.c1
  c2 := (World.cell?_setCell_other _ _ _ _ (by simp)).trans h.c2
  c3 := World.cell?_setCell_same _ _ _ h.c3
  r0 := (World.cell?_setCell_other _ _ _ _ (by simp)).trans h.r0
  r1 := (World.cell?_setCell_other _ _ _ _ (by simp)).trans h.r1
  r2 := (World.cell?_setCell_other _ _ _ _ (by simp)).trans h.r2
  r3 := (World.cell?_setCell_other _ _ _ _ (by simp)).trans h.r3
  f0 := by rw [World.frozen?_setCell]; exact h.f0
  f1 := by rw [World.frozen?_setCell]; exact h.f1
  f2 := by rw [World.frozen?_setCell]; exact h.f2
  f3 := by rw [World.frozen?_setCell]; exact h.f3
  g0 := by rw [World.frozen?_setCell]; exact h.g0
  g1 := by rw [World.frozen?_setCell]; exact h.g1
  g2 := by rw [World.frozen?_setCell]; exact h.g2
  g3 := by rw [World.frozen?_setCell]; exact h.g3
  bel := h.bel.setCell (by simp) _
theorem OfAt.drew {w0 w : World} {k : Int} {p i : Str} {a : Bool} (h : OfAt w0 w k p i a) : OfAt w0 w.drew k p i a := ⟨h.lt, h.c0, h.c1, h.c2, h.c3, h.r0, h.r1, h.r2, h.r3, h.f0, h.f1, h.f2, h.f3, h.g0, h.g1, h.g2, h.g3, h.bel.drew⟩
theorem atCut_none {s : Str} (h : ∀ j (hj : j < s.length), s[j] ≠ 64) : Lib.indexByte s 64 = -1 := by
  rcases (show Lib.indexByte s 64 < 0 ∨ 0 ≤ Lib.indexByte s 64 by omega) with h1 | h1
  · have := Lib.indexByte_ge s 64; omega
  · obtain ⟨i, hi⟩ : ∃ i : Nat, Lib.indexByte s 64 = i := ⟨(Lib.indexByte s 64).toNat, by omega⟩
    have h2 := (Lib.indexByte_some hi).1
    obtain ⟨h3, h4⟩ := List.getElem?_eq_some_iff.1 h2
    exact absurd h4 (h i h3)
theorem atCut_first {s : Str} {i : Nat} (hi : i < s.length) (h0 : s[i] = 64) (h : ∀ j (hj : j < s.length), j < i → s[j] ≠ 64) : Lib.indexByte s 64 = i := by
  have hge := Lib.indexByte_ge s 64
  rcases (show Lib.indexByte s 64 < 0 ∨ 0 ≤ Lib.indexByte s 64 by omega) with h1 | h1
  · have h2 : Lib.indexByte s 64 = -1 := by omega
    exact absurd (by rw [List.getElem?_eq_getElem hi, h0]) (Lib.indexByte_none h2 i)
  · obtain ⟨m, hm⟩ : ∃ m : Nat, Lib.indexByte s 64 = m := ⟨(Lib.indexByte s 64).toNat, by omega⟩
    obtain ⟨h2, h3⟩ := Lib.indexByte_some hm
    obtain ⟨h4, h5⟩ := List.getElem?_eq_some_iff.1 h2
    rcases Nat.lt_trichotomy m i with h6 | h6 | h6
    · exact absurd h5 (h m h4 h6)
    · rw [hm, h6]
    · exact absurd (by rw [List.getElem?_eq_getElem hi, h0]) (h3 i h6)
theorem pk_len (s : Str) : ∀ k, (pk s k).2.length ≤ s.length
  | 0 => by simp [pk]
  | k + 1 => by
    unfold pk
    split
    · simp
    · exact pk_len s k
theorem endS_len (k : Nat) : (endS k).length ≤ 8 := by
  unfold endS sufS
  split
  · decide
  · split
    · decide
    · split
      · decide
      · split <;> decide
end Od
end Go.Proofs.YtanfnejbnmenkaaGreat
end

section
/- The walk of matinsref1.Of. (bel2) -/
namespace Go.Proofs.YtanfnejbnmenkaaGreat
open Go.RowKit
set_option linter.unusedSimpArgs false

namespace Od
theorem exit_named {Q : Exit → Act → World → Prop} {e : Exit} {a : Act} {w : World} (h : ∀ W, W = w → Q e a W) : Q e a w := h w rfl
set_option maxRecDepth 100000 in
set_option maxHeartbeats 16000000 in
theorem Of_any (s : Str) (w : World) (hl : s.length ≤ 140737488355328) : Calls Tryz.prog 65 #[sv s] w fun e w' => e = .returned (cutC (ofS s)) ∧ Below w.heap.size w w' := by
  by_cases h60 : (60 : Int) < (s.length : Int)
  · have d60 : decide ((60 : Int) < (s.length : Int)) = true := by simpa using h60
    have HO := Lib.hid (show ofS s = (0, [], [], false) by unfold ofS; rw [if_pos (.inl (by omega))])
    go_enter Tryz.func65, Tryz.ntmps65
    go_wp2_with fail
    refine bodyPost_ret (v := cutC (0, [], [], false)) (by simp only [results, Tryz.results65]; go_simp) rfl ⟨by rw [HO.out], (by repeat (first | exact Below.refl _ _ | assumption | refine Below.alloc ?_ (by first | omega | (simp <;> omega)) _ | refine Below.setCell ?_ (by first | omega | (simp <;> omega)) _ | refine Below.drew ?_))⟩
  · have d60 : decide ((60 : Int) < (s.length : Int)) = false := by simpa using h60
    have H60 := Lib.hid h60
    clear h60
    go_enter Tryz.func65, Tryz.ntmps65
    go_wp2_with fail
    go_loopw [5, 4] (fun i rst wr => ∃ k : Nat, k ≤ 4 ∧ i = .int .i64 ((k : Int) + 1) ∧ rst = sv (pk s k).2 ∧ OfAt w wr (pk s k).1 [] [] false) (fun i _ _ => 5 - (intOf i).toNat)
    case atStart => exact ⟨0, by omega, rfl, rfl, show OfAt w _ 0 [] [] false from ⟨by simp, by go_simp, by go_simp, by go_simp, by go_simp, by go_simp, by go_simp, by go_simp, by go_simp, by go_simp, by go_simp, by go_simp, by go_simp, by go_simp, by go_simp, by go_simp, by go_simp, (by repeat (first | exact Below.refl _ _ | assumption | refine Below.alloc ?_ (by first | omega | (simp <;> omega)) _ | refine Below.setCell ?_ (by first | omega | (simp <;> omega)) _ | refine Below.drew ?_))⟩⟩
    case round =>
      obtain ⟨k, hk, rfl, rfl, ho⟩ := hrel
      have HA := Lib.hid ho
      clear ho
      by_cases hlt : k < 4
      · have dk : decide ((k : Int) + 1 ≤ 4) = true := by simp; omega
        have he := end_add (k + 1)
        have hek : ((k + 1 : Nat) : Int) = (k : Int) + 1 := by omega
        rw [hek] at he
        have hel := endS_len (k + 1)
        have hsl : (endS (k + 1)).length = 1 + (sufS ((k : Int) + 1)).length := by rw [← hek]; simp [endS]; omega
        have hns : ¬ 9223372036854775807 < 1 + (sufS ((k : Int) + 1)).length := by omega
        have hpk : pk s (k + 1) = if fitsB s (k + 1) = true then (((k + 1 : Nat) : Int), s.take (s.length - (endS (k + 1)).length)) else pk s k := rfl
        have hex := extract_str s (s.length - (endS (k + 1)).length) s.length
        rw [List.take_length] at hex
        clear hsl
        have hfit : fitsB s (k + 1) = (decide ((endS (k + 1)).length < s.length) && s.drop (s.length - (endS (k + 1)).length) == endS (k + 1)) := rfl
        by_cases hle : (endS (k + 1)).length < s.length
        · cases hse : (s.drop (s.length - (endS (k + 1)).length) == endS (k + 1))
          · have HPK := Lib.hid (hpk.trans (if_neg (by rw [hfit]; simp [hse])))
            clear hpk hfit
            obtain ⟨lt, c0, c1, c2, c3, r0, r1, r2, r3, f0, f1, f2, f3, g0, g1, g2, g3, bel⟩ := HA.out
            go_wp2_with fail
            refine (Suffix1_any ((k : Int) + 1) wr (by omega) (by omega)).mono ?_
            rintro e w5 ⟨rfl, rfl⟩
            go_wp2_with fail
            go_roundw
            case rel => exact ⟨k + 1, by omega, by go_num, by rw [HPK.out], by rw [HPK.out]; exact HA.out⟩
            case measure => simp [intOf]; omega
          · have HPK := Lib.hid (hpk.trans (if_pos (by rw [hfit]; simp [hse, hle])))
            have hex2 := extract_str s 0 (s.length - (endS (k + 1)).length)
            rw [List.drop_zero] at hex2
            clear hpk hfit
            obtain ⟨lt, c0, c1, c2, c3, r0, r1, r2, r3, f0, f1, f2, f3, g0, g1, g2, g3, bel⟩ := HA.out
            go_wp2_with fail
            refine (Suffix1_any ((k : Int) + 1) wr (by omega) (by omega)).mono ?_
            rintro e w5 ⟨rfl, rfl⟩
            go_wp2_with fail
            go_region
            go_wp2_with fail
            go_roundw
            case rel => exact ⟨k + 1, by omega, by go_num, by rw [HPK.out], by rw [HPK.out]; exact (HA.out.set0 _).drew⟩
            case measure => simp [intOf]; omega
        · have HPK := Lib.hid (hpk.trans (if_neg (by rw [hfit]; simp [hle])))
          clear hpk hfit
          obtain ⟨lt, c0, c1, c2, c3, r0, r1, r2, r3, f0, f1, f2, f3, g0, g1, g2, g3, bel⟩ := HA.out
          go_wp2_with fail
          refine (Suffix1_any ((k : Int) + 1) wr (by omega) (by omega)).mono ?_
          rintro e w5 ⟨rfl, rfl⟩
          go_wp2_with fail
          go_roundw
          case rel => exact ⟨k + 1, by omega, by go_num, by rw [HPK.out], by rw [HPK.out]; exact HA.out⟩
          case measure => simp [intOf]; omega
      · have hk4 : k = 4 := by omega
        subst hk4
        have hpl := pk_len s 4
        have hof : (pk s 4).1 = 0 → ofS s = (0, [], [], false) := fun h => by unfold ofS; rw [if_pos (.inr (.inl h))]
        have hof2 : (pk s 4).1 ≠ 0 → ∀ pre ins at_, Lib.indexByte (pk s 4).2 64 = at_ → atCut (pk s 4).2 = (pre, ins) → (pre = [] → ofS s = (0, [], [], false)) ∧ (allB nameB (pre ++ ins) = false → ofS s = (0, [], [], false)) ∧ (pre ≠ [] → allB nameB (pre ++ ins) = true → ofS s = ((pk s 4).1, pre, ins, decide (0 ≤ at_))) := by
          intro h0 pre ins at_ hi hc
          have h60 := H60.out
          refine ⟨fun h => ?_, fun h => ?_, fun h h' => ?_⟩
          · unfold ofS; rw [if_pos (.inr (.inr (.inl (by rw [hc]; exact h))))]
          · unfold ofS; rw [if_pos (.inr (.inr (.inr (by rw [hc]; exact h))))]
          · unfold ofS; rw [hc, hi, if_neg]
            rintro (g | g | g | g)
            · omega
            · exact h0 g
            · exact h g
            · rw [h'] at g; cases g
        generalize hq : pk s 4 = q at *
        obtain ⟨kd, rest⟩ := q
        simp only at hof hof2 hpl HA
        clear hq
        by_cases hkd : kd = 0
        · have HO := Lib.hid (hof hkd)
          clear hof hof2
          obtain ⟨lt, c0, c1, c2, c3, r0, r1, r2, r3, f0, f1, f2, f3, g0, g1, g2, g3, bel⟩ := HA.out
          go_wp2_with fail
          refine bodyPost_ret (v := cutC (0, [], [], false)) (by simp only [results, Tryz.results65]; go_simp) rfl ⟨by rw [HO.out], (by repeat (first | exact Below.refl _ _ | assumption | refine Below.alloc ?_ (by first | omega | (simp <;> omega)) _ | refine Below.setCell ?_ (by first | omega | (simp <;> omega)) _ | refine Below.drew ?_))⟩
        · have HF2 := Lib.hid (hof2 hkd)
          clear hof hof2
          obtain ⟨lt, c0, c1, c2, c3, r0, r1, r2, r3, f0, f1, f2, f3, g0, g1, g2, g3, bel⟩ := HA.out
          go_wp2_with fail
          obtain ⟨w9, hw9⟩ : ∃ w9, w9 = wr.setCell ⟨w.heap.size + 1, 1, none⟩ (sv rest) := ⟨_, rfl⟩
          have ha9 := HA.out.set1 rest
          rw [← hw9] at ha9
          rw [← hw9]
          clear lt c0 c1 c2 c3 r0 r1 r2 r3 f0 f1 f2 f3 g0 g1 g2 g3 bel
          have HA9 := Lib.hid ha9
          clear ha9 hw9 HA
          go_loop [7] (fun i => ∃ k : Nat, k ≤ rest.length ∧ i = .int .i64 k ∧ Hid (∀ j (hj : j < rest.length), j < k → rest[j] ≠ 64)) (fun i => rest.length - (intOf i).toNat)
          case atStart => exact ⟨0, Nat.zero_le _, rfl, fun j _ h => absurd h (by omega)⟩
          case round =>
            obtain ⟨k2, hk2, rfl, hall2⟩ := hrel
            by_cases hlt2 : k2 < rest.length
            · have hex := extract_str rest 0 k2
              have hex2 := extract_str rest (k2 + 1) rest.length
              rw [List.drop_zero] at hex
              rw [List.take_length] at hex2
              by_cases h64 : rest[k2] = 64
              · have hidx := atCut_first hlt2 h64 hall2.out
                have hcut : atCut rest = (rest.take k2, rest.drop (k2 + 1)) := by
                  unfold atCut; rw [hidx, if_pos (by omega)]; simp
                have hof := HF2.out _ _ _ hidx hcut
                rw [show decide ((0 : Int) ≤ (k2 : Int)) = true from by simp] at hof
                have hpl : (rest.take k2).length + (rest.drop (k2 + 1)).length ≤ 140737488355328 := by simp; omega
                have hlt2' := hlt2
                generalize rest.take k2 = pre at *
                generalize rest.drop (k2 + 1) = ins at *
                have hb : ((((({ data := rest.toArray } : ByteArray)[k2]'hlt2).toNat : Nat) : Int) == 64) = true := by show ((rest[k2].toNat : Int) == 64) = true; rw [h64]; rfl
                obtain ⟨lt, c0, c1, c2, c3, r0, r1, r2, r3, f0, f1, f2, f3, g0, g1, g2, g3, bel⟩ := HA9.out
                go_wp2_with fail
                go_region
                refine exit_named ?_
                intro W hW
                have HA := Lib.hid (show OfAt w W kd pre ins true by rw [hW]; exact (((HA9.out.set3 true).set1 pre).set2 ins).drew)
                clear lt c0 c1 c2 c3 r0 r1 r2 r3 f0 f1 f2 f3 g0 g1 g2 g3 bel
                clear hW
                obtain ⟨L, hL⟩ : ∃ L, L = pre ++ ins := ⟨_, rfl⟩
                have hsum := str_add pre ins
                rw [← hL] at hof hsum
                have hLn : L.length = pre.length + ins.length := by rw [hL]; simp
                clear hL
                have HF := Lib.hid hof
                have HP := Lib.hid hpl
                clear hof
                cases hp0 : (pre == ([] : Str))
                · have hpp : ¬ pre = [] := by simpa using hp0
                  have HP0 := Lib.hid hpp
                  have he0 : (pre).isEmpty = false := by simp [hpp]
                  have hnb : ¬ 9223372036854775807 < pre.length + ins.length := by omega
                  clear hpp
                  obtain ⟨lt, c0, c1, c2, c3, r0, r1, r2, r3, f0, f1, f2, f3, g0, g1, g2, g3, bel⟩ := HA.out
                  go_wp2_with fail
                  go_loop [9] (fun i => ∃ k : Nat, k ≤ L.length ∧ i = .int .i64 k ∧ Hid (allB nameB (L.take k) = true)) (fun i => L.length - (intOf i).toNat)
                  case atStart => exact ⟨0, Nat.zero_le _, rfl, by simp [Hid, allB]⟩
                  case round =>
                    obtain ⟨k3, hk3, rfl, hall⟩ := hrel
                    by_cases hlt3 : k3 < L.length
                    · have h1 : allB nameB (L.take (k3 + 1)) = (allB nameB (L.take k3) && nameB (L[k3].toNat : Int)) := by
                        unfold allB; rw [List.take_succ_eq_append_getElem hlt3, List.all_append]; simp
                      have h2 : nameB (L[k3].toNat : Int) = false → allB nameB L = false := fun h => by
                        unfold allB; rw [List.all_eq_false]; exact ⟨L[k3], List.getElem_mem hlt3, by simp [h]⟩
                      have H1 := Lib.hid h1
                      have H2 := Lib.hid h2
                      clear h1 h2
                      go_wp2_with fail
                      refine (nameByte_any (L[k3].toNat : Int) _).mono ?_
                      rintro e v ⟨rfl, rfl⟩
                      cases hpc : nameB (L[k3].toNat : Int)
                      · have H3 := Lib.hid (H2.out hpc)
                        go_wp2_with fail
                        refine bodyPost_ret (v := cutC (0, [], [], false)) (by simp only [results, Tryz.results65]; go_simp) rfl ⟨by rw [HF.out.2.1 H3.out], (by repeat (first | exact Below.refl _ _ | assumption | refine Below.alloc ?_ (by first | omega | (simp <;> omega)) _ | refine Below.setCell ?_ (by first | omega | (simp <;> omega)) _ | refine Below.drew ?_))⟩
                      · have H3 := Lib.hid hpc
                        go_wp2_with fail
                        go_round
                        case rel => exact ⟨k3 + 1, by omega, by go_num, by show _ = true; rw [H1.out, hall.out, H3.out]; rfl⟩
                        case measure => simp [intOf]; omega
                    · have hkn : k3 = L.length := by omega
                      subst hkn
                      have h := hall.out
                      rw [List.take_length] at h
                      have H4 := Lib.hid h
                      clear h
                      go_wp2_with fail
                      refine bodyPost_ret (v := cutC (kd, pre, ins, true)) (by simp only [results, Tryz.results65]; go_simp) rfl ⟨by rw [HF.out.2.2 HP0.out H4.out], (by repeat (first | exact Below.refl _ _ | assumption | refine Below.alloc ?_ (by first | omega | (simp <;> omega)) _ | refine Below.setCell ?_ (by first | omega | (simp <;> omega)) _ | refine Below.drew ?_))⟩
                · have hpp : pre = [] := by simpa using hp0
                  have HP0 := Lib.hid hpp
                  have he0 : (pre).isEmpty = true := by simp [hpp]
                  clear hpp
                  obtain ⟨lt, c0, c1, c2, c3, r0, r1, r2, r3, f0, f1, f2, f3, g0, g1, g2, g3, bel⟩ := HA.out
                  go_wp2_with fail
                  refine bodyPost_ret (v := cutC (0, [], [], false)) (by simp only [results, Tryz.results65]; go_simp) rfl ⟨by rw [HF.out.1 HP0.out], (by repeat (first | exact Below.refl _ _ | assumption | refine Below.alloc ?_ (by first | omega | (simp <;> omega)) _ | refine Below.setCell ?_ (by first | omega | (simp <;> omega)) _ | refine Below.drew ?_))⟩
              · have hb : ((((({ data := rest.toArray } : ByteArray)[k2]'hlt2).toNat : Nat) : Int) == 64) = false := by
                  show ((rest[k2].toNat : Int) == 64) = false
                  rw [beq_eq_false_iff_ne]; intro h; exact h64 (UInt8.toNat_inj.1 (by simp; omega))
                have H64 := Lib.hid h64
                clear h64
                go_wp2_with fail
                go_round
                case rel =>
                  refine ⟨k2 + 1, by omega, by go_num, fun j h1 h2 => ?_⟩
                  by_cases e : j = k2
                  · subst e; exact H64.out
                  · exact hall2.out j h1 (by omega)
                case measure => simp [intOf]; omega
            · have hcut : atCut rest = (rest, []) := by
                unfold atCut; rw [atCut_none (fun j hj => hall2.out j hj (by omega)), if_neg (by omega)]
              have hof := HF2.out rest [] _ (atCut_none (fun j hj => hall2.out j hj (by omega))) hcut
              have HA := HA9
              rw [List.append_nil] at hof
              have hpl : rest.length ≤ 140737488355328 := by omega
              have HF := Lib.hid hof
              have HP := Lib.hid hpl
              clear hof
              cases hp0 : (rest == ([] : Str))
              · have hpp : ¬ rest = [] := by simpa using hp0
                have HP0 := Lib.hid hpp
                have he0 : (rest).isEmpty = false := by simp [hpp]
                have hnb : ¬ 9223372036854775807 < rest.length := by omega
                clear hpp
                obtain ⟨lt, c0, c1, c2, c3, r0, r1, r2, r3, f0, f1, f2, f3, g0, g1, g2, g3, bel⟩ := HA.out
                go_wp2_with fail
                go_loop [9] (fun i => ∃ k : Nat, k ≤ rest.length ∧ i = .int .i64 k ∧ Hid (allB nameB (rest.take k) = true)) (fun i => rest.length - (intOf i).toNat)
                case atStart => exact ⟨0, Nat.zero_le _, rfl, by simp [Hid, allB]⟩
                case round =>
                  obtain ⟨k3, hk3, rfl, hall⟩ := hrel
                  by_cases hlt3 : k3 < rest.length
                  · have h1 : allB nameB (rest.take (k3 + 1)) = (allB nameB (rest.take k3) && nameB (rest[k3].toNat : Int)) := by
                      unfold allB; rw [List.take_succ_eq_append_getElem hlt3, List.all_append]; simp
                    have h2 : nameB (rest[k3].toNat : Int) = false → allB nameB rest = false := fun h => by
                      unfold allB; rw [List.all_eq_false]; exact ⟨rest[k3], List.getElem_mem hlt3, by simp [h]⟩
                    have H1 := Lib.hid h1
                    have H2 := Lib.hid h2
                    clear h1 h2
                    go_wp2_with fail
                    refine (nameByte_any (rest[k3].toNat : Int) _).mono ?_
                    rintro e v ⟨rfl, rfl⟩
                    cases hpc : nameB (rest[k3].toNat : Int)
                    · have H3 := Lib.hid (H2.out hpc)
                      go_wp2_with fail
                      refine bodyPost_ret (v := cutC (0, [], [], false)) (by simp only [results, Tryz.results65]; go_simp) rfl ⟨by rw [HF.out.2.1 H3.out], (by repeat (first | exact Below.refl _ _ | assumption | refine Below.alloc ?_ (by first | omega | (simp <;> omega)) _ | refine Below.setCell ?_ (by first | omega | (simp <;> omega)) _ | refine Below.drew ?_))⟩
                    · have H3 := Lib.hid hpc
                      go_wp2_with fail
                      go_round
                      case rel => exact ⟨k3 + 1, by omega, by go_num, by show _ = true; rw [H1.out, hall.out, H3.out]; rfl⟩
                      case measure => simp [intOf]; omega
                  · have hkn : k3 = rest.length := by omega
                    subst hkn
                    have h := hall.out
                    rw [List.take_length] at h
                    have H4 := Lib.hid h
                    clear h
                    go_wp2_with fail
                    refine bodyPost_ret (v := cutC (kd, rest, [], (decide ((0 : Int) ≤ -1)))) (by simp only [results, Tryz.results65]; go_simp) rfl ⟨by rw [HF.out.2.2 HP0.out H4.out], (by repeat (first | exact Below.refl _ _ | assumption | refine Below.alloc ?_ (by first | omega | (simp <;> omega)) _ | refine Below.setCell ?_ (by first | omega | (simp <;> omega)) _ | refine Below.drew ?_))⟩
              · have hpp : rest = [] := by simpa using hp0
                have HP0 := Lib.hid hpp
                have he0 : (rest).isEmpty = true := by simp [hpp]
                clear hpp
                obtain ⟨lt, c0, c1, c2, c3, r0, r1, r2, r3, f0, f1, f2, f3, g0, g1, g2, g3, bel⟩ := HA.out
                go_wp2_with fail
                refine bodyPost_ret (v := cutC (0, [], [], false)) (by simp only [results, Tryz.results65]; go_simp) rfl ⟨by rw [HF.out.1 HP0.out], (by repeat (first | exact Below.refl _ _ | assumption | refine Below.alloc ?_ (by first | omega | (simp <;> omega)) _ | refine Below.setCell ?_ (by first | omega | (simp <;> omega)) _ | refine Below.drew ?_))⟩
end Od
end Go.Proofs.YtanfnejbnmenkaaGreat
end

section
/- Jobs as data: how they lie in cells. No program. -/
namespace Go.Proofs.YtanfnejbnmenkaaGreat
open Go.RowKit

/-- A unit, the type of its job, its state, its end. -/
abbrev Jb := Str × Int × Int × Int
def jbC (j : Jb) : List Value := [sv j.1, .int .i64 j.2.1, .int .i64 j.2.2.1, .int .i64 j.2.2.2]
def jbsC (l : List Jb) : List Value := l.flatMap jbC
abbrev jbV (j : Jb) : Value := .agg #[sv j.1, .int .i64 j.2.1, .int .i64 j.2.2.1, .int .i64 j.2.2.2]
theorem jbC_len (j : Jb) : (jbC j).length = 4 := rfl
theorem jbsC_len (l : List Jb) : (jbsC l).length = l.length * 4 := flat_len jbC 4 jbC_len l
theorem jbsC_app (a b : List Jb) : jbsC (a ++ b) = jbsC a ++ jbsC b := by simp [jbsC]
theorem jbsC_one (j : Jb) : jbsC [j] = jbC j := by simp [jbsC]
theorem one_jbC (j : Jb) : ∀ u ∈ jbC j, u.oneCell' = true := fun u hu => by
  simp only [jbC, List.mem_cons, List.not_mem_nil, or_false] at hu
  rcases hu with rfl | rfl | rfl | rfl <;> rfl
theorem one_jbsC (l : List Jb) : ∀ u ∈ jbsC l, u.oneCell' = true := fun u hu => by
  obtain ⟨j, _, hj⟩ := List.mem_flatMap.1 hu
  exact one_jbC j u hj
theorem jbsC_take (l : List Jb) (n : Nat) : jbsC (l.take n) = (jbsC l).take (n * 4) := by
  induction l generalizing n with
  | nil => simp [jbsC]
  | cons x l ih =>
    cases n with
    | zero => simp [jbsC]
    | succ n =>
      have h := ih n
      simp only [jbsC] at h
      simp only [jbsC, List.take_succ_cons, List.flatMap_cons, h]
      have e : (jbC x).take ((n + 1) * 4) = jbC x := List.take_of_length_le (by rw [jbC_len]; omega)
      rw [List.take_append, e, jbC_len, show (n + 1) * 4 - 4 = n * 4 by omega]
theorem jbsC_drop (l : List Jb) (n : Nat) : jbsC (l.drop n) = (jbsC l).drop (n * 4) := by
  induction l generalizing n with
  | nil => simp [jbsC]
  | cons x l ih =>
    cases n with
    | zero => simp [jbsC]
    | succ n =>
      have h := ih n
      simp only [jbsC] at h
      simp only [jbsC, List.drop_succ_cons, List.flatMap_cons, h]
      have e : (jbC x).drop ((n + 1) * 4) = [] := List.drop_eq_nil_of_le (by rw [jbC_len]; omega)
      rw [List.drop_append, e, jbC_len, show (n + 1) * 4 - 4 = n * 4 by omega]
      rfl
/-- The four cells of a job. -/
theorem Rd.job {w : World} {B : Nat} {A : Option Addr} {q : List Jb} (h : Rd w B 4 A q.length (jbsC q)) {i : Nat} (hi : i < q.length) :
    ∃ b o : Nat, A = some ⟨b, o, none⟩ ∧ b < B ∧ w.cell? ⟨b, o + i * 4, none⟩ = some (sv q[i].1) ∧ w.cell? ⟨b, o + i * 4 + 1, none⟩ = some (.int .i64 q[i].2.1) ∧ w.cell? ⟨b, o + i * 4 + 2, none⟩ = some (.int .i64 q[i].2.2.1) ∧
      w.cell? ⟨b, o + i * 4 + 3, none⟩ = some (.int .i64 q[i].2.2.2) := by
  obtain ⟨b, o, e, hb, hc⟩ := h.open (by omega)
  have h0 := flat_at jbC 4 jbC_len q i 0 hi (by omega)
  have h1 := flat_at jbC 4 jbC_len q i 1 hi (by omega)
  have h2 := flat_at jbC 4 jbC_len q i 2 hi (by omega)
  have h3 := flat_at jbC 4 jbC_len q i 3 hi (by omega)
  refine ⟨b, o, e, hb, ?_, ?_, ?_, ?_⟩
  · exact (hc (i * 4) (by omega)).trans h0
  · exact (hc (i * 4 + 1) (by omega)).trans h1
  · exact (hc (i * 4 + 2) (by omega)).trans h2
  · exact (hc (i * 4 + 3) (by omega)).trans h3
end Go.Proofs.YtanfnejbnmenkaaGreat
end

section
/- The walk of graph.Out. -/
namespace Go.Proofs.YtanfnejbnmenkaaGreat
open Go.RowKit Go.Sort

/-- The same, the new block's number in the walk's own spelling. -/
theorem wpList_pushm {P : Program} (w0 w : World) {ops : Array Oper} {rest : List Oper} {o : Oper} {a : Act} {Q : Exit → Act → World → Prop} (hgd : o.guard = none) (s x : Operand) (t : TypeId)
    (ho : o.op = .call { callee := .builtin .append, args := #[s, x], argTypes := #[t, t] })
    (base : Nat) (e : TypeId) (i : TypeInfo) (z : Value) (size bytes : Nat) (ht : P.underlying t = some (.slice e)) (hi : P.info? e = some i) (hz : i.zero = some z)
    (hsize : i.size = size) (hby : i.bytes = bytes) (hzs : z.cells.size = size) (hsz : 0 < size)
    (v : Value) (n : Nat) (xs : List Value) (hs : a.eval s = v) (hown : w.ownsRow base e size v n xs)
    (news : List Value) (m : Nat) (hm : w.heap.size = m) (hx : a.eval x = .slice (some ⟨m, 0, none⟩) 1 1) (hl : news.length = size) (h1 : ∀ u ∈ news, u.oneCell' = true)
    (h63 : n + 1 ≤ maxLen) (hbytes : (n + 1) * bytes ≤ 140737488355328) (hbase : base ≤ w.heap.size) (hbel : Below base w0 w)
    (h : ∀ A' c' w', w'.ownsRow base e size (.slice A' (n + 1) c') (n + 1) (xs ++ news) → Below base w0 w' → w.grownBy w' v.ownBlock →
      ((Value.slice A' (n + 1) c').ownBlock = v.ownBlock ∨ (Value.slice A' (n + 1) c').ownBlock = some (w.heap.size + 1)) → wpList P ops Q rest (a.put o.dst (.slice A' (n + 1) c')) w') :
    wpList P ops Q (o :: rest) a (w.alloc (.cells news.toArray e)) := by
  subst hm
  exact wpList_push w0 w hgd s x t ho base e i z size bytes ht hi hz hsize hby hzs hsz v n xs hs hown news hx hl h1 h63 hbytes hbase hbel h

namespace Od
theorem filter_take_succ {α : Type} {p : α → Bool} {xs : List α} {k : Nat} (hk : k < xs.length) : (xs.take (k + 1)).filter p = (xs.take k).filter p ++ (if p xs[k] then [xs[k]] else []) := by
  rw [List.take_succ_eq_append_getElem hk, List.filter_append]
  congr 1
  by_cases h : p xs[k] = true
  · simp only [List.filter_cons, h, if_true, List.filter_nil]
  · simp only [List.filter_cons, h, if_false, List.filter_nil, Bool.false_eq_true]
theorem filter_take_le {α : Type} {p : α → Bool} {xs : List α} {k : Nat} : ((xs.take k).filter p).length ≤ xs.length :=
  Nat.le_trans (List.length_filter_le _ _) (by simp; omega)

theorem infoS : (Tryz.prog.info? 9).map (fun i => (i.zero, i.size, i.bytes)) = some (some (.string ⟨#[]⟩), 1, 16) := by kernel_rfl
theorem infoE : (Tryz.prog.info? 77).map (fun i => (i.zero, i.size, i.bytes)) = some (some (.agg #[.string ⟨#[]⟩, .string ⟨#[]⟩, .int .i64 0]), 3, 40) := by kernel_rfl
theorem infoN : (Tryz.prog.info? 84).map (fun i => (i.zero, i.size, i.bytes)) = some (some (.agg #[.string ⟨#[]⟩, .int .i64 0, .int .i64 0]), 3, 32) := by kernel_rfl
theorem infoP : (Tryz.prog.info? 79).map (fun i => (i.zero, i.size, i.bytes)) = some (some (.agg #[.string ⟨#[]⟩, .string ⟨#[]⟩]), 2, 32) := by kernel_rfl
def outP (u : Str) (rel : Int) (e : Ed) : Bool := e.1 == u && e.2.2 == rel
def outRaw (es : List Ed) (u : Str) (rel : Int) : List Str := (es.filter (outP u rel)).map (fun e => e.2.1)
def outS (es : List Ed) (u : Str) (rel : Int) : List Str := onceS (outRaw es u rel)
theorem onceS_len (ss : List Str) : (onceS ss).length ≤ ss.length := Nat.le_trans (compact_len_le _) (Nat.le_of_eq (sortS_len ss))
theorem outRaw_len (es : List Ed) (u : Str) (rel : Int) : (outRaw es u rel).length ≤ es.length := by
  unfold outRaw; rw [List.length_map]; exact List.length_filter_le _ _

/-- A call hands back a slice of its own that holds these texts. -/
def OwnS (ss : List Str) (w : World) (e : Ending) (w' : World) : Prop := ∃ A c, e = .returned (.slice A ss.length c) ∧ w'.ownsRow w.heap.size 9 1 (.slice A ss.length c) ss.length (svs ss) ∧ Below w.heap.size w w'

set_option maxRecDepth 100000 in
set_option maxHeartbeats 2000000 in
theorem Out_any (An Ae : Option Addr) (nn cn ce : Nat) (es : List Ed) (u : Str) (rel : Int) (w : World) (hr : Rd w w.heap.size 3 Ae es.length (edsC es)) (hl : es.length ≤ 1000000) :
    Calls Tryz.prog 108 #[gV An nn cn Ae es.length ce, sv u, .int .i64 rel] w (OwnS (outS es u rel) w) := by
  obtain ⟨i0, hi, hz0, hz1, hz2⟩ := info_parts infoS
  have Hr := Lib.hid hr
  clear hr
  go_enter Tryz.func108, Tryz.ntmps108
  go_wp2_with fail
  go_loopw [7, 13] (fun v i wr => ∃ k : Nat, k ≤ es.length ∧ i = .int .i64 k ∧ wr.ownsRow w.heap.size 9 1 v (outRaw (es.take k) u rel).length (svs (outRaw (es.take k) u rel)) ∧ Below w.heap.size w wr) (fun _ i _ => es.length - (intOf i).toNat)
  case atStart => exact ⟨0, Nat.zero_le _, rfl, World.ownsRow_nil _ _ _ _, (Below.refl _ _).alloc (Nat.le_refl _) _⟩
  case round =>
    obtain ⟨k, hk, rfl, hown, hbel⟩ := hrel
    by_cases hlt : k < es.length
    · obtain ⟨bb, o, rfl, hB, hc0, hc1, hc2⟩ := (Hr.out.on (Nat.le_refl _) hbel).edge hlt
      have hz := hbel.size
      have n1 : bb < wr.heap.size := by omega
      have Hbel := Lib.hid (hbel.alloc hz (.cells #[sv es[k].1, sv es[k].2.1, .int .i64 es[k].2.2] 77))
      have Hown := Lib.hid (hown.alloc (.cells #[sv es[k].1, sv es[k].2.1, .int .i64 es[k].2.2] 77))
      have hln : (outRaw (es.take k) u rel).length ≤ k := Nat.le_trans (outRaw_len _ _ _) (by simp; omega)
      have h63 : (outRaw (es.take k) u rel).length + 1 ≤ maxLen := by unfold maxLen; omega
      have hby : ((outRaw (es.take k) u rel).length + 1) * 16 ≤ 140737488355328 := by omega
      have hft : outRaw (es.take (k + 1)) u rel = outRaw (es.take k) u rel ++ (if outP u rel es[k] then [es[k].2.1] else []) := by
        unfold outRaw; rw [filter_take_succ hlt, List.map_append]; split <;> simp
      clear hbel hown
      generalize hx : es[k] = x at hc0 hc1 hc2 hft Hbel Hown
      obtain ⟨s, d, r⟩ := x
      clear hx
      simp only at hc0 hc1 hc2 Hbel Hown
      have hsz : w.heap.size ≤ (wr.alloc (.cells #[sv s, sv d, .int .i64 r] 77)).heap.size := by simp; omega
      cases hp : outP u rel (s, d, r)
      · rw [hp] at hft
        simp only [Bool.false_eq_true, if_false, List.append_nil] at hft
        have Hft := Lib.hid hft
        clear hft
        have hp' : (s == u) = false ∨ ((s == u) = true ∧ (r == rel) = false) := by
          unfold outP at hp
          cases h1 : (s == u)
          · exact .inl rfl
          · simp only [h1, Bool.true_and] at hp; exact .inr ⟨rfl, hp⟩
        rcases hp' with h1 | ⟨h1, h2⟩
        · have h1' : ¬ s = u := by simpa using h1
          go_wp2_with fail
          go_roundw
          case rel => exact ⟨k + 1, by omega, by go_num, by rw [Hft.out]; exact Hown.out, Hbel.out⟩
          case measure => simp [intOf]; omega
        · have h1' : s = u := by simpa using h1
          subst h1'
          have h2' : ¬ r = rel := by simpa using h2
          go_wp2_with fail
          go_roundw
          case rel => exact ⟨k + 1, by omega, by go_num, by rw [Hft.out]; exact Hown.out, Hbel.out⟩
          case measure => simp [intOf]; omega
      · rw [hp] at hft
        simp only [if_true] at hft
        have Hft := Lib.hid hft
        clear hft
        have hp2 : s = u ∧ r = rel := by simpa [outP] using hp
        obtain ⟨rfl, rfl⟩ := hp2
        go_wp2_with (at_builtin; refine wpList_pushm w (wr.alloc (.cells #[sv s, sv d, .int .i64 r] 77)) (by rfl) _ _ 37 (by rfl) w.heap.size 9 i0 (.string ⟨#[]⟩) 1 16 Tryz.underlying37 hi hz0 hz1 hz2 rfl (by decide) _ _ _ (by rfl) Hown.out [sv d] (wr.heap.size + 1) (by simp) (by rfl) rfl (by simp [Value.oneCell']) h63 hby hsz Hbel.out ?_; intro A1 c1 w1 hown1 hbel1 hg1 hat1)
        go_roundw
        case rel => exact ⟨k + 1, by omega, by go_num, by rw [Hft.out]; simpa [svs] using hown1, hbel1⟩
        case measure => simp [intOf]; omega
    · have hkl : k = es.length := by omega
      subst hkl
      rw [List.take_length] at hown
      obtain ⟨A, c, rfl, _⟩ := own_rd hown
      have Hown := Lib.hid hown
      have Hbel := Lib.hid hbel
      clear hown hbel
      have hln := outRaw_len es u rel
      go_wp2_with fail
      refine (once_own _ c A (outRaw es u rel) _ Hown.out (by omega)).mono ?_
      rintro e w2 ⟨rfl, h2, g2⟩
      have H2 := Lib.hid h2
      have G2 := Lib.hid g2
      clear h2 g2
      go_wp2_with fail
      go_ret
      exact ⟨A, c, rfl, H2.out, Hbel.out.grown G2.out Hbel.out.size (fun j hj => (Hown.out.lt j hj).1)⟩
end Od
end Go.Proofs.YtanfnejbnmenkaaGreat
end
