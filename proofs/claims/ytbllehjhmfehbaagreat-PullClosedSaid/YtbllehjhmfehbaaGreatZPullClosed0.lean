/- My texts, joined for the claim: Reg2 QOf QName QOfA QOfW QNode15R QWords QMath QMay15R LpEd. -/
import Derived.Test.YtbllehjhmfehbaaGreatZB0
import Derived.Test.YtbllehjhmfehbaaGreatZB4
import Derived.Laws.Concat
import Derived.RegionTactic
import Derived.BigRegion
import Derived.Test.YtbllehjhmfehbaaGreatZB8
import Derived.Test.YtbllehjhmfehbaaGreatZB15
import Derived.Deep.DeepCutAuto

section
/- The moves through a region that draws its order, shorter still (for texts whose bytes count). No program. -/
namespace Go.Proofs.YtbllehjhmfehbaaGreat
open Go.RowKit
section
variable {P : Program} {ops : Array Oper} {Q : Exit → Act → World → Prop} {md : Region.Mode} {S : World → Prop}
variable {dst : Option Tmp} {op : Op} {ty : TypeId} {pos : String} {aft : Array Edge} {grd : Option (Nat × Bool)} {fuel : Nat} {listed : Array Bool} {a : Act} {w : World}
theorem tV (i : Nat) (v : Value) (hy : ∀ w, S w → (execOp a.eval ⟨dst, op, ty, pos, aft, grd⟩).run P w = .ok (.value v) w) (h : wpAnyH P md ops Q S fuel (listed.setIfInBounds i true) (a.put dst v) w)
    (hi : ops[i]? = some ⟨dst, op, ty, pos, aft, grd⟩ := by rfl) (hS : S w := by assumption)
    (hs : Region.noSelect ops = true := by kernel_rfl) (hf : Region.free md ops listed i = true := by kernel_rfl) (hr : (Region.ready md ops listed).contains i = true := by kernel_rfl)
    (hQ : ∀ c a w, Q (.panic c) (a.put dst v) w → Q (.panic c) a w := by exact fun _ _ _ h => h) (hw : Region.wanted ⟨dst, op, ty, pos, aft, grd⟩ (yielded ops a.tmps) = true := by rfl) :
    wpAnyH P md ops Q S (fuel + 1) listed a w := take_yield hi hs hf hr hQ hw hy hS h
theorem tU (i : Nat) (h : wpAnyH P md ops Q S fuel (listed.setIfInBounds i true) (a.put dst undef) w)
    (hi : ops[i]? = some ⟨dst, op, ty, pos, aft, grd⟩ := by rfl) (hS : S w := by assumption)
    (hs : Region.noSelect ops = true := by kernel_rfl) (hf : Region.free md ops listed i = true := by kernel_rfl) (hr : (Region.ready md ops listed).contains i = true := by kernel_rfl)
    (hQ : ∀ c a w, Q (.panic c) (a.put dst undef) w → Q (.panic c) a w := by exact fun _ _ _ h => h) (hw : Region.wanted ⟨dst, op, ty, pos, aft, grd⟩ (yielded ops a.tmps) = false := by rfl) :
    wpAnyH P md ops Q S (fuel + 1) listed a w := take_skip hi hs hf hr hQ hw hS h
end
theorem bq {B : Nat} {w w' : World} (h : Below B w w' := by repeat (first | exact Below.refl _ _ | assumption | refine Below.alloc ?_ (by simp <;> omega) _ | refine Below.setCell ?_ (by simp <;> omega) _ | refine Below.drew ?_)) : Below B w w' := h
theorem bq2 {B : Nat} {w w' : World} (h : Below B w w' := by repeat (first | exact Below.refl _ _ | assumption | refine Below.alloc ?_ (by first | omega | (simp <;> omega)) _ | refine Below.setCell ?_ (by first | omega | (simp <;> omega)) _ | refine Below.drew ?_)) : Below B w w' := h
end Go.Proofs.YtbllehjhmfehbaaGreat
end

section
/- The walks of the reference's names: matinsref1.Letter, Digit, nameByte, Suffix, Of, May. (bel2) -/
namespace Go.Proofs.YtbllehjhmfehbaaGreat
open Go.RowKit
set_option linter.unusedSimpArgs false

namespace Od
set_option maxHeartbeats 1000000 in
theorem Letter1_any (c : Int) (w : World) : Calls Tryz.prog 138 #[.int .u8 c] w fun e w' => e = .returned (.bool (letterB c)) ∧ w = w' := by
  by_cases h1 : (97 : Int) ≤ c
  · have d1 : decide ((97 : Int) ≤ c) = true := by simpa using h1
    have e3 : decide ((65 : Int) ≤ c) = true := by simp; omega
    by_cases h2 : c ≤ (122 : Int)
    · have d2 : decide (c ≤ (122 : Int)) = true := by simpa using h2
      go_enter Tryz.func138, Tryz.ntmps138
      go_wp2
      go_ret
      exact ⟨ret_bool (by simp [letterB, d1, d2]), rfl⟩
    · have d2 : decide (c ≤ (122 : Int)) = false := by simpa using h2
      have d4 : decide (c ≤ (90 : Int)) = false := by simp; omega
      go_enter Tryz.func138, Tryz.ntmps138
      go_wp2
      go_ret
      exact ⟨ret_bool (by simp [letterB, d1, d2, e3, d4]), rfl⟩
  · have d1 : decide ((97 : Int) ≤ c) = false := by simpa using h1
    by_cases h3 : (65 : Int) ≤ c
    · have d3 : decide ((65 : Int) ≤ c) = true := by simpa using h3
      go_enter Tryz.func138, Tryz.ntmps138
      go_wp2
      go_ret
      exact ⟨ret_bool (by simp [letterB, d1, d3]), rfl⟩
    · have d3 : decide ((65 : Int) ≤ c) = false := by simpa using h3
      go_enter Tryz.func138, Tryz.ntmps138
      go_wp2
      go_ret
      exact ⟨ret_bool (by simp [letterB, d1, d3]), rfl⟩
set_option maxHeartbeats 1000000 in
theorem Digit1_any (c : Int) (w : World) : Calls Tryz.prog 139 #[.int .u8 c] w fun e w' => e = .returned (.bool (digitB c)) ∧ w = w' := by
  by_cases h1 : (48 : Int) ≤ c
  · have d1 : decide ((48 : Int) ≤ c) = true := by simpa using h1
    go_enter Tryz.func139, Tryz.ntmps139
    go_wp2
    go_ret
    exact ⟨ret_bool (by simp [digitB, d1]), rfl⟩
  · have d1 : decide ((48 : Int) ≤ c) = false := by simpa using h1
    go_enter Tryz.func139, Tryz.ntmps139
    go_wp2
    go_ret
    exact ⟨ret_bool (by simp [digitB, d1]), rfl⟩
def nameB (c : Int) : Bool := letterB c || (digitB c || (c == 58 || (c == 45 || (c == 95 || (c == 46 || c == 92)))))
theorem nameB_ok : ∀ n : Nat, n < 256 → nameB (n : Int) = okB (n : Int) := by decide +kernel
set_option maxHeartbeats 2000000 in
theorem nameByte_any (c : Int) (w : World) : Calls Tryz.prog 101 #[.int .u8 c] w fun e w' => e = .returned (.bool (nameB c)) ∧ w = w' := by
  have HM := Lib.hid (show nameB c = (letterB c || (digitB c || (c == 58 || (c == 45 || (c == 95 || (c == 46 || c == 92)))))) from rfl)
  cases h1 : letterB c
  · cases h2 : digitB c
    · cases h3 : (c == 58)
      · cases h4 : (c == 45)
        · cases h5 : (c == 95)
          · cases h6 : (c == 46)
            · cases h7 : (c == 92)
              · go_enter Tryz.func101, Tryz.ntmps101
                go_wp2_with fail
                refine (Letter1_any c w).mono ?_
                rintro e w1 ⟨rfl, rfl⟩
                go_wp2_with fail
                refine (Digit1_any c w).mono ?_
                rintro e w1 ⟨rfl, rfl⟩
                go_wp2_with fail
                go_ret
                exact ⟨ret_bool (by rw [HM.out]; simp [*]), rfl⟩
              · go_enter Tryz.func101, Tryz.ntmps101
                go_wp2_with fail
                refine (Letter1_any c w).mono ?_
                rintro e w1 ⟨rfl, rfl⟩
                go_wp2_with fail
                refine (Digit1_any c w).mono ?_
                rintro e w1 ⟨rfl, rfl⟩
                go_wp2_with fail
                go_ret
                exact ⟨ret_bool (by rw [HM.out]; simp [*]), rfl⟩
            · go_enter Tryz.func101, Tryz.ntmps101
              go_wp2_with fail
              refine (Letter1_any c w).mono ?_
              rintro e w1 ⟨rfl, rfl⟩
              go_wp2_with fail
              refine (Digit1_any c w).mono ?_
              rintro e w1 ⟨rfl, rfl⟩
              go_wp2_with fail
              go_ret
              exact ⟨ret_bool (by rw [HM.out]; simp [*]), rfl⟩
          · go_enter Tryz.func101, Tryz.ntmps101
            go_wp2_with fail
            refine (Letter1_any c w).mono ?_
            rintro e w1 ⟨rfl, rfl⟩
            go_wp2_with fail
            refine (Digit1_any c w).mono ?_
            rintro e w1 ⟨rfl, rfl⟩
            go_wp2_with fail
            go_ret
            exact ⟨ret_bool (by rw [HM.out]; simp [*]), rfl⟩
        · go_enter Tryz.func101, Tryz.ntmps101
          go_wp2_with fail
          refine (Letter1_any c w).mono ?_
          rintro e w1 ⟨rfl, rfl⟩
          go_wp2_with fail
          refine (Digit1_any c w).mono ?_
          rintro e w1 ⟨rfl, rfl⟩
          go_wp2_with fail
          go_ret
          exact ⟨ret_bool (by rw [HM.out]; simp [*]), rfl⟩
      · go_enter Tryz.func101, Tryz.ntmps101
        go_wp2_with fail
        refine (Letter1_any c w).mono ?_
        rintro e w1 ⟨rfl, rfl⟩
        go_wp2_with fail
        refine (Digit1_any c w).mono ?_
        rintro e w1 ⟨rfl, rfl⟩
        go_wp2_with fail
        go_ret
        exact ⟨ret_bool (by rw [HM.out]; simp [*]), rfl⟩
    · go_enter Tryz.func101, Tryz.ntmps101
      go_wp2_with fail
      refine (Letter1_any c w).mono ?_
      rintro e w1 ⟨rfl, rfl⟩
      go_wp2_with fail
      refine (Digit1_any c w).mono ?_
      rintro e w1 ⟨rfl, rfl⟩
      go_wp2_with fail
      go_ret
      exact ⟨ret_bool (by rw [HM.out]; simp [*]), rfl⟩
  · go_enter Tryz.func101, Tryz.ntmps101
    go_wp2_with fail
    refine (Letter1_any c w).mono ?_
    rintro e w1 ⟨rfl, rfl⟩
    go_wp2_with fail
    go_ret
    exact ⟨ret_bool (by rw [HM.out]; simp [*]), rfl⟩
theorem sufS_neg {k : Int} (h1 : ¬ k = 1) (h2 : ¬ k = 2) (h3 : ¬ k = 3) (h4 : ¬ k = 4) : sufS k = [] := by simp [sufS, h1, h2, h3, h4]
set_option maxHeartbeats 1000000 in
theorem Suffix1_any (k : Int) (w : World) (h1 : 1 ≤ k) (h4 : k ≤ 4) : Calls Tryz.prog 100 #[.int .i64 k] w fun e w' => e = .returned (sv (sufS k)) ∧ w = w' := by
  rcases (show k = 1 ∨ k = 2 ∨ k = 3 ∨ k = 4 by omega) with rfl | rfl | rfl | rfl
  · go_enter Tryz.func100, Tryz.ntmps100
    go_wp2
    go_ret
    exact ⟨rfl, rfl⟩
  · go_enter Tryz.func100, Tryz.ntmps100
    go_wp2
    go_ret
    exact ⟨rfl, rfl⟩
  · go_enter Tryz.func100, Tryz.ntmps100
    go_wp2
    go_ret
    exact ⟨rfl, rfl⟩
  · go_enter Tryz.func100, Tryz.ntmps100
    go_wp2
    go_ret
    exact ⟨rfl, rfl⟩
/-! A name's pieces -/
def endS (k : Nat) : Str := 46 :: sufS k
def fitsB (s : Str) (k : Nat) : Bool := decide ((endS k).length < s.length) && s.drop (s.length - (endS k).length) == endS k
def pk (s : Str) : Nat → Int × Str
  | 0 => (0, [])
  | k + 1 => if fitsB s (k + 1) = true then ((k + 1 : Nat), s.take (s.length - (endS (k + 1)).length)) else pk s k
end Od
end Go.Proofs.YtbllehjhmfehbaaGreat
end

section
/- Names as texts: the reference's pieces are the program's. No program. -/
namespace Go.Proofs.YtbllehjhmfehbaaGreat
set_option linter.unusedSimpArgs false
namespace Od
theorem last_split {a b t u : Str} (h : a ++ 46 :: t = b ++ 46 :: u) (ht : (46 : UInt8) ∉ t) (hu : (46 : UInt8) ∉ u) : a = b ∧ t = u := by
  rcases List.append_eq_append_iff.1 h with ⟨c, h1, h2⟩ | ⟨c, h1, h2⟩
  · cases c with
    | nil => simp at h1 h2; exact ⟨h1.symm, h2⟩
    | cons z c =>
      injection h2 with h3 h4
      exact absurd (by rw [h4]; simp) ht
  · cases c with
    | nil => simp at h1 h2; exact ⟨h1, h2.symm⟩
    | cons z c =>
      injection h2 with h3 h4
      exact absurd (by rw [h4]; simp) hu
theorem last_list (s : Str) : (Lib.lastIndexByte ⟨s.toArray⟩ 46 = -1 ∧ (46 : UInt8) ∉ s) ∨ ∃ i, i < s.length ∧ Lib.lastIndexByte ⟨s.toArray⟩ 46 = (i : Nat) ∧ s = s.take i ++ 46 :: s.drop (i + 1) ∧ (46 : UInt8) ∉ s.drop (i + 1) := by
  have hb : ∀ {j : Nat} (hj : j < s.length), (((⟨s.toArray⟩ : ByteArray).data[j]!).toNat : Int) = (s[j].toNat : Int) := by
    intro j hj; simp [hj]
  have h46 : ∀ b : UInt8, ((b.toNat : Int) = 46) ↔ b = 46 := by
    intro b
    constructor
    · intro h
      have : b.toNat = (46 : UInt8).toNat := by simp; omega
      exact UInt8.toNat_inj.1 this
    · intro h; subst h; rfl
  rcases Lib.lastIndexByte_spec ⟨s.toArray⟩ 46 with ⟨h1, h2⟩ | ⟨i, hi, h1, h2, h3⟩
  · refine .inl ⟨h1, fun hm => ?_⟩
    obtain ⟨j, hj, e⟩ := List.mem_iff_getElem.1 hm
    refine h2 j (by simpa [ByteArray.size] using hj) ?_
    rw [hb hj, e]; rfl
  · have hi' : i < s.length := by simpa [ByteArray.size] using hi
    rw [hb hi', h46] at h2
    refine .inr ⟨i, hi', h1, ?_, fun hm => ?_⟩
    · rw [← h2, List.getElem_cons_drop, List.take_append_drop]
    · obtain ⟨j, hj, e⟩ := List.mem_iff_getElem.1 hm
      rw [List.getElem_drop] at e
      have hj' : i + 1 + j < s.length := by rw [List.length_drop] at hj; omega
      refine h3 (i + 1 + j) (by omega) (by simpa [ByteArray.size] using hj') ?_
      rw [hb hj', e]; rfl
theorem sufS_no {k : Nat} (h1 : 1 ≤ k) (h4 : k ≤ 4) : (46 : UInt8) ∉ sufS k := by
  rcases (show k = 1 ∨ k = 2 ∨ k = 3 ∨ k = 4 by omega) with rfl | rfl | rfl | rfl <;> decide
theorem fits_split {s : Str} {k : Nat} (h : fitsB s k = true) : (endS k).length < s.length ∧ s = s.take (s.length - (endS k).length) ++ 46 :: sufS k := by
  unfold fitsB at h
  rw [Bool.and_eq_true, decide_eq_true_eq, beq_iff_eq] at h
  refine ⟨h.1, ?_⟩
  have h2 : s.drop (s.length - (endS k).length) = 46 :: sufS k := h.2
  rw [← h2, List.take_append_drop]
theorem fits_none {s : Str} {k : Nat} (h : (46 : UInt8) ∉ s) : fitsB s k = false := by
  cases hf : fitsB s k
  · rfl
  · exact absurd (by rw [(fits_split hf).2]; simp) h
theorem fits_at {s : Str} {i k : Nat} (h1 : 1 ≤ k) (h4 : k ≤ 4) (hi : i < s.length) (hs : s = s.take i ++ 46 :: s.drop (i + 1)) (hn : (46 : UInt8) ∉ s.drop (i + 1)) : fitsB s k = (decide (0 < i) && decide (sufS k = s.drop (i + 1))) := by
  rw [Bool.eq_iff_iff, Bool.and_eq_true, decide_eq_true_eq, decide_eq_true_eq]
  constructor
  · intro hf
    obtain ⟨h5, h6⟩ := fits_split hf
    obtain ⟨h7, h8⟩ := last_split (hs.symm.trans h6) hn (sufS_no h1 h4)
    refine ⟨?_, h8.symm⟩
    have := congrArg List.length h7
    rw [List.length_take, List.length_take] at this
    omega
  · rintro ⟨h5, h6⟩
    have hl : (endS k).length = s.length - i := by
      show (46 :: sufS k).length = _
      rw [List.length_cons, h6, List.length_drop]; omega
    unfold fitsB
    rw [Bool.and_eq_true, decide_eq_true_eq, beq_iff_eq, hl]
    refine ⟨by omega, ?_⟩
    rw [show s.length - (s.length - i) = i by omega]
    show _ = 46 :: sufS k
    rw [h6]
    have h9 : s[i]'hi = 46 := by
      have h10 : s[i]'hi = (s.take i ++ 46 :: s.drop (i + 1))[i]'(by rw [← hs]; exact hi) := by congr 1
      rw [h10, List.getElem_append_right (by rw [List.length_take]; omega)]
      simp [List.length_take, Nat.min_eq_left (Nat.le_of_lt hi)]
    rw [← h9, List.getElem_cons_drop]
theorem pk_cases (s : Str) : (pk s 4 = (0, []) ∧ ((nameCut s).1 = [] ∨ sufK (nameCut s).2 = 0)) ∨ (pk s 4 = (sufK (nameCut s).2, (nameCut s).1) ∧ sufK (nameCut s).2 ≠ 0) := by
  rcases last_list s with ⟨h1, h2⟩ | ⟨i, hi, h1, h2, h3⟩
  · refine .inl ⟨?_, .inl ?_⟩
    · simp [pk, fits_none h2]
    · unfold nameCut; rw [h1]; rfl
  · have hc : nameCut s = (s.take i, s.drop (i + 1)) := by
      unfold nameCut; rw [h1, if_neg (by omega)]; simp
    have hf : ∀ k, 1 ≤ k → k ≤ 4 → fitsB s k = (decide (0 < i) && decide (sufS k = s.drop (i + 1))) := fun k a b => fits_at a b hi h2 h3
    rw [hc]
    simp only
    have hlen : ∀ k : Nat, sufS k = s.drop (i + 1) → s.take (s.length - (endS k).length) = s.take i := by
      intro k hk
      have hl : (endS k).length = s.length - i := by
        show (46 :: sufS k).length = _
        rw [List.length_cons, hk, List.length_drop]; omega
      rw [hl, show s.length - (s.length - i) = i by omega]
    by_cases h0 : 0 < i
    · have hf' : ∀ k, 1 ≤ k → k ≤ 4 → fitsB s k = decide (sufS k = s.drop (i + 1)) := fun k a b => by rw [hf k a b]; simp [h0]
      have e1 := hf' 1 (by omega) (by omega)
      have e2 := hf' 2 (by omega) (by omega)
      have e3 := hf' 3 (by omega) (by omega)
      have e4 := hf' 4 (by omega) (by omega)
      have l1 := hlen 1
      have l2 := hlen 2
      have l3 := hlen 3
      have l4 := hlen 4
      generalize s.drop (i + 1) = t at *
      unfold sufK
      simp only [pk, Nat.zero_add, Nat.reduceAdd, e1, e2, e3, e4, decide_eq_true_eq]
      by_cases t1 : sufS 1 = t
      · subst t1
        exact .inr ⟨by simp [sufS] at l1 ⊢; exact l1, by simp⟩
      · by_cases t2 : sufS 2 = t
        · subst t2
          exact .inr ⟨by simp [sufS] at l2 ⊢; exact l2, by simp [sufS]⟩
        · by_cases t3 : sufS 3 = t
          · subst t3
            exact .inr ⟨by simp [sufS] at l3 ⊢; exact l3, by simp [sufS]⟩
          · by_cases t4 : sufS 4 = t
            · subst t4
              exact .inr ⟨by simp [sufS] at l4 ⊢; exact l4, by simp [sufS]⟩
            · have u1 : ¬ sufS (1 : Nat) = t := t1
              have u2 : ¬ sufS (2 : Nat) = t := t2
              have u3 : ¬ sufS (3 : Nat) = t := t3
              have u4 : ¬ sufS (4 : Nat) = t := t4
              exact .inl ⟨by rw [if_neg u4, if_neg u3, if_neg u2, if_neg u1], .inr (by rw [if_neg t1, if_neg t2, if_neg t3, if_neg t4])⟩
    · have hf' : ∀ k, 1 ≤ k → k ≤ 4 → fitsB s k = false := fun k a b => by rw [hf k a b]; simp [h0]
      refine .inl ⟨?_, .inl ?_⟩
      · simp [pk, hf' 1, hf' 2, hf' 3, hf' 4]
      · have : i = 0 := by omega
        rw [this]; rfl
/-- A name's pieces: its kind (0: it may not be), its prefix, its instance, whether there is an at. -/
def ofS (s : Str) : Int × Str × Str × Bool :=
  if 60 < s.length ∨ (pk s 4).1 = 0 ∨ (atCut (pk s 4).2).1 = [] ∨ allB nameB ((atCut (pk s 4).2).1 ++ (atCut (pk s 4).2).2) = false then (0, [], [], false)
  else ((pk s 4).1, (atCut (pk s 4).2).1, (atCut (pk s 4).2).2, decide (0 ≤ Lib.indexByte (pk s 4).2 64))
theorem allB_name (s : Str) : allB nameB s = allB okB s := by
  unfold allB
  refine Bool.eq_iff_iff.2 ?_
  rw [List.all_eq_true, List.all_eq_true]
  have h : ∀ c : UInt8, nameB (c.toNat : Int) = okB (c.toNat : Int) := fun c => nameB_ok _ c.toNat_lt
  simp only [h]
theorem allB_app (p : Int → Bool) (a b : Str) : allB p (a ++ b) = (allB p a && allB p b) := by unfold allB; rw [List.all_append]
theorem ofS_kind (s : Str) : (ofS s).1 = kindS s := by
  unfold ofS kindS badName
  rw [allB_name, allB_app]
  rcases pk_cases s with ⟨h1, h2⟩ | ⟨h1, h2⟩
  · rw [h1, if_pos (.inr (.inl rfl))]
    rcases h2 with h2 | h2
    · rw [h2]; simp [atCut, Lib.indexByte]
    · rw [h2]; simp
  · rw [h1]
    simp only
    by_cases c1 : 60 < s.length
    · rw [if_pos (.inl c1), if_pos (by simp; omega)]
    · by_cases c2 : (atCut (nameCut s).1).1 = []
      · rw [if_pos (.inr (.inr (.inl c2))), if_pos (by simp [c2])]
      · cases c3 : allB okB (atCut (nameCut s).1).1
        · rw [if_pos (by simp), if_pos (by simp)]
        · cases c4 : allB okB (atCut (nameCut s).1).2
          · rw [if_pos (by simp), if_pos (by simp)]
          · rw [if_neg (by simp [c2, h2]; omega), if_neg (by simp [c2]; omega)]
end Od
end Go.Proofs.YtbllehjhmfehbaaGreat
end

section
/- The walk of matinsref1.Of. (bel2) -/
namespace Go.Proofs.YtbllehjhmfehbaaGreat
open Go.RowKit
set_option linter.unusedSimpArgs false

namespace Od
abbrev cutC (r : Int × Str × Str × Bool) : Value := .agg #[.int .i64 r.1, sv r.2.1, sv r.2.2.1, .bool r.2.2.2]
theorem end_add (k : Nat) : ((⟨#[46]⟩ : ByteArray) ++ ⟨(sufS k).toArray⟩) = ⟨(endS k).toArray⟩ := by
  apply ByteArray.ext
  simp [endS]
theorem str_add (a b : Str) : ((⟨a.toArray⟩ : ByteArray) ++ ⟨b.toArray⟩) = ⟨(a ++ b).toArray⟩ := by
  apply ByteArray.ext
  simp
/-- The cells of what Of makes. -/
structure OfAt (w0 w : World) (k : Int) (p i : Str) (a : Bool) : Prop where
  lt : w0.heap.size + 1 < w.heap.size
  c0 : w.cell? ⟨w0.heap.size + 1, 0, none⟩ = some (.int .i64 k)
  c1 : w.cell? ⟨w0.heap.size + 1, 1, none⟩ = some (sv p)
  c2 : w.cell? ⟨w0.heap.size + 1, 2, none⟩ = some (sv i)
  c3 : w.cell? ⟨w0.heap.size + 1, 3, none⟩ = some (.bool a)
  r0 : w.cell? ⟨w0.heap.size, 0, none⟩ = some (.int .i64 0)
  r1 : w.cell? ⟨w0.heap.size, 1, none⟩ = some (sv [])
  r2 : w.cell? ⟨w0.heap.size, 2, none⟩ = some (sv [])
  r3 : w.cell? ⟨w0.heap.size, 3, none⟩ = some (.bool false)
  f0 : w.frozen? ⟨w0.heap.size + 1, 0, none⟩ = false
  f1 : w.frozen? ⟨w0.heap.size + 1, 1, none⟩ = false
  f2 : w.frozen? ⟨w0.heap.size + 1, 2, none⟩ = false
  f3 : w.frozen? ⟨w0.heap.size + 1, 3, none⟩ = false
  g0 : w.frozen? ⟨w0.heap.size, 0, none⟩ = false
  g1 : w.frozen? ⟨w0.heap.size, 1, none⟩ = false
  g2 : w.frozen? ⟨w0.heap.size, 2, none⟩ = false
  g3 : w.frozen? ⟨w0.heap.size, 3, none⟩ = false
  bel : Below w0.heap.size w0 w
theorem OfAt.set0 {w0 w : World} {k : Int} {p i : Str} {a : Bool} (h : OfAt w0 w k p i a) (k' : Int) : OfAt w0 (w.setCell ⟨w0.heap.size + 1, 0, none⟩ (.int .i64 k')) k' p i a where
  lt := by rw [World.size_setCell]; exact h.lt
  c0 := World.cell?_setCell_same _ _ _ h.c0
  c1 := (World.cell?_setCell_other _ _ _ _ (by simp)).trans h.c1
  c2 := (World.cell?_setCell_other _ _ _ _ (by simp)).trans h.c2
  c3 := (World.cell?_setCell_other _ _ _ _ (by simp)).trans h.c3
  r0 := (World.cell?_setCell_other _ _ _ _ (by simp)).trans h.r0
  r1 := (World.cell?_setCell_other _ _ _ _ (by simp)).trans h.r1
  r2 := (World.cell?_setCell_other _ _ _ _ (by simp)).trans h.r2
  r3 := (World.cell?_setCell_other _ _ _ _ (by simp)).trans h.r3
  f0 := by rw [World.frozen?_setCell]; exact h.f0
  f1 := by rw [World.frozen?_setCell]; exact h.f1
  f2 := by rw [World.frozen?_setCell]; exact h.f2
  f3 := by rw [World.frozen?_setCell]; exact h.f3
  g0 := by rw [World.frozen?_setCell]; exact h.g0
  g1 := by rw [World.frozen?_setCell]; exact h.g1
  g2 := by rw [World.frozen?_setCell]; exact h.g2
  g3 := by rw [World.frozen?_setCell]; exact h.g3
  bel := h.bel.setCell (by simp) _
theorem OfAt.set1 {w0 w : World} {k : Int} {p i : Str} {a : Bool} (h : OfAt w0 w k p i a) (p' : Str) : OfAt w0 (w.setCell ⟨w0.heap.size + 1, 1, none⟩ (sv p')) k p' i a where
  lt := by rw [World.size_setCell]; exact h.lt
  c0 := (World.cell?_setCell_other _ _ _ _ (by simp)).trans h.c0
  c1 := World.cell?_setCell_same _ _ _ h.c1
  c2 := (World.cell?_setCell_other _ _ _ _ (by simp)).trans h.c2
  c3 := (World.cell?_setCell_other _ _ _ _ (by simp)).trans h.c3
  r0 := (World.cell?_setCell_other _ _ _ _ (by simp)).trans h.r0
  r1 := (World.cell?_setCell_other _ _ _ _ (by simp)).trans h.r1
  r2 := (World.cell?_setCell_other _ _ _ _ (by simp)).trans h.r2
  r3 := (World.cell?_setCell_other _ _ _ _ (by simp)).trans h.r3
  f0 := by rw [World.frozen?_setCell]; exact h.f0
  f1 := by rw [World.frozen?_setCell]; exact h.f1
  f2 := by rw [World.frozen?_setCell]; exact h.f2
  f3 := by rw [World.frozen?_setCell]; exact h.f3
  g0 := by rw [World.frozen?_setCell]; exact h.g0
  g1 := by rw [World.frozen?_setCell]; exact h.g1
  g2 := by rw [World.frozen?_setCell]; exact h.g2
  g3 := by rw [World.frozen?_setCell]; exact h.g3
  bel := h.bel.setCell (by simp) _
theorem OfAt.set2 {w0 w : World} {k : Int} {p i : Str} {a : Bool} (h : OfAt w0 w k p i a) (i' : Str) : OfAt w0 (w.setCell ⟨w0.heap.size + 1, 2, none⟩ (sv i')) k p i' a where
  lt := by rw [World.size_setCell]; exact h.lt
  c0 := (World.cell?_setCell_other _ _ _ _ (by simp)).trans h.c0
  c1 := (World.cell?_setCell_other _ _ _ _ (by simp)).trans h.c1
  c2 := World.cell?_setCell_same _ _ _ h.c2
  c3 := (World.cell?_setCell_other _ _ _ _ (by simp)).trans h.c3
  r0 := (World.cell?_setCell_other _ _ _ _ (by simp)).trans h.r0
  r1 := (World.cell?_setCell_other _ _ _ _ (by simp)).trans h.r1
  r2 := (World.cell?_setCell_other _ _ _ _ (by simp)).trans h.r2
  r3 := (World.cell?_setCell_other _ _ _ _ (by simp)).trans h.r3
  f0 := by rw [World.frozen?_setCell]; exact h.f0
  f1 := by rw [World.frozen?_setCell]; exact h.f1
  f2 := by rw [World.frozen?_setCell]; exact h.f2
  f3 := by rw [World.frozen?_setCell]; exact h.f3
  g0 := by rw [World.frozen?_setCell]; exact h.g0
  g1 := by rw [World.frozen?_setCell]; exact h.g1
  g2 := by rw [World.frozen?_setCell]; exact h.g2
  g3 := by rw [World.frozen?_setCell]; exact h.g3
  bel := h.bel.setCell (by simp) _
theorem OfAt.set3 {w0 w : World} {k : Int} {p i : Str} {a : Bool} (h : OfAt w0 w k p i a) (a' : Bool) : OfAt w0 (w.setCell ⟨w0.heap.size + 1, 3, none⟩ (.bool a')) k p i a' where
  lt := by rw [World.size_setCell]; exact h.lt
  c0 := (World.cell?_setCell_other _ _ _ _ (by simp)).trans h.c0
  c1 := (World.cell?_setCell_other _ _ _ _ (by simp)).trans h.c1
  c2 := (World.cell?_setCell_other _ _ _ _ (by simp)).trans h.c2
  c3 := World.cell?_setCell_same _ _ _ h.c3
  r0 := (World.cell?_setCell_other _ _ _ _ (by simp)).trans h.r0
  r1 := (World.cell?_setCell_other _ _ _ _ (by simp)).trans h.r1
  r2 := (World.cell?_setCell_other _ _ _ _ (by simp)).trans h.r2
  r3 := (World.cell?_setCell_other _ _ _ _ (by simp)).trans h.r3
  f0 := by rw [World.frozen?_setCell]; exact h.f0
  f1 := by rw [World.frozen?_setCell]; exact h.f1
  f2 := by rw [World.frozen?_setCell]; exact h.f2
  f3 := by rw [World.frozen?_setCell]; exact h.f3
  g0 := by rw [World.frozen?_setCell]; exact h.g0
  g1 := by rw [World.frozen?_setCell]; exact h.g1
  g2 := by rw [World.frozen?_setCell]; exact h.g2
  g3 := by rw [World.frozen?_setCell]; exact h.g3
  bel := h.bel.setCell (by simp) _
theorem OfAt.drew {w0 w : World} {k : Int} {p i : Str} {a : Bool} (h : OfAt w0 w k p i a) : OfAt w0 w.drew k p i a := ⟨h.lt, h.c0, h.c1, h.c2, h.c3, h.r0, h.r1, h.r2, h.r3, h.f0, h.f1, h.f2, h.f3, h.g0, h.g1, h.g2, h.g3, h.bel.drew⟩
theorem atCut_none {s : Str} (h : ∀ j (hj : j < s.length), s[j] ≠ 64) : Lib.indexByte s 64 = -1 := by
  rcases (show Lib.indexByte s 64 < 0 ∨ 0 ≤ Lib.indexByte s 64 by omega) with h1 | h1
  · have := Lib.indexByte_ge s 64; omega
  · obtain ⟨i, hi⟩ : ∃ i : Nat, Lib.indexByte s 64 = i := ⟨(Lib.indexByte s 64).toNat, by omega⟩
    have h2 := (Lib.indexByte_some hi).1
    obtain ⟨h3, h4⟩ := List.getElem?_eq_some_iff.1 h2
    exact absurd h4 (h i h3)
theorem atCut_first {s : Str} {i : Nat} (hi : i < s.length) (h0 : s[i] = 64) (h : ∀ j (hj : j < s.length), j < i → s[j] ≠ 64) : Lib.indexByte s 64 = i := by
  have hge := Lib.indexByte_ge s 64
  rcases (show Lib.indexByte s 64 < 0 ∨ 0 ≤ Lib.indexByte s 64 by omega) with h1 | h1
  · have h2 : Lib.indexByte s 64 = -1 := by omega
    exact absurd (by rw [List.getElem?_eq_getElem hi, h0]) (Lib.indexByte_none h2 i)
  · obtain ⟨m, hm⟩ : ∃ m : Nat, Lib.indexByte s 64 = m := ⟨(Lib.indexByte s 64).toNat, by omega⟩
    obtain ⟨h2, h3⟩ := Lib.indexByte_some hm
    obtain ⟨h4, h5⟩ := List.getElem?_eq_some_iff.1 h2
    rcases Nat.lt_trichotomy m i with h6 | h6 | h6
    · exact absurd h5 (h m h4 h6)
    · rw [hm, h6]
    · exact absurd (by rw [List.getElem?_eq_getElem hi, h0]) (h3 i h6)
theorem pk_len (s : Str) : ∀ k, (pk s k).2.length ≤ s.length
  | 0 => by simp [pk]
  | k + 1 => by
    unfold pk
    split
    · simp
    · exact pk_len s k
theorem endS_len (k : Nat) : (endS k).length ≤ 8 := by
  unfold endS sufS
  split
  · decide
  · split
    · decide
    · split
      · decide
      · split <;> decide
end Od
end Go.Proofs.YtbllehjhmfehbaaGreat
end

section
/- The walk of matinsref1.Of. (bel2) -/
namespace Go.Proofs.YtbllehjhmfehbaaGreat
open Go.RowKit
set_option linter.unusedSimpArgs false

namespace Od
theorem exit_named {Q : Exit → Act → World → Prop} {e : Exit} {a : Act} {w : World} (h : ∀ W, W = w → Q e a W) : Q e a w := h w rfl
set_option maxRecDepth 100000 in
set_option maxHeartbeats 16000000 in
theorem Of_any (s : Str) (w : World) (hl : s.length ≤ 140737488355328) : Calls Tryz.prog 55 #[sv s] w fun e w' => e = .returned (cutC (ofS s)) ∧ Below w.heap.size w w' := by
  by_cases h60 : (60 : Int) < (s.length : Int)
  · have d60 : decide ((60 : Int) < (s.length : Int)) = true := by simpa using h60
    have HO := Lib.hid (show ofS s = (0, [], [], false) by unfold ofS; rw [if_pos (.inl (by omega))])
    go_enter Tryz.func55, Tryz.ntmps55
    go_wp2_with fail
    refine bodyPost_ret (v := cutC (0, [], [], false)) (by simp only [results, Tryz.results55]; go_simp) rfl ⟨by rw [HO.out], (by repeat (first | exact Below.refl _ _ | assumption | refine Below.alloc ?_ (by first | omega | (simp <;> omega)) _ | refine Below.setCell ?_ (by first | omega | (simp <;> omega)) _ | refine Below.drew ?_))⟩
  · have d60 : decide ((60 : Int) < (s.length : Int)) = false := by simpa using h60
    have H60 := Lib.hid h60
    clear h60
    go_enter Tryz.func55, Tryz.ntmps55
    go_wp2_with fail
    go_loopw [5, 4] (fun i rst wr => ∃ k : Nat, k ≤ 4 ∧ i = .int .i64 ((k : Int) + 1) ∧ rst = sv (pk s k).2 ∧ OfAt w wr (pk s k).1 [] [] false) (fun i _ _ => 5 - (intOf i).toNat)
    case atStart => exact ⟨0, by omega, rfl, rfl, show OfAt w _ 0 [] [] false from ⟨by simp, by go_simp, by go_simp, by go_simp, by go_simp, by go_simp, by go_simp, by go_simp, by go_simp, by go_simp, by go_simp, by go_simp, by go_simp, by go_simp, by go_simp, by go_simp, by go_simp, (by repeat (first | exact Below.refl _ _ | assumption | refine Below.alloc ?_ (by first | omega | (simp <;> omega)) _ | refine Below.setCell ?_ (by first | omega | (simp <;> omega)) _ | refine Below.drew ?_))⟩⟩
    case round =>
      obtain ⟨k, hk, rfl, rfl, ho⟩ := hrel
      have HA := Lib.hid ho
      clear ho
      by_cases hlt : k < 4
      · have dk : decide ((k : Int) + 1 ≤ 4) = true := by simp; omega
        have he := end_add (k + 1)
        have hek : ((k + 1 : Nat) : Int) = (k : Int) + 1 := by omega
        rw [hek] at he
        have hel := endS_len (k + 1)
        have hsl : (endS (k + 1)).length = 1 + (sufS ((k : Int) + 1)).length := by rw [← hek]; simp [endS]; omega
        have hns : ¬ 9223372036854775807 < 1 + (sufS ((k : Int) + 1)).length := by omega
        have hpk : pk s (k + 1) = if fitsB s (k + 1) = true then (((k + 1 : Nat) : Int), s.take (s.length - (endS (k + 1)).length)) else pk s k := rfl
        have hex := extract_str s (s.length - (endS (k + 1)).length) s.length
        rw [List.take_length] at hex
        clear hsl
        have hfit : fitsB s (k + 1) = (decide ((endS (k + 1)).length < s.length) && s.drop (s.length - (endS (k + 1)).length) == endS (k + 1)) := rfl
        by_cases hle : (endS (k + 1)).length < s.length
        · cases hse : (s.drop (s.length - (endS (k + 1)).length) == endS (k + 1))
          · have HPK := Lib.hid (hpk.trans (if_neg (by rw [hfit]; simp [hse])))
            clear hpk hfit
            obtain ⟨lt, c0, c1, c2, c3, r0, r1, r2, r3, f0, f1, f2, f3, g0, g1, g2, g3, bel⟩ := HA.out
            go_wp2_with fail
            refine (Suffix1_any ((k : Int) + 1) wr (by omega) (by omega)).mono ?_
            rintro e w5 ⟨rfl, rfl⟩
            go_wp2_with fail
            go_roundw
            case rel => exact ⟨k + 1, by omega, by go_num, by rw [HPK.out], by rw [HPK.out]; exact HA.out⟩
            case measure => simp [intOf]; omega
          · have HPK := Lib.hid (hpk.trans (if_pos (by rw [hfit]; simp [hse, hle])))
            have hex2 := extract_str s 0 (s.length - (endS (k + 1)).length)
            rw [List.drop_zero] at hex2
            clear hpk hfit
            obtain ⟨lt, c0, c1, c2, c3, r0, r1, r2, r3, f0, f1, f2, f3, g0, g1, g2, g3, bel⟩ := HA.out
            go_wp2_with fail
            refine (Suffix1_any ((k : Int) + 1) wr (by omega) (by omega)).mono ?_
            rintro e w5 ⟨rfl, rfl⟩
            go_wp2_with fail
            go_region
            go_wp2_with fail
            go_roundw
            case rel => exact ⟨k + 1, by omega, by go_num, by rw [HPK.out], by rw [HPK.out]; exact (HA.out.set0 _).drew⟩
            case measure => simp [intOf]; omega
        · have HPK := Lib.hid (hpk.trans (if_neg (by rw [hfit]; simp [hle])))
          clear hpk hfit
          obtain ⟨lt, c0, c1, c2, c3, r0, r1, r2, r3, f0, f1, f2, f3, g0, g1, g2, g3, bel⟩ := HA.out
          go_wp2_with fail
          refine (Suffix1_any ((k : Int) + 1) wr (by omega) (by omega)).mono ?_
          rintro e w5 ⟨rfl, rfl⟩
          go_wp2_with fail
          go_roundw
          case rel => exact ⟨k + 1, by omega, by go_num, by rw [HPK.out], by rw [HPK.out]; exact HA.out⟩
          case measure => simp [intOf]; omega
      · have hk4 : k = 4 := by omega
        subst hk4
        have hpl := pk_len s 4
        have hof : (pk s 4).1 = 0 → ofS s = (0, [], [], false) := fun h => by unfold ofS; rw [if_pos (.inr (.inl h))]
        have hof2 : (pk s 4).1 ≠ 0 → ∀ pre ins at_, Lib.indexByte (pk s 4).2 64 = at_ → atCut (pk s 4).2 = (pre, ins) → (pre = [] → ofS s = (0, [], [], false)) ∧ (allB nameB (pre ++ ins) = false → ofS s = (0, [], [], false)) ∧ (pre ≠ [] → allB nameB (pre ++ ins) = true → ofS s = ((pk s 4).1, pre, ins, decide (0 ≤ at_))) := by
          intro h0 pre ins at_ hi hc
          have h60 := H60.out
          refine ⟨fun h => ?_, fun h => ?_, fun h h' => ?_⟩
          · unfold ofS; rw [if_pos (.inr (.inr (.inl (by rw [hc]; exact h))))]
          · unfold ofS; rw [if_pos (.inr (.inr (.inr (by rw [hc]; exact h))))]
          · unfold ofS; rw [hc, hi, if_neg]
            rintro (g | g | g | g)
            · omega
            · exact h0 g
            · exact h g
            · rw [h'] at g; cases g
        generalize hq : pk s 4 = q at *
        obtain ⟨kd, rest⟩ := q
        simp only at hof hof2 hpl HA
        clear hq
        by_cases hkd : kd = 0
        · have HO := Lib.hid (hof hkd)
          clear hof hof2
          obtain ⟨lt, c0, c1, c2, c3, r0, r1, r2, r3, f0, f1, f2, f3, g0, g1, g2, g3, bel⟩ := HA.out
          go_wp2_with fail
          refine bodyPost_ret (v := cutC (0, [], [], false)) (by simp only [results, Tryz.results55]; go_simp) rfl ⟨by rw [HO.out], (by repeat (first | exact Below.refl _ _ | assumption | refine Below.alloc ?_ (by first | omega | (simp <;> omega)) _ | refine Below.setCell ?_ (by first | omega | (simp <;> omega)) _ | refine Below.drew ?_))⟩
        · have HF2 := Lib.hid (hof2 hkd)
          clear hof hof2
          obtain ⟨lt, c0, c1, c2, c3, r0, r1, r2, r3, f0, f1, f2, f3, g0, g1, g2, g3, bel⟩ := HA.out
          go_wp2_with fail
          obtain ⟨w9, hw9⟩ : ∃ w9, w9 = wr.setCell ⟨w.heap.size + 1, 1, none⟩ (sv rest) := ⟨_, rfl⟩
          have ha9 := HA.out.set1 rest
          rw [← hw9] at ha9
          rw [← hw9]
          clear lt c0 c1 c2 c3 r0 r1 r2 r3 f0 f1 f2 f3 g0 g1 g2 g3 bel
          have HA9 := Lib.hid ha9
          clear ha9 hw9 HA
          go_loop [7] (fun i => ∃ k : Nat, k ≤ rest.length ∧ i = .int .i64 k ∧ Hid (∀ j (hj : j < rest.length), j < k → rest[j] ≠ 64)) (fun i => rest.length - (intOf i).toNat)
          case atStart => exact ⟨0, Nat.zero_le _, rfl, fun j _ h => absurd h (by omega)⟩
          case round =>
            obtain ⟨k2, hk2, rfl, hall2⟩ := hrel
            by_cases hlt2 : k2 < rest.length
            · have hex := extract_str rest 0 k2
              have hex2 := extract_str rest (k2 + 1) rest.length
              rw [List.drop_zero] at hex
              rw [List.take_length] at hex2
              by_cases h64 : rest[k2] = 64
              · have hidx := atCut_first hlt2 h64 hall2.out
                have hcut : atCut rest = (rest.take k2, rest.drop (k2 + 1)) := by
                  unfold atCut; rw [hidx, if_pos (by omega)]; simp
                have hof := HF2.out _ _ _ hidx hcut
                rw [show decide ((0 : Int) ≤ (k2 : Int)) = true from by simp] at hof
                have hpl : (rest.take k2).length + (rest.drop (k2 + 1)).length ≤ 140737488355328 := by simp; omega
                have hlt2' := hlt2
                generalize rest.take k2 = pre at *
                generalize rest.drop (k2 + 1) = ins at *
                have hb : ((((({ data := rest.toArray } : ByteArray)[k2]'hlt2).toNat : Nat) : Int) == 64) = true := by show ((rest[k2].toNat : Int) == 64) = true; rw [h64]; rfl
                obtain ⟨lt, c0, c1, c2, c3, r0, r1, r2, r3, f0, f1, f2, f3, g0, g1, g2, g3, bel⟩ := HA9.out
                go_wp2_with fail
                go_region
                refine exit_named ?_
                intro W hW
                have HA := Lib.hid (show OfAt w W kd pre ins true by rw [hW]; exact (((HA9.out.set3 true).set1 pre).set2 ins).drew)
                clear lt c0 c1 c2 c3 r0 r1 r2 r3 f0 f1 f2 f3 g0 g1 g2 g3 bel
                clear hW
                obtain ⟨L, hL⟩ : ∃ L, L = pre ++ ins := ⟨_, rfl⟩
                have hsum := str_add pre ins
                rw [← hL] at hof hsum
                have hLn : L.length = pre.length + ins.length := by rw [hL]; simp
                clear hL
                have HF := Lib.hid hof
                have HP := Lib.hid hpl
                clear hof
                cases hp0 : (pre == ([] : Str))
                · have hpp : ¬ pre = [] := by simpa using hp0
                  have HP0 := Lib.hid hpp
                  have he0 : (pre).isEmpty = false := by simp [hpp]
                  have hnb : ¬ 9223372036854775807 < pre.length + ins.length := by omega
                  clear hpp
                  obtain ⟨lt, c0, c1, c2, c3, r0, r1, r2, r3, f0, f1, f2, f3, g0, g1, g2, g3, bel⟩ := HA.out
                  go_wp2_with fail
                  go_loop [9] (fun i => ∃ k : Nat, k ≤ L.length ∧ i = .int .i64 k ∧ Hid (allB nameB (L.take k) = true)) (fun i => L.length - (intOf i).toNat)
                  case atStart => exact ⟨0, Nat.zero_le _, rfl, by simp [Hid, allB]⟩
                  case round =>
                    obtain ⟨k3, hk3, rfl, hall⟩ := hrel
                    by_cases hlt3 : k3 < L.length
                    · have h1 : allB nameB (L.take (k3 + 1)) = (allB nameB (L.take k3) && nameB (L[k3].toNat : Int)) := by
                        unfold allB; rw [List.take_succ_eq_append_getElem hlt3, List.all_append]; simp
                      have h2 : nameB (L[k3].toNat : Int) = false → allB nameB L = false := fun h => by
                        unfold allB; rw [List.all_eq_false]; exact ⟨L[k3], List.getElem_mem hlt3, by simp [h]⟩
                      have H1 := Lib.hid h1
                      have H2 := Lib.hid h2
                      clear h1 h2
                      go_wp2_with fail
                      refine (nameByte_any (L[k3].toNat : Int) _).mono ?_
                      rintro e v ⟨rfl, rfl⟩
                      cases hpc : nameB (L[k3].toNat : Int)
                      · have H3 := Lib.hid (H2.out hpc)
                        go_wp2_with fail
                        refine bodyPost_ret (v := cutC (0, [], [], false)) (by simp only [results, Tryz.results55]; go_simp) rfl ⟨by rw [HF.out.2.1 H3.out], (by repeat (first | exact Below.refl _ _ | assumption | refine Below.alloc ?_ (by first | omega | (simp <;> omega)) _ | refine Below.setCell ?_ (by first | omega | (simp <;> omega)) _ | refine Below.drew ?_))⟩
                      · have H3 := Lib.hid hpc
                        go_wp2_with fail
                        go_round
                        case rel => exact ⟨k3 + 1, by omega, by go_num, by show _ = true; rw [H1.out, hall.out, H3.out]; rfl⟩
                        case measure => simp [intOf]; omega
                    · have hkn : k3 = L.length := by omega
                      subst hkn
                      have h := hall.out
                      rw [List.take_length] at h
                      have H4 := Lib.hid h
                      clear h
                      go_wp2_with fail
                      refine bodyPost_ret (v := cutC (kd, pre, ins, true)) (by simp only [results, Tryz.results55]; go_simp) rfl ⟨by rw [HF.out.2.2 HP0.out H4.out], (by repeat (first | exact Below.refl _ _ | assumption | refine Below.alloc ?_ (by first | omega | (simp <;> omega)) _ | refine Below.setCell ?_ (by first | omega | (simp <;> omega)) _ | refine Below.drew ?_))⟩
                · have hpp : pre = [] := by simpa using hp0
                  have HP0 := Lib.hid hpp
                  have he0 : (pre).isEmpty = true := by simp [hpp]
                  clear hpp
                  obtain ⟨lt, c0, c1, c2, c3, r0, r1, r2, r3, f0, f1, f2, f3, g0, g1, g2, g3, bel⟩ := HA.out
                  go_wp2_with fail
                  refine bodyPost_ret (v := cutC (0, [], [], false)) (by simp only [results, Tryz.results55]; go_simp) rfl ⟨by rw [HF.out.1 HP0.out], (by repeat (first | exact Below.refl _ _ | assumption | refine Below.alloc ?_ (by first | omega | (simp <;> omega)) _ | refine Below.setCell ?_ (by first | omega | (simp <;> omega)) _ | refine Below.drew ?_))⟩
              · have hb : ((((({ data := rest.toArray } : ByteArray)[k2]'hlt2).toNat : Nat) : Int) == 64) = false := by
                  show ((rest[k2].toNat : Int) == 64) = false
                  rw [beq_eq_false_iff_ne]; intro h; exact h64 (UInt8.toNat_inj.1 (by simp; omega))
                have H64 := Lib.hid h64
                clear h64
                go_wp2_with fail
                go_round
                case rel =>
                  refine ⟨k2 + 1, by omega, by go_num, fun j h1 h2 => ?_⟩
                  by_cases e : j = k2
                  · subst e; exact H64.out
                  · exact hall2.out j h1 (by omega)
                case measure => simp [intOf]; omega
            · have hcut : atCut rest = (rest, []) := by
                unfold atCut; rw [atCut_none (fun j hj => hall2.out j hj (by omega)), if_neg (by omega)]
              have hof := HF2.out rest [] _ (atCut_none (fun j hj => hall2.out j hj (by omega))) hcut
              have HA := HA9
              rw [List.append_nil] at hof
              have hpl : rest.length ≤ 140737488355328 := by omega
              have HF := Lib.hid hof
              have HP := Lib.hid hpl
              clear hof
              cases hp0 : (rest == ([] : Str))
              · have hpp : ¬ rest = [] := by simpa using hp0
                have HP0 := Lib.hid hpp
                have he0 : (rest).isEmpty = false := by simp [hpp]
                have hnb : ¬ 9223372036854775807 < rest.length := by omega
                clear hpp
                obtain ⟨lt, c0, c1, c2, c3, r0, r1, r2, r3, f0, f1, f2, f3, g0, g1, g2, g3, bel⟩ := HA.out
                go_wp2_with fail
                go_loop [9] (fun i => ∃ k : Nat, k ≤ rest.length ∧ i = .int .i64 k ∧ Hid (allB nameB (rest.take k) = true)) (fun i => rest.length - (intOf i).toNat)
                case atStart => exact ⟨0, Nat.zero_le _, rfl, by simp [Hid, allB]⟩
                case round =>
                  obtain ⟨k3, hk3, rfl, hall⟩ := hrel
                  by_cases hlt3 : k3 < rest.length
                  · have h1 : allB nameB (rest.take (k3 + 1)) = (allB nameB (rest.take k3) && nameB (rest[k3].toNat : Int)) := by
                      unfold allB; rw [List.take_succ_eq_append_getElem hlt3, List.all_append]; simp
                    have h2 : nameB (rest[k3].toNat : Int) = false → allB nameB rest = false := fun h => by
                      unfold allB; rw [List.all_eq_false]; exact ⟨rest[k3], List.getElem_mem hlt3, by simp [h]⟩
                    have H1 := Lib.hid h1
                    have H2 := Lib.hid h2
                    clear h1 h2
                    go_wp2_with fail
                    refine (nameByte_any (rest[k3].toNat : Int) _).mono ?_
                    rintro e v ⟨rfl, rfl⟩
                    cases hpc : nameB (rest[k3].toNat : Int)
                    · have H3 := Lib.hid (H2.out hpc)
                      go_wp2_with fail
                      refine bodyPost_ret (v := cutC (0, [], [], false)) (by simp only [results, Tryz.results55]; go_simp) rfl ⟨by rw [HF.out.2.1 H3.out], (by repeat (first | exact Below.refl _ _ | assumption | refine Below.alloc ?_ (by first | omega | (simp <;> omega)) _ | refine Below.setCell ?_ (by first | omega | (simp <;> omega)) _ | refine Below.drew ?_))⟩
                    · have H3 := Lib.hid hpc
                      go_wp2_with fail
                      go_round
                      case rel => exact ⟨k3 + 1, by omega, by go_num, by show _ = true; rw [H1.out, hall.out, H3.out]; rfl⟩
                      case measure => simp [intOf]; omega
                  · have hkn : k3 = rest.length := by omega
                    subst hkn
                    have h := hall.out
                    rw [List.take_length] at h
                    have H4 := Lib.hid h
                    clear h
                    go_wp2_with fail
                    refine bodyPost_ret (v := cutC (kd, rest, [], (decide ((0 : Int) ≤ -1)))) (by simp only [results, Tryz.results55]; go_simp) rfl ⟨by rw [HF.out.2.2 HP0.out H4.out], (by repeat (first | exact Below.refl _ _ | assumption | refine Below.alloc ?_ (by first | omega | (simp <;> omega)) _ | refine Below.setCell ?_ (by first | omega | (simp <;> omega)) _ | refine Below.drew ?_))⟩
              · have hpp : rest = [] := by simpa using hp0
                have HP0 := Lib.hid hpp
                have he0 : (rest).isEmpty = true := by simp [hpp]
                clear hpp
                obtain ⟨lt, c0, c1, c2, c3, r0, r1, r2, r3, f0, f1, f2, f3, g0, g1, g2, g3, bel⟩ := HA.out
                go_wp2_with fail
                refine bodyPost_ret (v := cutC (0, [], [], false)) (by simp only [results, Tryz.results55]; go_simp) rfl ⟨by rw [HF.out.1 HP0.out], (by repeat (first | exact Below.refl _ _ | assumption | refine Below.alloc ?_ (by first | omega | (simp <;> omega)) _ | refine Below.setCell ?_ (by first | omega | (simp <;> omega)) _ | refine Below.drew ?_))⟩
end Od
end Go.Proofs.YtbllehjhmfehbaaGreat
end

section
/- The walks of matinsref15.less and matinsref15.Node; matinsref1.Of by its kind alone. (bel2) -/
namespace Go.Proofs.YtbllehjhmfehbaaGreat
open Go.RowKit
set_option linter.unusedSimpArgs false

namespace Od
def OfK (s : Str) (w : World) (e : Ending) (w' : World) : Prop := ∃ p i a, e = .returned (cutC (kindS s, p, i, a)) ∧ Below w.heap.size w w'
theorem OfK_any (s : Str) (w : World) (hl : s.length ≤ 140737488355328) : Calls Tryz.prog 55 #[sv s] w (OfK s w) :=
  (Of_any s w hl).mono fun e w' ⟨h, hb⟩ => ⟨(ofS s).2.1, (ofS s).2.2.1, (ofS s).2.2.2, by rw [h, ← ofS_kind], hb⟩
set_option maxRecDepth 100000 in
theorem field_kind : ∀ (k : Int) (p i : Str) (a : Bool) (v : World), (Instr.field 100 (cutC (k, p, i, a)) 0).run Tryz.prog v = .ok (.int .i64 k) v := fun _ _ _ _ _ => by kernel_rfl
set_option maxRecDepth 100000 in
set_option maxHeartbeats 4000000 in
theorem less15_any (a b a' b' : Str) (x y : Int) (w : World) :
    Calls Tryz.prog 56 #[.agg #[sv a, sv b, .int .i64 x], .agg #[sv a', sv b', .int .i64 y]] w fun e w' => e = .returned (.bool (ltE (a, b, x) (a', b', y))) ∧ Below w.heap.size w w' := by
  have HM := Lib.hid (show ltE (a, b, x) (a', b', y) = (ltS a a' || (a == a' && (ltS b b' || (b == b' && decide (x < y))))) from rfl)
  cases h1 : (a == a')
  · cases h2 : Op.bytesLess a a'
    · go_enter Tryz.func56, Tryz.ntmps56
      go_wp2_with fail
      go_ret
      exact ⟨ret_bool (by rw [HM.out]; simp [ltS, h1, h2]), (by repeat (first | exact Below.refl _ _ | assumption | refine Below.alloc ?_ (by first | omega | (simp <;> omega)) _ | refine Below.setCell ?_ (by first | omega | (simp <;> omega)) _ | refine Below.drew ?_))⟩
    · go_enter Tryz.func56, Tryz.ntmps56
      go_wp2_with fail
      go_ret
      exact ⟨ret_bool (by rw [HM.out]; simp [ltS, h1, h2]), (by repeat (first | exact Below.refl _ _ | assumption | refine Below.alloc ?_ (by first | omega | (simp <;> omega)) _ | refine Below.setCell ?_ (by first | omega | (simp <;> omega)) _ | refine Below.drew ?_))⟩
  · have e1 : a = a' := by simpa using h1
    subst e1
    have h2 : Op.bytesLess a a = false := toS.irrefl a
    cases h3 : (b == b')
    · cases h4 : Op.bytesLess b b'
      · go_enter Tryz.func56, Tryz.ntmps56
        go_wp2_with fail
        go_ret
        exact ⟨ret_bool (by rw [HM.out]; simp [ltS, h2, h3, h4]), (by repeat (first | exact Below.refl _ _ | assumption | refine Below.alloc ?_ (by first | omega | (simp <;> omega)) _ | refine Below.setCell ?_ (by first | omega | (simp <;> omega)) _ | refine Below.drew ?_))⟩
      · go_enter Tryz.func56, Tryz.ntmps56
        go_wp2_with fail
        go_ret
        exact ⟨ret_bool (by rw [HM.out]; simp [ltS, h2, h3, h4]), (by repeat (first | exact Below.refl _ _ | assumption | refine Below.alloc ?_ (by first | omega | (simp <;> omega)) _ | refine Below.setCell ?_ (by first | omega | (simp <;> omega)) _ | refine Below.drew ?_))⟩
    · have e2 : b = b' := by simpa using h3
      subst e2
      have h4 : Op.bytesLess b b = false := toS.irrefl b
      go_enter Tryz.func56, Tryz.ntmps56
      go_wp2_with fail
      go_ret
      exact ⟨ret_bool (by rw [HM.out]; simp [ltS, h2, h4]), (by repeat (first | exact Below.refl _ _ | assumption | refine Below.alloc ?_ (by first | omega | (simp <;> omega)) _ | refine Below.setCell ?_ (by first | omega | (simp <;> omega)) _ | refine Below.drew ?_))⟩
theorem nodeOf_at {ns : List Nd} {s : Str} {k : Nat} (hk : k < ns.length) (h0 : (ns.take k).any (fun n => n.1 == s) = false) (h : (ns[k].1 == s) = true) : nodeOf ns s = some ns[k] := find_at hk h0 h
set_option maxRecDepth 100000 in
set_option maxHeartbeats 4000000 in
theorem Node15_any (An Ae : Option Addr) (ne cn ce : Nat) (ns : List Nd) (s : Str) (w : World) (hr : Rd w w.heap.size 3 An ns.length (ndsC ns)) (hl : ns.length ≤ 1000000) :
    Calls Tryz.prog 49 #[gV An ns.length cn Ae ne ce, sv s] w fun e w' => e = .returned (nodeV (nodeOf ns s)) ∧ Below w.heap.size w w' := by
  have Hr := Lib.hid hr
  clear hr
  go_enter Tryz.func49, Tryz.ntmps49
  go_wp2_with fail
  first | (refine wp_named ?_; intro W1 hW) | (refine calls_named ?_; intro W1 hW)
  have B1 : Below w.heap.size w W1 := by rw [hW]; exact (by repeat (first | exact Below.refl _ _ | assumption | refine Below.alloc ?_ (by first | omega | (simp <;> omega)) _ | refine Below.setCell ?_ (by first | omega | (simp <;> omega)) _ | refine Below.drew ?_))
  replace Hr := Lib.hid (Hr.out.at B1)
  have n1 : w.heap.size < W1.heap.size := by rw [hW]; simp <;> omega
  have n2 : w.heap.size + 1 < W1.heap.size := by rw [hW]; simp <;> omega
  have g0 : W1.cell? ⟨w.heap.size, 0, none⟩ = some (.slice An ns.length cn) := by rw [hW]; go_simp
  have g1 : W1.cell? ⟨w.heap.size, 1, none⟩ = some (.slice Ae ne ce) := by rw [hW]; go_simp
  have r0 : W1.cell? ⟨w.heap.size + 1, 0, none⟩ = some (sv []) := by rw [hW]; go_simp
  have r1 : W1.cell? ⟨w.heap.size + 1, 1, none⟩ = some (.int .i64 0) := by rw [hW]; go_simp
  have r2 : W1.cell? ⟨w.heap.size + 1, 2, none⟩ = some (.int .i64 0) := by rw [hW]; go_simp
  have f0 : W1.frozen? ⟨w.heap.size + 1, 0, none⟩ = false := by rw [hW]; go_simp
  have f1 : W1.frozen? ⟨w.heap.size + 1, 1, none⟩ = false := by rw [hW]; go_simp
  have f2 : W1.frozen? ⟨w.heap.size + 1, 2, none⟩ = false := by rw [hW]; go_simp
  clear hW
  have HB := Lib.hid B1
  clear B1
  go_loopw [11] (fun i wr => ∃ k : Nat, k ≤ ns.length ∧ i = .int .i64 k ∧ Hid ((ns.take k).any (fun n => n.1 == s) = false) ∧ Below W1.heap.size W1 wr) (fun i _ => ns.length - (intOf i).toNat)
  case atStart => exact ⟨0, Nat.zero_le _, rfl, by simp [Hid], Below.refl _ _⟩
  case round =>
    obtain ⟨k, hk, rfl, hall, hb⟩ := hrel
    have Hb := Lib.hid hb
    replace g0 := cellAt g0 hb (by omega)
    replace g1 := cellAt g1 hb (by omega)
    replace r0 := cellAt r0 hb (by omega)
    replace r1 := cellAt r1 hb (by omega)
    replace r2 := cellAt r2 hb (by omega)
    replace f0 := froAt f0 hb (by omega)
    replace f1 := froAt f1 hb (by omega)
    replace f2 := froAt f2 hb (by omega)
    replace Hr := Lib.hid (Hr.out.at hb)
    replace n1 : w.heap.size < wr.heap.size := ltAt n1 hb
    replace n2 : w.heap.size + 1 < wr.heap.size := ltAt n2 hb
    replace HB := Lib.hid (lift HB.out hb)
    clear hb
    have hzw : w.heap.size + 1 < wr.heap.size := n2
    by_cases hlt : k < ns.length
    · obtain ⟨b, o, rfl, hB, x0, x1, x2⟩ := Hr.out.node hlt
      have hnx := nodeOf_at (s := s) hlt hall.out
      have hany := any_take_succ (p := fun n : Nd => n.1 == s) hlt
      generalize ns[k] = z at x0 x1 x2 hnx hany
      obtain ⟨s', t', r'⟩ := z
      simp only at x0 x1 x2 hnx hany
      have HA := Lib.hid hany
      have HX := Lib.hid hnx
      clear hany hnx
      have k1 : (0 : Int) ≤ (k : Int) := by omega
      have k2 : (k : Int) < (ns.length : Int) := by omega
      cases hss : (s' == s)
      · have HA2 := Lib.hid (show (ns.take (k + 1)).any (fun n => n.1 == s) = false by rw [HA.out, hall.out, hss]; rfl)
        go_wp2_with fail
        go_roundw
        case rel => exact ⟨k + 1, by omega, by go_num, HA2.out, Hb.out.alloc Hb.out.size _⟩
        case measure => simp [intOf]; omega
      · have HX2 := Lib.hid (HX.out hss)
        have e1 : s' = s := by simpa using hss
        subst e1
        go_wp2_with fail
        have hB0 := HB.out
        refine bodyPost_ret (v := .tuple #[ndV (s', t', r'), .bool true]) (by simp only [results, Tryz.results49]; go_simp) rfl ⟨by rw [HX2.out]; rfl, (by repeat (first | exact Below.refl _ _ | assumption | refine Below.alloc ?_ (by first | omega | (simp <;> omega)) _ | refine Below.setCell ?_ (by first | omega | (simp <;> omega)) _ | refine Below.drew ?_))⟩
    · have HN := Lib.hid (show nodeOf ns s = none from find_none_take (by have := hall.out; rwa [List.take_of_length_le (by omega)] at this))
      go_wp2_with fail
      have hB0 := HB.out
      refine bodyPost_ret (v := .tuple #[ndV ([], 0, 0), .bool false]) (by simp only [results, Tryz.results49]; go_simp) rfl ⟨by rw [HN.out]; rfl, (by repeat (first | exact Below.refl _ _ | assumption | refine Below.alloc ?_ (by first | omega | (simp <;> omega)) _ | refine Below.setCell ?_ (by first | omega | (simp <;> omega)) _ | refine Below.drew ?_))⟩
end Od
end Go.Proofs.YtbllehjhmfehbaaGreat
end

section
/- Jobs as data: how they lie in cells. No program. -/
namespace Go.Proofs.YtbllehjhmfehbaaGreat
open Go.RowKit

/-- A unit, the type of its job, its state, its end. -/
abbrev Jb := Str × Int × Int × Int
def jbC (j : Jb) : List Value := [sv j.1, .int .i64 j.2.1, .int .i64 j.2.2.1, .int .i64 j.2.2.2]
def jbsC (l : List Jb) : List Value := l.flatMap jbC
abbrev jbV (j : Jb) : Value := .agg #[sv j.1, .int .i64 j.2.1, .int .i64 j.2.2.1, .int .i64 j.2.2.2]
theorem jbC_len (j : Jb) : (jbC j).length = 4 := rfl
theorem jbsC_len (l : List Jb) : (jbsC l).length = l.length * 4 := flat_len jbC 4 jbC_len l
theorem jbsC_app (a b : List Jb) : jbsC (a ++ b) = jbsC a ++ jbsC b := by simp [jbsC]
theorem jbsC_one (j : Jb) : jbsC [j] = jbC j := by simp [jbsC]
theorem one_jbC (j : Jb) : ∀ u ∈ jbC j, u.oneCell' = true := fun u hu => by
  simp only [jbC, List.mem_cons, List.not_mem_nil, or_false] at hu
  rcases hu with rfl | rfl | rfl | rfl <;> rfl
theorem one_jbsC (l : List Jb) : ∀ u ∈ jbsC l, u.oneCell' = true := fun u hu => by
  obtain ⟨j, _, hj⟩ := List.mem_flatMap.1 hu
  exact one_jbC j u hj
theorem jbsC_take (l : List Jb) (n : Nat) : jbsC (l.take n) = (jbsC l).take (n * 4) := by
  induction l generalizing n with
  | nil => simp [jbsC]
  | cons x l ih =>
    cases n with
    | zero => simp [jbsC]
    | succ n =>
      have h := ih n
      simp only [jbsC] at h
      simp only [jbsC, List.take_succ_cons, List.flatMap_cons, h]
      have e : (jbC x).take ((n + 1) * 4) = jbC x := List.take_of_length_le (by rw [jbC_len]; omega)
      rw [List.take_append, e, jbC_len, show (n + 1) * 4 - 4 = n * 4 by omega]
theorem jbsC_drop (l : List Jb) (n : Nat) : jbsC (l.drop n) = (jbsC l).drop (n * 4) := by
  induction l generalizing n with
  | nil => simp [jbsC]
  | cons x l ih =>
    cases n with
    | zero => simp [jbsC]
    | succ n =>
      have h := ih n
      simp only [jbsC] at h
      simp only [jbsC, List.drop_succ_cons, List.flatMap_cons, h]
      have e : (jbC x).drop ((n + 1) * 4) = [] := List.drop_eq_nil_of_le (by rw [jbC_len]; omega)
      rw [List.drop_append, e, jbC_len, show (n + 1) * 4 - 4 = n * 4 by omega]
      rfl
/-- The four cells of a job. -/
theorem Rd.job {w : World} {B : Nat} {A : Option Addr} {q : List Jb} (h : Rd w B 4 A q.length (jbsC q)) {i : Nat} (hi : i < q.length) :
    ∃ b o : Nat, A = some ⟨b, o, none⟩ ∧ b < B ∧ w.cell? ⟨b, o + i * 4, none⟩ = some (sv q[i].1) ∧ w.cell? ⟨b, o + i * 4 + 1, none⟩ = some (.int .i64 q[i].2.1) ∧ w.cell? ⟨b, o + i * 4 + 2, none⟩ = some (.int .i64 q[i].2.2.1) ∧
      w.cell? ⟨b, o + i * 4 + 3, none⟩ = some (.int .i64 q[i].2.2.2) := by
  obtain ⟨b, o, e, hb, hc⟩ := h.open (by omega)
  have h0 := flat_at jbC 4 jbC_len q i 0 hi (by omega)
  have h1 := flat_at jbC 4 jbC_len q i 1 hi (by omega)
  have h2 := flat_at jbC 4 jbC_len q i 2 hi (by omega)
  have h3 := flat_at jbC 4 jbC_len q i 3 hi (by omega)
  refine ⟨b, o, e, hb, ?_, ?_, ?_, ?_⟩
  · exact (hc (i * 4) (by omega)).trans h0
  · exact (hc (i * 4 + 1) (by omega)).trans h1
  · exact (hc (i * 4 + 2) (by omega)).trans h2
  · exact (hc (i * 4 + 3) (by omega)).trans h3
end Go.Proofs.YtbllehjhmfehbaaGreat
end

section
/- What a queue's functions answer, as lists, and what is true of it. No program. -/
namespace Go.Proofs.YtbllehjhmfehbaaGreat
set_option linter.unusedSimpArgs false
namespace Od
/-- Does a come directly ahead of b? -/
def Ah (es : List Ed) (a b : Str) : Bool := es.any (aheadB a b)
theorem Ah_prs {es : List Ed} {a b : Str} : Ah es a b = true ↔ (a, b) ∈ prsL es := aheadB_prs
theorem Ah_self {es : List Ed} (h : isB es = true) (a : Str) : Ah es a a = false := by
  cases hh : Ah es a a
  · rfl
  · exact absurd (R.one (Ah_prs.1 hh)) (isB_iff.1 h a)
theorem Ah_not {es : List Ed} (h : isB es = true) {a b : Str} (hab : Ah es a b = true) : Ah es b a = false := by
  cases hh : Ah es b a
  · rfl
  · exact absurd ((R.one (Ah_prs.1 hab)).snoc (Ah_prs.1 hh)) (isB_iff.1 h a)
/-! What a queue may be -/
def stB (j : Jb) : Bool := if j.2.2.1 = 1 ∨ j.2.2.1 = 2 then j.2.2.2 == 0 else if j.2.2.1 = 3 then decide (1 ≤ j.2.2.2) && decide (j.2.2.2 ≤ 4) else false
def mayJ (j : Jb) : Bool := kindS j.1 != 0 && (!decide (j.2.1 < 1) && (!decide (4 < j.2.1) && stB j))
def jobCmp (a b : Jb) : Int := cmpS a.1 b.1
def mayQ (q : List Jb) : Bool := decide ((q.length : Int) ≤ 64) && (q.all mayJ && risesB jobCmp q)
def upQ (q : List Jb) : Prop := q.Pairwise (fun a b => ltS a.1 b.1 = true)
theorem cmpS_lt {a b : Str} : cmpS a b < 0 ↔ ltS a b = true := by
  unfold cmpS
  rw [lessS_lt]
  split
  · simp_all
  · split <;> simp_all
theorem upQ_iff {q : List Jb} : risesB jobCmp q = true ↔ upQ q := by
  constructor
  · intro h
    exact (up_pw (c := jobCmp) (fun x y z h1 h2 => cmpS_lt.2 (toS.trans (cmpS_lt.1 h1) (cmpS_lt.1 h2))) h).imp fun {a b} h => cmpS_lt.1 h
  · intro h
    exact pw_up (h.imp fun {a b} h => cmpS_lt.2 h)
theorem mayQ_iff {q : List Jb} : mayQ q = true ↔ q.length ≤ 64 ∧ (∀ j ∈ q, mayJ j = true) ∧ upQ q := by
  unfold mayQ
  rw [Bool.and_eq_true, Bool.and_eq_true, decide_eq_true_eq, List.all_eq_true, upQ_iff]
  constructor
  · rintro ⟨h1, h2⟩; exact ⟨by omega, h2⟩
  · rintro ⟨h1, h2⟩; exact ⟨by omega, h2⟩
theorem mayQ_nil : mayQ [] = true := mayQ_iff.2 ⟨by simp, by simp, .nil⟩
theorem upQ_map {q : List Jb} : upQ q ↔ (q.map (·.1)).Pairwise (fun a b => ltS a b = true) := (List.pairwise_map (f := fun x : Jb => x.1) (R := fun a b => ltS a b = true)).symm
/-- Each unit once. -/
def DQ (q : List Jb) : Prop := (q.map (·.1)).Nodup
theorem upQ.dq {q : List Jb} (h : upQ q) : DQ q := by
  show (q.map (·.1)).Pairwise (· ≠ ·)
  exact (upQ_map.1 h).imp fun {a b} hab e => by rw [e, toS.irrefl] at hab; cases hab
theorem mayQ.dq {q : List Jb} (h : mayQ q = true) : DQ q := (mayQ_iff.1 h).2.2.dq
theorem DQ.eq : ∀ {q : List Jb}, DQ q → ∀ {x y : Jb}, x ∈ q → y ∈ q → x.1 = y.1 → x = y
  | [], _, x, y, hx, _, _ => by cases hx
  | j :: r, h, x, y, hx, hy, he => by
    have h' : (j.1 :: r.map (·.1)).Nodup := h
    obtain ⟨h1, h2⟩ := List.nodup_cons.1 h'
    rcases List.mem_cons.1 hx with ex | hx'
    · rcases List.mem_cons.1 hy with ey | hy'
      · rw [ex, ey]
      · exact absurd (List.mem_map.2 ⟨y, hy', by rw [← he, ex]⟩) h1
    · rcases List.mem_cons.1 hy with ey | hy'
      · exact absurd (List.mem_map.2 ⟨x, hx', by rw [he, ey]⟩) h1
      · exact DQ.eq h2 hx' hy' he
theorem DQ.of_units {q q' : List Jb} (h : DQ q) (e : q'.map (·.1) = q.map (·.1)) : DQ q' := by unfold DQ; rw [e]; exact h
theorem upQ.of_units {q q' : List Jb} (h : upQ q) (e : q'.map (·.1) = q.map (·.1)) : upQ q' := by rw [upQ_map, e]; exact upQ_map.1 h
/-! Where a unit's job is -/
def jobOf (q : List Jb) (u : Str) : Option Jb := q.find? (fun j => j.1 == u)
theorem jobOf_mem {q : List Jb} {u : Str} {j : Jb} (h : jobOf q u = some j) : j ∈ q ∧ j.1 = u := ⟨List.mem_of_find?_eq_some h, by have := List.find?_some h; simpa using this⟩
theorem jobOf_of {q : List Jb} (hd : DQ q) {j : Jb} (hj : j ∈ q) : jobOf q j.1 = some j := by
  cases h : jobOf q j.1 with
  | none => have := List.find?_eq_none.1 h j hj; simp at this
  | some k => obtain ⟨h1, h2⟩ := jobOf_mem h; rw [hd.eq h1 hj h2]
theorem jobOf_none {q : List Jb} {u : Str} : jobOf q u = none ↔ ∀ j ∈ q, j.1 ≠ u := by unfold jobOf; simp [List.find?_eq_none]
theorem jobOf_iff {q : List Jb} (hd : DQ q) {u : Str} {j : Jb} : jobOf q u = some j ↔ j ∈ q ∧ j.1 = u :=
  ⟨jobOf_mem, fun ⟨h1, h2⟩ => h2 ▸ jobOf_of hd h1⟩
def updJ (q : List Jb) (u : Str) (f : Jb → Jb) : List Jb := q.map (fun x => if x.1 = u then f x else x)
theorem updJ_len (q : List Jb) (u : Str) (f : Jb → Jb) : (updJ q u f).length = q.length := by simp [updJ]
theorem mem_updJ {q : List Jb} {u : Str} {f : Jb → Jb} {y : Jb} : y ∈ updJ q u f ↔ ∃ x ∈ q, y = if x.1 = u then f x else x := by
  unfold updJ; rw [List.mem_map]
  constructor
  · rintro ⟨x, h1, h2⟩; exact ⟨x, h1, h2.symm⟩
  · rintro ⟨x, h1, h2⟩; exact ⟨x, h1, h2.symm⟩
theorem updJ_units {q : List Jb} {u : Str} {f : Jb → Jb} (h : ∀ x ∈ q, x.1 = u → (f x).1 = u) : (updJ q u f).map (·.1) = q.map (·.1) := by
  unfold updJ
  rw [List.map_map]
  apply List.map_congr_left
  intro x hx
  simp only [Function.comp]
  split
  · rename_i e; rw [h x hx e, e]
  · rfl
theorem updJ_congr {q : List Jb} {u : Str} {f g : Jb → Jb} (h : ∀ x ∈ q, x.1 = u → f x = g x) : updJ q u f = updJ q u g := by
  unfold updJ
  apply List.map_congr_left
  intro x hx
  split
  · rename_i e; exact h x hx e
  · rfl
theorem updJ_none {q : List Jb} {u : Str} {f : Jb → Jb} (h : ∀ x ∈ q, x.1 ≠ u) : updJ q u f = q := by
  unfold updJ
  rw [List.map_congr_left (g := id) (fun x hx => by rw [if_neg (h x hx)]; rfl), List.map_id]
theorem updJ_comm {q : List Jb} {a b : Str} {f g : Jb → Jb} (hab : a ≠ b) (hf : ∀ x, (f x).1 = x.1) (hg : ∀ x, (g x).1 = x.1) : updJ (updJ q a f) b g = updJ (updJ q b g) a f := by
  unfold updJ
  rw [List.map_map, List.map_map]
  apply List.map_congr_left
  intro x _
  simp only [Function.comp]
  by_cases h1 : x.1 = a
  · have h2 : ¬ x.1 = b := by rw [h1]; exact hab
    have h3 : ¬ (f x).1 = b := by rw [hf]; exact h2
    rw [if_pos h1, if_neg h3, if_neg h2, if_pos h1]
  · rw [if_neg h1]
    by_cases h2 : x.1 = b
    · have h3 : ¬ (g x).1 = a := by rw [hg]; exact h1
      rw [if_pos h2, if_neg h3]
    · rw [if_neg h2, if_neg h1]
theorem set_upd {q : List Jb} (hd : DQ q) {k : Nat} (hk : k < q.length) (x : Jb) : q.set k x = updJ q q[k].1 (fun _ => x) := by
  apply List.ext_getElem (by simp [updJ])
  intro i h1 h2
  have hi : i < q.length := by simpa using h1
  simp only [List.getElem_set, updJ, List.getElem_map]
  by_cases e : k = i
  · subst e; simp
  · rw [if_neg e, if_neg]
    intro e2
    have hp := List.pairwise_iff_getElem.1 (show (q.map (·.1)).Pairwise (· ≠ ·) from hd)
    rcases Nat.lt_or_gt_of_ne e with h | h
    · exact hp k i (by simpa using hk) (by simpa using hi) h (by simp [e2])
    · exact hp i k (by simpa using hi) (by simpa using hk) h (by simp [e2])
theorem jobOf_upd_ne {q : List Jb} {u v : Str} {f : Jb → Jb} (hf : ∀ x, x.1 = u → (f x).1 = u) (hne : v ≠ u) : jobOf (updJ q u f) v = jobOf q v := by
  unfold jobOf updJ
  induction q with
  | nil => rfl
  | cons x r ih =>
    simp only [List.map_cons, List.find?_cons]
    by_cases hx : x.1 = u
    · have h1 : ((f x).1 == v) = false := by rw [hf x hx]; simpa using Ne.symm hne
      have h2 : (x.1 == v) = false := by rw [hx]; simpa using Ne.symm hne
      rw [if_pos hx, h1, h2]
      exact ih
    · rw [if_neg hx]
      split
      · rfl
      · exact ih
theorem mayQ_upd {q : List Jb} {u : Str} {f : Jb → Jb} (h : mayQ q = true) (hf : ∀ x ∈ q, x.1 = u → mayJ (f x) = true ∧ (f x).1 = u) : mayQ (updJ q u f) = true := by
  obtain ⟨h1, h2, h3⟩ := mayQ_iff.1 h
  refine mayQ_iff.2 ⟨by rw [updJ_len]; exact h1, fun y hy => ?_, h3.of_units (updJ_units fun x hx e => (hf x hx e).2)⟩
  obtain ⟨x, hx, rfl⟩ := mem_updJ.1 hy
  split
  · rename_i e; exact (hf x hx e).1
  · exact h2 x hx
theorem mayQ_sub {q l : List Jb} (h : mayQ q = true) (hs : l.Sublist q) : mayQ l = true := by
  obtain ⟨h1, h2, h3⟩ := mayQ_iff.1 h
  exact mayQ_iff.2 ⟨Nat.le_trans hs.length_le h1, fun j hj => h2 j (hs.subset hj), List.Pairwise.sublist hs h3⟩
/-! Who goes ahead -/
def endsB (j : Jb) : Bool := j.2.1 == 2 || j.2.1 == 3
def openB (j : Jb) : Bool := j.2.2.1 != 3
def startsB (j : Jb) : Bool := j.2.1 == 1 || j.2.1 == 3
def aheadJ (es : List Ed) (x y : Jb) : Bool :=
  if x.2.2.1 = 3 ∨ x.1 = y.1 then false
  else if x.2.2.1 = 2 then Ah es x.1 y.1 || Ah es y.1 x.1
  else (Ah es y.1 x.1 && endsB x) || (Ah es x.1 y.1 && !endsB y)
def waitsJ (es : List Ed) (q : List Jb) (j : Jb) : List Str := (q.filter (fun x => aheadJ es x j)).map (·.1)
def waitsQ (es : List Ed) (q : List Jb) (u : Str) : List Str :=
  match jobOf q u with
  | none => []
  | some j => if (mayQ q && j.2.2.1 == 1) = true then waitsJ es q j else []
def readyB (es : List Ed) (q : List Jb) (j : Jb) : Bool := j.2.2.1 == 1 && (waitsQ es q j.1).isEmpty
def readyQ (es : List Ed) (q : List Jb) : List Str := if mayQ q = true then (q.filter (readyB es q)).map (·.1) else []
def runPair (es : List Ed) (a b : Jb) : Bool := (a.2.2.1 == 2 && b.2.2.1 == 2) && (Ah es a.1 b.1 || Ah es b.1 a.1)
def noPair (es : List Ed) : List Jb → Bool
  | [] => true
  | a :: r => r.all (fun b => !runPair es a b) && noPair es r
def soundQ (ns : List Nd) (es : List Ed) (q : List Jb) : Bool := mayG ns es && (isB es && (mayQ q && noPair es q))
def NoRun (es : List Ed) (q : List Jb) : Prop := ∀ x ∈ q, ∀ y ∈ q, x.2.2.1 = 2 → y.2.2.1 = 2 → Ah es x.1 y.1 = false
theorem noPair_iff {es : List Ed} {q : List Jb} : noPair es q = true ↔ q.Pairwise (fun a b => runPair es a b = false) := by
  induction q with
  | nil => simp [noPair]
  | cons a r ih =>
    unfold noPair
    rw [Bool.and_eq_true, ih, List.pairwise_cons, List.all_eq_true]
    simp only [Bool.not_eq_true']
theorem noPair_run {es : List Ed} (hi : isB es = true) {q : List Jb} : noPair es q = true ↔ NoRun es q := by
  rw [noPair_iff]
  constructor
  · intro h x hx y hy h1 h2
    obtain ⟨i, hi1, rfl⟩ := List.mem_iff_getElem.1 hx
    obtain ⟨k, hk1, rfl⟩ := List.mem_iff_getElem.1 hy
    have hp := List.pairwise_iff_getElem.1 h
    rcases Nat.lt_trichotomy i k with h3 | h3 | h3
    · have := hp i k hi1 hk1 h3
      simp only [runPair, h1, h2, BEq.rfl, Bool.and_self, Bool.true_and, Bool.or_eq_false_iff] at this
      exact this.1
    · subst h3; exact Ah_self hi _
    · have := hp k i hk1 hi1 h3
      simp only [runPair, h1, h2, BEq.rfl, Bool.and_self, Bool.true_and, Bool.or_eq_false_iff] at this
      exact this.2
  · intro h
    refine List.pairwise_iff_getElem.2 fun i k hi1 hk1 _ => ?_
    have h1 := h q[i] (List.getElem_mem hi1) q[k] (List.getElem_mem hk1)
    have h2 := h q[k] (List.getElem_mem hk1) q[i] (List.getElem_mem hi1)
    unfold runPair
    cases h3 : (q[i].2.2.1 == 2)
    · rfl
    · cases h4 : (q[k].2.2.1 == 2)
      · rfl
      · simp only [beq_iff_eq] at h3 h4
        rw [h1 h3 h4, h2 h4 h3]; rfl
theorem soundQ_iff {ns : List Nd} {es : List Ed} {q : List Jb} : soundQ ns es q = true ↔ mayG ns es = true ∧ isB es = true ∧ mayQ q = true ∧ NoRun es q := by
  unfold soundQ
  rw [Bool.and_eq_true, Bool.and_eq_true, Bool.and_eq_true]
  constructor
  · rintro ⟨h1, h2, h3, h4⟩; exact ⟨h1, h2, h3, (noPair_run h2).1 h4⟩
  · rintro ⟨h1, h2, h3, h4⟩; exact ⟨h1, h2, h3, (noPair_run h2).2 h4⟩
/-- Nothing goes ahead of a job. -/
def FreeJ (es : List Ed) (q : List Jb) (j : Jb) : Prop := ∀ x ∈ q, aheadJ es x j = false
theorem waitsQ_of {es : List Ed} {q : List Jb} (h : mayQ q = true) {j : Jb} (hj : j ∈ q) (h1 : j.2.2.1 = 1) : waitsQ es q j.1 = waitsJ es q j := by
  unfold waitsQ; rw [jobOf_of (mayQ.dq h) hj]; simp [h, h1]
theorem waitsQ_no {es : List Ed} {q : List Jb} (h : mayQ q = true) {j : Jb} (hj : j ∈ q) (h1 : j.2.2.1 ≠ 1) : waitsQ es q j.1 = [] := by
  unfold waitsQ; rw [jobOf_of (mayQ.dq h) hj]; simp [h1]
theorem waitsJ_nil {es : List Ed} {q : List Jb} {j : Jb} : waitsJ es q j = [] ↔ FreeJ es q j := by
  unfold waitsJ FreeJ
  rw [List.map_eq_nil_iff, List.filter_eq_nil_iff]
  simp only [Bool.not_eq_true]
theorem readyB_iff {es : List Ed} {q : List Jb} (h : mayQ q = true) {j : Jb} (hj : j ∈ q) : readyB es q j = true ↔ j.2.2.1 = 1 ∧ FreeJ es q j := by
  unfold readyB
  rw [Bool.and_eq_true, beq_iff_eq, List.isEmpty_iff]
  constructor
  · rintro ⟨h1, h2⟩; rw [waitsQ_of h hj h1] at h2; exact ⟨h1, waitsJ_nil.1 h2⟩
  · rintro ⟨h1, h2⟩; exact ⟨h1, by rw [waitsQ_of h hj h1]; exact waitsJ_nil.2 h2⟩
theorem mem_readyQ {es : List Ed} {q : List Jb} (h : mayQ q = true) {u : Str} : u ∈ readyQ es q ↔ ∃ j ∈ q, j.1 = u ∧ j.2.2.1 = 1 ∧ FreeJ es q j := by
  unfold readyQ
  rw [if_pos h, List.mem_map]
  constructor
  · rintro ⟨j, h1, h2⟩
    obtain ⟨h3, h4⟩ := List.mem_filter.1 h1
    exact ⟨j, h3, h2, (readyB_iff h h3).1 h4⟩
  · rintro ⟨j, h1, h2, h3⟩
    exact ⟨j, List.mem_filter.2 ⟨h1, (readyB_iff h h1).2 h3⟩, h2⟩
theorem readyQ_may {es : List Ed} {q : List Jb} {u : Str} (h : u ∈ readyQ es q) : mayQ q = true := by
  unfold readyQ at h
  split at h
  · assumption
  · cases h
theorem readyQ_len (es : List Ed) (q : List Jb) : (readyQ es q).length ≤ q.length := by
  unfold readyQ
  split
  · rw [List.length_map]; exact List.length_filter_le _ _
  · simp
theorem readyQ_up {es : List Ed} {q : List Jb} : SS ltS (readyQ es q) := by
  unfold readyQ
  split
  · rename_i h
    have h3 := (mayQ_iff.1 h).2.2
    have : upQ (q.filter (readyB es q)) := List.Pairwise.sublist List.filter_sublist h3
    exact upQ_map.1 this
  · exact .nil
/-! What a begin comes to -/
def needsU (es : List Ed) (u : Str) : List Str := (outS es u 1 ++ outS es u 4).filter (fun o => Ah es o u)
def lackJ (q : List Jb) (o : Str) : Bool := match jobOf q o with | none => false | some j => !openB j && (startsB j && j.2.2.2 != 1)
def lacksQ (es : List Ed) (q : List Jb) (u : Str) : Bool := (needsU es u).any (lackJ q)
def lostJ (es : List Ed) (u : Str) (x : Jb) : Bool := (hasE es u x.1 1 || hasE es u x.1 4) && (Ah es x.1 u && (x.2.2.1 == 3 && (startsB x && x.2.2.2 != 1)))
theorem mem_needsU {es : List Ed} {u o : Str} : o ∈ needsU es u ↔ (hasE es u o 1 || hasE es u o 4) = true ∧ Ah es o u = true := by
  unfold needsU
  rw [List.mem_filter, List.mem_append, mem_outS, mem_outS, Bool.or_eq_true, hasE_iff, hasE_iff]
theorem lacks_lost {es : List Ed} {q : List Jb} (hd : DQ q) (u : Str) : lacksQ es q u = q.any (lostJ es u) := by
  rw [Bool.eq_iff_iff]
  unfold lacksQ
  rw [List.any_eq_true, List.any_eq_true]
  constructor
  · rintro ⟨o, h1, h2⟩
    obtain ⟨h3, h4⟩ := mem_needsU.1 h1
    unfold lackJ at h2
    cases hj : jobOf q o with
    | none => rw [hj] at h2; cases h2
    | some j =>
      rw [hj] at h2
      obtain ⟨h5, rfl⟩ := jobOf_mem hj
      refine ⟨j, h5, ?_⟩
      unfold lostJ
      simp only [openB, bne, Bool.not_not] at h2
      rw [h3, h4]
      simpa [bne] using h2
  · rintro ⟨x, h1, h2⟩
    unfold lostJ at h2
    rw [Bool.and_eq_true, Bool.and_eq_true] at h2
    refine ⟨x.1, mem_needsU.2 ⟨h2.1, h2.2.1⟩, ?_⟩
    unfold lackJ
    rw [jobOf_of hd h1]
    have h3 := h2.2.2
    simp only [openB, bne, Bool.not_not]
    simpa [bne] using h3
def begun (es : List Ed) (q : List Jb) (j : Jb) : Jb := if (j.2.1 == 1 && lacksQ es q j.1) = true then (j.1, j.2.1, 3, 3) else (j.1, j.2.1, 2, j.2.2.2)
def beginQ (es : List Ed) (q : List Jb) (u : Str) : Option (List Jb) := if u ∈ readyQ es q then some (updJ q u (begun es q)) else none
/-! What an end comes to -/
def ended (e : Int) (j : Jb) : Jb := if j.2.1 = 3 ∧ j.2.2.1 = 2 ∧ e = 1 then (j.1, 1, 1, j.2.2.2) else (j.1, j.2.1, 3, e)
def mayEnd (e : Int) (j : Jb) : Bool := !decide (e < 1) && (!decide (4 < e) && (openB j && !(j.2.2.1 == 1 && (e == 1 || e == 2))))
def finishQ (q : List Jb) (u : Str) (e : Int) : Option (List Jb) :=
  match jobOf q u with
  | none => none
  | some j => if (mayQ q && mayEnd e j) = true then some (updJ q u (ended e)) else none
def doneOf (j : Jb) : Nd := (j.1, j.2.1, j.2.2.2)
def clearQ (q : List Jb) : List Jb × List Nd := if mayQ q = true then (q.filter openB, (q.filter (fun j => !openB j)).map doneOf) else ([], [])
theorem begun_unit (es : List Ed) (q : List Jb) (j : Jb) : (begun es q j).1 = j.1 := by unfold begun; split <;> rfl
theorem ended_unit (e : Int) (j : Jb) : (ended e j).1 = j.1 := by unfold ended; split <;> rfl
theorem mayJ_iff {j : Jb} : mayJ j = true ↔ kindS j.1 ≠ 0 ∧ 1 ≤ j.2.1 ∧ j.2.1 ≤ 4 ∧ (((j.2.2.1 = 1 ∨ j.2.2.1 = 2) ∧ j.2.2.2 = 0) ∨ (j.2.2.1 = 3 ∧ 1 ≤ j.2.2.2 ∧ j.2.2.2 ≤ 4)) := by
  unfold mayJ stB
  rw [Bool.and_eq_true, Bool.and_eq_true, Bool.and_eq_true]
  simp only [bne_iff_ne, Bool.not_eq_true', decide_eq_false_iff_not, Int.not_lt]
  refine and_congr_right fun _ => and_congr_right fun _ => and_congr_right fun _ => ?_
  split
  · rename_i h; simp only [beq_iff_eq]; omega
  · rename_i h
    split
    · rename_i h3; simp only [Bool.and_eq_true, decide_eq_true_eq]; omega
    · rename_i h3; simp only [Bool.false_eq_true, false_iff]; omega
theorem mayJ_begun {es : List Ed} {q : List Jb} {j : Jb} (h : mayJ j = true) (h1 : j.2.2.1 = 1) : mayJ (begun es q j) = true := by
  rw [mayJ_iff] at h
  unfold begun
  split
  · rw [mayJ_iff]; exact ⟨h.1, h.2.1, h.2.2.1, .inr ⟨rfl, by show (1 : Int) ≤ 3; decide, by show (3 : Int) ≤ 4; decide⟩⟩
  · rw [mayJ_iff]; exact ⟨h.1, h.2.1, h.2.2.1, .inl ⟨.inr rfl, by have := h.2.2.2; show j.2.2.2 = 0; omega⟩⟩
theorem mayJ_ended {e : Int} {j : Jb} (h : mayJ j = true) (h1 : openB j = true) (h2 : 1 ≤ e) (h3 : e ≤ 4) : mayJ (ended e j) = true := by
  rw [mayJ_iff] at h
  have h1' : j.2.2.1 ≠ 3 := by simpa [openB] using h1
  unfold ended
  split
  · rw [mayJ_iff]; exact ⟨h.1, by show (1 : Int) ≤ 1; decide, by show (1 : Int) ≤ 4; decide, .inl ⟨.inl rfl, by have := h.2.2.2; show j.2.2.2 = 0; omega⟩⟩
  · rw [mayJ_iff]; exact ⟨h.1, h.2.1, h.2.2.1, .inr ⟨rfl, h2, h3⟩⟩
/-! What stays sound -/
theorem begin_some {es : List Ed} {q x : List Jb} {u : Str} (h : beginQ es q u = some x) : mayQ q = true ∧ x = updJ q u (begun es q) ∧ ∃ j ∈ q, j.1 = u ∧ j.2.2.1 = 1 ∧ FreeJ es q j := by
  unfold beginQ at h
  split at h
  · rename_i hu
    injection h with h
    have hm := readyQ_may hu
    exact ⟨hm, h.symm, (mem_readyQ hm).1 hu⟩
  · cases h
theorem finish_some {q x : List Jb} {u : Str} {e : Int} (h : finishQ q u e = some x) : mayQ q = true ∧ x = updJ q u (ended e) ∧ ∃ j ∈ q, j.1 = u ∧ mayEnd e j = true := by
  unfold finishQ at h
  cases hj : jobOf q u with
  | none => rw [hj] at h; cases h
  | some j =>
    rw [hj] at h
    simp only at h
    split at h
    · rename_i hc
      rw [Bool.and_eq_true] at hc
      injection h with h
      exact ⟨hc.1, h.symm, j, (jobOf_mem hj).1, (jobOf_mem hj).2, hc.2⟩
    · cases h
theorem mayEnd_iff {e : Int} {j : Jb} : mayEnd e j = true ↔ 1 ≤ e ∧ e ≤ 4 ∧ j.2.2.1 ≠ 3 ∧ ¬ (j.2.2.1 = 1 ∧ (e = 1 ∨ e = 2)) := by
  unfold mayEnd openB
  simp only [Bool.and_eq_true, Bool.not_eq_true', decide_eq_false_iff_not, Int.not_lt, bne_iff_ne, Bool.and_eq_false_iff, Bool.or_eq_false_iff, beq_eq_false_iff_ne, ne_eq]
  omega
theorem may_begin {es : List Ed} {q x : List Jb} {u : Str} (h : beginQ es q u = some x) : mayQ x = true := by
  obtain ⟨hm, rfl, j, hj, rfl, h1, _⟩ := begin_some h
  refine mayQ_upd hm fun y hy e => ?_
  have := (mayQ.dq hm).eq hy hj e
  subst this
  exact ⟨mayJ_begun ((mayQ_iff.1 hm).2.1 y hy) h1, begun_unit _ _ _⟩
theorem may_finish {q x : List Jb} {u : Str} {e : Int} (h : finishQ q u e = some x) : mayQ x = true := by
  obtain ⟨hm, rfl, j, hj, rfl, h1⟩ := finish_some h
  refine mayQ_upd hm fun y hy e' => ?_
  have := (mayQ.dq hm).eq hy hj e'
  subst this
  have h2 := mayEnd_iff.1 h1
  exact ⟨mayJ_ended ((mayQ_iff.1 hm).2.1 y hy) (by simpa [openB] using h2.2.2.1) h2.1 h2.2.1, ended_unit _ _⟩
theorem ahead_run {es : List Ed} {x j : Jb} (h : aheadJ es x j = false) (h2 : x.2.2.1 = 2) (hne : x.1 ≠ j.1) : Ah es x.1 j.1 = false ∧ Ah es j.1 x.1 = false := by
  unfold aheadJ at h
  rw [if_neg (by rw [h2]; intro h; rcases h with h | h; · cases h
                 · exact hne h), if_pos h2, Bool.or_eq_false_iff] at h
  exact h
theorem noRun_begin {es : List Ed} (hi : isB es = true) {q x : List Jb} {u : Str} (hn : NoRun es q) (h : beginQ es q u = some x) : NoRun es x := by
  obtain ⟨hm, rfl, j, hj, rfl, h1, hf⟩ := begin_some h
  intro a ha b hb ra rb
  obtain ⟨a', ha', rfl⟩ := mem_updJ.1 ha
  obtain ⟨b', hb', rfl⟩ := mem_updJ.1 hb
  by_cases ea : a'.1 = j.1
  · rw [if_pos ea] at ra ⊢
    by_cases eb : b'.1 = j.1
    · rw [if_pos eb, begun_unit, begun_unit, ea, eb]; exact Ah_self hi _
    · rw [if_neg eb] at rb ⊢
      rw [begun_unit, ea]
      exact (ahead_run (hf b' hb') rb eb).2
  · rw [if_neg ea] at ra ⊢
    by_cases eb : b'.1 = j.1
    · rw [if_pos eb, begun_unit, eb]
      exact (ahead_run (hf a' ha') ra ea).1
    · rw [if_neg eb] at rb ⊢
      exact hn a' ha' b' hb' ra rb
theorem noRun_finish {es : List Ed} {q x : List Jb} {u : Str} {e : Int} (hn : NoRun es q) (h : finishQ q u e = some x) : NoRun es x := by
  obtain ⟨hm, rfl, _⟩ := finish_some h
  intro a ha b hb ra rb
  obtain ⟨a', ha', rfl⟩ := mem_updJ.1 ha
  obtain ⟨b', hb', rfl⟩ := mem_updJ.1 hb
  have hend : ∀ j : Jb, (ended e j).2.2.1 ≠ 2 := fun j => by unfold ended; split <;> simp
  by_cases ea : a'.1 = u
  · rw [if_pos ea] at ra; exact absurd ra (hend _)
  · rw [if_neg ea] at ra ⊢
    by_cases eb : b'.1 = u
    · rw [if_pos eb] at rb; exact absurd rb (hend _)
    · rw [if_neg eb] at rb ⊢
      exact hn a' ha' b' hb' ra rb
theorem sound_begin {ns : List Nd} {es : List Ed} {q x : List Jb} {u : Str} (hs : soundQ ns es q = true) (h : beginQ es q u = some x) : soundQ ns es x = true := by
  obtain ⟨h1, h2, h3, h4⟩ := soundQ_iff.1 hs
  exact soundQ_iff.2 ⟨h1, h2, may_begin h, noRun_begin h2 h4 h⟩
theorem sound_finish {ns : List Nd} {es : List Ed} {q x : List Jb} {u : Str} {e : Int} (hs : soundQ ns es q = true) (h : finishQ q u e = some x) : soundQ ns es x = true := by
  obtain ⟨h1, h2, h3, h4⟩ := soundQ_iff.1 hs
  exact soundQ_iff.2 ⟨h1, h2, may_finish h, noRun_finish h4 h⟩
theorem sound_clear {ns : List Nd} {es : List Ed} {q : List Jb} (hs : soundQ ns es q = true) : soundQ ns es (clearQ q).1 = true := by
  obtain ⟨h1, h2, h3, h4⟩ := soundQ_iff.1 hs
  unfold clearQ
  rw [if_pos h3]
  refine soundQ_iff.2 ⟨h1, h2, mayQ_sub h3 List.filter_sublist, fun x hx y hy => h4 x (List.mem_filter.1 hx).1 y (List.mem_filter.1 hy).1⟩
end Od
end Go.Proofs.YtbllehjhmfehbaaGreat
end

section
/- The walk of matinsref15.May. (bel2) (short) -/
namespace Go.Proofs.YtbllehjhmfehbaaGreat
open Go.RowKit
set_option linter.unusedSimpArgs false

namespace Od
theorem nodeCmp_lt {a b : Nd} : nodeCmp a b < 0 ↔ ltS a.1 b.1 = true := cmpS_lt
theorem mayG_n {ns : List Nd} {es : List Ed} {k : Nat} (hk : k < ns.length) (h : mayN ns[k] = false) : mayG ns es = false := by
  cases hm : mayG ns es
  · rfl
  · have := List.all_eq_true.1 (mayG_iff.1 hm).2.2.2.1 _ (List.getElem_mem hk); rw [h] at this; cases this
theorem mayG_nup {ns : List Nd} {es : List Ed} {k : Nat} (hk : k + 1 < ns.length) (h : ltS ns[k].1 ns[k + 1].1 = false) : mayG ns es = false := by
  cases hm : mayG ns es
  · rfl
  · have := nodeCmp_lt.1 ((risesB_iff _ _).1 (mayG_iff.1 hm).2.1 k hk); rw [h] at this; cases this
theorem mayG_e {ns : List Nd} {es : List Ed} {k : Nat} (hk : k < es.length) (h : edgeOk ns es[k] = false) : mayG ns es = false := by
  cases hm : mayG ns es
  · rfl
  · have := (mayG_iff.1 hm).2.2.2.2 _ (List.getElem_mem hk); rw [h] at this; cases this
theorem mayG_eup {ns : List Nd} {es : List Ed} {k : Nat} (hk : k + 1 < es.length) (h : ltE es[k] es[k + 1] = false) : mayG ns es = false := by
  cases hm : mayG ns es
  · rfl
  · have := List.pairwise_iff_getElem.1 (mayG_iff.1 hm).2.2.1 k (k + 1) (by omega) hk (by omega); rw [h] at this; cases this
def UpN (ns : List Nd) (k : Nat) : Prop := (∀ i (h : i < ns.length), i < k → mayN ns[i] = true) ∧ ∀ i (h : i + 1 < ns.length), i + 1 < k → ltS ns[i].1 ns[i + 1].1 = true
def UpE (ns : List Nd) (es : List Ed) (k : Nat) : Prop := (∀ i (h : i < es.length), i < k → edgeOk ns es[i] = true) ∧ ∀ i (h : i + 1 < es.length), i + 1 < k → ltE es[i] es[i + 1] = true
theorem UpN.step {ns : List Nd} {k : Nat} (h : UpN ns k) (hk : k < ns.length) (hj : mayN ns[k] = true) (hl : ∀ j (e : k = j + 1), ltS (ns[j]'(by omega)).1 ns[k].1 = true) : UpN ns (k + 1) := by
  refine ⟨fun i h1 h2 => ?_, fun i h1 h2 => ?_⟩
  · by_cases hi : i < k
    · exact h.1 i h1 hi
    · obtain rfl : i = k := by omega
      exact hj
  · by_cases hi : i + 1 < k
    · exact h.2 i h1 hi
    · obtain rfl : k = i + 1 := by omega
      exact hl i rfl
theorem UpE.step {ns : List Nd} {es : List Ed} {k : Nat} (h : UpE ns es k) (hk : k < es.length) (hj : edgeOk ns es[k] = true) (hl : ∀ j (e : k = j + 1), ltE (es[j]'(by omega)) es[k] = true) : UpE ns es (k + 1) := by
  refine ⟨fun i h1 h2 => ?_, fun i h1 h2 => ?_⟩
  · by_cases hi : i < k
    · exact h.1 i h1 hi
    · obtain rfl : i = k := by omega
      exact hj
  · by_cases hi : i + 1 < k
    · exact h.2 i h1 hi
    · obtain rfl : k = i + 1 := by omega
      exact hl i rfl
theorem mayG_end {ns : List Nd} {es : List Ed} (h64 : ns.length ≤ 64) (h1 : UpN ns ns.length) (h2 : UpE ns es es.length) : mayG ns es = true := by
  refine mayG_iff.2 ⟨h64, (risesB_iff _ _).2 fun i hi => nodeCmp_lt.2 (h1.2 i hi hi), risesE_iff.1 ((risesB_iff _ _).2 fun i hi => edgeCmp_lt.2 (h2.2 i hi hi)), List.all_eq_true.2 fun n hn => ?_, fun e he => ?_⟩
  · obtain ⟨i, hi, rfl⟩ := List.mem_iff_getElem.1 hn
    exact h1.1 i hi hi
  · obtain ⟨i, hi, rfl⟩ := List.mem_iff_getElem.1 he
    exact h2.1 i hi hi
set_option maxRecDepth 100000 in
set_option maxHeartbeats 32000000 in
theorem May15_any (An Ae : Option Addr) (cn ce : Nat) (ns : List Nd) (es : List Ed) (w : World) (hn : Rd w w.heap.size 3 An ns.length (ndsC ns)) (hr : Rd w w.heap.size 3 Ae es.length (edsC es)) (hl : es.length ≤ 1000000) (hok : OkNs ns) :
    Calls Tryz.prog 22 #[gV An ns.length cn Ae es.length ce] w fun e w' => e = .returned (.bool (mayG ns es)) ∧ Below w.heap.size w w' := by
  have Hn := Lib.hid hn
  have Hr := Lib.hid hr
  have HO := Lib.hid hok
  have hfd := field_kind
  clear hn hr hok
  by_cases h64 : (64 : Int) < (ns.length : Int)
  · have d64 : decide ((64 : Int) < (ns.length : Int)) = true := by simpa using h64
    have Hm := Lib.hid (show mayG ns es = false by unfold mayG; rw [d64]; rfl)
    go_enter Tryz.func22, Tryz.ntmps22
    go_wp2_with fail
    go_ret
    exact ⟨ret_bool (by rw [Hm.out]), (by repeat (first | exact Below.refl _ _ | assumption | refine Below.alloc ?_ (by first | omega | (simp <;> omega)) _ | refine Below.setCell ?_ (by first | omega | (simp <;> omega)) _ | refine Below.drew ?_))⟩
  · have d64 : decide ((64 : Int) < (ns.length : Int)) = false := by simpa using h64
    go_enter Tryz.func22, Tryz.ntmps22
    go_wp2_with fail
    first | (refine wp_named ?_; intro W1 hW) | (refine calls_named ?_; intro W1 hW)
    have B1 : Below w.heap.size w W1 := by rw [hW]; exact (by repeat (first | exact Below.refl _ _ | assumption | refine Below.alloc ?_ (by first | omega | (simp <;> omega)) _ | refine Below.setCell ?_ (by first | omega | (simp <;> omega)) _ | refine Below.drew ?_))
    replace Hr := Lib.hid (Hr.out.at B1)
    replace Hn := Lib.hid (Hn.out.at B1)
    have n1 : w.heap.size < W1.heap.size := by rw [hW]; simp <;> omega
    have c0 : W1.cell? ⟨w.heap.size, 0, none⟩ = some (.slice An ns.length cn) := by rw [hW]; go_simp
    have c1 : W1.cell? ⟨w.heap.size, 1, none⟩ = some (.slice Ae es.length ce) := by rw [hW]; go_simp
    clear hW
    have HB := Lib.hid B1
    clear B1
    go_wp2_with fail
    go_loopw [18] (fun i wr => ∃ k : Nat, k ≤ ns.length ∧ i = .int .i64 k ∧ Hid (UpN ns k) ∧ Below W1.heap.size W1 wr) (fun i _ => ns.length - (intOf i).toNat)
    case atStart => exact ⟨0, Nat.zero_le _, rfl, ⟨fun _ _ h => absurd h (by omega), fun _ _ h => absurd h (by omega)⟩, Below.refl _ _⟩
    case round =>
      obtain ⟨k, hk, rfl, hall, hb⟩ := hrel
      have HU := Lib.hid hall.out
      clear hall
      have Hb := Lib.hid hb
      replace c0 := cellAt c0 hb (by omega)
      replace c1 := cellAt c1 hb (by omega)
      replace Hr := Lib.hid (Hr.out.at hb)
      replace Hn := Lib.hid (Hn.out.at hb)
      replace n1 : w.heap.size < wr.heap.size := ltAt n1 hb
      replace HB := Lib.hid (lift HB.out hb)
      clear hb
      by_cases hlt : k < ns.length
      · obtain ⟨b, o, rfl, hB, x0, x1, x2⟩ := Hn.out.node hlt
        have hlen := HO.out _ (List.getElem_mem hlt)
        generalize hx : ns[k] = x at x0 x1 x2 hlen
        obtain ⟨s, t, r⟩ := x
        have Hx := Lib.hid hx
        clear hx
        simp only at x0 x1 x2 hlen
        have k1 : (0 : Int) ≤ (k : Int) := by omega
        have k2 : (k : Int) < (ns.length : Int) := by omega
        by_cases hkt : kindS s = t
        · have hkb : (kindS s != t) = false := by simp [hkt]
          by_cases ht0 : t = 0
          · have htb : (t == 0) = true := by simpa using ht0
            have Hm := Lib.hid (mayG_n (es := es) hlt (by rw [Hx.out]; show (kindS s != 0 && ((t == kindS s) && (decide (1 ≤ r) && decide (r ≤ 4)))) = false; (simp [hkt, ht0])))
            go_wp2_with fail
            first | (refine wp_named ?_; intro W2 hW) | (refine calls_named ?_; intro W2 hW)
            have B2 : Below wr.heap.size wr W2 := by rw [hW]; exact (by repeat (first | exact Below.refl _ _ | assumption | refine Below.alloc ?_ (by first | omega | (simp <;> omega)) _ | refine Below.setCell ?_ (by first | omega | (simp <;> omega)) _ | refine Below.drew ?_))
            replace c0 := cellAt c0 B2 (by omega)
            replace c1 := cellAt c1 B2 (by omega)
            replace Hr := Lib.hid (Hr.out.at B2)
            replace Hn := Lib.hid (Hn.out.at B2)
            replace n1 : w.heap.size < W2.heap.size := ltAt n1 B2
            replace HB := Lib.hid (lift HB.out B2)
            replace Hb := Lib.hid (lift Hb.out B2)
            replace hB := ltAt hB B2
            have m1 : wr.heap.size < W2.heap.size := by rw [hW]; simp <;> omega
            have e0 : W2.cell? ⟨wr.heap.size, 0, none⟩ = some (sv s) := by rw [hW]; go_simp
            have e1 : W2.cell? ⟨wr.heap.size, 1, none⟩ = some (.int .i64 t) := by rw [hW]; go_simp
            have e2 : W2.cell? ⟨wr.heap.size, 2, none⟩ = some (.int .i64 r) := by rw [hW]; go_simp
            clear hW
            clear B2
            try go_wp2_with fail
            refine wp_region_held_drew (S := fun w' => Below W2.heap.size W2 w') (by kernel_rfl) (Below.drew (Below.refl _ _)) (fun hHeld => ?_)
            refine tV 0 ?_ ?zq ?_; (case zq => rintro _ -; go_simp; try with_reducible rfl); try simp only [Act.put, zn1, zn2, zn3]
            refine tV 1 ?_ ?zq ?_; (case zq => intro w' hSw; have hCell := fun (b o : Nat) (h : b < W2.heap.size) => hSw.cell (p := ⟨b, o, none⟩) h; clear hSw; go_simp; try with_reducible rfl); try simp only [Act.put, zn1, zn2, zn3]
            refine tV 4 ?_ ?zq ?_; (case zq => rintro _ -; go_simp; try with_reducible rfl); try simp only [Act.put, zn1, zn2, zn3]
            refine tV 5 ?_ ?zq ?_; (case zq => intro w' hSw; have hCell := fun (b o : Nat) (h : b < W2.heap.size) => hSw.cell (p := ⟨b, o, none⟩) h; clear hSw; go_simp; try with_reducible rfl); try simp only [Act.put, zn1, zn2, zn3]
            refine ready_one (i := 2) rfl (by kernel_rfl) (fun K hK => ?_)
            go_simp
            refine (OfK_any s _ hlen).mono ?_
            rintro e v3 ⟨zp, zi, za, rfl, hb⟩
            refine hK.out _ _ ?_ (fun hHeld2 => ?_)
            · (try dsimp only); first | exact Below.trans hHeld (Below.mono hb hHeld.size) | exact hHeld | exact Below.drew hHeld | exact (by repeat (first | exact Below.refl _ _ | assumption | refine Below.alloc ?_ (by first | omega | (simp <;> omega)) _ | refine Below.setCell ?_ (by first | omega | (simp <;> omega)) _ | refine Below.drew ?_))
            clear hK K hHeld; have hHeld := hHeld2; clear hHeld2; (try simp only [Act.put, zn1, zn2, zn3])
            refine tV 3 ?_ ?zq ?_; (case zq => rintro _ -; go_simp; try with_reducible rfl); try simp only [Act.put, zn1, zn2, zn3]
            refine tV 6 ?_ ?zq ?_; (case zq => rintro _ -; go_simp; try with_reducible rfl); try simp only [Act.put, zn1, zn2, zn3]
            refine tV 7 ?_ ?zq ?_; (case zq => rintro _ -; go_simp; try with_reducible rfl); try simp only [Act.put, zn1, zn2, zn3]
            refine tV 8 ?_ ?zq ?_; (case zq => rintro _ -; go_simp; try with_reducible rfl); try simp only [Act.put, zn1, zn2, zn3]
            refine tV 9 ?_ ?zq ?_; (case zq => intro w' hSw; have hCell := fun (b o : Nat) (h : b < W2.heap.size) => hSw.cell (p := ⟨b, o, none⟩) h; clear hSw; go_simp; try with_reducible rfl); try simp only [Act.put, zn1, zn2, zn3]
            refine tV 10 ?_ ?zq ?_; (case zq => rintro _ -; go_simp; try with_reducible rfl); try simp only [Act.put, zn1, zn2, zn3]
            refine tV 11 ?_ ?zq ?_; (case zq => rintro _ -; go_simp; try with_reducible rfl); try simp only [Act.put, zn1, zn2, zn3]
            refine tV 12 ?_ ?zq ?_; (case zq => rintro _ -; go_simp; try with_reducible rfl); try simp only [Act.put, zn1, zn2, zn3]
            refine tU 13 ?_; (try simp only [Act.put, zn1, zn2, zn3])
            refine tU 14 ?_; (try simp only [Act.put, zn1, zn2, zn3])
            refine tU 15 ?_; (try simp only [Act.put, zn1, zn2, zn3])
            refine tV 16 ?_ ?zq ?_; (case zq => rintro _ -; go_simp; try with_reducible rfl); try simp only [Act.put, zn1, zn2, zn3]
            refine tV 17 ?_ ?zq ?_; (case zq => rintro _ -; go_simp; try with_reducible rfl); try simp only [Act.put, zn1, zn2, zn3]
            refine tU 18 ?_; (try simp only [Act.put, zn1, zn2, zn3])
            refine tU 19 ?_; (try simp only [Act.put, zn1, zn2, zn3])
            refine tU 20 ?_; (try simp only [Act.put, zn1, zn2, zn3])
            refine tV 21 ?_ ?zq ?_; (case zq => rintro _ -; go_simp; try with_reducible rfl); try simp only [Act.put, zn1, zn2, zn3]
            refine tV 22 ?_ ?zq ?_; (case zq => rintro _ -; go_simp; try with_reducible rfl); try simp only [Act.put, zn1, zn2, zn3]
            refine tU 23 ?_; (try simp only [Act.put, zn1, zn2, zn3])
            refine tU 24 ?_; (try simp only [Act.put, zn1, zn2, zn3])
            refine tU 25 ?_; (try simp only [Act.put, zn1, zn2, zn3])
            refine tU 26 ?_; (try simp only [Act.put, zn1, zn2, zn3])
            refine tU 27 ?_; (try simp only [Act.put, zn1, zn2, zn3])
            refine tU 28 ?_; (try simp only [Act.put, zn1, zn2, zn3])
            refine tU 29 ?_; (try simp only [Act.put, zn1, zn2, zn3])
            refine tU 30 ?_; (try simp only [Act.put, zn1, zn2, zn3])
            refine tU 31 ?_; (try simp only [Act.put, zn1, zn2, zn3])
            refine tU 32 ?_; (try simp only [Act.put, zn1, zn2, zn3])
            refine tU 33 ?_; (try simp only [Act.put, zn1, zn2, zn3])
            refine tU 34 ?_; (try simp only [Act.put, zn1, zn2, zn3])
            refine tU 35 ?_; (try simp only [Act.put, zn1, zn2, zn3])
            refine tU 36 ?_; (try simp only [Act.put, zn1, zn2, zn3])
            refine tV 37 ?_ ?zq ?_; (case zq => rintro _ -; go_simp; try with_reducible rfl); try simp only [Act.put, zn1, zn2, zn3]
            refine wpAnyH_done (by kernel_rfl) ?_ _
            go_wp2_with fail
            go_ret
            exact ⟨ret_bool (by rw [Hm.out]), lift HB.out hHeld⟩
          · have htb : (t == 0) = false := by simpa using ht0
            by_cases r1 : r < 1
            · have rb1 : decide (r < 1) = true := by rw [decide_eq_true_eq]; exact r1
              have Hm := Lib.hid (mayG_n (es := es) hlt (by rw [Hx.out]; show (kindS s != 0 && ((t == kindS s) && (decide (1 ≤ r) && decide (r ≤ 4)))) = false; (simp; omega)))
              go_wp2_with fail
              first | (refine wp_named ?_; intro W2 hW) | (refine calls_named ?_; intro W2 hW)
              have B2 : Below wr.heap.size wr W2 := by rw [hW]; exact (by repeat (first | exact Below.refl _ _ | assumption | refine Below.alloc ?_ (by first | omega | (simp <;> omega)) _ | refine Below.setCell ?_ (by first | omega | (simp <;> omega)) _ | refine Below.drew ?_))
              replace c0 := cellAt c0 B2 (by omega)
              replace c1 := cellAt c1 B2 (by omega)
              replace Hr := Lib.hid (Hr.out.at B2)
              replace Hn := Lib.hid (Hn.out.at B2)
              replace n1 : w.heap.size < W2.heap.size := ltAt n1 B2
              replace HB := Lib.hid (lift HB.out B2)
              replace Hb := Lib.hid (lift Hb.out B2)
              replace hB := ltAt hB B2
              have m1 : wr.heap.size < W2.heap.size := by rw [hW]; simp <;> omega
              have e0 : W2.cell? ⟨wr.heap.size, 0, none⟩ = some (sv s) := by rw [hW]; go_simp
              have e1 : W2.cell? ⟨wr.heap.size, 1, none⟩ = some (.int .i64 t) := by rw [hW]; go_simp
              have e2 : W2.cell? ⟨wr.heap.size, 2, none⟩ = some (.int .i64 r) := by rw [hW]; go_simp
              clear hW
              clear B2
              try go_wp2_with fail
              refine wp_region_held_drew (S := fun w' => Below W2.heap.size W2 w') (by kernel_rfl) (Below.drew (Below.refl _ _)) (fun hHeld => ?_)
              refine tV 0 ?_ ?zq ?_; (case zq => rintro _ -; go_simp; try with_reducible rfl); try simp only [Act.put, zn1, zn2, zn3]
              refine tV 1 ?_ ?zq ?_; (case zq => intro w' hSw; have hCell := fun (b o : Nat) (h : b < W2.heap.size) => hSw.cell (p := ⟨b, o, none⟩) h; clear hSw; go_simp; try with_reducible rfl); try simp only [Act.put, zn1, zn2, zn3]
              refine tV 4 ?_ ?zq ?_; (case zq => rintro _ -; go_simp; try with_reducible rfl); try simp only [Act.put, zn1, zn2, zn3]
              refine tV 5 ?_ ?zq ?_; (case zq => intro w' hSw; have hCell := fun (b o : Nat) (h : b < W2.heap.size) => hSw.cell (p := ⟨b, o, none⟩) h; clear hSw; go_simp; try with_reducible rfl); try simp only [Act.put, zn1, zn2, zn3]
              refine ready_one (i := 2) rfl (by kernel_rfl) (fun K hK => ?_)
              go_simp
              refine (OfK_any s _ hlen).mono ?_
              rintro e v3 ⟨zp, zi, za, rfl, hb⟩
              refine hK.out _ _ ?_ (fun hHeld2 => ?_)
              · (try dsimp only); first | exact Below.trans hHeld (Below.mono hb hHeld.size) | exact hHeld | exact Below.drew hHeld | exact (by repeat (first | exact Below.refl _ _ | assumption | refine Below.alloc ?_ (by first | omega | (simp <;> omega)) _ | refine Below.setCell ?_ (by first | omega | (simp <;> omega)) _ | refine Below.drew ?_))
              clear hK K hHeld; have hHeld := hHeld2; clear hHeld2; (try simp only [Act.put, zn1, zn2, zn3])
              refine tV 3 ?_ ?zq ?_; (case zq => rintro _ -; go_simp; try with_reducible rfl); try simp only [Act.put, zn1, zn2, zn3]
              refine tV 6 ?_ ?zq ?_; (case zq => rintro _ -; go_simp; try with_reducible rfl); try simp only [Act.put, zn1, zn2, zn3]
              refine tV 7 ?_ ?zq ?_; (case zq => rintro _ -; go_simp; try with_reducible rfl); try simp only [Act.put, zn1, zn2, zn3]
              refine tV 8 ?_ ?zq ?_; (case zq => rintro _ -; go_simp; try with_reducible rfl); try simp only [Act.put, zn1, zn2, zn3]
              refine tV 9 ?_ ?zq ?_; (case zq => intro w' hSw; have hCell := fun (b o : Nat) (h : b < W2.heap.size) => hSw.cell (p := ⟨b, o, none⟩) h; clear hSw; go_simp; try with_reducible rfl); try simp only [Act.put, zn1, zn2, zn3]
              refine tV 10 ?_ ?zq ?_; (case zq => rintro _ -; go_simp; try with_reducible rfl); try simp only [Act.put, zn1, zn2, zn3]
              refine tV 11 ?_ ?zq ?_; (case zq => rintro _ -; go_simp; try with_reducible rfl); try simp only [Act.put, zn1, zn2, zn3]
              refine tV 12 ?_ ?zq ?_; (case zq => rintro _ -; go_simp; try with_reducible rfl); try simp only [Act.put, zn1, zn2, zn3]
              refine tV 13 ?_ ?zq ?_; (case zq => rintro _ -; go_simp; try with_reducible rfl); try simp only [Act.put, zn1, zn2, zn3]
              refine tV 14 ?_ ?zq ?_; (case zq => intro w' hSw; have hCell := fun (b o : Nat) (h : b < W2.heap.size) => hSw.cell (p := ⟨b, o, none⟩) h; clear hSw; go_simp; try with_reducible rfl); try simp only [Act.put, zn1, zn2, zn3]
              refine tV 15 ?_ ?zq ?_; (case zq => rintro _ -; go_simp; try with_reducible rfl); try simp only [Act.put, zn1, zn2, zn3]
              refine tV 16 ?_ ?zq ?_; (case zq => rintro _ -; go_simp; try with_reducible rfl); try simp only [Act.put, zn1, zn2, zn3]
              refine tV 17 ?_ ?zq ?_; (case zq => rintro _ -; go_simp; try with_reducible rfl); try simp only [Act.put, zn1, zn2, zn3]
              refine tU 18 ?_; (try simp only [Act.put, zn1, zn2, zn3])
              refine tU 19 ?_; (try simp only [Act.put, zn1, zn2, zn3])
              refine tU 20 ?_; (try simp only [Act.put, zn1, zn2, zn3])
              refine tV 21 ?_ ?zq ?_; (case zq => rintro _ -; go_simp; try with_reducible rfl); try simp only [Act.put, zn1, zn2, zn3]
              refine tV 22 ?_ ?zq ?_; (case zq => rintro _ -; go_simp; try with_reducible rfl); try simp only [Act.put, zn1, zn2, zn3]
              refine tU 23 ?_; (try simp only [Act.put, zn1, zn2, zn3])
              refine tU 24 ?_; (try simp only [Act.put, zn1, zn2, zn3])
              refine tU 25 ?_; (try simp only [Act.put, zn1, zn2, zn3])
              refine tU 26 ?_; (try simp only [Act.put, zn1, zn2, zn3])
              refine tU 27 ?_; (try simp only [Act.put, zn1, zn2, zn3])
              refine tU 28 ?_; (try simp only [Act.put, zn1, zn2, zn3])
              refine tU 29 ?_; (try simp only [Act.put, zn1, zn2, zn3])
              refine tU 30 ?_; (try simp only [Act.put, zn1, zn2, zn3])
              refine tU 31 ?_; (try simp only [Act.put, zn1, zn2, zn3])
              refine tU 32 ?_; (try simp only [Act.put, zn1, zn2, zn3])
              refine tU 33 ?_; (try simp only [Act.put, zn1, zn2, zn3])
              refine tU 34 ?_; (try simp only [Act.put, zn1, zn2, zn3])
              refine tU 35 ?_; (try simp only [Act.put, zn1, zn2, zn3])
              refine tU 36 ?_; (try simp only [Act.put, zn1, zn2, zn3])
              refine tV 37 ?_ ?zq ?_; (case zq => rintro _ -; go_simp; try with_reducible rfl); try simp only [Act.put, zn1, zn2, zn3]
              refine wpAnyH_done (by kernel_rfl) ?_ _
              go_wp2_with fail
              go_ret
              exact ⟨ret_bool (by rw [Hm.out]), lift HB.out hHeld⟩
            · have rb1 : decide (r < 1) = false := by rw [decide_eq_false_iff_not]; exact r1
              by_cases r4 : 4 < r
              · have rb4 : decide (4 < r) = true := by rw [decide_eq_true_eq]; exact r4
                have Hm := Lib.hid (mayG_n (es := es) hlt (by rw [Hx.out]; show (kindS s != 0 && ((t == kindS s) && (decide (1 ≤ r) && decide (r ≤ 4)))) = false; (simp; omega)))
                go_wp2_with fail
                first | (refine wp_named ?_; intro W2 hW) | (refine calls_named ?_; intro W2 hW)
                have B2 : Below wr.heap.size wr W2 := by rw [hW]; exact (by repeat (first | exact Below.refl _ _ | assumption | refine Below.alloc ?_ (by first | omega | (simp <;> omega)) _ | refine Below.setCell ?_ (by first | omega | (simp <;> omega)) _ | refine Below.drew ?_))
                replace c0 := cellAt c0 B2 (by omega)
                replace c1 := cellAt c1 B2 (by omega)
                replace Hr := Lib.hid (Hr.out.at B2)
                replace Hn := Lib.hid (Hn.out.at B2)
                replace n1 : w.heap.size < W2.heap.size := ltAt n1 B2
                replace HB := Lib.hid (lift HB.out B2)
                replace Hb := Lib.hid (lift Hb.out B2)
                replace hB := ltAt hB B2
                have m1 : wr.heap.size < W2.heap.size := by rw [hW]; simp <;> omega
                have e0 : W2.cell? ⟨wr.heap.size, 0, none⟩ = some (sv s) := by rw [hW]; go_simp
                have e1 : W2.cell? ⟨wr.heap.size, 1, none⟩ = some (.int .i64 t) := by rw [hW]; go_simp
                have e2 : W2.cell? ⟨wr.heap.size, 2, none⟩ = some (.int .i64 r) := by rw [hW]; go_simp
                clear hW
                clear B2
                try go_wp2_with fail
                refine wp_region_held_drew (S := fun w' => Below W2.heap.size W2 w') (by kernel_rfl) (Below.drew (Below.refl _ _)) (fun hHeld => ?_)
                refine tV 0 ?_ ?zq ?_; (case zq => rintro _ -; go_simp; try with_reducible rfl); try simp only [Act.put, zn1, zn2, zn3]
                refine tV 1 ?_ ?zq ?_; (case zq => intro w' hSw; have hCell := fun (b o : Nat) (h : b < W2.heap.size) => hSw.cell (p := ⟨b, o, none⟩) h; clear hSw; go_simp; try with_reducible rfl); try simp only [Act.put, zn1, zn2, zn3]
                refine tV 4 ?_ ?zq ?_; (case zq => rintro _ -; go_simp; try with_reducible rfl); try simp only [Act.put, zn1, zn2, zn3]
                refine tV 5 ?_ ?zq ?_; (case zq => intro w' hSw; have hCell := fun (b o : Nat) (h : b < W2.heap.size) => hSw.cell (p := ⟨b, o, none⟩) h; clear hSw; go_simp; try with_reducible rfl); try simp only [Act.put, zn1, zn2, zn3]
                refine ready_one (i := 2) rfl (by kernel_rfl) (fun K hK => ?_)
                go_simp
                refine (OfK_any s _ hlen).mono ?_
                rintro e v3 ⟨zp, zi, za, rfl, hb⟩
                refine hK.out _ _ ?_ (fun hHeld2 => ?_)
                · (try dsimp only); first | exact Below.trans hHeld (Below.mono hb hHeld.size) | exact hHeld | exact Below.drew hHeld | exact (by repeat (first | exact Below.refl _ _ | assumption | refine Below.alloc ?_ (by first | omega | (simp <;> omega)) _ | refine Below.setCell ?_ (by first | omega | (simp <;> omega)) _ | refine Below.drew ?_))
                clear hK K hHeld; have hHeld := hHeld2; clear hHeld2; (try simp only [Act.put, zn1, zn2, zn3])
                refine tV 3 ?_ ?zq ?_; (case zq => rintro _ -; go_simp; try with_reducible rfl); try simp only [Act.put, zn1, zn2, zn3]
                refine tV 6 ?_ ?zq ?_; (case zq => rintro _ -; go_simp; try with_reducible rfl); try simp only [Act.put, zn1, zn2, zn3]
                refine tV 7 ?_ ?zq ?_; (case zq => rintro _ -; go_simp; try with_reducible rfl); try simp only [Act.put, zn1, zn2, zn3]
                refine tV 8 ?_ ?zq ?_; (case zq => rintro _ -; go_simp; try with_reducible rfl); try simp only [Act.put, zn1, zn2, zn3]
                refine tV 9 ?_ ?zq ?_; (case zq => intro w' hSw; have hCell := fun (b o : Nat) (h : b < W2.heap.size) => hSw.cell (p := ⟨b, o, none⟩) h; clear hSw; go_simp; try with_reducible rfl); try simp only [Act.put, zn1, zn2, zn3]
                refine tV 10 ?_ ?zq ?_; (case zq => rintro _ -; go_simp; try with_reducible rfl); try simp only [Act.put, zn1, zn2, zn3]
                refine tV 11 ?_ ?zq ?_; (case zq => rintro _ -; go_simp; try with_reducible rfl); try simp only [Act.put, zn1, zn2, zn3]
                refine tV 12 ?_ ?zq ?_; (case zq => rintro _ -; go_simp; try with_reducible rfl); try simp only [Act.put, zn1, zn2, zn3]
                refine tV 13 ?_ ?zq ?_; (case zq => rintro _ -; go_simp; try with_reducible rfl); try simp only [Act.put, zn1, zn2, zn3]
                refine tV 14 ?_ ?zq ?_; (case zq => intro w' hSw; have hCell := fun (b o : Nat) (h : b < W2.heap.size) => hSw.cell (p := ⟨b, o, none⟩) h; clear hSw; go_simp; try with_reducible rfl); try simp only [Act.put, zn1, zn2, zn3]
                refine tV 15 ?_ ?zq ?_; (case zq => rintro _ -; go_simp; try with_reducible rfl); try simp only [Act.put, zn1, zn2, zn3]
                refine tV 16 ?_ ?zq ?_; (case zq => rintro _ -; go_simp; try with_reducible rfl); try simp only [Act.put, zn1, zn2, zn3]
                refine tV 17 ?_ ?zq ?_; (case zq => rintro _ -; go_simp; try with_reducible rfl); try simp only [Act.put, zn1, zn2, zn3]
                refine tV 18 ?_ ?zq ?_; (case zq => rintro _ -; go_simp; try with_reducible rfl); try simp only [Act.put, zn1, zn2, zn3]
                refine tV 19 ?_ ?zq ?_; (case zq => intro w' hSw; have hCell := fun (b o : Nat) (h : b < W2.heap.size) => hSw.cell (p := ⟨b, o, none⟩) h; clear hSw; go_simp; try with_reducible rfl); try simp only [Act.put, zn1, zn2, zn3]
                refine tV 20 ?_ ?zq ?_; (case zq => rintro _ -; go_simp; try with_reducible rfl); try simp only [Act.put, zn1, zn2, zn3]
                refine tV 21 ?_ ?zq ?_; (case zq => rintro _ -; go_simp; try with_reducible rfl); try simp only [Act.put, zn1, zn2, zn3]
                refine tV 22 ?_ ?zq ?_; (case zq => rintro _ -; go_simp; try with_reducible rfl); try simp only [Act.put, zn1, zn2, zn3]
                refine tU 23 ?_; (try simp only [Act.put, zn1, zn2, zn3])
                refine tU 24 ?_; (try simp only [Act.put, zn1, zn2, zn3])
                refine tU 25 ?_; (try simp only [Act.put, zn1, zn2, zn3])
                refine tU 26 ?_; (try simp only [Act.put, zn1, zn2, zn3])
                refine tU 27 ?_; (try simp only [Act.put, zn1, zn2, zn3])
                refine tU 28 ?_; (try simp only [Act.put, zn1, zn2, zn3])
                refine tU 29 ?_; (try simp only [Act.put, zn1, zn2, zn3])
                refine tU 30 ?_; (try simp only [Act.put, zn1, zn2, zn3])
                refine tU 31 ?_; (try simp only [Act.put, zn1, zn2, zn3])
                refine tU 32 ?_; (try simp only [Act.put, zn1, zn2, zn3])
                refine tU 33 ?_; (try simp only [Act.put, zn1, zn2, zn3])
                refine tU 34 ?_; (try simp only [Act.put, zn1, zn2, zn3])
                refine tU 35 ?_; (try simp only [Act.put, zn1, zn2, zn3])
                refine tU 36 ?_; (try simp only [Act.put, zn1, zn2, zn3])
                refine tV 37 ?_ ?zq ?_; (case zq => rintro _ -; go_simp; try with_reducible rfl); try simp only [Act.put, zn1, zn2, zn3]
                refine wpAnyH_done (by kernel_rfl) ?_ _
                go_wp2_with fail
                go_ret
                exact ⟨ret_bool (by rw [Hm.out]), lift HB.out hHeld⟩
              · have rb4 : decide (4 < r) = false := by rw [decide_eq_false_iff_not]; exact r4
                have hgood : mayN (s, t, r) = true := by
                  show (kindS s != 0 && ((t == kindS s) && (decide (1 ≤ r) && decide (r ≤ 4)))) = true
                  simp [hkt, ht0]; omega
                have HGd := Lib.hid hgood
                clear hgood
                by_cases hk0 : k = 0
                · have k3 : decide (0 < k) = false := by rw [decide_eq_false_iff_not]; omega
                  have HK0 := Lib.hid hk0
                  clear hk0
                  go_wp2_with fail
                  first | (refine wp_named ?_; intro W2 hW) | (refine calls_named ?_; intro W2 hW)
                  have B2 : Below wr.heap.size wr W2 := by rw [hW]; exact (by repeat (first | exact Below.refl _ _ | assumption | refine Below.alloc ?_ (by first | omega | (simp <;> omega)) _ | refine Below.setCell ?_ (by first | omega | (simp <;> omega)) _ | refine Below.drew ?_))
                  replace c0 := cellAt c0 B2 (by omega)
                  replace c1 := cellAt c1 B2 (by omega)
                  replace Hr := Lib.hid (Hr.out.at B2)
                  replace Hn := Lib.hid (Hn.out.at B2)
                  replace n1 : w.heap.size < W2.heap.size := ltAt n1 B2
                  replace HB := Lib.hid (lift HB.out B2)
                  replace Hb := Lib.hid (lift Hb.out B2)
                  replace hB := ltAt hB B2
                  have m1 : wr.heap.size < W2.heap.size := by rw [hW]; simp <;> omega
                  have e0 : W2.cell? ⟨wr.heap.size, 0, none⟩ = some (sv s) := by rw [hW]; go_simp
                  have e1 : W2.cell? ⟨wr.heap.size, 1, none⟩ = some (.int .i64 t) := by rw [hW]; go_simp
                  have e2 : W2.cell? ⟨wr.heap.size, 2, none⟩ = some (.int .i64 r) := by rw [hW]; go_simp
                  clear hW
                  clear B2
                  try go_wp2_with fail
                  refine wp_region_held_drew (S := fun w' => Below W2.heap.size W2 w') (by kernel_rfl) (Below.drew (Below.refl _ _)) (fun hHeld => ?_)
                  refine tV 0 ?_ ?zq ?_; (case zq => rintro _ -; go_simp; try with_reducible rfl); try simp only [Act.put, zn1, zn2, zn3]
                  refine tV 1 ?_ ?zq ?_; (case zq => intro w' hSw; have hCell := fun (b o : Nat) (h : b < W2.heap.size) => hSw.cell (p := ⟨b, o, none⟩) h; clear hSw; go_simp; try with_reducible rfl); try simp only [Act.put, zn1, zn2, zn3]
                  refine tV 4 ?_ ?zq ?_; (case zq => rintro _ -; go_simp; try with_reducible rfl); try simp only [Act.put, zn1, zn2, zn3]
                  refine tV 5 ?_ ?zq ?_; (case zq => intro w' hSw; have hCell := fun (b o : Nat) (h : b < W2.heap.size) => hSw.cell (p := ⟨b, o, none⟩) h; clear hSw; go_simp; try with_reducible rfl); try simp only [Act.put, zn1, zn2, zn3]
                  refine ready_one (i := 2) rfl (by kernel_rfl) (fun K hK => ?_)
                  go_simp
                  refine (OfK_any s _ hlen).mono ?_
                  rintro e v3 ⟨zp, zi, za, rfl, hb⟩
                  refine hK.out _ _ ?_ (fun hHeld2 => ?_)
                  · (try dsimp only); first | exact Below.trans hHeld (Below.mono hb hHeld.size) | exact hHeld | exact Below.drew hHeld | exact (by repeat (first | exact Below.refl _ _ | assumption | refine Below.alloc ?_ (by first | omega | (simp <;> omega)) _ | refine Below.setCell ?_ (by first | omega | (simp <;> omega)) _ | refine Below.drew ?_))
                  clear hK K hHeld; have hHeld := hHeld2; clear hHeld2; (try simp only [Act.put, zn1, zn2, zn3])
                  refine tV 3 ?_ ?zq ?_; (case zq => rintro _ -; go_simp; try with_reducible rfl); try simp only [Act.put, zn1, zn2, zn3]
                  refine tV 6 ?_ ?zq ?_; (case zq => rintro _ -; go_simp; try with_reducible rfl); try simp only [Act.put, zn1, zn2, zn3]
                  refine tV 7 ?_ ?zq ?_; (case zq => rintro _ -; go_simp; try with_reducible rfl); try simp only [Act.put, zn1, zn2, zn3]
                  refine tV 8 ?_ ?zq ?_; (case zq => rintro _ -; go_simp; try with_reducible rfl); try simp only [Act.put, zn1, zn2, zn3]
                  refine tV 9 ?_ ?zq ?_; (case zq => intro w' hSw; have hCell := fun (b o : Nat) (h : b < W2.heap.size) => hSw.cell (p := ⟨b, o, none⟩) h; clear hSw; go_simp; try with_reducible rfl); try simp only [Act.put, zn1, zn2, zn3]
                  refine tV 10 ?_ ?zq ?_; (case zq => rintro _ -; go_simp; try with_reducible rfl); try simp only [Act.put, zn1, zn2, zn3]
                  refine tV 11 ?_ ?zq ?_; (case zq => rintro _ -; go_simp; try with_reducible rfl); try simp only [Act.put, zn1, zn2, zn3]
                  refine tV 12 ?_ ?zq ?_; (case zq => rintro _ -; go_simp; try with_reducible rfl); try simp only [Act.put, zn1, zn2, zn3]
                  refine tV 13 ?_ ?zq ?_; (case zq => rintro _ -; go_simp; try with_reducible rfl); try simp only [Act.put, zn1, zn2, zn3]
                  refine tV 14 ?_ ?zq ?_; (case zq => intro w' hSw; have hCell := fun (b o : Nat) (h : b < W2.heap.size) => hSw.cell (p := ⟨b, o, none⟩) h; clear hSw; go_simp; try with_reducible rfl); try simp only [Act.put, zn1, zn2, zn3]
                  refine tV 15 ?_ ?zq ?_; (case zq => rintro _ -; go_simp; try with_reducible rfl); try simp only [Act.put, zn1, zn2, zn3]
                  refine tV 16 ?_ ?zq ?_; (case zq => rintro _ -; go_simp; try with_reducible rfl); try simp only [Act.put, zn1, zn2, zn3]
                  refine tV 17 ?_ ?zq ?_; (case zq => rintro _ -; go_simp; try with_reducible rfl); try simp only [Act.put, zn1, zn2, zn3]
                  refine tV 18 ?_ ?zq ?_; (case zq => rintro _ -; go_simp; try with_reducible rfl); try simp only [Act.put, zn1, zn2, zn3]
                  refine tV 19 ?_ ?zq ?_; (case zq => intro w' hSw; have hCell := fun (b o : Nat) (h : b < W2.heap.size) => hSw.cell (p := ⟨b, o, none⟩) h; clear hSw; go_simp; try with_reducible rfl); try simp only [Act.put, zn1, zn2, zn3]
                  refine tV 20 ?_ ?zq ?_; (case zq => rintro _ -; go_simp; try with_reducible rfl); try simp only [Act.put, zn1, zn2, zn3]
                  refine tV 21 ?_ ?zq ?_; (case zq => rintro _ -; go_simp; try with_reducible rfl); try simp only [Act.put, zn1, zn2, zn3]
                  refine tV 22 ?_ ?zq ?_; (case zq => rintro _ -; go_simp; try with_reducible rfl); try simp only [Act.put, zn1, zn2, zn3]
                  refine tV 23 ?_ ?zq ?_; (case zq => rintro _ -; go_simp; try with_reducible rfl); try simp only [Act.put, zn1, zn2, zn3]
                  refine tV 24 ?_ ?zq ?_; (case zq => rintro _ -; go_simp; try with_reducible rfl); try simp only [Act.put, zn1, zn2, zn3]
                  refine tV 25 ?_ ?zq ?_; (case zq => rintro _ -; go_simp; try with_reducible rfl); try simp only [Act.put, zn1, zn2, zn3]
                  refine tU 26 ?_; (try simp only [Act.put, zn1, zn2, zn3])
                  refine tU 27 ?_; (try simp only [Act.put, zn1, zn2, zn3])
                  refine tU 28 ?_; (try simp only [Act.put, zn1, zn2, zn3])
                  refine tU 29 ?_; (try simp only [Act.put, zn1, zn2, zn3])
                  refine tU 30 ?_; (try simp only [Act.put, zn1, zn2, zn3])
                  refine tU 31 ?_; (try simp only [Act.put, zn1, zn2, zn3])
                  refine tU 32 ?_; (try simp only [Act.put, zn1, zn2, zn3])
                  refine tU 33 ?_; (try simp only [Act.put, zn1, zn2, zn3])
                  refine tU 34 ?_; (try simp only [Act.put, zn1, zn2, zn3])
                  refine tU 35 ?_; (try simp only [Act.put, zn1, zn2, zn3])
                  refine tV 36 ?_ ?zq ?_; (case zq => rintro _ -; go_simp; try with_reducible rfl); try simp only [Act.put, zn1, zn2, zn3]
                  refine tV 37 ?_ ?zq ?_; (case zq => rintro _ -; go_simp; try with_reducible rfl); try simp only [Act.put, zn1, zn2, zn3]
                  refine wpAnyH_done (by kernel_rfl) ?_ _
                  replace c0 := cellAt c0 hHeld (by omega)
                  replace c1 := cellAt c1 hHeld (by omega)
                  replace e0 := cellAt e0 hHeld (by omega)
                  replace e1 := cellAt e1 hHeld (by omega)
                  replace e2 := cellAt e2 hHeld (by omega)
                  replace Hr := Lib.hid (Hr.out.at hHeld)
                  replace Hn := Lib.hid (Hn.out.at hHeld)
                  replace n1 : w.heap.size < v3.heap.size := ltAt n1 hHeld
                  replace HB := Lib.hid (lift HB.out hHeld)
                  replace Hb := Lib.hid (lift Hb.out hHeld)
                  replace hB := ltAt hB hHeld
                  replace m1 : wr.heap.size < v3.heap.size := ltAt m1 hHeld
                  clear hHeld
                  go_wp2_with fail
                  go_roundw
                  case rel => exact ⟨k + 1, by omega, by go_num, HU.out.step hlt (by rw [Hx.out]; exact HGd.out) (fun j e => absurd (HK0.out.symm.trans e) (by simp)), Hb.out⟩
                  case measure => simp [intOf]; omega
                · obtain ⟨j, rfl⟩ : ∃ j, k = j + 1 := ⟨k - 1, by omega⟩
                  obtain ⟨b', o', he, _, y0, y1, y2⟩ := Hn.out.node (i := j) (by omega)
                  injection he with he
                  injection he with he1 he2
                  subst he1 he2
                  clear y1 y2
                  generalize hy : ns[j] = y at y0
                  obtain ⟨s', t', r'⟩ := y
                  have Hy := Lib.hid hy
                  clear hy
                  simp only at y0
                  have k3 : (j : Int) < (ns.length : Int) := by omega
                  have k4 : IntKind.i64.wrap (j : Int) = j := IntWalk.i64_in _ (by omega)
                  have k5 : IntKind.i64.wrap ((j : Int) + 1) = (j : Int) + 1 := IntWalk.i64_in _ (by omega)
                  have k6 : ((j : Int) + 1).toNat = j + 1 := by omega
                  have k7 : (0 : Int) ≤ (j : Int) + 1 := by omega
                  have k8 : IntKind.i64.wrap ((j : Int) + 1 - 1) = j := by rw [show (j : Int) + 1 - 1 = j from by omega]; exact k4
                  have k9 : decide ((0 : Int) < (j : Int) + 1) = true := by rw [decide_eq_true_eq]; omega
                  have k10 : (0 : Int) ≤ (j : Int) := by omega
                  cases h1 : Op.bytesLess s' s
                  · have Hm := Lib.hid (mayG_nup (es := es) (k := j) hlt (by rw [Hx.out, Hy.out]; exact h1))
                    go_wp2_with fail
                    first | (refine wp_named ?_; intro W2 hW) | (refine calls_named ?_; intro W2 hW)
                    have B2 : Below wr.heap.size wr W2 := by rw [hW]; exact (by repeat (first | exact Below.refl _ _ | assumption | refine Below.alloc ?_ (by first | omega | (simp <;> omega)) _ | refine Below.setCell ?_ (by first | omega | (simp <;> omega)) _ | refine Below.drew ?_))
                    replace c0 := cellAt c0 B2 (by omega)
                    replace c1 := cellAt c1 B2 (by omega)
                    replace y0 := cellAt y0 B2 (by omega)
                    replace Hr := Lib.hid (Hr.out.at B2)
                    replace Hn := Lib.hid (Hn.out.at B2)
                    replace n1 : w.heap.size < W2.heap.size := ltAt n1 B2
                    replace HB := Lib.hid (lift HB.out B2)
                    replace Hb := Lib.hid (lift Hb.out B2)
                    replace hB := ltAt hB B2
                    have m1 : wr.heap.size < W2.heap.size := by rw [hW]; simp <;> omega
                    have e0 : W2.cell? ⟨wr.heap.size, 0, none⟩ = some (sv s) := by rw [hW]; go_simp
                    have e1 : W2.cell? ⟨wr.heap.size, 1, none⟩ = some (.int .i64 t) := by rw [hW]; go_simp
                    have e2 : W2.cell? ⟨wr.heap.size, 2, none⟩ = some (.int .i64 r) := by rw [hW]; go_simp
                    clear hW
                    clear B2
                    try go_wp2_with fail
                    refine wp_region_held_drew (S := fun w' => Below W2.heap.size W2 w') (by kernel_rfl) (Below.drew (Below.refl _ _)) (fun hHeld => ?_)
                    refine tV 0 ?_ ?zq ?_; (case zq => rintro _ -; go_simp; try with_reducible rfl); try simp only [Act.put, zn1, zn2, zn3]
                    refine tV 1 ?_ ?zq ?_; (case zq => intro w' hSw; have hCell := fun (b o : Nat) (h : b < W2.heap.size) => hSw.cell (p := ⟨b, o, none⟩) h; clear hSw; go_simp; try with_reducible rfl); try simp only [Act.put, zn1, zn2, zn3]
                    refine tV 4 ?_ ?zq ?_; (case zq => rintro _ -; go_simp; try with_reducible rfl); try simp only [Act.put, zn1, zn2, zn3]
                    refine tV 5 ?_ ?zq ?_; (case zq => intro w' hSw; have hCell := fun (b o : Nat) (h : b < W2.heap.size) => hSw.cell (p := ⟨b, o, none⟩) h; clear hSw; go_simp; try with_reducible rfl); try simp only [Act.put, zn1, zn2, zn3]
                    refine ready_one (i := 2) rfl (by kernel_rfl) (fun K hK => ?_)
                    go_simp
                    refine (OfK_any s _ hlen).mono ?_
                    rintro e v3 ⟨zp, zi, za, rfl, hb⟩
                    refine hK.out _ _ ?_ (fun hHeld2 => ?_)
                    · (try dsimp only); first | exact Below.trans hHeld (Below.mono hb hHeld.size) | exact hHeld | exact Below.drew hHeld | exact (by repeat (first | exact Below.refl _ _ | assumption | refine Below.alloc ?_ (by first | omega | (simp <;> omega)) _ | refine Below.setCell ?_ (by first | omega | (simp <;> omega)) _ | refine Below.drew ?_))
                    clear hK K hHeld; have hHeld := hHeld2; clear hHeld2; (try simp only [Act.put, zn1, zn2, zn3])
                    refine tV 3 ?_ ?zq ?_; (case zq => rintro _ -; go_simp; try with_reducible rfl); try simp only [Act.put, zn1, zn2, zn3]
                    refine tV 6 ?_ ?zq ?_; (case zq => rintro _ -; go_simp; try with_reducible rfl); try simp only [Act.put, zn1, zn2, zn3]
                    refine tV 7 ?_ ?zq ?_; (case zq => rintro _ -; go_simp; try with_reducible rfl); try simp only [Act.put, zn1, zn2, zn3]
                    refine tV 8 ?_ ?zq ?_; (case zq => rintro _ -; go_simp; try with_reducible rfl); try simp only [Act.put, zn1, zn2, zn3]
                    refine tV 9 ?_ ?zq ?_; (case zq => intro w' hSw; have hCell := fun (b o : Nat) (h : b < W2.heap.size) => hSw.cell (p := ⟨b, o, none⟩) h; clear hSw; go_simp; try with_reducible rfl); try simp only [Act.put, zn1, zn2, zn3]
                    refine tV 10 ?_ ?zq ?_; (case zq => rintro _ -; go_simp; try with_reducible rfl); try simp only [Act.put, zn1, zn2, zn3]
                    refine tV 11 ?_ ?zq ?_; (case zq => rintro _ -; go_simp; try with_reducible rfl); try simp only [Act.put, zn1, zn2, zn3]
                    refine tV 12 ?_ ?zq ?_; (case zq => rintro _ -; go_simp; try with_reducible rfl); try simp only [Act.put, zn1, zn2, zn3]
                    refine tV 13 ?_ ?zq ?_; (case zq => rintro _ -; go_simp; try with_reducible rfl); try simp only [Act.put, zn1, zn2, zn3]
                    refine tV 14 ?_ ?zq ?_; (case zq => intro w' hSw; have hCell := fun (b o : Nat) (h : b < W2.heap.size) => hSw.cell (p := ⟨b, o, none⟩) h; clear hSw; go_simp; try with_reducible rfl); try simp only [Act.put, zn1, zn2, zn3]
                    refine tV 15 ?_ ?zq ?_; (case zq => rintro _ -; go_simp; try with_reducible rfl); try simp only [Act.put, zn1, zn2, zn3]
                    refine tV 16 ?_ ?zq ?_; (case zq => rintro _ -; go_simp; try with_reducible rfl); try simp only [Act.put, zn1, zn2, zn3]
                    refine tV 17 ?_ ?zq ?_; (case zq => rintro _ -; go_simp; try with_reducible rfl); try simp only [Act.put, zn1, zn2, zn3]
                    refine tV 18 ?_ ?zq ?_; (case zq => rintro _ -; go_simp; try with_reducible rfl); try simp only [Act.put, zn1, zn2, zn3]
                    refine tV 19 ?_ ?zq ?_; (case zq => intro w' hSw; have hCell := fun (b o : Nat) (h : b < W2.heap.size) => hSw.cell (p := ⟨b, o, none⟩) h; clear hSw; go_simp; try with_reducible rfl); try simp only [Act.put, zn1, zn2, zn3]
                    refine tV 20 ?_ ?zq ?_; (case zq => rintro _ -; go_simp; try with_reducible rfl); try simp only [Act.put, zn1, zn2, zn3]
                    refine tV 21 ?_ ?zq ?_; (case zq => rintro _ -; go_simp; try with_reducible rfl); try simp only [Act.put, zn1, zn2, zn3]
                    refine tV 22 ?_ ?zq ?_; (case zq => rintro _ -; go_simp; try with_reducible rfl); try simp only [Act.put, zn1, zn2, zn3]
                    refine tV 23 ?_ ?zq ?_; (case zq => rintro _ -; go_simp; try with_reducible rfl); try simp only [Act.put, zn1, zn2, zn3]
                    refine tV 24 ?_ ?zq ?_; (case zq => rintro _ -; go_simp; try with_reducible rfl); try simp only [Act.put, zn1, zn2, zn3]
                    refine tV 25 ?_ ?zq ?_; (case zq => rintro _ -; go_simp; try with_reducible rfl); try simp only [Act.put, zn1, zn2, zn3]
                    refine tV 26 ?_ ?zq ?_; (case zq => rintro _ -; go_simp; try with_reducible rfl); try simp only [Act.put, zn1, zn2, zn3]
                    refine tV 27 ?_ ?zq ?_; (case zq => intro w' hSw; have hCell := fun (b o : Nat) (h : b < W2.heap.size) => hSw.cell (p := ⟨b, o, none⟩) h; clear hSw; go_simp; try with_reducible rfl); try simp only [Act.put, zn1, zn2, zn3]
                    refine tV 28 ?_ ?zq ?_; (case zq => rintro _ -; go_simp; try with_reducible rfl); try simp only [Act.put, zn1, zn2, zn3]
                    refine tV 29 ?_ ?zq ?_; (case zq => rintro _ -; go_simp; try with_reducible rfl); try simp only [Act.put, zn1, zn2, zn3]
                    refine tV 30 ?_ ?zq ?_; (case zq => rintro _ -; go_simp; try with_reducible rfl); try simp only [Act.put, zn1, zn2, zn3]
                    refine tV 31 ?_ ?zq ?_; (case zq => rintro _ -; go_simp; try with_reducible rfl); try simp only [Act.put, zn1, zn2, zn3]
                    refine tV 32 ?_ ?zq ?_; (case zq => intro w' hSw; have hCell := fun (b o : Nat) (h : b < W2.heap.size) => hSw.cell (p := ⟨b, o, none⟩) h; clear hSw; go_simp; try with_reducible rfl); try simp only [Act.put, zn1, zn2, zn3]
                    refine tV 33 ?_ ?zq ?_; (case zq => rintro _ -; go_simp; try with_reducible rfl); try simp only [Act.put, zn1, zn2, zn3]
                    refine tV 34 ?_ ?zq ?_; (case zq => intro w' hSw; have hCell := fun (b o : Nat) (h : b < W2.heap.size) => hSw.cell (p := ⟨b, o, none⟩) h; clear hSw; go_simp; try with_reducible rfl); try simp only [Act.put, zn1, zn2, zn3]
                    refine tV 35 ?_ ?zq ?_; (case zq => rintro _ -; go_simp; try with_reducible rfl); try simp only [Act.put, zn1, zn2, zn3]
                    refine tV 36 ?_ ?zq ?_; (case zq => rintro _ -; go_simp; try with_reducible rfl); try simp only [Act.put, zn1, zn2, zn3]
                    refine tV 37 ?_ ?zq ?_; (case zq => rintro _ -; go_simp; try with_reducible rfl); try simp only [Act.put, zn1, zn2, zn3]
                    refine wpAnyH_done (by kernel_rfl) ?_ _
                    go_wp2_with fail
                    go_ret
                    exact ⟨ret_bool (by rw [Hm.out]), lift HB.out hHeld⟩
                  · have HL : Hid (∀ i (e : j + 1 = i + 1), ltS (ns[i]'(by omega)).1 ns[j + 1].1 = true) := Lib.hid (fun i e => by
                      obtain rfl : i = j := by omega
                      rw [Hx.out, Hy.out]; exact h1)
                    go_wp2_with fail
                    first | (refine wp_named ?_; intro W2 hW) | (refine calls_named ?_; intro W2 hW)
                    have B2 : Below wr.heap.size wr W2 := by rw [hW]; exact (by repeat (first | exact Below.refl _ _ | assumption | refine Below.alloc ?_ (by first | omega | (simp <;> omega)) _ | refine Below.setCell ?_ (by first | omega | (simp <;> omega)) _ | refine Below.drew ?_))
                    replace c0 := cellAt c0 B2 (by omega)
                    replace c1 := cellAt c1 B2 (by omega)
                    replace y0 := cellAt y0 B2 (by omega)
                    replace Hr := Lib.hid (Hr.out.at B2)
                    replace Hn := Lib.hid (Hn.out.at B2)
                    replace n1 : w.heap.size < W2.heap.size := ltAt n1 B2
                    replace HB := Lib.hid (lift HB.out B2)
                    replace Hb := Lib.hid (lift Hb.out B2)
                    replace hB := ltAt hB B2
                    have m1 : wr.heap.size < W2.heap.size := by rw [hW]; simp <;> omega
                    have e0 : W2.cell? ⟨wr.heap.size, 0, none⟩ = some (sv s) := by rw [hW]; go_simp
                    have e1 : W2.cell? ⟨wr.heap.size, 1, none⟩ = some (.int .i64 t) := by rw [hW]; go_simp
                    have e2 : W2.cell? ⟨wr.heap.size, 2, none⟩ = some (.int .i64 r) := by rw [hW]; go_simp
                    clear hW
                    clear B2
                    try go_wp2_with fail
                    refine wp_region_held_drew (S := fun w' => Below W2.heap.size W2 w') (by kernel_rfl) (Below.drew (Below.refl _ _)) (fun hHeld => ?_)
                    refine tV 0 ?_ ?zq ?_; (case zq => rintro _ -; go_simp; try with_reducible rfl); try simp only [Act.put, zn1, zn2, zn3]
                    refine tV 1 ?_ ?zq ?_; (case zq => intro w' hSw; have hCell := fun (b o : Nat) (h : b < W2.heap.size) => hSw.cell (p := ⟨b, o, none⟩) h; clear hSw; go_simp; try with_reducible rfl); try simp only [Act.put, zn1, zn2, zn3]
                    refine tV 4 ?_ ?zq ?_; (case zq => rintro _ -; go_simp; try with_reducible rfl); try simp only [Act.put, zn1, zn2, zn3]
                    refine tV 5 ?_ ?zq ?_; (case zq => intro w' hSw; have hCell := fun (b o : Nat) (h : b < W2.heap.size) => hSw.cell (p := ⟨b, o, none⟩) h; clear hSw; go_simp; try with_reducible rfl); try simp only [Act.put, zn1, zn2, zn3]
                    refine ready_one (i := 2) rfl (by kernel_rfl) (fun K hK => ?_)
                    go_simp
                    refine (OfK_any s _ hlen).mono ?_
                    rintro e v3 ⟨zp, zi, za, rfl, hb⟩
                    refine hK.out _ _ ?_ (fun hHeld2 => ?_)
                    · (try dsimp only); first | exact Below.trans hHeld (Below.mono hb hHeld.size) | exact hHeld | exact Below.drew hHeld | exact (by repeat (first | exact Below.refl _ _ | assumption | refine Below.alloc ?_ (by first | omega | (simp <;> omega)) _ | refine Below.setCell ?_ (by first | omega | (simp <;> omega)) _ | refine Below.drew ?_))
                    clear hK K hHeld; have hHeld := hHeld2; clear hHeld2; (try simp only [Act.put, zn1, zn2, zn3])
                    refine tV 3 ?_ ?zq ?_; (case zq => rintro _ -; go_simp; try with_reducible rfl); try simp only [Act.put, zn1, zn2, zn3]
                    refine tV 6 ?_ ?zq ?_; (case zq => rintro _ -; go_simp; try with_reducible rfl); try simp only [Act.put, zn1, zn2, zn3]
                    refine tV 7 ?_ ?zq ?_; (case zq => rintro _ -; go_simp; try with_reducible rfl); try simp only [Act.put, zn1, zn2, zn3]
                    refine tV 8 ?_ ?zq ?_; (case zq => rintro _ -; go_simp; try with_reducible rfl); try simp only [Act.put, zn1, zn2, zn3]
                    refine tV 9 ?_ ?zq ?_; (case zq => intro w' hSw; have hCell := fun (b o : Nat) (h : b < W2.heap.size) => hSw.cell (p := ⟨b, o, none⟩) h; clear hSw; go_simp; try with_reducible rfl); try simp only [Act.put, zn1, zn2, zn3]
                    refine tV 10 ?_ ?zq ?_; (case zq => rintro _ -; go_simp; try with_reducible rfl); try simp only [Act.put, zn1, zn2, zn3]
                    refine tV 11 ?_ ?zq ?_; (case zq => rintro _ -; go_simp; try with_reducible rfl); try simp only [Act.put, zn1, zn2, zn3]
                    refine tV 12 ?_ ?zq ?_; (case zq => rintro _ -; go_simp; try with_reducible rfl); try simp only [Act.put, zn1, zn2, zn3]
                    refine tV 13 ?_ ?zq ?_; (case zq => rintro _ -; go_simp; try with_reducible rfl); try simp only [Act.put, zn1, zn2, zn3]
                    refine tV 14 ?_ ?zq ?_; (case zq => intro w' hSw; have hCell := fun (b o : Nat) (h : b < W2.heap.size) => hSw.cell (p := ⟨b, o, none⟩) h; clear hSw; go_simp; try with_reducible rfl); try simp only [Act.put, zn1, zn2, zn3]
                    refine tV 15 ?_ ?zq ?_; (case zq => rintro _ -; go_simp; try with_reducible rfl); try simp only [Act.put, zn1, zn2, zn3]
                    refine tV 16 ?_ ?zq ?_; (case zq => rintro _ -; go_simp; try with_reducible rfl); try simp only [Act.put, zn1, zn2, zn3]
                    refine tV 17 ?_ ?zq ?_; (case zq => rintro _ -; go_simp; try with_reducible rfl); try simp only [Act.put, zn1, zn2, zn3]
                    refine tV 18 ?_ ?zq ?_; (case zq => rintro _ -; go_simp; try with_reducible rfl); try simp only [Act.put, zn1, zn2, zn3]
                    refine tV 19 ?_ ?zq ?_; (case zq => intro w' hSw; have hCell := fun (b o : Nat) (h : b < W2.heap.size) => hSw.cell (p := ⟨b, o, none⟩) h; clear hSw; go_simp; try with_reducible rfl); try simp only [Act.put, zn1, zn2, zn3]
                    refine tV 20 ?_ ?zq ?_; (case zq => rintro _ -; go_simp; try with_reducible rfl); try simp only [Act.put, zn1, zn2, zn3]
                    refine tV 21 ?_ ?zq ?_; (case zq => rintro _ -; go_simp; try with_reducible rfl); try simp only [Act.put, zn1, zn2, zn3]
                    refine tV 22 ?_ ?zq ?_; (case zq => rintro _ -; go_simp; try with_reducible rfl); try simp only [Act.put, zn1, zn2, zn3]
                    refine tV 23 ?_ ?zq ?_; (case zq => rintro _ -; go_simp; try with_reducible rfl); try simp only [Act.put, zn1, zn2, zn3]
                    refine tV 24 ?_ ?zq ?_; (case zq => rintro _ -; go_simp; try with_reducible rfl); try simp only [Act.put, zn1, zn2, zn3]
                    refine tV 25 ?_ ?zq ?_; (case zq => rintro _ -; go_simp; try with_reducible rfl); try simp only [Act.put, zn1, zn2, zn3]
                    refine tV 26 ?_ ?zq ?_; (case zq => rintro _ -; go_simp; try with_reducible rfl); try simp only [Act.put, zn1, zn2, zn3]
                    refine tV 27 ?_ ?zq ?_; (case zq => intro w' hSw; have hCell := fun (b o : Nat) (h : b < W2.heap.size) => hSw.cell (p := ⟨b, o, none⟩) h; clear hSw; go_simp; try with_reducible rfl); try simp only [Act.put, zn1, zn2, zn3]
                    refine tV 28 ?_ ?zq ?_; (case zq => rintro _ -; go_simp; try with_reducible rfl); try simp only [Act.put, zn1, zn2, zn3]
                    refine tV 29 ?_ ?zq ?_; (case zq => rintro _ -; go_simp; try with_reducible rfl); try simp only [Act.put, zn1, zn2, zn3]
                    refine tV 30 ?_ ?zq ?_; (case zq => rintro _ -; go_simp; try with_reducible rfl); try simp only [Act.put, zn1, zn2, zn3]
                    refine tV 31 ?_ ?zq ?_; (case zq => rintro _ -; go_simp; try with_reducible rfl); try simp only [Act.put, zn1, zn2, zn3]
                    refine tV 32 ?_ ?zq ?_; (case zq => intro w' hSw; have hCell := fun (b o : Nat) (h : b < W2.heap.size) => hSw.cell (p := ⟨b, o, none⟩) h; clear hSw; go_simp; try with_reducible rfl); try simp only [Act.put, zn1, zn2, zn3]
                    refine tV 33 ?_ ?zq ?_; (case zq => rintro _ -; go_simp; try with_reducible rfl); try simp only [Act.put, zn1, zn2, zn3]
                    refine tV 34 ?_ ?zq ?_; (case zq => intro w' hSw; have hCell := fun (b o : Nat) (h : b < W2.heap.size) => hSw.cell (p := ⟨b, o, none⟩) h; clear hSw; go_simp; try with_reducible rfl); try simp only [Act.put, zn1, zn2, zn3]
                    refine tV 35 ?_ ?zq ?_; (case zq => rintro _ -; go_simp; try with_reducible rfl); try simp only [Act.put, zn1, zn2, zn3]
                    refine tV 36 ?_ ?zq ?_; (case zq => rintro _ -; go_simp; try with_reducible rfl); try simp only [Act.put, zn1, zn2, zn3]
                    refine tV 37 ?_ ?zq ?_; (case zq => rintro _ -; go_simp; try with_reducible rfl); try simp only [Act.put, zn1, zn2, zn3]
                    refine wpAnyH_done (by kernel_rfl) ?_ _
                    replace c0 := cellAt c0 hHeld (by omega)
                    replace c1 := cellAt c1 hHeld (by omega)
                    replace y0 := cellAt y0 hHeld (by omega)
                    replace e0 := cellAt e0 hHeld (by omega)
                    replace e1 := cellAt e1 hHeld (by omega)
                    replace e2 := cellAt e2 hHeld (by omega)
                    replace Hr := Lib.hid (Hr.out.at hHeld)
                    replace Hn := Lib.hid (Hn.out.at hHeld)
                    replace n1 : w.heap.size < v3.heap.size := ltAt n1 hHeld
                    replace HB := Lib.hid (lift HB.out hHeld)
                    replace Hb := Lib.hid (lift Hb.out hHeld)
                    replace hB := ltAt hB hHeld
                    replace m1 : wr.heap.size < v3.heap.size := ltAt m1 hHeld
                    clear hHeld
                    go_wp2_with fail
                    go_roundw
                    case rel => exact ⟨j + 1 + 1, by omega, by go_num, HU.out.step hlt (by rw [Hx.out]; exact HGd.out) HL.out, Hb.out⟩
                    case measure => simp [intOf]; omega
        · have hkb : (kindS s != t) = true := by simp [hkt]
          have Hm := Lib.hid (mayG_n (es := es) hlt (by rw [Hx.out]; show (kindS s != 0 && ((t == kindS s) && (decide (1 ≤ r) && decide (r ≤ 4)))) = false; (simp; omega)))
          go_wp2_with fail
          first | (refine wp_named ?_; intro W2 hW) | (refine calls_named ?_; intro W2 hW)
          have B2 : Below wr.heap.size wr W2 := by rw [hW]; exact (by repeat (first | exact Below.refl _ _ | assumption | refine Below.alloc ?_ (by first | omega | (simp <;> omega)) _ | refine Below.setCell ?_ (by first | omega | (simp <;> omega)) _ | refine Below.drew ?_))
          replace c0 := cellAt c0 B2 (by omega)
          replace c1 := cellAt c1 B2 (by omega)
          replace Hr := Lib.hid (Hr.out.at B2)
          replace Hn := Lib.hid (Hn.out.at B2)
          replace n1 : w.heap.size < W2.heap.size := ltAt n1 B2
          replace HB := Lib.hid (lift HB.out B2)
          replace Hb := Lib.hid (lift Hb.out B2)
          replace hB := ltAt hB B2
          have m1 : wr.heap.size < W2.heap.size := by rw [hW]; simp <;> omega
          have e0 : W2.cell? ⟨wr.heap.size, 0, none⟩ = some (sv s) := by rw [hW]; go_simp
          have e1 : W2.cell? ⟨wr.heap.size, 1, none⟩ = some (.int .i64 t) := by rw [hW]; go_simp
          have e2 : W2.cell? ⟨wr.heap.size, 2, none⟩ = some (.int .i64 r) := by rw [hW]; go_simp
          clear hW
          clear B2
          try go_wp2_with fail
          refine wp_region_held_drew (S := fun w' => Below W2.heap.size W2 w') (by kernel_rfl) (Below.drew (Below.refl _ _)) (fun hHeld => ?_)
          refine tV 0 ?_ ?zq ?_; (case zq => rintro _ -; go_simp; try with_reducible rfl); try simp only [Act.put, zn1, zn2, zn3]
          refine tV 1 ?_ ?zq ?_; (case zq => intro w' hSw; have hCell := fun (b o : Nat) (h : b < W2.heap.size) => hSw.cell (p := ⟨b, o, none⟩) h; clear hSw; go_simp; try with_reducible rfl); try simp only [Act.put, zn1, zn2, zn3]
          refine tV 4 ?_ ?zq ?_; (case zq => rintro _ -; go_simp; try with_reducible rfl); try simp only [Act.put, zn1, zn2, zn3]
          refine tV 5 ?_ ?zq ?_; (case zq => intro w' hSw; have hCell := fun (b o : Nat) (h : b < W2.heap.size) => hSw.cell (p := ⟨b, o, none⟩) h; clear hSw; go_simp; try with_reducible rfl); try simp only [Act.put, zn1, zn2, zn3]
          refine ready_one (i := 2) rfl (by kernel_rfl) (fun K hK => ?_)
          go_simp
          refine (OfK_any s _ hlen).mono ?_
          rintro e v3 ⟨zp, zi, za, rfl, hb⟩
          refine hK.out _ _ ?_ (fun hHeld2 => ?_)
          · (try dsimp only); first | exact Below.trans hHeld (Below.mono hb hHeld.size) | exact hHeld | exact Below.drew hHeld | exact (by repeat (first | exact Below.refl _ _ | assumption | refine Below.alloc ?_ (by first | omega | (simp <;> omega)) _ | refine Below.setCell ?_ (by first | omega | (simp <;> omega)) _ | refine Below.drew ?_))
          clear hK K hHeld; have hHeld := hHeld2; clear hHeld2; (try simp only [Act.put, zn1, zn2, zn3])
          refine tV 3 ?_ ?zq ?_; (case zq => rintro _ -; go_simp; try with_reducible rfl); try simp only [Act.put, zn1, zn2, zn3]
          refine tV 6 ?_ ?zq ?_; (case zq => rintro _ -; go_simp; try with_reducible rfl); try simp only [Act.put, zn1, zn2, zn3]
          refine tV 7 ?_ ?zq ?_; (case zq => rintro _ -; go_simp; try with_reducible rfl); try simp only [Act.put, zn1, zn2, zn3]
          refine tU 8 ?_; (try simp only [Act.put, zn1, zn2, zn3])
          refine tU 9 ?_; (try simp only [Act.put, zn1, zn2, zn3])
          refine tU 10 ?_; (try simp only [Act.put, zn1, zn2, zn3])
          refine tV 11 ?_ ?zq ?_; (case zq => rintro _ -; go_simp; try with_reducible rfl); try simp only [Act.put, zn1, zn2, zn3]
          refine tV 12 ?_ ?zq ?_; (case zq => rintro _ -; go_simp; try with_reducible rfl); try simp only [Act.put, zn1, zn2, zn3]
          refine tU 13 ?_; (try simp only [Act.put, zn1, zn2, zn3])
          refine tU 14 ?_; (try simp only [Act.put, zn1, zn2, zn3])
          refine tU 15 ?_; (try simp only [Act.put, zn1, zn2, zn3])
          refine tV 16 ?_ ?zq ?_; (case zq => rintro _ -; go_simp; try with_reducible rfl); try simp only [Act.put, zn1, zn2, zn3]
          refine tV 17 ?_ ?zq ?_; (case zq => rintro _ -; go_simp; try with_reducible rfl); try simp only [Act.put, zn1, zn2, zn3]
          refine tU 18 ?_; (try simp only [Act.put, zn1, zn2, zn3])
          refine tU 19 ?_; (try simp only [Act.put, zn1, zn2, zn3])
          refine tU 20 ?_; (try simp only [Act.put, zn1, zn2, zn3])
          refine tV 21 ?_ ?zq ?_; (case zq => rintro _ -; go_simp; try with_reducible rfl); try simp only [Act.put, zn1, zn2, zn3]
          refine tV 22 ?_ ?zq ?_; (case zq => rintro _ -; go_simp; try with_reducible rfl); try simp only [Act.put, zn1, zn2, zn3]
          refine tU 23 ?_; (try simp only [Act.put, zn1, zn2, zn3])
          refine tU 24 ?_; (try simp only [Act.put, zn1, zn2, zn3])
          refine tU 25 ?_; (try simp only [Act.put, zn1, zn2, zn3])
          refine tU 26 ?_; (try simp only [Act.put, zn1, zn2, zn3])
          refine tU 27 ?_; (try simp only [Act.put, zn1, zn2, zn3])
          refine tU 28 ?_; (try simp only [Act.put, zn1, zn2, zn3])
          refine tU 29 ?_; (try simp only [Act.put, zn1, zn2, zn3])
          refine tU 30 ?_; (try simp only [Act.put, zn1, zn2, zn3])
          refine tU 31 ?_; (try simp only [Act.put, zn1, zn2, zn3])
          refine tU 32 ?_; (try simp only [Act.put, zn1, zn2, zn3])
          refine tU 33 ?_; (try simp only [Act.put, zn1, zn2, zn3])
          refine tU 34 ?_; (try simp only [Act.put, zn1, zn2, zn3])
          refine tU 35 ?_; (try simp only [Act.put, zn1, zn2, zn3])
          refine tU 36 ?_; (try simp only [Act.put, zn1, zn2, zn3])
          refine tV 37 ?_ ?zq ?_; (case zq => rintro _ -; go_simp; try with_reducible rfl); try simp only [Act.put, zn1, zn2, zn3]
          refine wpAnyH_done (by kernel_rfl) ?_ _
          go_wp2_with fail
          go_ret
          exact ⟨ret_bool (by rw [Hm.out]), lift HB.out hHeld⟩
      · have hkn : k = ns.length := by omega
        subst hkn
        obtain ⟨w9, rfl⟩ : ∃ wo : World, wo = wr := ⟨_, rfl⟩
        go_wp2_with fail
        go_loopw [65] (fun i wr => ∃ k : Nat, k ≤ es.length ∧ i = .int .i64 k ∧ Hid (UpE ns es k) ∧ Below w9.heap.size w9 wr) (fun i _ => es.length - (intOf i).toNat)
        case atStart => exact ⟨0, Nat.zero_le _, rfl, ⟨fun _ _ h => absurd h (by omega), fun _ _ h => absurd h (by omega)⟩, Below.refl _ _⟩
        case round =>
          obtain ⟨k, hk, rfl, hall, hb⟩ := hrel
          have HE := Lib.hid hall.out
          clear hall
          have Hb9 := Lib.hid hb
          replace c0 := cellAt c0 hb (by omega)
          replace c1 := cellAt c1 hb (by omega)
          replace Hr := Lib.hid (Hr.out.at hb)
          replace Hn := Lib.hid (Hn.out.at hb)
          replace n1 : w.heap.size < wr.heap.size := ltAt n1 hb
          replace HB := Lib.hid (lift HB.out hb)
          clear hb
          by_cases hlt : k < es.length
          · obtain ⟨b, o, rfl, hB, x0, x1, x2⟩ := Hr.out.edge hlt
            generalize hx : es[k] = x at x0 x1 x2
            obtain ⟨s, d, r⟩ := x
            have Hx := Lib.hid hx
            clear hx
            simp only at x0 x1 x2
            have k1 : (0 : Int) ≤ (k : Int) := by omega
            have k2 : (k : Int) < (es.length : Int) := by omega
            have hek : edgeOk ns (s, d, r) = ((nodeOf ns s).isSome && ((nodeOf ns d).isSome && (!(s == d) && (((nodeOf ns s).getD ([], 0, 0)).2.2 == 1 && (!decide (r < 1) && !decide (10 < r)))))) := rfl
            have HEK := Lib.hid hek
            clear hek
            by_cases hs0 : (nodeOf ns s).isSome = true
            · by_cases hd0 : (nodeOf ns d).isSome = true
              · go_wp2_with fail
                first | (refine wp_named ?_; intro W2 hW) | (refine calls_named ?_; intro W2 hW)
                have B2 : Below wr.heap.size wr W2 := by rw [hW]; exact (by repeat (first | exact Below.refl _ _ | assumption | refine Below.alloc ?_ (by first | omega | (simp <;> omega)) _ | refine Below.setCell ?_ (by first | omega | (simp <;> omega)) _ | refine Below.drew ?_))
                replace c0 := cellAt c0 B2 (by omega)
                replace c1 := cellAt c1 B2 (by omega)
                replace x0 := cellAt x0 B2 (by omega)
                replace x1 := cellAt x1 B2 (by omega)
                replace x2 := cellAt x2 B2 (by omega)
                replace Hr := Lib.hid (Hr.out.at B2)
                replace Hn := Lib.hid (Hn.out.at B2)
                replace n1 : w.heap.size < W2.heap.size := ltAt n1 B2
                replace HB := Lib.hid (lift HB.out B2)
                replace Hb9 := Lib.hid (lift Hb9.out B2)
                replace hB : b < W2.heap.size := ltAt hB B2
                have m1 : wr.heap.size < W2.heap.size := by rw [hW]; simp <;> omega
                have e0 : W2.cell? ⟨wr.heap.size, 0, none⟩ = some (sv s) := by rw [hW]; go_simp
                have e1 : W2.cell? ⟨wr.heap.size, 1, none⟩ = some (sv d) := by rw [hW]; go_simp
                have e2 : W2.cell? ⟨wr.heap.size, 2, none⟩ = some (.int .i64 r) := by rw [hW]; go_simp
                clear hW
                clear B2
                refine (Node15_any An (some ⟨b, o, none⟩) es.length cn ce ns s W2 Hn.out (by omega)).mono ?_
                rintro e v3 ⟨rfl, hb⟩
                replace c0 := cellAt c0 hb (by omega)
                replace c1 := cellAt c1 hb (by omega)
                replace x0 := cellAt x0 hb (by omega)
                replace x1 := cellAt x1 hb (by omega)
                replace x2 := cellAt x2 hb (by omega)
                replace e0 := cellAt e0 hb (by omega)
                replace e1 := cellAt e1 hb (by omega)
                replace e2 := cellAt e2 hb (by omega)
                replace Hr := Lib.hid (Hr.out.at hb)
                replace Hn := Lib.hid (Hn.out.at hb)
                replace n1 : w.heap.size < v3.heap.size := ltAt n1 hb
                replace HB := Lib.hid (lift HB.out hb)
                replace Hb9 := Lib.hid (lift Hb9.out hb)
                replace hB : b < v3.heap.size := ltAt hB hb
                replace m1 : wr.heap.size < v3.heap.size := ltAt m1 hb
                clear hb
                have HEq := Lib.hid HEK.out
                obtain ⟨on, hon⟩ : ∃ on, nodeOf ns s = on := ⟨_, rfl⟩
                obtain ⟨od, hod⟩ : ∃ od, nodeOf ns d = od := ⟨_, rfl⟩
                rw [hon]
                have HV := Lib.hid (show edgeOk ns (s, d, r) = (on.isSome && (od.isSome && (!(s == d) && ((on.getD ([], 0, 0)).2.2 == 1 && (!decide (r < 1) && !decide (10 < r)))))) by rw [HEq.out, hon, hod])
                have HON := Lib.hid hon
                have HOD := Lib.hid hod
                clear hon hod HEq
                unfold nodeV
                generalize hgs : on.getD ([], 0, 0) = gs at *
                obtain ⟨gn, gk, gt⟩ := gs
                have HGS := Lib.hid hgs
                clear hgs
                go_wp2_with fail
                first | (refine wp_named ?_; intro W4 hW) | (refine calls_named ?_; intro W4 hW)
                have B4 : Below v3.heap.size v3 W4 := by rw [hW]; exact (by repeat (first | exact Below.refl _ _ | assumption | refine Below.alloc ?_ (by first | omega | (simp <;> omega)) _ | refine Below.setCell ?_ (by first | omega | (simp <;> omega)) _ | refine Below.drew ?_))
                replace c0 := cellAt c0 B4 (by omega)
                replace c1 := cellAt c1 B4 (by omega)
                replace x0 := cellAt x0 B4 (by omega)
                replace x1 := cellAt x1 B4 (by omega)
                replace x2 := cellAt x2 B4 (by omega)
                replace e0 := cellAt e0 B4 (by omega)
                replace e1 := cellAt e1 B4 (by omega)
                replace e2 := cellAt e2 B4 (by omega)
                replace Hr := Lib.hid (Hr.out.at B4)
                replace Hn := Lib.hid (Hn.out.at B4)
                replace n1 : w.heap.size < W4.heap.size := ltAt n1 B4
                replace HB := Lib.hid (lift HB.out B4)
                replace Hb9 := Lib.hid (lift Hb9.out B4)
                replace hB : b < W4.heap.size := ltAt hB B4
                replace m1 : wr.heap.size < W4.heap.size := ltAt m1 B4
                have m2 : v3.heap.size < W4.heap.size := by rw [hW]; simp <;> omega
                have a0 : W4.cell? ⟨v3.heap.size, 0, none⟩ = some (sv gn) := by rw [hW]; go_simp
                have a1 : W4.cell? ⟨v3.heap.size, 1, none⟩ = some (.int .i64 gk) := by rw [hW]; go_simp
                have a2 : W4.cell? ⟨v3.heap.size, 2, none⟩ = some (.int .i64 gt) := by rw [hW]; go_simp
                clear hW
                clear B4
                refine (Node15_any An (some ⟨b, o, none⟩) es.length cn ce ns d W4 Hn.out (by omega)).mono ?_
                rintro e v5 ⟨rfl, hb⟩
                replace c0 := cellAt c0 hb (by omega)
                replace c1 := cellAt c1 hb (by omega)
                replace x0 := cellAt x0 hb (by omega)
                replace x1 := cellAt x1 hb (by omega)
                replace x2 := cellAt x2 hb (by omega)
                replace e0 := cellAt e0 hb (by omega)
                replace e1 := cellAt e1 hb (by omega)
                replace e2 := cellAt e2 hb (by omega)
                replace a0 := cellAt a0 hb (by omega)
                replace a1 := cellAt a1 hb (by omega)
                replace a2 := cellAt a2 hb (by omega)
                replace Hr := Lib.hid (Hr.out.at hb)
                replace Hn := Lib.hid (Hn.out.at hb)
                replace n1 : w.heap.size < v5.heap.size := ltAt n1 hb
                replace HB := Lib.hid (lift HB.out hb)
                replace Hb9 := Lib.hid (lift Hb9.out hb)
                replace hB : b < v5.heap.size := ltAt hB hb
                replace m1 : wr.heap.size < v5.heap.size := ltAt m1 hb
                replace m2 : v3.heap.size < v5.heap.size := ltAt m2 hb
                clear hb
                rw [HOD.out]
                unfold nodeV
                generalize od.getD ([], 0, 0) = gd at *
                obtain ⟨dn, dk, dt⟩ := gd
                have hv1 : on.isSome = true := by rw [← HON.out]; exact hs0
                have hv2 : od.isSome = true := by rw [← HOD.out]; exact hd0
                rw [hv1, hv2] at HV
                have HV2 := Lib.hid (show edgeOk ns (s, d, r) = (!(s == d) && (gt == 1 && (!decide (r < 1) && !decide (10 < r)))) by rw [HV.out]; simp)
                clear HV
                have HV := HV2
                clear hs0 hd0
                cases hg : (gt == 1)
                · have hgn : (gt != 1) = true := by simp [bne, hg]
                  have Hm := Lib.hid (mayG_e (ns := ns) hlt (by rw [Hx.out, HV.out, hg]; simp))
                  go_wp2_with fail
                  first | (refine wp_named ?_; intro W6 hW) | (refine calls_named ?_; intro W6 hW)
                  have B6 : Below v5.heap.size v5 W6 := by rw [hW]; exact (by repeat (first | exact Below.refl _ _ | assumption | refine Below.alloc ?_ (by first | omega | (simp <;> omega)) _ | refine Below.setCell ?_ (by first | omega | (simp <;> omega)) _ | refine Below.drew ?_))
                  replace c0 := cellAt c0 B6 (by omega)
                  replace c1 := cellAt c1 B6 (by omega)
                  replace x0 := cellAt x0 B6 (by omega)
                  replace x1 := cellAt x1 B6 (by omega)
                  replace x2 := cellAt x2 B6 (by omega)
                  replace e0 := cellAt e0 B6 (by omega)
                  replace e1 := cellAt e1 B6 (by omega)
                  replace e2 := cellAt e2 B6 (by omega)
                  replace a0 := cellAt a0 B6 (by omega)
                  replace a1 := cellAt a1 B6 (by omega)
                  replace a2 := cellAt a2 B6 (by omega)
                  replace Hr := Lib.hid (Hr.out.at B6)
                  replace Hn := Lib.hid (Hn.out.at B6)
                  replace n1 : w.heap.size < W6.heap.size := ltAt n1 B6
                  replace HB := Lib.hid (lift HB.out B6)
                  replace Hb9 := Lib.hid (lift Hb9.out B6)
                  replace hB : b < W6.heap.size := ltAt hB B6
                  replace m1 : wr.heap.size < W6.heap.size := ltAt m1 B6
                  replace m2 : v3.heap.size < W6.heap.size := ltAt m2 B6
                  clear hW
                  clear B6
                  try go_wp2_with fail
                  refine wp_region_held_drew (S := fun w' => Below W6.heap.size W6 w') (by kernel_rfl) (Below.drew (Below.refl _ _)) (fun hHeld => ?_)
                  refine tV 0 ?_ ?zq ?_; (case zq => rintro _ -; go_simp; try with_reducible rfl); try simp only [Act.put, zn1, zn2, zn3]
                  refine tV 1 ?_ ?zq ?_; (case zq => rintro _ -; go_simp; try with_reducible rfl); try simp only [Act.put, zn1, zn2, zn3]
                  refine tV 2 ?_ ?zq ?_; (case zq => rintro _ -; go_simp; try with_reducible rfl); try simp only [Act.put, zn1, zn2, zn3]
                  refine tV 3 ?_ ?zq ?_; (case zq => rintro _ -; go_simp; try with_reducible rfl); try simp only [Act.put, zn1, zn2, zn3]
                  refine tV 4 ?_ ?zq ?_; (case zq => rintro _ -; go_simp; try with_reducible rfl); try simp only [Act.put, zn1, zn2, zn3]
                  refine tV 5 ?_ ?zq ?_; (case zq => rintro _ -; go_simp; try with_reducible rfl); try simp only [Act.put, zn1, zn2, zn3]
                  refine tV 6 ?_ ?zq ?_; (case zq => rintro _ -; go_simp; try with_reducible rfl); try simp only [Act.put, zn1, zn2, zn3]
                  refine tV 7 ?_ ?zq ?_; (case zq => rintro _ -; go_simp; try with_reducible rfl); try simp only [Act.put, zn1, zn2, zn3]
                  refine tV 8 ?_ ?zq ?_; (case zq => intro w' hSw; have hCell := fun (b o : Nat) (h : b < W6.heap.size) => hSw.cell (p := ⟨b, o, none⟩) h; clear hSw; go_simp; try with_reducible rfl); try simp only [Act.put, zn1, zn2, zn3]
                  refine tV 9 ?_ ?zq ?_; (case zq => rintro _ -; go_simp; try with_reducible rfl); try simp only [Act.put, zn1, zn2, zn3]
                  refine tV 10 ?_ ?zq ?_; (case zq => rintro _ -; go_simp; try with_reducible rfl); try simp only [Act.put, zn1, zn2, zn3]
                  refine tV 11 ?_ ?zq ?_; (case zq => rintro _ -; go_simp; try with_reducible rfl); try simp only [Act.put, zn1, zn2, zn3]
                  refine tU 12 ?_; (try simp only [Act.put, zn1, zn2, zn3])
                  refine tU 13 ?_; (try simp only [Act.put, zn1, zn2, zn3])
                  refine tU 14 ?_; (try simp only [Act.put, zn1, zn2, zn3])
                  refine tU 15 ?_; (try simp only [Act.put, zn1, zn2, zn3])
                  refine tU 16 ?_; (try simp only [Act.put, zn1, zn2, zn3])
                  refine tV 17 ?_ ?zq ?_; (case zq => rintro _ -; go_simp; try with_reducible rfl); try simp only [Act.put, zn1, zn2, zn3]
                  refine tV 18 ?_ ?zq ?_; (case zq => rintro _ -; go_simp; try with_reducible rfl); try simp only [Act.put, zn1, zn2, zn3]
                  refine tU 19 ?_; (try simp only [Act.put, zn1, zn2, zn3])
                  refine tU 20 ?_; (try simp only [Act.put, zn1, zn2, zn3])
                  refine tU 21 ?_; (try simp only [Act.put, zn1, zn2, zn3])
                  refine tV 22 ?_ ?zq ?_; (case zq => rintro _ -; go_simp; try with_reducible rfl); try simp only [Act.put, zn1, zn2, zn3]
                  refine tV 23 ?_ ?zq ?_; (case zq => rintro _ -; go_simp; try with_reducible rfl); try simp only [Act.put, zn1, zn2, zn3]
                  refine tU 24 ?_; (try simp only [Act.put, zn1, zn2, zn3])
                  refine tU 25 ?_; (try simp only [Act.put, zn1, zn2, zn3])
                  refine tU 26 ?_; (try simp only [Act.put, zn1, zn2, zn3])
                  refine tV 27 ?_ ?zq ?_; (case zq => rintro _ -; go_simp; try with_reducible rfl); try simp only [Act.put, zn1, zn2, zn3]
                  refine tV 28 ?_ ?zq ?_; (case zq => rintro _ -; go_simp; try with_reducible rfl); try simp only [Act.put, zn1, zn2, zn3]
                  refine tU 29 ?_; (try simp only [Act.put, zn1, zn2, zn3])
                  refine tU 30 ?_; (try simp only [Act.put, zn1, zn2, zn3])
                  refine tU 31 ?_; (try simp only [Act.put, zn1, zn2, zn3])
                  refine tU 32 ?_; (try simp only [Act.put, zn1, zn2, zn3])
                  refine tU 33 ?_; (try simp only [Act.put, zn1, zn2, zn3])
                  refine tU 34 ?_; (try simp only [Act.put, zn1, zn2, zn3])
                  refine tU 35 ?_; (try simp only [Act.put, zn1, zn2, zn3])
                  refine tU 36 ?_; (try simp only [Act.put, zn1, zn2, zn3])
                  refine tU 37 ?_; (try simp only [Act.put, zn1, zn2, zn3])
                  refine tU 38 ?_; (try simp only [Act.put, zn1, zn2, zn3])
                  refine tU 39 ?_; (try simp only [Act.put, zn1, zn2, zn3])
                  refine tU 40 ?_; (try simp only [Act.put, zn1, zn2, zn3])
                  refine tU 41 ?_; (try simp only [Act.put, zn1, zn2, zn3])
                  refine tV 42 ?_ ?zq ?_; (case zq => rintro _ -; go_simp; try with_reducible rfl); try simp only [Act.put, zn1, zn2, zn3]
                  refine wpAnyH_done (by kernel_rfl) ?_ _
                  go_wp2_with fail
                  go_ret
                  exact ⟨ret_bool (by rw [Hm.out]), HB.out.trans (hHeld.mono HB.out.size)⟩
                · have hgn : (gt != 1) = false := by simp [bne, hg]
                  cases hsd : (s == d)
                  · by_cases r1 : r < 1
                    · have rb1 : decide (r < 1) = true := by rw [decide_eq_true_eq]; exact r1
                      have Hm := Lib.hid (mayG_e (ns := ns) hlt (by rw [Hx.out, HV.out, rb1]; simp))
                      go_wp2_with fail
                      first | (refine wp_named ?_; intro W6 hW) | (refine calls_named ?_; intro W6 hW)
                      have B6 : Below v5.heap.size v5 W6 := by rw [hW]; exact (by repeat (first | exact Below.refl _ _ | assumption | refine Below.alloc ?_ (by first | omega | (simp <;> omega)) _ | refine Below.setCell ?_ (by first | omega | (simp <;> omega)) _ | refine Below.drew ?_))
                      replace c0 := cellAt c0 B6 (by omega)
                      replace c1 := cellAt c1 B6 (by omega)
                      replace x0 := cellAt x0 B6 (by omega)
                      replace x1 := cellAt x1 B6 (by omega)
                      replace x2 := cellAt x2 B6 (by omega)
                      replace e0 := cellAt e0 B6 (by omega)
                      replace e1 := cellAt e1 B6 (by omega)
                      replace e2 := cellAt e2 B6 (by omega)
                      replace a0 := cellAt a0 B6 (by omega)
                      replace a1 := cellAt a1 B6 (by omega)
                      replace a2 := cellAt a2 B6 (by omega)
                      replace Hr := Lib.hid (Hr.out.at B6)
                      replace Hn := Lib.hid (Hn.out.at B6)
                      replace n1 : w.heap.size < W6.heap.size := ltAt n1 B6
                      replace HB := Lib.hid (lift HB.out B6)
                      replace Hb9 := Lib.hid (lift Hb9.out B6)
                      replace hB : b < W6.heap.size := ltAt hB B6
                      replace m1 : wr.heap.size < W6.heap.size := ltAt m1 B6
                      replace m2 : v3.heap.size < W6.heap.size := ltAt m2 B6
                      clear hW
                      clear B6
                      try go_wp2_with fail
                      refine wp_region_held_drew (S := fun w' => Below W6.heap.size W6 w') (by kernel_rfl) (Below.drew (Below.refl _ _)) (fun hHeld => ?_)
                      refine tV 0 ?_ ?zq ?_; (case zq => rintro _ -; go_simp; try with_reducible rfl); try simp only [Act.put, zn1, zn2, zn3]
                      refine tV 1 ?_ ?zq ?_; (case zq => rintro _ -; go_simp; try with_reducible rfl); try simp only [Act.put, zn1, zn2, zn3]
                      refine tV 2 ?_ ?zq ?_; (case zq => rintro _ -; go_simp; try with_reducible rfl); try simp only [Act.put, zn1, zn2, zn3]
                      refine tV 3 ?_ ?zq ?_; (case zq => rintro _ -; go_simp; try with_reducible rfl); try simp only [Act.put, zn1, zn2, zn3]
                      refine tV 4 ?_ ?zq ?_; (case zq => rintro _ -; go_simp; try with_reducible rfl); try simp only [Act.put, zn1, zn2, zn3]
                      refine tV 5 ?_ ?zq ?_; (case zq => rintro _ -; go_simp; try with_reducible rfl); try simp only [Act.put, zn1, zn2, zn3]
                      refine tV 6 ?_ ?zq ?_; (case zq => rintro _ -; go_simp; try with_reducible rfl); try simp only [Act.put, zn1, zn2, zn3]
                      refine tV 7 ?_ ?zq ?_; (case zq => rintro _ -; go_simp; try with_reducible rfl); try simp only [Act.put, zn1, zn2, zn3]
                      refine tV 8 ?_ ?zq ?_; (case zq => intro w' hSw; have hCell := fun (b o : Nat) (h : b < W6.heap.size) => hSw.cell (p := ⟨b, o, none⟩) h; clear hSw; go_simp; try with_reducible rfl); try simp only [Act.put, zn1, zn2, zn3]
                      refine tV 9 ?_ ?zq ?_; (case zq => rintro _ -; go_simp; try with_reducible rfl); try simp only [Act.put, zn1, zn2, zn3]
                      refine tV 10 ?_ ?zq ?_; (case zq => rintro _ -; go_simp; try with_reducible rfl); try simp only [Act.put, zn1, zn2, zn3]
                      refine tV 11 ?_ ?zq ?_; (case zq => rintro _ -; go_simp; try with_reducible rfl); try simp only [Act.put, zn1, zn2, zn3]
                      refine tV 12 ?_ ?zq ?_; (case zq => rintro _ -; go_simp; try with_reducible rfl); try simp only [Act.put, zn1, zn2, zn3]
                      refine tV 13 ?_ ?zq ?_; (case zq => intro w' hSw; have hCell := fun (b o : Nat) (h : b < W6.heap.size) => hSw.cell (p := ⟨b, o, none⟩) h; clear hSw; go_simp; try with_reducible rfl); try simp only [Act.put, zn1, zn2, zn3]
                      refine tV 14 ?_ ?zq ?_; (case zq => rintro _ -; go_simp; try with_reducible rfl); try simp only [Act.put, zn1, zn2, zn3]
                      refine tV 15 ?_ ?zq ?_; (case zq => intro w' hSw; have hCell := fun (b o : Nat) (h : b < W6.heap.size) => hSw.cell (p := ⟨b, o, none⟩) h; clear hSw; go_simp; try with_reducible rfl); try simp only [Act.put, zn1, zn2, zn3]
                      refine tV 16 ?_ ?zq ?_; (case zq => rintro _ -; go_simp; try with_reducible rfl); try simp only [Act.put, zn1, zn2, zn3]
                      refine tV 17 ?_ ?zq ?_; (case zq => rintro _ -; go_simp; try with_reducible rfl); try simp only [Act.put, zn1, zn2, zn3]
                      refine tV 18 ?_ ?zq ?_; (case zq => rintro _ -; go_simp; try with_reducible rfl); try simp only [Act.put, zn1, zn2, zn3]
                      refine tV 19 ?_ ?zq ?_; (case zq => rintro _ -; go_simp; try with_reducible rfl); try simp only [Act.put, zn1, zn2, zn3]
                      refine tV 20 ?_ ?zq ?_; (case zq => intro w' hSw; have hCell := fun (b o : Nat) (h : b < W6.heap.size) => hSw.cell (p := ⟨b, o, none⟩) h; clear hSw; go_simp; try with_reducible rfl); try simp only [Act.put, zn1, zn2, zn3]
                      refine tV 21 ?_ ?zq ?_; (case zq => rintro _ -; go_simp; try with_reducible rfl); try simp only [Act.put, zn1, zn2, zn3]
                      refine tV 22 ?_ ?zq ?_; (case zq => rintro _ -; go_simp; try with_reducible rfl); try simp only [Act.put, zn1, zn2, zn3]
                      refine tV 23 ?_ ?zq ?_; (case zq => rintro _ -; go_simp; try with_reducible rfl); try simp only [Act.put, zn1, zn2, zn3]
                      refine tU 24 ?_; (try simp only [Act.put, zn1, zn2, zn3])
                      refine tU 25 ?_; (try simp only [Act.put, zn1, zn2, zn3])
                      refine tU 26 ?_; (try simp only [Act.put, zn1, zn2, zn3])
                      refine tV 27 ?_ ?zq ?_; (case zq => rintro _ -; go_simp; try with_reducible rfl); try simp only [Act.put, zn1, zn2, zn3]
                      refine tV 28 ?_ ?zq ?_; (case zq => rintro _ -; go_simp; try with_reducible rfl); try simp only [Act.put, zn1, zn2, zn3]
                      refine tU 29 ?_; (try simp only [Act.put, zn1, zn2, zn3])
                      refine tU 30 ?_; (try simp only [Act.put, zn1, zn2, zn3])
                      refine tU 31 ?_; (try simp only [Act.put, zn1, zn2, zn3])
                      refine tU 32 ?_; (try simp only [Act.put, zn1, zn2, zn3])
                      refine tU 33 ?_; (try simp only [Act.put, zn1, zn2, zn3])
                      refine tU 34 ?_; (try simp only [Act.put, zn1, zn2, zn3])
                      refine tU 35 ?_; (try simp only [Act.put, zn1, zn2, zn3])
                      refine tU 36 ?_; (try simp only [Act.put, zn1, zn2, zn3])
                      refine tU 37 ?_; (try simp only [Act.put, zn1, zn2, zn3])
                      refine tU 38 ?_; (try simp only [Act.put, zn1, zn2, zn3])
                      refine tU 39 ?_; (try simp only [Act.put, zn1, zn2, zn3])
                      refine tU 40 ?_; (try simp only [Act.put, zn1, zn2, zn3])
                      refine tU 41 ?_; (try simp only [Act.put, zn1, zn2, zn3])
                      refine tV 42 ?_ ?zq ?_; (case zq => rintro _ -; go_simp; try with_reducible rfl); try simp only [Act.put, zn1, zn2, zn3]
                      refine wpAnyH_done (by kernel_rfl) ?_ _
                      go_wp2_with fail
                      go_ret
                      exact ⟨ret_bool (by rw [Hm.out]), HB.out.trans (hHeld.mono HB.out.size)⟩
                    · have rb1 : decide (r < 1) = false := by rw [decide_eq_false_iff_not]; exact r1
                      by_cases r10 : 10 < r
                      · have rb4 : decide (10 < r) = true := by rw [decide_eq_true_eq]; exact r10
                        have Hm := Lib.hid (mayG_e (ns := ns) hlt (by rw [Hx.out, HV.out, rb4]; simp))
                        go_wp2_with fail
                        first | (refine wp_named ?_; intro W6 hW) | (refine calls_named ?_; intro W6 hW)
                        have B6 : Below v5.heap.size v5 W6 := by rw [hW]; exact (by repeat (first | exact Below.refl _ _ | assumption | refine Below.alloc ?_ (by first | omega | (simp <;> omega)) _ | refine Below.setCell ?_ (by first | omega | (simp <;> omega)) _ | refine Below.drew ?_))
                        replace c0 := cellAt c0 B6 (by omega)
                        replace c1 := cellAt c1 B6 (by omega)
                        replace x0 := cellAt x0 B6 (by omega)
                        replace x1 := cellAt x1 B6 (by omega)
                        replace x2 := cellAt x2 B6 (by omega)
                        replace e0 := cellAt e0 B6 (by omega)
                        replace e1 := cellAt e1 B6 (by omega)
                        replace e2 := cellAt e2 B6 (by omega)
                        replace a0 := cellAt a0 B6 (by omega)
                        replace a1 := cellAt a1 B6 (by omega)
                        replace a2 := cellAt a2 B6 (by omega)
                        replace Hr := Lib.hid (Hr.out.at B6)
                        replace Hn := Lib.hid (Hn.out.at B6)
                        replace n1 : w.heap.size < W6.heap.size := ltAt n1 B6
                        replace HB := Lib.hid (lift HB.out B6)
                        replace Hb9 := Lib.hid (lift Hb9.out B6)
                        replace hB : b < W6.heap.size := ltAt hB B6
                        replace m1 : wr.heap.size < W6.heap.size := ltAt m1 B6
                        replace m2 : v3.heap.size < W6.heap.size := ltAt m2 B6
                        clear hW
                        clear B6
                        try go_wp2_with fail
                        refine wp_region_held_drew (S := fun w' => Below W6.heap.size W6 w') (by kernel_rfl) (Below.drew (Below.refl _ _)) (fun hHeld => ?_)
                        refine tV 0 ?_ ?zq ?_; (case zq => rintro _ -; go_simp; try with_reducible rfl); try simp only [Act.put, zn1, zn2, zn3]
                        refine tV 1 ?_ ?zq ?_; (case zq => rintro _ -; go_simp; try with_reducible rfl); try simp only [Act.put, zn1, zn2, zn3]
                        refine tV 2 ?_ ?zq ?_; (case zq => rintro _ -; go_simp; try with_reducible rfl); try simp only [Act.put, zn1, zn2, zn3]
                        refine tV 3 ?_ ?zq ?_; (case zq => rintro _ -; go_simp; try with_reducible rfl); try simp only [Act.put, zn1, zn2, zn3]
                        refine tV 4 ?_ ?zq ?_; (case zq => rintro _ -; go_simp; try with_reducible rfl); try simp only [Act.put, zn1, zn2, zn3]
                        refine tV 5 ?_ ?zq ?_; (case zq => rintro _ -; go_simp; try with_reducible rfl); try simp only [Act.put, zn1, zn2, zn3]
                        refine tV 6 ?_ ?zq ?_; (case zq => rintro _ -; go_simp; try with_reducible rfl); try simp only [Act.put, zn1, zn2, zn3]
                        refine tV 7 ?_ ?zq ?_; (case zq => rintro _ -; go_simp; try with_reducible rfl); try simp only [Act.put, zn1, zn2, zn3]
                        refine tV 8 ?_ ?zq ?_; (case zq => intro w' hSw; have hCell := fun (b o : Nat) (h : b < W6.heap.size) => hSw.cell (p := ⟨b, o, none⟩) h; clear hSw; go_simp; try with_reducible rfl); try simp only [Act.put, zn1, zn2, zn3]
                        refine tV 9 ?_ ?zq ?_; (case zq => rintro _ -; go_simp; try with_reducible rfl); try simp only [Act.put, zn1, zn2, zn3]
                        refine tV 10 ?_ ?zq ?_; (case zq => rintro _ -; go_simp; try with_reducible rfl); try simp only [Act.put, zn1, zn2, zn3]
                        refine tV 11 ?_ ?zq ?_; (case zq => rintro _ -; go_simp; try with_reducible rfl); try simp only [Act.put, zn1, zn2, zn3]
                        refine tV 12 ?_ ?zq ?_; (case zq => rintro _ -; go_simp; try with_reducible rfl); try simp only [Act.put, zn1, zn2, zn3]
                        refine tV 13 ?_ ?zq ?_; (case zq => intro w' hSw; have hCell := fun (b o : Nat) (h : b < W6.heap.size) => hSw.cell (p := ⟨b, o, none⟩) h; clear hSw; go_simp; try with_reducible rfl); try simp only [Act.put, zn1, zn2, zn3]
                        refine tV 14 ?_ ?zq ?_; (case zq => rintro _ -; go_simp; try with_reducible rfl); try simp only [Act.put, zn1, zn2, zn3]
                        refine tV 15 ?_ ?zq ?_; (case zq => intro w' hSw; have hCell := fun (b o : Nat) (h : b < W6.heap.size) => hSw.cell (p := ⟨b, o, none⟩) h; clear hSw; go_simp; try with_reducible rfl); try simp only [Act.put, zn1, zn2, zn3]
                        refine tV 16 ?_ ?zq ?_; (case zq => rintro _ -; go_simp; try with_reducible rfl); try simp only [Act.put, zn1, zn2, zn3]
                        refine tV 17 ?_ ?zq ?_; (case zq => rintro _ -; go_simp; try with_reducible rfl); try simp only [Act.put, zn1, zn2, zn3]
                        refine tV 18 ?_ ?zq ?_; (case zq => rintro _ -; go_simp; try with_reducible rfl); try simp only [Act.put, zn1, zn2, zn3]
                        refine tV 19 ?_ ?zq ?_; (case zq => rintro _ -; go_simp; try with_reducible rfl); try simp only [Act.put, zn1, zn2, zn3]
                        refine tV 20 ?_ ?zq ?_; (case zq => intro w' hSw; have hCell := fun (b o : Nat) (h : b < W6.heap.size) => hSw.cell (p := ⟨b, o, none⟩) h; clear hSw; go_simp; try with_reducible rfl); try simp only [Act.put, zn1, zn2, zn3]
                        refine tV 21 ?_ ?zq ?_; (case zq => rintro _ -; go_simp; try with_reducible rfl); try simp only [Act.put, zn1, zn2, zn3]
                        refine tV 22 ?_ ?zq ?_; (case zq => rintro _ -; go_simp; try with_reducible rfl); try simp only [Act.put, zn1, zn2, zn3]
                        refine tV 23 ?_ ?zq ?_; (case zq => rintro _ -; go_simp; try with_reducible rfl); try simp only [Act.put, zn1, zn2, zn3]
                        refine tV 24 ?_ ?zq ?_; (case zq => rintro _ -; go_simp; try with_reducible rfl); try simp only [Act.put, zn1, zn2, zn3]
                        refine tV 25 ?_ ?zq ?_; (case zq => intro w' hSw; have hCell := fun (b o : Nat) (h : b < W6.heap.size) => hSw.cell (p := ⟨b, o, none⟩) h; clear hSw; go_simp; try with_reducible rfl); try simp only [Act.put, zn1, zn2, zn3]
                        refine tV 26 ?_ ?zq ?_; (case zq => rintro _ -; go_simp; try with_reducible rfl); try simp only [Act.put, zn1, zn2, zn3]
                        refine tV 27 ?_ ?zq ?_; (case zq => rintro _ -; go_simp; try with_reducible rfl); try simp only [Act.put, zn1, zn2, zn3]
                        refine tV 28 ?_ ?zq ?_; (case zq => rintro _ -; go_simp; try with_reducible rfl); try simp only [Act.put, zn1, zn2, zn3]
                        refine tU 29 ?_; (try simp only [Act.put, zn1, zn2, zn3])
                        refine tU 30 ?_; (try simp only [Act.put, zn1, zn2, zn3])
                        refine tU 31 ?_; (try simp only [Act.put, zn1, zn2, zn3])
                        refine tU 32 ?_; (try simp only [Act.put, zn1, zn2, zn3])
                        refine tU 33 ?_; (try simp only [Act.put, zn1, zn2, zn3])
                        refine tU 34 ?_; (try simp only [Act.put, zn1, zn2, zn3])
                        refine tU 35 ?_; (try simp only [Act.put, zn1, zn2, zn3])
                        refine tU 36 ?_; (try simp only [Act.put, zn1, zn2, zn3])
                        refine tU 37 ?_; (try simp only [Act.put, zn1, zn2, zn3])
                        refine tU 38 ?_; (try simp only [Act.put, zn1, zn2, zn3])
                        refine tU 39 ?_; (try simp only [Act.put, zn1, zn2, zn3])
                        refine tU 40 ?_; (try simp only [Act.put, zn1, zn2, zn3])
                        refine tU 41 ?_; (try simp only [Act.put, zn1, zn2, zn3])
                        refine tV 42 ?_ ?zq ?_; (case zq => rintro _ -; go_simp; try with_reducible rfl); try simp only [Act.put, zn1, zn2, zn3]
                        refine wpAnyH_done (by kernel_rfl) ?_ _
                        go_wp2_with fail
                        go_ret
                        exact ⟨ret_bool (by rw [Hm.out]), HB.out.trans (hHeld.mono HB.out.size)⟩
                      · have rb4 : decide (10 < r) = false := by rw [decide_eq_false_iff_not]; exact r10
                        have HGd := Lib.hid (show edgeOk ns (s, d, r) = true by rw [HV.out, hg, hsd, rb1, rb4]; rfl)
                        by_cases hk0 : k = 0
                        · have k3 : decide (0 < k) = false := by rw [decide_eq_false_iff_not]; omega
                          have HK0 := Lib.hid hk0
                          clear hk0
                          go_wp2_with fail
                          first | (refine wp_named ?_; intro W6 hW) | (refine calls_named ?_; intro W6 hW)
                          have B6 : Below v5.heap.size v5 W6 := by rw [hW]; exact (by repeat (first | exact Below.refl _ _ | assumption | refine Below.alloc ?_ (by first | omega | (simp <;> omega)) _ | refine Below.setCell ?_ (by first | omega | (simp <;> omega)) _ | refine Below.drew ?_))
                          replace c0 := cellAt c0 B6 (by omega)
                          replace c1 := cellAt c1 B6 (by omega)
                          replace x0 := cellAt x0 B6 (by omega)
                          replace x1 := cellAt x1 B6 (by omega)
                          replace x2 := cellAt x2 B6 (by omega)
                          replace e0 := cellAt e0 B6 (by omega)
                          replace e1 := cellAt e1 B6 (by omega)
                          replace e2 := cellAt e2 B6 (by omega)
                          replace a0 := cellAt a0 B6 (by omega)
                          replace a1 := cellAt a1 B6 (by omega)
                          replace a2 := cellAt a2 B6 (by omega)
                          replace Hr := Lib.hid (Hr.out.at B6)
                          replace Hn := Lib.hid (Hn.out.at B6)
                          replace n1 : w.heap.size < W6.heap.size := ltAt n1 B6
                          replace HB := Lib.hid (lift HB.out B6)
                          replace Hb9 := Lib.hid (lift Hb9.out B6)
                          replace hB : b < W6.heap.size := ltAt hB B6
                          replace m1 : wr.heap.size < W6.heap.size := ltAt m1 B6
                          replace m2 : v3.heap.size < W6.heap.size := ltAt m2 B6
                          clear hW
                          clear B6
                          try go_wp2_with fail
                          refine wp_region_held_drew (S := fun w' => Below W6.heap.size W6 w') (by kernel_rfl) (Below.drew (Below.refl _ _)) (fun hHeld => ?_)
                          refine tV 0 ?_ ?zq ?_; (case zq => rintro _ -; go_simp; try with_reducible rfl); try simp only [Act.put, zn1, zn2, zn3]
                          refine tV 1 ?_ ?zq ?_; (case zq => rintro _ -; go_simp; try with_reducible rfl); try simp only [Act.put, zn1, zn2, zn3]
                          refine tV 2 ?_ ?zq ?_; (case zq => rintro _ -; go_simp; try with_reducible rfl); try simp only [Act.put, zn1, zn2, zn3]
                          refine tV 3 ?_ ?zq ?_; (case zq => rintro _ -; go_simp; try with_reducible rfl); try simp only [Act.put, zn1, zn2, zn3]
                          refine tV 4 ?_ ?zq ?_; (case zq => rintro _ -; go_simp; try with_reducible rfl); try simp only [Act.put, zn1, zn2, zn3]
                          refine tV 5 ?_ ?zq ?_; (case zq => rintro _ -; go_simp; try with_reducible rfl); try simp only [Act.put, zn1, zn2, zn3]
                          refine tV 6 ?_ ?zq ?_; (case zq => rintro _ -; go_simp; try with_reducible rfl); try simp only [Act.put, zn1, zn2, zn3]
                          refine tV 7 ?_ ?zq ?_; (case zq => rintro _ -; go_simp; try with_reducible rfl); try simp only [Act.put, zn1, zn2, zn3]
                          refine tV 8 ?_ ?zq ?_; (case zq => intro w' hSw; have hCell := fun (b o : Nat) (h : b < W6.heap.size) => hSw.cell (p := ⟨b, o, none⟩) h; clear hSw; go_simp; try with_reducible rfl); try simp only [Act.put, zn1, zn2, zn3]
                          refine tV 9 ?_ ?zq ?_; (case zq => rintro _ -; go_simp; try with_reducible rfl); try simp only [Act.put, zn1, zn2, zn3]
                          refine tV 10 ?_ ?zq ?_; (case zq => rintro _ -; go_simp; try with_reducible rfl); try simp only [Act.put, zn1, zn2, zn3]
                          refine tV 11 ?_ ?zq ?_; (case zq => rintro _ -; go_simp; try with_reducible rfl); try simp only [Act.put, zn1, zn2, zn3]
                          refine tV 12 ?_ ?zq ?_; (case zq => rintro _ -; go_simp; try with_reducible rfl); try simp only [Act.put, zn1, zn2, zn3]
                          refine tV 13 ?_ ?zq ?_; (case zq => intro w' hSw; have hCell := fun (b o : Nat) (h : b < W6.heap.size) => hSw.cell (p := ⟨b, o, none⟩) h; clear hSw; go_simp; try with_reducible rfl); try simp only [Act.put, zn1, zn2, zn3]
                          refine tV 14 ?_ ?zq ?_; (case zq => rintro _ -; go_simp; try with_reducible rfl); try simp only [Act.put, zn1, zn2, zn3]
                          refine tV 15 ?_ ?zq ?_; (case zq => intro w' hSw; have hCell := fun (b o : Nat) (h : b < W6.heap.size) => hSw.cell (p := ⟨b, o, none⟩) h; clear hSw; go_simp; try with_reducible rfl); try simp only [Act.put, zn1, zn2, zn3]
                          refine tV 16 ?_ ?zq ?_; (case zq => rintro _ -; go_simp; try with_reducible rfl); try simp only [Act.put, zn1, zn2, zn3]
                          refine tV 17 ?_ ?zq ?_; (case zq => rintro _ -; go_simp; try with_reducible rfl); try simp only [Act.put, zn1, zn2, zn3]
                          refine tV 18 ?_ ?zq ?_; (case zq => rintro _ -; go_simp; try with_reducible rfl); try simp only [Act.put, zn1, zn2, zn3]
                          refine tV 19 ?_ ?zq ?_; (case zq => rintro _ -; go_simp; try with_reducible rfl); try simp only [Act.put, zn1, zn2, zn3]
                          refine tV 20 ?_ ?zq ?_; (case zq => intro w' hSw; have hCell := fun (b o : Nat) (h : b < W6.heap.size) => hSw.cell (p := ⟨b, o, none⟩) h; clear hSw; go_simp; try with_reducible rfl); try simp only [Act.put, zn1, zn2, zn3]
                          refine tV 21 ?_ ?zq ?_; (case zq => rintro _ -; go_simp; try with_reducible rfl); try simp only [Act.put, zn1, zn2, zn3]
                          refine tV 22 ?_ ?zq ?_; (case zq => rintro _ -; go_simp; try with_reducible rfl); try simp only [Act.put, zn1, zn2, zn3]
                          refine tV 23 ?_ ?zq ?_; (case zq => rintro _ -; go_simp; try with_reducible rfl); try simp only [Act.put, zn1, zn2, zn3]
                          refine tV 24 ?_ ?zq ?_; (case zq => rintro _ -; go_simp; try with_reducible rfl); try simp only [Act.put, zn1, zn2, zn3]
                          refine tV 25 ?_ ?zq ?_; (case zq => intro w' hSw; have hCell := fun (b o : Nat) (h : b < W6.heap.size) => hSw.cell (p := ⟨b, o, none⟩) h; clear hSw; go_simp; try with_reducible rfl); try simp only [Act.put, zn1, zn2, zn3]
                          refine tV 26 ?_ ?zq ?_; (case zq => rintro _ -; go_simp; try with_reducible rfl); try simp only [Act.put, zn1, zn2, zn3]
                          refine tV 27 ?_ ?zq ?_; (case zq => rintro _ -; go_simp; try with_reducible rfl); try simp only [Act.put, zn1, zn2, zn3]
                          refine tV 28 ?_ ?zq ?_; (case zq => rintro _ -; go_simp; try with_reducible rfl); try simp only [Act.put, zn1, zn2, zn3]
                          refine tV 29 ?_ ?zq ?_; (case zq => rintro _ -; go_simp; try with_reducible rfl); try simp only [Act.put, zn1, zn2, zn3]
                          refine tV 30 ?_ ?zq ?_; (case zq => rintro _ -; go_simp; try with_reducible rfl); try simp only [Act.put, zn1, zn2, zn3]
                          refine tV 31 ?_ ?zq ?_; (case zq => rintro _ -; go_simp; try with_reducible rfl); try simp only [Act.put, zn1, zn2, zn3]
                          refine tU 32 ?_; (try simp only [Act.put, zn1, zn2, zn3])
                          refine tU 33 ?_; (try simp only [Act.put, zn1, zn2, zn3])
                          refine tU 34 ?_; (try simp only [Act.put, zn1, zn2, zn3])
                          refine tU 35 ?_; (try simp only [Act.put, zn1, zn2, zn3])
                          refine tU 36 ?_; (try simp only [Act.put, zn1, zn2, zn3])
                          refine tU 37 ?_; (try simp only [Act.put, zn1, zn2, zn3])
                          refine tU 38 ?_; (try simp only [Act.put, zn1, zn2, zn3])
                          refine tU 39 ?_; (try simp only [Act.put, zn1, zn2, zn3])
                          refine tU 40 ?_; (try simp only [Act.put, zn1, zn2, zn3])
                          refine tV 41 ?_ ?zq ?_; (case zq => rintro _ -; go_simp; try with_reducible rfl); try simp only [Act.put, zn1, zn2, zn3]
                          refine tV 42 ?_ ?zq ?_; (case zq => rintro _ -; go_simp; try with_reducible rfl); try simp only [Act.put, zn1, zn2, zn3]
                          refine wpAnyH_done (by kernel_rfl) ?_ _
                          replace c0 := cellAt c0 hHeld (by omega)
                          replace c1 := cellAt c1 hHeld (by omega)
                          replace x0 := cellAt x0 hHeld (by omega)
                          replace x1 := cellAt x1 hHeld (by omega)
                          replace x2 := cellAt x2 hHeld (by omega)
                          replace e0 := cellAt e0 hHeld (by omega)
                          replace e1 := cellAt e1 hHeld (by omega)
                          replace e2 := cellAt e2 hHeld (by omega)
                          replace a0 := cellAt a0 hHeld (by omega)
                          replace a1 := cellAt a1 hHeld (by omega)
                          replace a2 := cellAt a2 hHeld (by omega)
                          replace Hr := Lib.hid (Hr.out.at hHeld)
                          replace Hn := Lib.hid (Hn.out.at hHeld)
                          replace n1 : w.heap.size < (W6.drew).heap.size := ltAt n1 hHeld
                          replace HB := Lib.hid (lift HB.out hHeld)
                          replace Hb9 := Lib.hid (lift Hb9.out hHeld)
                          replace hB : b < (W6.drew).heap.size := ltAt hB hHeld
                          replace m1 : wr.heap.size < (W6.drew).heap.size := ltAt m1 hHeld
                          replace m2 : v3.heap.size < (W6.drew).heap.size := ltAt m2 hHeld
                          go_wp2_with fail
                          go_roundw
                          case rel => exact ⟨k + 1, by omega, by go_num, HE.out.step hlt (by rw [Hx.out]; exact HGd.out) (fun j e => absurd (HK0.out.symm.trans e) (by simp)), Hb9.out⟩
                          case measure => simp [intOf]; omega
                        · obtain ⟨j, rfl⟩ : ∃ j, k = j + 1 := ⟨k - 1, by omega⟩
                          obtain ⟨b', o', he, _, y0, y1, y2⟩ := Hr.out.edge (i := j) (by omega)
                          injection he with he
                          injection he with he1 he2
                          subst he1 he2
                          generalize hy : es[j] = y at y0 y1 y2
                          obtain ⟨s', d', r'⟩ := y
                          have Hy := Lib.hid hy
                          clear hy
                          simp only at y0 y1 y2
                          have k3 : (j : Int) < (es.length : Int) := by omega
                          have k4 : IntKind.i64.wrap (j : Int) = j := IntWalk.i64_in _ (by omega)
                          have k5 : IntKind.i64.wrap ((j : Int) + 1) = (j : Int) + 1 := IntWalk.i64_in _ (by omega)
                          have k6 : ((j : Int) + 1).toNat = j + 1 := by omega
                          have k7 : (0 : Int) ≤ (j : Int) + 1 := by omega
                          have k8 : IntKind.i64.wrap ((j : Int) + 1 - 1) = j := by rw [show (j : Int) + 1 - 1 = j from by omega]; exact k4
                          have k9 : decide ((0 : Int) < (j : Int) + 1) = true := by rw [decide_eq_true_eq]; omega
                          have k10 : (0 : Int) ≤ (j : Int) := by omega
                          go_wp2_with fail
                          first | (refine wp_named ?_; intro W6 hW) | (refine calls_named ?_; intro W6 hW)
                          have B6 : Below v5.heap.size v5 W6 := by rw [hW]; exact (by repeat (first | exact Below.refl _ _ | assumption | refine Below.alloc ?_ (by first | omega | (simp <;> omega)) _ | refine Below.setCell ?_ (by first | omega | (simp <;> omega)) _ | refine Below.drew ?_))
                          replace c0 := cellAt c0 B6 (by omega)
                          replace c1 := cellAt c1 B6 (by omega)
                          replace x0 := cellAt x0 B6 (by omega)
                          replace x1 := cellAt x1 B6 (by omega)
                          replace x2 := cellAt x2 B6 (by omega)
                          replace e0 := cellAt e0 B6 (by omega)
                          replace e1 := cellAt e1 B6 (by omega)
                          replace e2 := cellAt e2 B6 (by omega)
                          replace a0 := cellAt a0 B6 (by omega)
                          replace a1 := cellAt a1 B6 (by omega)
                          replace a2 := cellAt a2 B6 (by omega)
                          replace y0 := cellAt y0 B6 (by omega)
                          replace y1 := cellAt y1 B6 (by omega)
                          replace y2 := cellAt y2 B6 (by omega)
                          replace Hr := Lib.hid (Hr.out.at B6)
                          replace Hn := Lib.hid (Hn.out.at B6)
                          replace n1 : w.heap.size < W6.heap.size := ltAt n1 B6
                          replace HB := Lib.hid (lift HB.out B6)
                          replace Hb9 := Lib.hid (lift Hb9.out B6)
                          replace hB : b < W6.heap.size := ltAt hB B6
                          replace m1 : wr.heap.size < W6.heap.size := ltAt m1 B6
                          replace m2 : v3.heap.size < W6.heap.size := ltAt m2 B6
                          clear hW
                          clear B6
                          try go_wp2_with fail
                          refine wp_region_held_drew (S := fun w' => Below W6.heap.size W6 w') (by kernel_rfl) (Below.drew (Below.refl _ _)) (fun hHeld => ?_)
                          refine tV 0 ?_ ?zq ?_; (case zq => rintro _ -; go_simp; try with_reducible rfl); try simp only [Act.put, zn1, zn2, zn3]
                          refine tV 1 ?_ ?zq ?_; (case zq => rintro _ -; go_simp; try with_reducible rfl); try simp only [Act.put, zn1, zn2, zn3]
                          refine tV 2 ?_ ?zq ?_; (case zq => rintro _ -; go_simp; try with_reducible rfl); try simp only [Act.put, zn1, zn2, zn3]
                          refine tV 3 ?_ ?zq ?_; (case zq => rintro _ -; go_simp; try with_reducible rfl); try simp only [Act.put, zn1, zn2, zn3]
                          refine tV 4 ?_ ?zq ?_; (case zq => rintro _ -; go_simp; try with_reducible rfl); try simp only [Act.put, zn1, zn2, zn3]
                          refine tV 5 ?_ ?zq ?_; (case zq => rintro _ -; go_simp; try with_reducible rfl); try simp only [Act.put, zn1, zn2, zn3]
                          refine tV 6 ?_ ?zq ?_; (case zq => rintro _ -; go_simp; try with_reducible rfl); try simp only [Act.put, zn1, zn2, zn3]
                          refine tV 7 ?_ ?zq ?_; (case zq => rintro _ -; go_simp; try with_reducible rfl); try simp only [Act.put, zn1, zn2, zn3]
                          refine tV 8 ?_ ?zq ?_; (case zq => intro w' hSw; have hCell := fun (b o : Nat) (h : b < W6.heap.size) => hSw.cell (p := ⟨b, o, none⟩) h; clear hSw; go_simp; try with_reducible rfl); try simp only [Act.put, zn1, zn2, zn3]
                          refine tV 9 ?_ ?zq ?_; (case zq => rintro _ -; go_simp; try with_reducible rfl); try simp only [Act.put, zn1, zn2, zn3]
                          refine tV 10 ?_ ?zq ?_; (case zq => rintro _ -; go_simp; try with_reducible rfl); try simp only [Act.put, zn1, zn2, zn3]
                          refine tV 11 ?_ ?zq ?_; (case zq => rintro _ -; go_simp; try with_reducible rfl); try simp only [Act.put, zn1, zn2, zn3]
                          refine tV 12 ?_ ?zq ?_; (case zq => rintro _ -; go_simp; try with_reducible rfl); try simp only [Act.put, zn1, zn2, zn3]
                          refine tV 13 ?_ ?zq ?_; (case zq => intro w' hSw; have hCell := fun (b o : Nat) (h : b < W6.heap.size) => hSw.cell (p := ⟨b, o, none⟩) h; clear hSw; go_simp; try with_reducible rfl); try simp only [Act.put, zn1, zn2, zn3]
                          refine tV 14 ?_ ?zq ?_; (case zq => rintro _ -; go_simp; try with_reducible rfl); try simp only [Act.put, zn1, zn2, zn3]
                          refine tV 15 ?_ ?zq ?_; (case zq => intro w' hSw; have hCell := fun (b o : Nat) (h : b < W6.heap.size) => hSw.cell (p := ⟨b, o, none⟩) h; clear hSw; go_simp; try with_reducible rfl); try simp only [Act.put, zn1, zn2, zn3]
                          refine tV 16 ?_ ?zq ?_; (case zq => rintro _ -; go_simp; try with_reducible rfl); try simp only [Act.put, zn1, zn2, zn3]
                          refine tV 17 ?_ ?zq ?_; (case zq => rintro _ -; go_simp; try with_reducible rfl); try simp only [Act.put, zn1, zn2, zn3]
                          refine tV 18 ?_ ?zq ?_; (case zq => rintro _ -; go_simp; try with_reducible rfl); try simp only [Act.put, zn1, zn2, zn3]
                          refine tV 19 ?_ ?zq ?_; (case zq => rintro _ -; go_simp; try with_reducible rfl); try simp only [Act.put, zn1, zn2, zn3]
                          refine tV 20 ?_ ?zq ?_; (case zq => intro w' hSw; have hCell := fun (b o : Nat) (h : b < W6.heap.size) => hSw.cell (p := ⟨b, o, none⟩) h; clear hSw; go_simp; try with_reducible rfl); try simp only [Act.put, zn1, zn2, zn3]
                          refine tV 21 ?_ ?zq ?_; (case zq => rintro _ -; go_simp; try with_reducible rfl); try simp only [Act.put, zn1, zn2, zn3]
                          refine tV 22 ?_ ?zq ?_; (case zq => rintro _ -; go_simp; try with_reducible rfl); try simp only [Act.put, zn1, zn2, zn3]
                          refine tV 23 ?_ ?zq ?_; (case zq => rintro _ -; go_simp; try with_reducible rfl); try simp only [Act.put, zn1, zn2, zn3]
                          refine tV 24 ?_ ?zq ?_; (case zq => rintro _ -; go_simp; try with_reducible rfl); try simp only [Act.put, zn1, zn2, zn3]
                          refine tV 25 ?_ ?zq ?_; (case zq => intro w' hSw; have hCell := fun (b o : Nat) (h : b < W6.heap.size) => hSw.cell (p := ⟨b, o, none⟩) h; clear hSw; go_simp; try with_reducible rfl); try simp only [Act.put, zn1, zn2, zn3]
                          refine tV 26 ?_ ?zq ?_; (case zq => rintro _ -; go_simp; try with_reducible rfl); try simp only [Act.put, zn1, zn2, zn3]
                          refine tV 27 ?_ ?zq ?_; (case zq => rintro _ -; go_simp; try with_reducible rfl); try simp only [Act.put, zn1, zn2, zn3]
                          refine tV 28 ?_ ?zq ?_; (case zq => rintro _ -; go_simp; try with_reducible rfl); try simp only [Act.put, zn1, zn2, zn3]
                          refine tV 29 ?_ ?zq ?_; (case zq => rintro _ -; go_simp; try with_reducible rfl); try simp only [Act.put, zn1, zn2, zn3]
                          refine tV 30 ?_ ?zq ?_; (case zq => rintro _ -; go_simp; try with_reducible rfl); try simp only [Act.put, zn1, zn2, zn3]
                          refine tV 31 ?_ ?zq ?_; (case zq => rintro _ -; go_simp; try with_reducible rfl); try simp only [Act.put, zn1, zn2, zn3]
                          refine tV 32 ?_ ?zq ?_; (case zq => rintro _ -; go_simp; try with_reducible rfl); try simp only [Act.put, zn1, zn2, zn3]
                          refine tV 33 ?_ ?zq ?_; (case zq => intro w' hSw; have hCell := fun (b o : Nat) (h : b < W6.heap.size) => hSw.cell (p := ⟨b, o, none⟩) h; clear hSw; go_simp; try with_reducible rfl); try simp only [Act.put, zn1, zn2, zn3]
                          refine tV 34 ?_ ?zq ?_; (case zq => rintro _ -; go_simp; try with_reducible rfl); try simp only [Act.put, zn1, zn2, zn3]
                          refine tV 35 ?_ ?zq ?_; (case zq => rintro _ -; go_simp; try with_reducible rfl); try simp only [Act.put, zn1, zn2, zn3]
                          refine tV 36 ?_ ?zq ?_; (case zq => rintro _ -; go_simp; try with_reducible rfl); try simp only [Act.put, zn1, zn2, zn3]
                          refine tV 37 ?_ ?zq ?_; (case zq => intro w' hSw; have hCell := fun (b o : Nat) (h : b < W6.heap.size) => hSw.cell (p := ⟨b, o, none⟩) h; clear hSw; go_simp; try with_reducible rfl); try simp only [Act.put, zn1, zn2, zn3]
                          refine tV 38 ?_ ?zq ?_; (case zq => intro w' hSw; have hCell := fun (b o : Nat) (h : b < W6.heap.size) => hSw.cell (p := ⟨b, o, none⟩) h; clear hSw; go_simp; try with_reducible rfl); try simp only [Act.put, zn1, zn2, zn3]
                          refine ready_one (i := 39) rfl (by kernel_rfl) (fun K hK => ?_)
                          go_simp
                          refine (less15_any s' d' s d r' r _).mono ?_
                          rintro e v7 ⟨rfl, hb⟩
                          refine hK.out _ _ ?_ (fun hHeld2 => ?_)
                          · (try dsimp only); first | exact Below.trans hHeld (Below.mono hb hHeld.size) | exact hHeld | exact Below.drew hHeld | exact (by repeat (first | exact Below.refl _ _ | assumption | refine Below.alloc ?_ (by first | omega | (simp <;> omega)) _ | refine Below.setCell ?_ (by first | omega | (simp <;> omega)) _ | refine Below.drew ?_))
                          clear hK K hHeld; have hHeld := hHeld2; clear hHeld2; (try simp only [Act.put, zn1, zn2, zn3])
                          refine tV 40 ?_ ?zq ?_; (case zq => rintro _ -; go_simp; try with_reducible rfl); try simp only [Act.put, zn1, zn2, zn3]
                          refine tV 41 ?_ ?zq ?_; (case zq => rintro _ -; go_simp; try with_reducible rfl); try simp only [Act.put, zn1, zn2, zn3]
                          refine tV 42 ?_ ?zq ?_; (case zq => rintro _ -; go_simp; try with_reducible rfl); try simp only [Act.put, zn1, zn2, zn3]
                          refine wpAnyH_done (by kernel_rfl) ?_ _
                          replace c0 := cellAt c0 hHeld (by omega)
                          replace c1 := cellAt c1 hHeld (by omega)
                          replace x0 := cellAt x0 hHeld (by omega)
                          replace x1 := cellAt x1 hHeld (by omega)
                          replace x2 := cellAt x2 hHeld (by omega)
                          replace e0 := cellAt e0 hHeld (by omega)
                          replace e1 := cellAt e1 hHeld (by omega)
                          replace e2 := cellAt e2 hHeld (by omega)
                          replace a0 := cellAt a0 hHeld (by omega)
                          replace a1 := cellAt a1 hHeld (by omega)
                          replace a2 := cellAt a2 hHeld (by omega)
                          replace y0 := cellAt y0 hHeld (by omega)
                          replace y1 := cellAt y1 hHeld (by omega)
                          replace y2 := cellAt y2 hHeld (by omega)
                          replace Hr := Lib.hid (Hr.out.at hHeld)
                          replace Hn := Lib.hid (Hn.out.at hHeld)
                          replace n1 : w.heap.size < v7.heap.size := ltAt n1 hHeld
                          replace HB := Lib.hid (lift HB.out hHeld)
                          replace Hb9 := Lib.hid (lift Hb9.out hHeld)
                          replace hB : b < v7.heap.size := ltAt hB hHeld
                          replace m1 : wr.heap.size < v7.heap.size := ltAt m1 hHeld
                          replace m2 : v3.heap.size < v7.heap.size := ltAt m2 hHeld
                          clear hHeld
                          cases hlt' : ltE (s', d', r') (s, d, r)
                          · have Hm := Lib.hid (mayG_eup (ns := ns) (k := j) hlt (by rw [Hx.out, Hy.out]; exact hlt'))
                            go_wp2_with fail
                            go_ret
                            exact ⟨ret_bool (by rw [Hm.out]), HB.out⟩
                          · have HL : Hid (∀ i (e : j + 1 = i + 1), ltE (es[i]'(by omega)) es[j + 1] = true) := Lib.hid (fun i e => by
                              obtain rfl : i = j := by omega
                              rw [Hx.out, Hy.out]; exact hlt')
                            go_wp2_with fail
                            go_roundw
                            case rel => exact ⟨j + 1 + 1, by omega, by go_num, HE.out.step hlt (by rw [Hx.out]; exact HGd.out) HL.out, Hb9.out⟩
                            case measure => simp [intOf]; omega
                  · have Hm := Lib.hid (mayG_e (ns := ns) hlt (by rw [Hx.out, HV.out, hsd]; simp))
                    go_wp2_with fail
                    first | (refine wp_named ?_; intro W6 hW) | (refine calls_named ?_; intro W6 hW)
                    have B6 : Below v5.heap.size v5 W6 := by rw [hW]; exact (by repeat (first | exact Below.refl _ _ | assumption | refine Below.alloc ?_ (by first | omega | (simp <;> omega)) _ | refine Below.setCell ?_ (by first | omega | (simp <;> omega)) _ | refine Below.drew ?_))
                    replace c0 := cellAt c0 B6 (by omega)
                    replace c1 := cellAt c1 B6 (by omega)
                    replace x0 := cellAt x0 B6 (by omega)
                    replace x1 := cellAt x1 B6 (by omega)
                    replace x2 := cellAt x2 B6 (by omega)
                    replace e0 := cellAt e0 B6 (by omega)
                    replace e1 := cellAt e1 B6 (by omega)
                    replace e2 := cellAt e2 B6 (by omega)
                    replace a0 := cellAt a0 B6 (by omega)
                    replace a1 := cellAt a1 B6 (by omega)
                    replace a2 := cellAt a2 B6 (by omega)
                    replace Hr := Lib.hid (Hr.out.at B6)
                    replace Hn := Lib.hid (Hn.out.at B6)
                    replace n1 : w.heap.size < W6.heap.size := ltAt n1 B6
                    replace HB := Lib.hid (lift HB.out B6)
                    replace Hb9 := Lib.hid (lift Hb9.out B6)
                    replace hB : b < W6.heap.size := ltAt hB B6
                    replace m1 : wr.heap.size < W6.heap.size := ltAt m1 B6
                    replace m2 : v3.heap.size < W6.heap.size := ltAt m2 B6
                    clear hW
                    clear B6
                    try go_wp2_with fail
                    refine wp_region_held_drew (S := fun w' => Below W6.heap.size W6 w') (by kernel_rfl) (Below.drew (Below.refl _ _)) (fun hHeld => ?_)
                    refine tV 0 ?_ ?zq ?_; (case zq => rintro _ -; go_simp; try with_reducible rfl); try simp only [Act.put, zn1, zn2, zn3]
                    refine tV 1 ?_ ?zq ?_; (case zq => rintro _ -; go_simp; try with_reducible rfl); try simp only [Act.put, zn1, zn2, zn3]
                    refine tV 2 ?_ ?zq ?_; (case zq => rintro _ -; go_simp; try with_reducible rfl); try simp only [Act.put, zn1, zn2, zn3]
                    refine tV 3 ?_ ?zq ?_; (case zq => rintro _ -; go_simp; try with_reducible rfl); try simp only [Act.put, zn1, zn2, zn3]
                    refine tV 4 ?_ ?zq ?_; (case zq => rintro _ -; go_simp; try with_reducible rfl); try simp only [Act.put, zn1, zn2, zn3]
                    refine tV 5 ?_ ?zq ?_; (case zq => rintro _ -; go_simp; try with_reducible rfl); try simp only [Act.put, zn1, zn2, zn3]
                    refine tV 6 ?_ ?zq ?_; (case zq => rintro _ -; go_simp; try with_reducible rfl); try simp only [Act.put, zn1, zn2, zn3]
                    refine tV 7 ?_ ?zq ?_; (case zq => rintro _ -; go_simp; try with_reducible rfl); try simp only [Act.put, zn1, zn2, zn3]
                    refine tV 8 ?_ ?zq ?_; (case zq => intro w' hSw; have hCell := fun (b o : Nat) (h : b < W6.heap.size) => hSw.cell (p := ⟨b, o, none⟩) h; clear hSw; go_simp; try with_reducible rfl); try simp only [Act.put, zn1, zn2, zn3]
                    refine tV 9 ?_ ?zq ?_; (case zq => rintro _ -; go_simp; try with_reducible rfl); try simp only [Act.put, zn1, zn2, zn3]
                    refine tV 10 ?_ ?zq ?_; (case zq => rintro _ -; go_simp; try with_reducible rfl); try simp only [Act.put, zn1, zn2, zn3]
                    refine tV 11 ?_ ?zq ?_; (case zq => rintro _ -; go_simp; try with_reducible rfl); try simp only [Act.put, zn1, zn2, zn3]
                    refine tV 12 ?_ ?zq ?_; (case zq => rintro _ -; go_simp; try with_reducible rfl); try simp only [Act.put, zn1, zn2, zn3]
                    refine tV 13 ?_ ?zq ?_; (case zq => intro w' hSw; have hCell := fun (b o : Nat) (h : b < W6.heap.size) => hSw.cell (p := ⟨b, o, none⟩) h; clear hSw; go_simp; try with_reducible rfl); try simp only [Act.put, zn1, zn2, zn3]
                    refine tV 14 ?_ ?zq ?_; (case zq => rintro _ -; go_simp; try with_reducible rfl); try simp only [Act.put, zn1, zn2, zn3]
                    refine tV 15 ?_ ?zq ?_; (case zq => intro w' hSw; have hCell := fun (b o : Nat) (h : b < W6.heap.size) => hSw.cell (p := ⟨b, o, none⟩) h; clear hSw; go_simp; try with_reducible rfl); try simp only [Act.put, zn1, zn2, zn3]
                    refine tV 16 ?_ ?zq ?_; (case zq => rintro _ -; go_simp; try with_reducible rfl); try simp only [Act.put, zn1, zn2, zn3]
                    refine tV 17 ?_ ?zq ?_; (case zq => rintro _ -; go_simp; try with_reducible rfl); try simp only [Act.put, zn1, zn2, zn3]
                    refine tV 18 ?_ ?zq ?_; (case zq => rintro _ -; go_simp; try with_reducible rfl); try simp only [Act.put, zn1, zn2, zn3]
                    refine tU 19 ?_; (try simp only [Act.put, zn1, zn2, zn3])
                    refine tU 20 ?_; (try simp only [Act.put, zn1, zn2, zn3])
                    refine tU 21 ?_; (try simp only [Act.put, zn1, zn2, zn3])
                    refine tV 22 ?_ ?zq ?_; (case zq => rintro _ -; go_simp; try with_reducible rfl); try simp only [Act.put, zn1, zn2, zn3]
                    refine tV 23 ?_ ?zq ?_; (case zq => rintro _ -; go_simp; try with_reducible rfl); try simp only [Act.put, zn1, zn2, zn3]
                    refine tU 24 ?_; (try simp only [Act.put, zn1, zn2, zn3])
                    refine tU 25 ?_; (try simp only [Act.put, zn1, zn2, zn3])
                    refine tU 26 ?_; (try simp only [Act.put, zn1, zn2, zn3])
                    refine tV 27 ?_ ?zq ?_; (case zq => rintro _ -; go_simp; try with_reducible rfl); try simp only [Act.put, zn1, zn2, zn3]
                    refine tV 28 ?_ ?zq ?_; (case zq => rintro _ -; go_simp; try with_reducible rfl); try simp only [Act.put, zn1, zn2, zn3]
                    refine tU 29 ?_; (try simp only [Act.put, zn1, zn2, zn3])
                    refine tU 30 ?_; (try simp only [Act.put, zn1, zn2, zn3])
                    refine tU 31 ?_; (try simp only [Act.put, zn1, zn2, zn3])
                    refine tU 32 ?_; (try simp only [Act.put, zn1, zn2, zn3])
                    refine tU 33 ?_; (try simp only [Act.put, zn1, zn2, zn3])
                    refine tU 34 ?_; (try simp only [Act.put, zn1, zn2, zn3])
                    refine tU 35 ?_; (try simp only [Act.put, zn1, zn2, zn3])
                    refine tU 36 ?_; (try simp only [Act.put, zn1, zn2, zn3])
                    refine tU 37 ?_; (try simp only [Act.put, zn1, zn2, zn3])
                    refine tU 38 ?_; (try simp only [Act.put, zn1, zn2, zn3])
                    refine tU 39 ?_; (try simp only [Act.put, zn1, zn2, zn3])
                    refine tU 40 ?_; (try simp only [Act.put, zn1, zn2, zn3])
                    refine tU 41 ?_; (try simp only [Act.put, zn1, zn2, zn3])
                    refine tV 42 ?_ ?zq ?_; (case zq => rintro _ -; go_simp; try with_reducible rfl); try simp only [Act.put, zn1, zn2, zn3]
                    refine wpAnyH_done (by kernel_rfl) ?_ _
                    go_wp2_with fail
                    go_ret
                    exact ⟨ret_bool (by rw [Hm.out]), HB.out.trans (hHeld.mono HB.out.size)⟩
              · go_wp2_with fail
                first | (refine wp_named ?_; intro W2 hW) | (refine calls_named ?_; intro W2 hW)
                have B2 : Below wr.heap.size wr W2 := by rw [hW]; exact (by repeat (first | exact Below.refl _ _ | assumption | refine Below.alloc ?_ (by first | omega | (simp <;> omega)) _ | refine Below.setCell ?_ (by first | omega | (simp <;> omega)) _ | refine Below.drew ?_))
                replace c0 := cellAt c0 B2 (by omega)
                replace c1 := cellAt c1 B2 (by omega)
                replace x0 := cellAt x0 B2 (by omega)
                replace x1 := cellAt x1 B2 (by omega)
                replace x2 := cellAt x2 B2 (by omega)
                replace Hr := Lib.hid (Hr.out.at B2)
                replace Hn := Lib.hid (Hn.out.at B2)
                replace n1 : w.heap.size < W2.heap.size := ltAt n1 B2
                replace HB := Lib.hid (lift HB.out B2)
                replace Hb9 := Lib.hid (lift Hb9.out B2)
                replace hB : b < W2.heap.size := ltAt hB B2
                have m1 : wr.heap.size < W2.heap.size := by rw [hW]; simp <;> omega
                have e0 : W2.cell? ⟨wr.heap.size, 0, none⟩ = some (sv s) := by rw [hW]; go_simp
                have e1 : W2.cell? ⟨wr.heap.size, 1, none⟩ = some (sv d) := by rw [hW]; go_simp
                have e2 : W2.cell? ⟨wr.heap.size, 2, none⟩ = some (.int .i64 r) := by rw [hW]; go_simp
                clear hW
                clear B2
                refine (Node15_any An (some ⟨b, o, none⟩) es.length cn ce ns s W2 Hn.out (by omega)).mono ?_
                rintro e v3 ⟨rfl, hb⟩
                replace c0 := cellAt c0 hb (by omega)
                replace c1 := cellAt c1 hb (by omega)
                replace x0 := cellAt x0 hb (by omega)
                replace x1 := cellAt x1 hb (by omega)
                replace x2 := cellAt x2 hb (by omega)
                replace e0 := cellAt e0 hb (by omega)
                replace e1 := cellAt e1 hb (by omega)
                replace e2 := cellAt e2 hb (by omega)
                replace Hr := Lib.hid (Hr.out.at hb)
                replace Hn := Lib.hid (Hn.out.at hb)
                replace n1 : w.heap.size < v3.heap.size := ltAt n1 hb
                replace HB := Lib.hid (lift HB.out hb)
                replace Hb9 := Lib.hid (lift Hb9.out hb)
                replace hB : b < v3.heap.size := ltAt hB hb
                replace m1 : wr.heap.size < v3.heap.size := ltAt m1 hb
                clear hb
                have HEq := Lib.hid HEK.out
                obtain ⟨on, hon⟩ : ∃ on, nodeOf ns s = on := ⟨_, rfl⟩
                obtain ⟨od, hod⟩ : ∃ od, nodeOf ns d = od := ⟨_, rfl⟩
                rw [hon]
                have HV := Lib.hid (show edgeOk ns (s, d, r) = (on.isSome && (od.isSome && (!(s == d) && ((on.getD ([], 0, 0)).2.2 == 1 && (!decide (r < 1) && !decide (10 < r)))))) by rw [HEq.out, hon, hod])
                have HON := Lib.hid hon
                have HOD := Lib.hid hod
                clear hon hod HEq
                unfold nodeV
                generalize hgs : on.getD ([], 0, 0) = gs at *
                obtain ⟨gn, gk, gt⟩ := gs
                have HGS := Lib.hid hgs
                clear hgs
                go_wp2_with fail
                first | (refine wp_named ?_; intro W4 hW) | (refine calls_named ?_; intro W4 hW)
                have B4 : Below v3.heap.size v3 W4 := by rw [hW]; exact (by repeat (first | exact Below.refl _ _ | assumption | refine Below.alloc ?_ (by first | omega | (simp <;> omega)) _ | refine Below.setCell ?_ (by first | omega | (simp <;> omega)) _ | refine Below.drew ?_))
                replace c0 := cellAt c0 B4 (by omega)
                replace c1 := cellAt c1 B4 (by omega)
                replace x0 := cellAt x0 B4 (by omega)
                replace x1 := cellAt x1 B4 (by omega)
                replace x2 := cellAt x2 B4 (by omega)
                replace e0 := cellAt e0 B4 (by omega)
                replace e1 := cellAt e1 B4 (by omega)
                replace e2 := cellAt e2 B4 (by omega)
                replace Hr := Lib.hid (Hr.out.at B4)
                replace Hn := Lib.hid (Hn.out.at B4)
                replace n1 : w.heap.size < W4.heap.size := ltAt n1 B4
                replace HB := Lib.hid (lift HB.out B4)
                replace Hb9 := Lib.hid (lift Hb9.out B4)
                replace hB : b < W4.heap.size := ltAt hB B4
                replace m1 : wr.heap.size < W4.heap.size := ltAt m1 B4
                have m2 : v3.heap.size < W4.heap.size := by rw [hW]; simp <;> omega
                have a0 : W4.cell? ⟨v3.heap.size, 0, none⟩ = some (sv gn) := by rw [hW]; go_simp
                have a1 : W4.cell? ⟨v3.heap.size, 1, none⟩ = some (.int .i64 gk) := by rw [hW]; go_simp
                have a2 : W4.cell? ⟨v3.heap.size, 2, none⟩ = some (.int .i64 gt) := by rw [hW]; go_simp
                clear hW
                clear B4
                refine (Node15_any An (some ⟨b, o, none⟩) es.length cn ce ns d W4 Hn.out (by omega)).mono ?_
                rintro e v5 ⟨rfl, hb⟩
                replace c0 := cellAt c0 hb (by omega)
                replace c1 := cellAt c1 hb (by omega)
                replace x0 := cellAt x0 hb (by omega)
                replace x1 := cellAt x1 hb (by omega)
                replace x2 := cellAt x2 hb (by omega)
                replace e0 := cellAt e0 hb (by omega)
                replace e1 := cellAt e1 hb (by omega)
                replace e2 := cellAt e2 hb (by omega)
                replace a0 := cellAt a0 hb (by omega)
                replace a1 := cellAt a1 hb (by omega)
                replace a2 := cellAt a2 hb (by omega)
                replace Hr := Lib.hid (Hr.out.at hb)
                replace Hn := Lib.hid (Hn.out.at hb)
                replace n1 : w.heap.size < v5.heap.size := ltAt n1 hb
                replace HB := Lib.hid (lift HB.out hb)
                replace Hb9 := Lib.hid (lift Hb9.out hb)
                replace hB : b < v5.heap.size := ltAt hB hb
                replace m1 : wr.heap.size < v5.heap.size := ltAt m1 hb
                replace m2 : v3.heap.size < v5.heap.size := ltAt m2 hb
                clear hb
                rw [HOD.out]
                unfold nodeV
                generalize od.getD ([], 0, 0) = gd at *
                obtain ⟨dn, dk, dt⟩ := gd
                have hv1 : on.isSome = true := by rw [← HON.out]; exact hs0
                have hv2 : od.isSome = false := by rw [← HOD.out]; simpa using hd0
                clear hs0 hd0
                have Hm := Lib.hid (mayG_e (ns := ns) hlt (by rw [Hx.out, HV.out, hv2]; simp))
                go_wp2_with fail
                first | (refine wp_named ?_; intro W6 hW) | (refine calls_named ?_; intro W6 hW)
                have B6 : Below v5.heap.size v5 W6 := by rw [hW]; exact (by repeat (first | exact Below.refl _ _ | assumption | refine Below.alloc ?_ (by first | omega | (simp <;> omega)) _ | refine Below.setCell ?_ (by first | omega | (simp <;> omega)) _ | refine Below.drew ?_))
                replace c0 := cellAt c0 B6 (by omega)
                replace c1 := cellAt c1 B6 (by omega)
                replace x0 := cellAt x0 B6 (by omega)
                replace x1 := cellAt x1 B6 (by omega)
                replace x2 := cellAt x2 B6 (by omega)
                replace e0 := cellAt e0 B6 (by omega)
                replace e1 := cellAt e1 B6 (by omega)
                replace e2 := cellAt e2 B6 (by omega)
                replace a0 := cellAt a0 B6 (by omega)
                replace a1 := cellAt a1 B6 (by omega)
                replace a2 := cellAt a2 B6 (by omega)
                replace Hr := Lib.hid (Hr.out.at B6)
                replace Hn := Lib.hid (Hn.out.at B6)
                replace n1 : w.heap.size < W6.heap.size := ltAt n1 B6
                replace HB := Lib.hid (lift HB.out B6)
                replace Hb9 := Lib.hid (lift Hb9.out B6)
                replace hB : b < W6.heap.size := ltAt hB B6
                replace m1 : wr.heap.size < W6.heap.size := ltAt m1 B6
                replace m2 : v3.heap.size < W6.heap.size := ltAt m2 B6
                clear hW
                clear B6
                try go_wp2_with fail
                refine wp_region_held_drew (S := fun w' => Below W6.heap.size W6 w') (by kernel_rfl) (Below.drew (Below.refl _ _)) (fun hHeld => ?_)
                refine tV 0 ?_ ?zq ?_; (case zq => rintro _ -; go_simp; try with_reducible rfl); try simp only [Act.put, zn1, zn2, zn3]
                refine tV 1 ?_ ?zq ?_; (case zq => rintro _ -; go_simp; try with_reducible rfl); try simp only [Act.put, zn1, zn2, zn3]
                refine tV 2 ?_ ?zq ?_; (case zq => rintro _ -; go_simp; try with_reducible rfl); try simp only [Act.put, zn1, zn2, zn3]
                refine tV 3 ?_ ?zq ?_; (case zq => rintro _ -; go_simp; try with_reducible rfl); try simp only [Act.put, zn1, zn2, zn3]
                refine tV 4 ?_ ?zq ?_; (case zq => rintro _ -; go_simp; try with_reducible rfl); try simp only [Act.put, zn1, zn2, zn3]
                refine tV 5 ?_ ?zq ?_; (case zq => rintro _ -; go_simp; try with_reducible rfl); try simp only [Act.put, zn1, zn2, zn3]
                refine tV 6 ?_ ?zq ?_; (case zq => rintro _ -; go_simp; try with_reducible rfl); try simp only [Act.put, zn1, zn2, zn3]
                refine tU 7 ?_; (try simp only [Act.put, zn1, zn2, zn3])
                refine tU 8 ?_; (try simp only [Act.put, zn1, zn2, zn3])
                refine tU 9 ?_; (try simp only [Act.put, zn1, zn2, zn3])
                refine tV 10 ?_ ?zq ?_; (case zq => rintro _ -; go_simp; try with_reducible rfl); try simp only [Act.put, zn1, zn2, zn3]
                refine tV 11 ?_ ?zq ?_; (case zq => rintro _ -; go_simp; try with_reducible rfl); try simp only [Act.put, zn1, zn2, zn3]
                refine tU 12 ?_; (try simp only [Act.put, zn1, zn2, zn3])
                refine tU 13 ?_; (try simp only [Act.put, zn1, zn2, zn3])
                refine tU 14 ?_; (try simp only [Act.put, zn1, zn2, zn3])
                refine tU 15 ?_; (try simp only [Act.put, zn1, zn2, zn3])
                refine tU 16 ?_; (try simp only [Act.put, zn1, zn2, zn3])
                refine tV 17 ?_ ?zq ?_; (case zq => rintro _ -; go_simp; try with_reducible rfl); try simp only [Act.put, zn1, zn2, zn3]
                refine tV 18 ?_ ?zq ?_; (case zq => rintro _ -; go_simp; try with_reducible rfl); try simp only [Act.put, zn1, zn2, zn3]
                refine tU 19 ?_; (try simp only [Act.put, zn1, zn2, zn3])
                refine tU 20 ?_; (try simp only [Act.put, zn1, zn2, zn3])
                refine tU 21 ?_; (try simp only [Act.put, zn1, zn2, zn3])
                refine tV 22 ?_ ?zq ?_; (case zq => rintro _ -; go_simp; try with_reducible rfl); try simp only [Act.put, zn1, zn2, zn3]
                refine tV 23 ?_ ?zq ?_; (case zq => rintro _ -; go_simp; try with_reducible rfl); try simp only [Act.put, zn1, zn2, zn3]
                refine tU 24 ?_; (try simp only [Act.put, zn1, zn2, zn3])
                refine tU 25 ?_; (try simp only [Act.put, zn1, zn2, zn3])
                refine tU 26 ?_; (try simp only [Act.put, zn1, zn2, zn3])
                refine tV 27 ?_ ?zq ?_; (case zq => rintro _ -; go_simp; try with_reducible rfl); try simp only [Act.put, zn1, zn2, zn3]
                refine tV 28 ?_ ?zq ?_; (case zq => rintro _ -; go_simp; try with_reducible rfl); try simp only [Act.put, zn1, zn2, zn3]
                refine tU 29 ?_; (try simp only [Act.put, zn1, zn2, zn3])
                refine tU 30 ?_; (try simp only [Act.put, zn1, zn2, zn3])
                refine tU 31 ?_; (try simp only [Act.put, zn1, zn2, zn3])
                refine tU 32 ?_; (try simp only [Act.put, zn1, zn2, zn3])
                refine tU 33 ?_; (try simp only [Act.put, zn1, zn2, zn3])
                refine tU 34 ?_; (try simp only [Act.put, zn1, zn2, zn3])
                refine tU 35 ?_; (try simp only [Act.put, zn1, zn2, zn3])
                refine tU 36 ?_; (try simp only [Act.put, zn1, zn2, zn3])
                refine tU 37 ?_; (try simp only [Act.put, zn1, zn2, zn3])
                refine tU 38 ?_; (try simp only [Act.put, zn1, zn2, zn3])
                refine tU 39 ?_; (try simp only [Act.put, zn1, zn2, zn3])
                refine tU 40 ?_; (try simp only [Act.put, zn1, zn2, zn3])
                refine tU 41 ?_; (try simp only [Act.put, zn1, zn2, zn3])
                refine tV 42 ?_ ?zq ?_; (case zq => rintro _ -; go_simp; try with_reducible rfl); try simp only [Act.put, zn1, zn2, zn3]
                refine wpAnyH_done (by kernel_rfl) ?_ _
                go_wp2_with fail
                go_ret
                exact ⟨ret_bool (by rw [Hm.out]), HB.out.trans (hHeld.mono HB.out.size)⟩
            · have hs1 : (nodeOf ns s).isSome = false := by simpa using hs0
              go_wp2_with fail
              first | (refine wp_named ?_; intro W2 hW) | (refine calls_named ?_; intro W2 hW)
              have B2 : Below wr.heap.size wr W2 := by rw [hW]; exact (by repeat (first | exact Below.refl _ _ | assumption | refine Below.alloc ?_ (by first | omega | (simp <;> omega)) _ | refine Below.setCell ?_ (by first | omega | (simp <;> omega)) _ | refine Below.drew ?_))
              replace c0 := cellAt c0 B2 (by omega)
              replace c1 := cellAt c1 B2 (by omega)
              replace x0 := cellAt x0 B2 (by omega)
              replace x1 := cellAt x1 B2 (by omega)
              replace x2 := cellAt x2 B2 (by omega)
              replace Hr := Lib.hid (Hr.out.at B2)
              replace Hn := Lib.hid (Hn.out.at B2)
              replace n1 : w.heap.size < W2.heap.size := ltAt n1 B2
              replace HB := Lib.hid (lift HB.out B2)
              replace Hb9 := Lib.hid (lift Hb9.out B2)
              replace hB : b < W2.heap.size := ltAt hB B2
              have m1 : wr.heap.size < W2.heap.size := by rw [hW]; simp <;> omega
              have e0 : W2.cell? ⟨wr.heap.size, 0, none⟩ = some (sv s) := by rw [hW]; go_simp
              have e1 : W2.cell? ⟨wr.heap.size, 1, none⟩ = some (sv d) := by rw [hW]; go_simp
              have e2 : W2.cell? ⟨wr.heap.size, 2, none⟩ = some (.int .i64 r) := by rw [hW]; go_simp
              clear hW
              clear B2
              refine (Node15_any An (some ⟨b, o, none⟩) es.length cn ce ns s W2 Hn.out (by omega)).mono ?_
              rintro e v3 ⟨rfl, hb⟩
              replace c0 := cellAt c0 hb (by omega)
              replace c1 := cellAt c1 hb (by omega)
              replace x0 := cellAt x0 hb (by omega)
              replace x1 := cellAt x1 hb (by omega)
              replace x2 := cellAt x2 hb (by omega)
              replace e0 := cellAt e0 hb (by omega)
              replace e1 := cellAt e1 hb (by omega)
              replace e2 := cellAt e2 hb (by omega)
              replace Hr := Lib.hid (Hr.out.at hb)
              replace Hn := Lib.hid (Hn.out.at hb)
              replace n1 : w.heap.size < v3.heap.size := ltAt n1 hb
              replace HB := Lib.hid (lift HB.out hb)
              replace Hb9 := Lib.hid (lift Hb9.out hb)
              replace hB : b < v3.heap.size := ltAt hB hb
              replace m1 : wr.heap.size < v3.heap.size := ltAt m1 hb
              clear hb
              have HEq := Lib.hid HEK.out
              obtain ⟨on, hon⟩ : ∃ on, nodeOf ns s = on := ⟨_, rfl⟩
              obtain ⟨od, hod⟩ : ∃ od, nodeOf ns d = od := ⟨_, rfl⟩
              rw [hon]
              have HV := Lib.hid (show edgeOk ns (s, d, r) = (on.isSome && (od.isSome && (!(s == d) && ((on.getD ([], 0, 0)).2.2 == 1 && (!decide (r < 1) && !decide (10 < r)))))) by rw [HEq.out, hon, hod])
              have HON := Lib.hid hon
              have HOD := Lib.hid hod
              clear hon hod HEq
              unfold nodeV
              generalize hgs : on.getD ([], 0, 0) = gs at *
              obtain ⟨gn, gk, gt⟩ := gs
              have HGS := Lib.hid hgs
              clear hgs
              go_wp2_with fail
              first | (refine wp_named ?_; intro W4 hW) | (refine calls_named ?_; intro W4 hW)
              have B4 : Below v3.heap.size v3 W4 := by rw [hW]; exact (by repeat (first | exact Below.refl _ _ | assumption | refine Below.alloc ?_ (by first | omega | (simp <;> omega)) _ | refine Below.setCell ?_ (by first | omega | (simp <;> omega)) _ | refine Below.drew ?_))
              replace c0 := cellAt c0 B4 (by omega)
              replace c1 := cellAt c1 B4 (by omega)
              replace x0 := cellAt x0 B4 (by omega)
              replace x1 := cellAt x1 B4 (by omega)
              replace x2 := cellAt x2 B4 (by omega)
              replace e0 := cellAt e0 B4 (by omega)
              replace e1 := cellAt e1 B4 (by omega)
              replace e2 := cellAt e2 B4 (by omega)
              replace Hr := Lib.hid (Hr.out.at B4)
              replace Hn := Lib.hid (Hn.out.at B4)
              replace n1 : w.heap.size < W4.heap.size := ltAt n1 B4
              replace HB := Lib.hid (lift HB.out B4)
              replace Hb9 := Lib.hid (lift Hb9.out B4)
              replace hB : b < W4.heap.size := ltAt hB B4
              replace m1 : wr.heap.size < W4.heap.size := ltAt m1 B4
              have m2 : v3.heap.size < W4.heap.size := by rw [hW]; simp <;> omega
              have a0 : W4.cell? ⟨v3.heap.size, 0, none⟩ = some (sv gn) := by rw [hW]; go_simp
              have a1 : W4.cell? ⟨v3.heap.size, 1, none⟩ = some (.int .i64 gk) := by rw [hW]; go_simp
              have a2 : W4.cell? ⟨v3.heap.size, 2, none⟩ = some (.int .i64 gt) := by rw [hW]; go_simp
              clear hW
              clear B4
              refine (Node15_any An (some ⟨b, o, none⟩) es.length cn ce ns d W4 Hn.out (by omega)).mono ?_
              rintro e v5 ⟨rfl, hb⟩
              replace c0 := cellAt c0 hb (by omega)
              replace c1 := cellAt c1 hb (by omega)
              replace x0 := cellAt x0 hb (by omega)
              replace x1 := cellAt x1 hb (by omega)
              replace x2 := cellAt x2 hb (by omega)
              replace e0 := cellAt e0 hb (by omega)
              replace e1 := cellAt e1 hb (by omega)
              replace e2 := cellAt e2 hb (by omega)
              replace a0 := cellAt a0 hb (by omega)
              replace a1 := cellAt a1 hb (by omega)
              replace a2 := cellAt a2 hb (by omega)
              replace Hr := Lib.hid (Hr.out.at hb)
              replace Hn := Lib.hid (Hn.out.at hb)
              replace n1 : w.heap.size < v5.heap.size := ltAt n1 hb
              replace HB := Lib.hid (lift HB.out hb)
              replace Hb9 := Lib.hid (lift Hb9.out hb)
              replace hB : b < v5.heap.size := ltAt hB hb
              replace m1 : wr.heap.size < v5.heap.size := ltAt m1 hb
              replace m2 : v3.heap.size < v5.heap.size := ltAt m2 hb
              clear hb
              rw [HOD.out]
              unfold nodeV
              generalize od.getD ([], 0, 0) = gd at *
              obtain ⟨dn, dk, dt⟩ := gd
              have hv1 : on.isSome = false := by rw [← HON.out]; exact hs1
              clear hs0 hs1
              have Hm := Lib.hid (mayG_e (ns := ns) hlt (by rw [Hx.out, HV.out, hv1]; simp))
              go_wp2_with fail
              first | (refine wp_named ?_; intro W6 hW) | (refine calls_named ?_; intro W6 hW)
              have B6 : Below v5.heap.size v5 W6 := by rw [hW]; exact (by repeat (first | exact Below.refl _ _ | assumption | refine Below.alloc ?_ (by first | omega | (simp <;> omega)) _ | refine Below.setCell ?_ (by first | omega | (simp <;> omega)) _ | refine Below.drew ?_))
              replace c0 := cellAt c0 B6 (by omega)
              replace c1 := cellAt c1 B6 (by omega)
              replace x0 := cellAt x0 B6 (by omega)
              replace x1 := cellAt x1 B6 (by omega)
              replace x2 := cellAt x2 B6 (by omega)
              replace e0 := cellAt e0 B6 (by omega)
              replace e1 := cellAt e1 B6 (by omega)
              replace e2 := cellAt e2 B6 (by omega)
              replace a0 := cellAt a0 B6 (by omega)
              replace a1 := cellAt a1 B6 (by omega)
              replace a2 := cellAt a2 B6 (by omega)
              replace Hr := Lib.hid (Hr.out.at B6)
              replace Hn := Lib.hid (Hn.out.at B6)
              replace n1 : w.heap.size < W6.heap.size := ltAt n1 B6
              replace HB := Lib.hid (lift HB.out B6)
              replace Hb9 := Lib.hid (lift Hb9.out B6)
              replace hB : b < W6.heap.size := ltAt hB B6
              replace m1 : wr.heap.size < W6.heap.size := ltAt m1 B6
              replace m2 : v3.heap.size < W6.heap.size := ltAt m2 B6
              clear hW
              clear B6
              try go_wp2_with fail
              refine wp_region_held_drew (S := fun w' => Below W6.heap.size W6 w') (by kernel_rfl) (Below.drew (Below.refl _ _)) (fun hHeld => ?_)
              refine tV 0 ?_ ?zq ?_; (case zq => rintro _ -; go_simp; try with_reducible rfl); try simp only [Act.put, zn1, zn2, zn3]
              refine tV 1 ?_ ?zq ?_; (case zq => rintro _ -; go_simp; try with_reducible rfl); try simp only [Act.put, zn1, zn2, zn3]
              refine tV 2 ?_ ?zq ?_; (case zq => rintro _ -; go_simp; try with_reducible rfl); try simp only [Act.put, zn1, zn2, zn3]
              refine tU 3 ?_; (try simp only [Act.put, zn1, zn2, zn3])
              refine tU 4 ?_; (try simp only [Act.put, zn1, zn2, zn3])
              refine tV 5 ?_ ?zq ?_; (case zq => rintro _ -; go_simp; try with_reducible rfl); try simp only [Act.put, zn1, zn2, zn3]
              refine tV 6 ?_ ?zq ?_; (case zq => rintro _ -; go_simp; try with_reducible rfl); try simp only [Act.put, zn1, zn2, zn3]
              refine tU 7 ?_; (try simp only [Act.put, zn1, zn2, zn3])
              refine tU 8 ?_; (try simp only [Act.put, zn1, zn2, zn3])
              refine tU 9 ?_; (try simp only [Act.put, zn1, zn2, zn3])
              refine tV 10 ?_ ?zq ?_; (case zq => rintro _ -; go_simp; try with_reducible rfl); try simp only [Act.put, zn1, zn2, zn3]
              refine tV 11 ?_ ?zq ?_; (case zq => rintro _ -; go_simp; try with_reducible rfl); try simp only [Act.put, zn1, zn2, zn3]
              refine tU 12 ?_; (try simp only [Act.put, zn1, zn2, zn3])
              refine tU 13 ?_; (try simp only [Act.put, zn1, zn2, zn3])
              refine tU 14 ?_; (try simp only [Act.put, zn1, zn2, zn3])
              refine tU 15 ?_; (try simp only [Act.put, zn1, zn2, zn3])
              refine tU 16 ?_; (try simp only [Act.put, zn1, zn2, zn3])
              refine tV 17 ?_ ?zq ?_; (case zq => rintro _ -; go_simp; try with_reducible rfl); try simp only [Act.put, zn1, zn2, zn3]
              refine tV 18 ?_ ?zq ?_; (case zq => rintro _ -; go_simp; try with_reducible rfl); try simp only [Act.put, zn1, zn2, zn3]
              refine tU 19 ?_; (try simp only [Act.put, zn1, zn2, zn3])
              refine tU 20 ?_; (try simp only [Act.put, zn1, zn2, zn3])
              refine tU 21 ?_; (try simp only [Act.put, zn1, zn2, zn3])
              refine tV 22 ?_ ?zq ?_; (case zq => rintro _ -; go_simp; try with_reducible rfl); try simp only [Act.put, zn1, zn2, zn3]
              refine tV 23 ?_ ?zq ?_; (case zq => rintro _ -; go_simp; try with_reducible rfl); try simp only [Act.put, zn1, zn2, zn3]
              refine tU 24 ?_; (try simp only [Act.put, zn1, zn2, zn3])
              refine tU 25 ?_; (try simp only [Act.put, zn1, zn2, zn3])
              refine tU 26 ?_; (try simp only [Act.put, zn1, zn2, zn3])
              refine tV 27 ?_ ?zq ?_; (case zq => rintro _ -; go_simp; try with_reducible rfl); try simp only [Act.put, zn1, zn2, zn3]
              refine tV 28 ?_ ?zq ?_; (case zq => rintro _ -; go_simp; try with_reducible rfl); try simp only [Act.put, zn1, zn2, zn3]
              refine tU 29 ?_; (try simp only [Act.put, zn1, zn2, zn3])
              refine tU 30 ?_; (try simp only [Act.put, zn1, zn2, zn3])
              refine tU 31 ?_; (try simp only [Act.put, zn1, zn2, zn3])
              refine tU 32 ?_; (try simp only [Act.put, zn1, zn2, zn3])
              refine tU 33 ?_; (try simp only [Act.put, zn1, zn2, zn3])
              refine tU 34 ?_; (try simp only [Act.put, zn1, zn2, zn3])
              refine tU 35 ?_; (try simp only [Act.put, zn1, zn2, zn3])
              refine tU 36 ?_; (try simp only [Act.put, zn1, zn2, zn3])
              refine tU 37 ?_; (try simp only [Act.put, zn1, zn2, zn3])
              refine tU 38 ?_; (try simp only [Act.put, zn1, zn2, zn3])
              refine tU 39 ?_; (try simp only [Act.put, zn1, zn2, zn3])
              refine tU 40 ?_; (try simp only [Act.put, zn1, zn2, zn3])
              refine tU 41 ?_; (try simp only [Act.put, zn1, zn2, zn3])
              refine tV 42 ?_ ?zq ?_; (case zq => rintro _ -; go_simp; try with_reducible rfl); try simp only [Act.put, zn1, zn2, zn3]
              refine wpAnyH_done (by kernel_rfl) ?_ _
              go_wp2_with fail
              go_ret
              exact ⟨ret_bool (by rw [Hm.out]), HB.out.trans (hHeld.mono HB.out.size)⟩
          · have hkE : k = es.length := by omega
            subst hkE
            have HT := Lib.hid (mayG_end (by omega) HU.out HE.out)
            go_wp2_with fail
            go_ret
            exact ⟨ret_bool (by rw [HT.out]), HB.out⟩
end Od
end Go.Proofs.YtbllehjhmfehbaaGreat
end

section
/- The walk of the law PullClosed. (bel2) -/
namespace Go.Proofs.YtbllehjhmfehbaaGreat
open Go.RowKit Go.Sort Go.Maps
set_option linter.unusedSimpArgs false
namespace Od

def thereC (l : List Pl) (tu : Str) (ty : Int) (b : Bool) : Bool := l.any fun q => q.1 == tu && (q.2.1 == ty && (q.2.2.1 || b))
theorem thereC_snoc (l : List Pl) (q : Pl) (tu : Str) (ty : Int) (b : Bool) : thereC (l ++ [q]) tu ty b = (thereC l tu ty b || (q.1 == tu && (q.2.1 == ty && (q.2.2.1 || b)))) := by
  unfold thereC; rw [List.any_append]; simp
theorem thereC_closed {ns : List Nd} {es : List Ed} {up half : List Str} {first : Jp} {p : Pl} (hp : p ∈ pullQ ns es up half first []) {b : Bg} (hb : b ∈ bringB es up half (keyP p)) : thereC (pullQ ns es up half first []) b.1.1 b.1.2 (!b.2 || !p.2.2.1) = true := by
  obtain ⟨q, hq, h1, h2⟩ := pull_closed hp hb
  unfold thereC
  rw [List.any_eq_true]
  refine ⟨q, hq, ?_⟩
  have e1 : q.1 = b.1.1 := congrArg (fun k : Jp => k.1) h1
  have e2 : q.2.1 = b.1.2 := congrArg (fun k : Jp => k.2) h1
  rw [e1, e2]
  rcases h2 with h2 | h2 | h2 <;> simp [h2]
def startsT (t : Int) : Bool := t == 1 || t == 3
def stopsT (t : Int) : Bool := t == 2 || t == 3
def alongR (r : Int) : Bool := r == 1 || (r == 4 || r == 5)
theorem alongR_of {r : Int} (h : alongR r = true) : r = 1 ∨ r = 4 ∨ r = 5 := by unfold alongR at h; simpa using h
theorem brA {es : List Ed} {up half : List Str} {sp s d : Str} {tp r : Int} (hm : (s, d, r) ∈ es) (hs : startsT tp = true) (hf : (s == sp) = true) (hr : r = 1 ∨ r = 4) : ((d, (1 : Int)), true) ∈ bringB es up half (sp, tp) := by
  rw [beq_iff_eq] at hf
  subst hf
  refine mem_bringB.2 (.inl ⟨by unfold startsT at hs; simpa using hs, mem_startB.2 (.inl ⟨rfl, rfl, ?_⟩)⟩)
  rcases hr with rfl | rfl
  · exact .inl hm
  · exact .inr hm
theorem brB {es : List Ed} {up half : List Str} {sp s d : Str} {tp : Int} (hm : (s, d, 2) ∈ es) (hs : startsT tp = true) (hf : (s == sp) = true) : ((d, (1 : Int)), false) ∈ bringB es up half (sp, tp) := by
  rw [beq_iff_eq] at hf
  subst hf
  exact mem_bringB.2 (.inl ⟨by unfold startsT at hs; simpa using hs, mem_startB.2 (.inr (.inl ⟨rfl, rfl, hm⟩))⟩)
theorem brC6 {es : List Ed} {up half : List Str} {sp s d : Str} {tp : Int} (hm : (s, d, 6) ∈ es) (hs : startsT tp = true) (hf : (s == sp) = true) : ((d, (2 : Int)), true) ∈ bringB es up half (sp, tp) := by
  rw [beq_iff_eq] at hf
  subst hf
  exact mem_bringB.2 (.inl ⟨by unfold startsT at hs; simpa using hs, mem_startB.2 (.inr (.inr ⟨rfl, rfl, .inl hm⟩))⟩)
theorem brD {es : List Ed} {up half : List Str} {sp s d : Str} {tp : Int} (hm : (s, d, 6) ∈ es) (hs : startsT tp = true) (hg : (d == sp) = true) : ((s, (2 : Int)), true) ∈ bringB es up half (sp, tp) := by
  rw [beq_iff_eq] at hg
  subst hg
  exact mem_bringB.2 (.inl ⟨by unfold startsT at hs; simpa using hs, mem_startB.2 (.inr (.inr ⟨rfl, rfl, .inr hm⟩))⟩)
theorem brE {es : List Ed} {up half : List Str} {sp s d : Str} {tp r : Int} (hm : (s, d, r) ∈ es) (hs : stopsT tp = true) (hg : (d == sp) = true) (hr : r = 1 ∨ r = 4 ∨ r = 5) (hu : upB up half s = true) : ((s, tp), true) ∈ bringB es up half (sp, tp) := by
  rw [beq_iff_eq] at hg
  subst hg
  refine mem_bringB.2 (.inr ⟨by unfold stopsT at hs; simpa using hs, mem_backB.2 ⟨rfl, rfl, ?_, hu⟩⟩)
  rcases hr with rfl | rfl | rfl
  · exact .inl hm
  · exact .inr (.inl hm)
  · exact .inr (.inr hm)
set_option maxRecDepth 100000 in
set_option maxHeartbeats 32000000 in
theorem pullClosed_any (An Ae Au Ah : Option Addr) (cn ce cu ch : Nat) (ns : List Nd) (es : List Ed) (up half : List Str) (u : Str) (t : Int) (w : World) (hg : GIw w An Ae ns es) (hn : NIn w Au Ah up half) (hof : okJ (u, t)) :
    Calls Tryz.prog 6 #[gV An ns.length cn Ae es.length ce, nowV Au up.length cu Ah half.length ch, sv u, .int .i64 t] w fun e w' => e = .returned (.bool true) ∧ Below w.heap.size w w' := by
  have HG := Lib.hid hg
  have HN := Lib.hid hn
  clear hg hn
  go_enter Tryz.func6, Tryz.ntmps6
  go_wp2_with fail
  first | (refine wp_named ?_; intro W1 hW) | (refine calls_named ?_; intro W1 hW)
  have B1 : Below w.heap.size w W1 := by rw [hW]; exact (by repeat (first | exact Below.refl _ _ | assumption | refine Below.alloc ?_ (by first | omega | (simp <;> omega)) _ | refine Below.setCell ?_ (by first | omega | (simp <;> omega)) _ | refine Below.drew ?_))
  replace HG := Lib.hid (HG.out.at B1)
  replace HN := Lib.hid (HN.out.at B1)
  have n1 : w.heap.size < W1.heap.size := by rw [hW]; simp <;> omega
  have n2 : (w.heap.size + 1) < W1.heap.size := by rw [hW]; simp <;> omega
  have c0 : W1.cell? ⟨w.heap.size, 0, none⟩ = some (.slice An ns.length cn) := by rw [hW]; go_simp
  have c1 : W1.cell? ⟨w.heap.size, 1, none⟩ = some (.slice Ae es.length ce) := by rw [hW]; go_simp
  have c2 : W1.cell? ⟨(w.heap.size + 1), 0, none⟩ = some (.slice Au up.length cu) := by rw [hW]; go_simp
  have c3 : W1.cell? ⟨(w.heap.size + 1), 1, none⟩ = some (.slice Ah half.length ch) := by rw [hW]; go_simp
  clear hW
  have HB := Lib.hid B1
  clear B1
  refine (shown17_any W1).mono ?_
  rintro e w2 ⟨rfl, hb⟩
  replace c0 := cellAt c0 hb (by omega)
  replace c1 := cellAt c1 hb (by omega)
  replace c2 := cellAt c2 hb (by omega)
  replace c3 := cellAt c3 hb (by omega)
  replace HG := Lib.hid (HG.out.at hb)
  replace HN := Lib.hid (HN.out.at hb)
  replace n1 : w.heap.size < w2.heap.size := ltAt n1 hb
  replace n2 : (w.heap.size + 1) < w2.heap.size := ltAt n2 hb
  replace HB := Lib.hid (lift HB.out hb)
  clear hb
  go_wp2_with fail
  refine (small17_any An Ae cn ce ns es w2 HG.out).mono ?_
  rintro e w3 ⟨rfl, hb⟩
  replace c0 := cellAt c0 hb (by omega)
  replace c1 := cellAt c1 hb (by omega)
  replace c2 := cellAt c2 hb (by omega)
  replace c3 := cellAt c3 hb (by omega)
  replace HG := Lib.hid (HG.out.at hb)
  replace HN := Lib.hid (HN.out.at hb)
  replace n1 : w.heap.size < w3.heap.size := ltAt n1 hb
  replace n2 : (w.heap.size + 1) < w3.heap.size := ltAt n2 hb
  replace HB := Lib.hid (lift HB.out hb)
  clear hb
  cases hsm : small17 ns es
  · skip
    go_wp2_with fail
    go_ret
    exact ⟨rfl, HB.out⟩
  · obtain ⟨hl, hmay⟩ := small17_iff.1 hsm
    have hnl := may_len hmay
    have HMay := Lib.hid hmay
    clear hmay hsm
    go_wp2_with fail
    refine (PAll_any An Ae Au Ah none cn ce cu ch 0 ns es up half [] u t w3 HG.out.rn (by omega) HG.out.re (by omega) HN.out.u HN.out.h Rd.none_ (by simp) HG.out.oke hof (fun _ h => by cases h)).mono ?_
    rintro e w4 ⟨A, c, rfl, ho, hb⟩
    have HR := Lib.hid (own_rd' ho)
    replace c0 := cellAt c0 hb (by omega)
    replace c1 := cellAt c1 hb (by omega)
    replace c2 := cellAt c2 hb (by omega)
    replace c3 := cellAt c3 hb (by omega)
    replace HG := Lib.hid (HG.out.at hb)
    replace HN := Lib.hid (HN.out.at hb)
    replace n1 : w.heap.size < w4.heap.size := ltAt n1 hb
    replace n2 : (w.heap.size + 1) < w4.heap.size := ltAt n2 hb
    replace HB := Lib.hid (lift HB.out hb)
    have hlen := pullQ_len ns es up half (u, t) []
    have HLe := Lib.hid (pull_len (es := es) (up := up) (half := half) (first := (u, t)) (wo := []) HMay.out)
    have HCl := Lib.hid (fun (p : Pl) (hp : p ∈ pullQ ns es up half (u, t) []) (b : Bg) (hb : b ∈ bringB es up half (keyP p)) => thereC_closed hp hb)
    clear hb ho
    generalize pullQ ns es up half (u, t) [] = L at *
    go_wp2_with fail
    go_loopw [35] (fun i wr => ∃ k : Nat, k ≤ L.length ∧ i = .int .i64 k ∧ Hid (Below w4.heap.size w4 wr)) (fun i _ => L.length - (intOf i).toNat)
    case atStart => exact ⟨0, Nat.zero_le _, rfl, Below.refl _ _⟩
    case round =>
      obtain ⟨k, hk, rfl, HBx⟩ := hrel
      obtain ⟨w7, rfl⟩ : ∃ wo : World, wo = wr := ⟨_, rfl⟩
      replace c0 := cellAt c0 HBx.out (by omega)
      replace c1 := cellAt c1 HBx.out (by omega)
      replace c2 := cellAt c2 HBx.out (by omega)
      replace c3 := cellAt c3 HBx.out (by omega)
      replace HG := Lib.hid (HG.out.at HBx.out)
      replace HN := Lib.hid (HN.out.at HBx.out)
      replace n1 : w.heap.size < w7.heap.size := ltAt n1 HBx.out
      replace n2 : (w.heap.size + 1) < w7.heap.size := ltAt n2 HBx.out
      replace HB := Lib.hid (lift HB.out HBx.out)
      replace HR := Lib.hid (HR.out.at HBx.out)
      by_cases hlt : k < L.length
      · obtain ⟨b3, o3, hA3, hB3, y0, y1, y2, y3⟩ := HR.out.pl hlt
        subst hA3
        have hcl := HCl.out _ (List.getElem_mem hlt)
        generalize L[k] = p at y0 y1 y2 y3 hcl
        obtain ⟨sp, tp, np, bp⟩ := p
        simp only [keyP] at y0 y1 y2 y3 hcl
        have HC2 := Lib.hid hcl
        have k1 : (0 : Int) ≤ (k : Int) := by omega
        have k2 : (k : Int) < (L.length : Int) := by omega
        clear hcl
        go_wp2_with fail
        first | (refine wp_named ?_; intro W8 hW) | (refine calls_named ?_; intro W8 hW)
        have B8 : Below w7.heap.size w7 W8 := by rw [hW]; exact (by repeat (first | exact Below.refl _ _ | assumption | refine Below.alloc ?_ (by first | omega | (simp <;> omega)) _ | refine Below.setCell ?_ (by first | omega | (simp <;> omega)) _ | refine Below.drew ?_))
        replace c0 := cellAt c0 B8 (by omega)
        replace c1 := cellAt c1 B8 (by omega)
        replace c2 := cellAt c2 B8 (by omega)
        replace c3 := cellAt c3 B8 (by omega)
        replace HG := Lib.hid (HG.out.at B8)
        replace HN := Lib.hid (HN.out.at B8)
        replace n1 : w.heap.size < W8.heap.size := ltAt n1 B8
        replace n2 : (w.heap.size + 1) < W8.heap.size := ltAt n2 B8
        replace HB := Lib.hid (lift HB.out B8)
        replace HR := Lib.hid (HR.out.at B8)
        replace hB3 : b3 < W8.heap.size := ltAt hB3 B8
        have m8 : w7.heap.size < W8.heap.size := by rw [hW]; simp <;> omega
        have v0 : W8.cell? ⟨w7.heap.size, 0, none⟩ = some (sv sp) := by rw [hW]; go_simp
        have v1 : W8.cell? ⟨w7.heap.size, 1, none⟩ = some (.int .i64 tp) := by rw [hW]; go_simp
        have v2 : W8.cell? ⟨w7.heap.size, 2, none⟩ = some (.bool np) := by rw [hW]; go_simp
        clear hW
        have HB8 := Lib.hid (lift HBx.out B8)
        clear B8 y0 y1 y2 y3
        go_loopw [42] (fun i wr => ∃ j : Nat, j ≤ es.length ∧ i = .int .i64 j ∧ Hid (Below W8.heap.size W8 wr)) (fun i _ => es.length - (intOf i).toNat)
        case atStart => exact ⟨0, Nat.zero_le _, rfl, Below.refl _ _⟩
        case round =>
          obtain ⟨j, hj, rfl, HBy⟩ := hrel
          obtain ⟨w9, rfl⟩ : ∃ wo : World, wo = wr := ⟨_, rfl⟩
          replace c0 := cellAt c0 HBy.out (by omega)
          replace c1 := cellAt c1 HBy.out (by omega)
          replace c2 := cellAt c2 HBy.out (by omega)
          replace c3 := cellAt c3 HBy.out (by omega)
          replace v0 := cellAt v0 HBy.out (by omega)
          replace v1 := cellAt v1 HBy.out (by omega)
          replace v2 := cellAt v2 HBy.out (by omega)
          replace HG := Lib.hid (HG.out.at HBy.out)
          replace HN := Lib.hid (HN.out.at HBy.out)
          replace n1 : w.heap.size < w9.heap.size := ltAt n1 HBy.out
          replace n2 : (w.heap.size + 1) < w9.heap.size := ltAt n2 HBy.out
          replace HB := Lib.hid (lift HB.out HBy.out)
          replace HR := Lib.hid (HR.out.at HBy.out)
          replace hB3 : b3 < w9.heap.size := ltAt hB3 HBy.out
          replace m8 : w7.heap.size < w9.heap.size := ltAt m8 HBy.out
          by_cases hlt2 : j < es.length
          · obtain ⟨b4, o4, hA4, hB4, q0, q1, q2⟩ := HG.out.re.edge hlt2
            subst hA4
            have hmem := List.getElem_mem hlt2
            have hedge := (mayG_iff.1 HMay.out).2.2.2.2 _ hmem
            generalize es[j] = e at q0 q1 q2 hmem hedge
            obtain ⟨s, d, r⟩ := e
            simp only at q0 q1 q2
            have hne : s ≠ d := by
              unfold edgeOk at hedge
              simp only [Bool.and_eq_true] at hedge
              have h := hedge.2.2.1
              simpa using h
            have HE := Lib.hid (And.intro hmem hne)
            have j1 : (0 : Int) ≤ (j : Int) := by omega
            have j2 : (j : Int) < (es.length : Int) := by omega
            clear hmem hedge hne
            go_upto_region 13 with fail
            first | (refine wp_named ?_; intro W10 hW) | (refine calls_named ?_; intro W10 hW)
            have B10 : Below w9.heap.size w9 W10 := by rw [hW]; exact (by repeat (first | exact Below.refl _ _ | assumption | refine Below.alloc ?_ (by first | omega | (simp <;> omega)) _ | refine Below.setCell ?_ (by first | omega | (simp <;> omega)) _ | refine Below.drew ?_))
            replace c0 := cellAt c0 B10 (by omega)
            replace c1 := cellAt c1 B10 (by omega)
            replace c2 := cellAt c2 B10 (by omega)
            replace c3 := cellAt c3 B10 (by omega)
            replace v0 := cellAt v0 B10 (by omega)
            replace v1 := cellAt v1 B10 (by omega)
            replace v2 := cellAt v2 B10 (by omega)
            replace HG := Lib.hid (HG.out.at B10)
            replace HN := Lib.hid (HN.out.at B10)
            replace n1 : w.heap.size < W10.heap.size := ltAt n1 B10
            replace n2 : (w.heap.size + 1) < W10.heap.size := ltAt n2 B10
            replace HB := Lib.hid (lift HB.out B10)
            replace HR := Lib.hid (HR.out.at B10)
            replace hB3 : b3 < W10.heap.size := ltAt hB3 B10
            replace m8 : w7.heap.size < W10.heap.size := ltAt m8 B10
            replace hB4 : b4 < W10.heap.size := ltAt hB4 B10
            have m10 : w9.heap.size < W10.heap.size := by rw [hW]; simp <;> omega
            have f0 : W10.cell? ⟨w9.heap.size, 0, none⟩ = some (sv s) := by rw [hW]; go_simp
            have f1 : W10.cell? ⟨w9.heap.size, 1, none⟩ = some (sv d) := by rw [hW]; go_simp
            have f2 : W10.cell? ⟨w9.heap.size, 2, none⟩ = some (.int .i64 r) := by rw [hW]; go_simp
            clear hW
            have HB10 := Lib.hid B10
            clear B10 q0 q1 q2
            go_cut [17] (fun x wx => x = .bool (startsT tp) ∧ wx = W10)
            case first =>
              as_aux_lemma =>
                cases e1 : (tp == 1)
                · cases e3 : (tp == 3)
                  · go_wp2_with fail
                    go_meet
                    exact ⟨by simp only [startsT, e1, e3]; rfl, rfl⟩
                  · go_wp2_with fail
                    go_meet
                    exact ⟨by simp only [startsT, e1, e3]; rfl, rfl⟩
                · go_wp2_with fail
                  go_meet
                  exact ⟨by simp only [startsT, e1]; rfl, rfl⟩
            case rest =>
              obtain ⟨rfl, hwc⟩ := hcut
              subst hwc
              go_upto_region 14 with fail
              go_cut [18] (fun x wx => x = .bool (stopsT tp) ∧ wx = wc)
              case first =>
                as_aux_lemma =>
                  cases e1 : (tp == 2)
                  · cases e3 : (tp == 3)
                    · go_wp2_with fail
                      go_meet
                      exact ⟨by simp only [stopsT, e1, e3]; rfl, rfl⟩
                    · go_wp2_with fail
                      go_meet
                      exact ⟨by simp only [stopsT, e1, e3]; rfl, rfl⟩
                  · go_wp2_with fail
                    go_meet
                    exact ⟨by simp only [stopsT, e1]; rfl, rfl⟩
              case rest =>
                obtain ⟨rfl, hwc⟩ := hcut
                subst hwc
                go_upto_region 15 with fail
                go_cut [19] (fun x wx => x = .bool (alongR r) ∧ wx = wc)
                case first =>
                  as_aux_lemma =>
                    cases e1 : (r == 1)
                    · cases e3 : (r == 4)
                      · cases e5 : (r == 5)
                        · go_wp2_with fail
                          go_meet
                          exact ⟨by simp only [alongR, e1, e3, e5]; rfl, rfl⟩
                        · go_wp2_with fail
                          go_meet
                          exact ⟨by simp only [alongR, e1, e3, e5]; rfl, rfl⟩
                      · go_wp2_with fail
                        go_meet
                        exact ⟨by simp only [alongR, e1, e3]; rfl, rfl⟩
                    · go_wp2_with fail
                      go_meet
                      exact ⟨by simp only [alongR, e1]; rfl, rfl⟩
                case rest =>
                  obtain ⟨rfl, hwc⟩ := hcut
                  subst hwc
                  generalize hS : startsT tp = bS
                  generalize hT : stopsT tp = bT
                  generalize hA : alongR r = bA
                  obtain ⟨wc0, rfl⟩ : ∃ wo : World, wo = wc := ⟨_, rfl⟩
                  go_step
                  go_step
                  go_cut [14, 15, 16] (fun a b c wx => ∃ (tu : Str) (ty : Int) (nd : Bool), a = sv tu ∧ b = .int .i64 ty ∧ c = .bool nd ∧ Hid (((tu, ty), nd) ∈ bringB es up half (sp, tp)) ∧ Hid (Below wc0.heap.size wc0 wx))
                  case first =>
                    cases bS
                    · cases bT
                      · skip
                        as_aux_lemma =>
                          go_wp2_with fail
                          go_roundw
                          case rel => exact ⟨j + 1, by omega, by go_num, lift HBy.out HB10.out⟩
                          case measure => simp [intOf]; omega
                      · cases hg : (d == sp)
                        · skip
                          as_aux_lemma =>
                            go_wp2_with fail
                            go_roundw
                            case rel => exact ⟨j + 1, by omega, by go_num, lift HBy.out HB10.out⟩
                            case measure => simp [intOf]; omega
                        · cases bA
                          · skip
                            as_aux_lemma =>
                              go_wp2_with fail
                              go_roundw
                              case rel => exact ⟨j + 1, by omega, by go_num, lift HBy.out HB10.out⟩
                              case measure => simp [intOf]; omega
                          · have hr := alongR_of hA
                            as_aux_lemma =>
                              cases hu : hasB up s
                              · go_wp2_with fail
                                refine (HasS_any Au cu up s wc0 HN.out.u.rd HN.out.u.len).mono ?_
                                rintro e wv ⟨rfl, rfl⟩
                                rw [hu]
                                cases hh : hasB half s
                                · go_wp2_with fail
                                  refine (HasS_any Ah ch half s wc0 HN.out.h.rd HN.out.h.len).mono ?_
                                  rintro e wv ⟨rfl, rfl⟩
                                  rw [hh]
                                  as_aux_lemma =>
                                    go_wp2_with fail
                                    go_roundw
                                    case rel => exact ⟨j + 1, by omega, by go_num, lift HBy.out HB10.out⟩
                                    case measure => simp [intOf]; omega
                                · go_wp2_with fail
                                  refine (HasS_any Ah ch half s wc0 HN.out.h.rd HN.out.h.len).mono ?_
                                  rintro e wv ⟨rfl, rfl⟩
                                  rw [hh]
                                  go_wp2_with fail
                                  try go_wp2_with fail
                                  refine wp_region_held_drew (S := fun w' => Below wc0.heap.size wc0 w') (by kernel_rfl) (Below.drew (Below.refl _ _)) (fun hHeld => ?_)
                                  refine tY (i := 0) (v := ?_) rfl ?_ hHeld ?_; rotate_left 1; focus (intro w' hSw; clear hSw; go_simp; try with_reducible rfl)
                                  (try simp only [Act.put, zn1, zn2, zn3])
                                  refine tY (i := 1) (v := ?_) rfl ?_ hHeld ?_; rotate_left 1; focus (intro w' hSw; have hCell := fun (b o : Nat) (h : b < wc0.heap.size) => hSw.cell (p := ⟨b, o, none⟩) h; clear hSw; go_simp; try with_reducible rfl)
                                  (try simp only [Act.put, zn1, zn2, zn3])
                                  refine tY (i := 2) (v := ?_) rfl ?_ hHeld ?_; rotate_left 1; focus (intro w' hSw; clear hSw; go_simp; try with_reducible rfl)
                                  (try simp only [Act.put, zn1, zn2, zn3])
                                  refine tY (i := 3) (v := ?_) rfl ?_ hHeld ?_; rotate_left 1; focus (intro w' hSw; have hCell := fun (b o : Nat) (h : b < wc0.heap.size) => hSw.cell (p := ⟨b, o, none⟩) h; clear hSw; go_simp; try with_reducible rfl)
                                  (try simp only [Act.put, zn1, zn2, zn3])
                                  refine tY (i := 4) (v := ?_) rfl ?_ hHeld ?_; rotate_left 1; focus (intro w' hSw; clear hSw; go_simp; try with_reducible rfl)
                                  (try simp only [Act.put, zn1, zn2, zn3])
                                  refine tY (i := 5) (v := ?_) rfl ?_ hHeld ?_; rotate_left 1; focus (intro w' hSw; clear hSw; go_simp; try with_reducible rfl)
                                  (try simp only [Act.put, zn1, zn2, zn3])
                                  refine wpAnyH_done (by kernel_rfl) ?_ _
                                  go_wp2_with fail
                                  go_meet
                                  exact ⟨s, tp, true, rfl, rfl, rfl, Lib.hid (brE HE.out.1 hT hg hr (by unfold upB; rw [hu, hh]; rfl)), by first | exact Below.refl _ _ | exact Below.drew (Below.refl _ _)⟩
                              · go_wp2_with fail
                                refine (HasS_any Au cu up s wc0 HN.out.u.rd HN.out.u.len).mono ?_
                                rintro e wv ⟨rfl, rfl⟩
                                rw [hu]
                                go_wp2_with fail
                                try go_wp2_with fail
                                refine wp_region_held_drew (S := fun w' => Below wc0.heap.size wc0 w') (by kernel_rfl) (Below.drew (Below.refl _ _)) (fun hHeld => ?_)
                                refine tY (i := 0) (v := ?_) rfl ?_ hHeld ?_; rotate_left 1; focus (intro w' hSw; clear hSw; go_simp; try with_reducible rfl)
                                (try simp only [Act.put, zn1, zn2, zn3])
                                refine tY (i := 1) (v := ?_) rfl ?_ hHeld ?_; rotate_left 1; focus (intro w' hSw; have hCell := fun (b o : Nat) (h : b < wc0.heap.size) => hSw.cell (p := ⟨b, o, none⟩) h; clear hSw; go_simp; try with_reducible rfl)
                                (try simp only [Act.put, zn1, zn2, zn3])
                                refine tY (i := 2) (v := ?_) rfl ?_ hHeld ?_; rotate_left 1; focus (intro w' hSw; clear hSw; go_simp; try with_reducible rfl)
                                (try simp only [Act.put, zn1, zn2, zn3])
                                refine tY (i := 3) (v := ?_) rfl ?_ hHeld ?_; rotate_left 1; focus (intro w' hSw; have hCell := fun (b o : Nat) (h : b < wc0.heap.size) => hSw.cell (p := ⟨b, o, none⟩) h; clear hSw; go_simp; try with_reducible rfl)
                                (try simp only [Act.put, zn1, zn2, zn3])
                                refine tY (i := 4) (v := ?_) rfl ?_ hHeld ?_; rotate_left 1; focus (intro w' hSw; clear hSw; go_simp; try with_reducible rfl)
                                (try simp only [Act.put, zn1, zn2, zn3])
                                refine tY (i := 5) (v := ?_) rfl ?_ hHeld ?_; rotate_left 1; focus (intro w' hSw; clear hSw; go_simp; try with_reducible rfl)
                                (try simp only [Act.put, zn1, zn2, zn3])
                                refine wpAnyH_done (by kernel_rfl) ?_ _
                                go_wp2_with fail
                                go_meet
                                exact ⟨s, tp, true, rfl, rfl, rfl, Lib.hid (brE HE.out.1 hT hg hr (by unfold upB; rw [hu]; rfl)), by first | exact Below.refl _ _ | exact Below.drew (Below.refl _ _)⟩
                    · cases hf : (s == sp)
                      · cases hg : (d == sp)
                        · skip
                          cases bT
                          · skip
                            as_aux_lemma =>
                              go_wp2_with fail
                              go_roundw
                              case rel => exact ⟨j + 1, by omega, by go_num, lift HBy.out HB10.out⟩
                              case measure => simp [intOf]; omega
                          · skip
                            as_aux_lemma =>
                              go_wp2_with fail
                              go_roundw
                              case rel => exact ⟨j + 1, by omega, by go_num, lift HBy.out HB10.out⟩
                              case measure => simp [intOf]; omega
                        · cases h6 : (r == 6)
                          · cases bT
                            · skip
                              as_aux_lemma =>
                                go_wp2_with fail
                                go_roundw
                                case rel => exact ⟨j + 1, by omega, by go_num, lift HBy.out HB10.out⟩
                                case measure => simp [intOf]; omega
                            · cases bA
                              · skip
                                as_aux_lemma =>
                                  go_wp2_with fail
                                  go_roundw
                                  case rel => exact ⟨j + 1, by omega, by go_num, lift HBy.out HB10.out⟩
                                  case measure => simp [intOf]; omega
                              · have hr := alongR_of hA
                                as_aux_lemma =>
                                  cases hu : hasB up s
                                  · go_wp2_with fail
                                    refine (HasS_any Au cu up s wc0 HN.out.u.rd HN.out.u.len).mono ?_
                                    rintro e wv ⟨rfl, rfl⟩
                                    rw [hu]
                                    cases hh : hasB half s
                                    · go_wp2_with fail
                                      refine (HasS_any Ah ch half s wc0 HN.out.h.rd HN.out.h.len).mono ?_
                                      rintro e wv ⟨rfl, rfl⟩
                                      rw [hh]
                                      as_aux_lemma =>
                                        go_wp2_with fail
                                        go_roundw
                                        case rel => exact ⟨j + 1, by omega, by go_num, lift HBy.out HB10.out⟩
                                        case measure => simp [intOf]; omega
                                    · go_wp2_with fail
                                      refine (HasS_any Ah ch half s wc0 HN.out.h.rd HN.out.h.len).mono ?_
                                      rintro e wv ⟨rfl, rfl⟩
                                      rw [hh]
                                      go_wp2_with fail
                                      try go_wp2_with fail
                                      refine wp_region_held_drew (S := fun w' => Below wc0.heap.size wc0 w') (by kernel_rfl) (Below.drew (Below.refl _ _)) (fun hHeld => ?_)
                                      refine tY (i := 0) (v := ?_) rfl ?_ hHeld ?_; rotate_left 1; focus (intro w' hSw; clear hSw; go_simp; try with_reducible rfl)
                                      (try simp only [Act.put, zn1, zn2, zn3])
                                      refine tY (i := 1) (v := ?_) rfl ?_ hHeld ?_; rotate_left 1; focus (intro w' hSw; have hCell := fun (b o : Nat) (h : b < wc0.heap.size) => hSw.cell (p := ⟨b, o, none⟩) h; clear hSw; go_simp; try with_reducible rfl)
                                      (try simp only [Act.put, zn1, zn2, zn3])
                                      refine tY (i := 2) (v := ?_) rfl ?_ hHeld ?_; rotate_left 1; focus (intro w' hSw; clear hSw; go_simp; try with_reducible rfl)
                                      (try simp only [Act.put, zn1, zn2, zn3])
                                      refine tY (i := 3) (v := ?_) rfl ?_ hHeld ?_; rotate_left 1; focus (intro w' hSw; have hCell := fun (b o : Nat) (h : b < wc0.heap.size) => hSw.cell (p := ⟨b, o, none⟩) h; clear hSw; go_simp; try with_reducible rfl)
                                      (try simp only [Act.put, zn1, zn2, zn3])
                                      refine tY (i := 4) (v := ?_) rfl ?_ hHeld ?_; rotate_left 1; focus (intro w' hSw; clear hSw; go_simp; try with_reducible rfl)
                                      (try simp only [Act.put, zn1, zn2, zn3])
                                      refine tY (i := 5) (v := ?_) rfl ?_ hHeld ?_; rotate_left 1; focus (intro w' hSw; clear hSw; go_simp; try with_reducible rfl)
                                      (try simp only [Act.put, zn1, zn2, zn3])
                                      refine wpAnyH_done (by kernel_rfl) ?_ _
                                      go_wp2_with fail
                                      go_meet
                                      exact ⟨s, tp, true, rfl, rfl, rfl, Lib.hid (brE HE.out.1 hT hg hr (by unfold upB; rw [hu, hh]; rfl)), by first | exact Below.refl _ _ | exact Below.drew (Below.refl _ _)⟩
                                  · go_wp2_with fail
                                    refine (HasS_any Au cu up s wc0 HN.out.u.rd HN.out.u.len).mono ?_
                                    rintro e wv ⟨rfl, rfl⟩
                                    rw [hu]
                                    go_wp2_with fail
                                    try go_wp2_with fail
                                    refine wp_region_held_drew (S := fun w' => Below wc0.heap.size wc0 w') (by kernel_rfl) (Below.drew (Below.refl _ _)) (fun hHeld => ?_)
                                    refine tY (i := 0) (v := ?_) rfl ?_ hHeld ?_; rotate_left 1; focus (intro w' hSw; clear hSw; go_simp; try with_reducible rfl)
                                    (try simp only [Act.put, zn1, zn2, zn3])
                                    refine tY (i := 1) (v := ?_) rfl ?_ hHeld ?_; rotate_left 1; focus (intro w' hSw; have hCell := fun (b o : Nat) (h : b < wc0.heap.size) => hSw.cell (p := ⟨b, o, none⟩) h; clear hSw; go_simp; try with_reducible rfl)
                                    (try simp only [Act.put, zn1, zn2, zn3])
                                    refine tY (i := 2) (v := ?_) rfl ?_ hHeld ?_; rotate_left 1; focus (intro w' hSw; clear hSw; go_simp; try with_reducible rfl)
                                    (try simp only [Act.put, zn1, zn2, zn3])
                                    refine tY (i := 3) (v := ?_) rfl ?_ hHeld ?_; rotate_left 1; focus (intro w' hSw; have hCell := fun (b o : Nat) (h : b < wc0.heap.size) => hSw.cell (p := ⟨b, o, none⟩) h; clear hSw; go_simp; try with_reducible rfl)
                                    (try simp only [Act.put, zn1, zn2, zn3])
                                    refine tY (i := 4) (v := ?_) rfl ?_ hHeld ?_; rotate_left 1; focus (intro w' hSw; clear hSw; go_simp; try with_reducible rfl)
                                    (try simp only [Act.put, zn1, zn2, zn3])
                                    refine tY (i := 5) (v := ?_) rfl ?_ hHeld ?_; rotate_left 1; focus (intro w' hSw; clear hSw; go_simp; try with_reducible rfl)
                                    (try simp only [Act.put, zn1, zn2, zn3])
                                    refine wpAnyH_done (by kernel_rfl) ?_ _
                                    go_wp2_with fail
                                    go_meet
                                    exact ⟨s, tp, true, rfl, rfl, rfl, Lib.hid (brE HE.out.1 hT hg hr (by unfold upB; rw [hu]; rfl)), by first | exact Below.refl _ _ | exact Below.drew (Below.refl _ _)⟩
                          · rw [beq_iff_eq] at h6
                            subst h6
                            as_aux_lemma =>
                              go_wp2_with fail
                              go_meet
                              exact ⟨s, 2, true, rfl, rfl, rfl, Lib.hid (brD HE.out.1 hS hg), Below.refl _ _⟩
                      · cases h1 : (r == 1)
                        · cases h4 : (r == 4)
                          · cases h2 : (r == 2)
                            · cases h6 : (r == 6)
                              · have hg : (d == sp) = false := by
                                  rw [beq_iff_eq] at hf
                                  rw [beq_eq_false_iff_ne]
                                  intro h
                                  exact HE.out.2 (hf.trans h.symm)
                                cases bT
                                · skip
                                  as_aux_lemma =>
                                    go_wp2_with fail
                                    go_roundw
                                    case rel => exact ⟨j + 1, by omega, by go_num, lift HBy.out HB10.out⟩
                                    case measure => simp [intOf]; omega
                                · skip
                                  as_aux_lemma =>
                                    go_wp2_with fail
                                    go_roundw
                                    case rel => exact ⟨j + 1, by omega, by go_num, lift HBy.out HB10.out⟩
                                    case measure => simp [intOf]; omega
                              · rw [beq_iff_eq] at h6
                                subst h6
                                as_aux_lemma =>
                                  go_wp2_with fail
                                  go_meet
                                  exact ⟨d, 2, true, rfl, rfl, rfl, Lib.hid (brC6 HE.out.1 hS hf), Below.refl _ _⟩
                            · rw [beq_iff_eq] at h2
                              subst h2
                              as_aux_lemma =>
                                go_wp2_with fail
                                go_meet
                                exact ⟨d, 1, false, rfl, rfl, rfl, Lib.hid (brB HE.out.1 hS hf), Below.refl _ _⟩
                          · rw [beq_iff_eq] at h4
                            as_aux_lemma =>
                              go_wp2_with fail
                              go_meet
                              exact ⟨d, 1, true, rfl, rfl, rfl, Lib.hid (brA HE.out.1 hS hf (.inr h4)), Below.refl _ _⟩
                        · rw [beq_iff_eq] at h1
                          as_aux_lemma =>
                            go_wp2_with fail
                            go_meet
                            exact ⟨d, 1, true, rfl, rfl, rfl, Lib.hid (brA HE.out.1 hS hf (.inl h1)), Below.refl _ _⟩
                  case rest =>
                    obtain ⟨tu, ty, nd, rfl, rfl, rfl, HBr, HBc⟩ := hcut
                    obtain ⟨wc2, rfl⟩ : ∃ wo : World, wo = wc := ⟨_, rfl⟩
                    replace c0 := cellAt c0 HBc.out (by omega)
                    replace c1 := cellAt c1 HBc.out (by omega)
                    replace c2 := cellAt c2 HBc.out (by omega)
                    replace c3 := cellAt c3 HBc.out (by omega)
                    replace v0 := cellAt v0 HBc.out (by omega)
                    replace v1 := cellAt v1 HBc.out (by omega)
                    replace v2 := cellAt v2 HBc.out (by omega)
                    replace f0 := cellAt f0 HBc.out (by omega)
                    replace f1 := cellAt f1 HBc.out (by omega)
                    replace f2 := cellAt f2 HBc.out (by omega)
                    replace HG := Lib.hid (HG.out.at HBc.out)
                    replace HN := Lib.hid (HN.out.at HBc.out)
                    replace n1 : w.heap.size < wc2.heap.size := ltAt n1 HBc.out
                    replace n2 : (w.heap.size + 1) < wc2.heap.size := ltAt n2 HBc.out
                    replace HB := Lib.hid (lift HB.out HBc.out)
                    replace HR := Lib.hid (HR.out.at HBc.out)
                    replace hB3 : b3 < wc2.heap.size := ltAt hB3 HBc.out
                    replace m8 : w7.heap.size < wc2.heap.size := ltAt m8 HBc.out
                    replace hB4 : b4 < wc2.heap.size := ltAt hB4 HBc.out
                    replace m10 : w9.heap.size < wc2.heap.size := ltAt m10 HBc.out
                    have hth := HC2.out _ (HBr.out)
                    have HTh := Lib.hid hth
                    clear hth
                    go_wp2_with fail
                    go_loopw [20, 176] (fun th i wr => ∃ m : Nat, m ≤ L.length ∧ i = .int .i64 m ∧ th = .bool (thereC (L.take m) tu ty (!nd || !np)) ∧ Hid (Below wc2.heap.size wc2 wr)) (fun _ i _ => L.length - (intOf i).toNat)
                    case atStart => exact ⟨0, Nat.zero_le _, rfl, rfl, (by repeat (first | exact Below.refl _ _ | assumption | refine Below.alloc ?_ (by first | omega | (simp <;> omega)) _ | refine Below.setCell ?_ (by first | omega | (simp <;> omega)) _ | refine Below.drew ?_))⟩
                    case round =>
                      obtain ⟨m, hm, rfl, rfl, HBm⟩ := hrel
                      have hzm := HBm.out.size
                      by_cases hlt3 : m < L.length
                      · obtain ⟨b5, o5, hA5, hB5, p0, p1, p2, p3⟩ := (HR.out.at HBm.out).pl hlt3
                        injection hA5 with hA5
                        injection hA5 with e1 e2
                        subst e1 e2
                        have hts : thereC (L.take (m + 1)) tu ty (!nd || !np) = (thereC (L.take m) tu ty (!nd || !np) || (L[m].1 == tu && (L[m].2.1 == ty && (L[m].2.2.1 || (!nd || !np))))) := by rw [List.take_succ_eq_append_getElem hlt3]; exact thereC_snoc _ _ _ _ _
                        generalize L[m] = q at p0 p1 p2 p3 hts
                        obtain ⟨sq, tq, nq, bq⟩ := q
                        simp only at p0 p1 p2 p3 hts
                        have HTs := Lib.hid hts
                        have l1 : (0 : Int) ≤ (m : Int) := by omega
                        have l2 : (m : Int) < (L.length : Int) := by omega
                        replace v2 := cellAt v2 HBm.out m8
                        have m9 := ltAt m8 HBm.out
                        clear hts
                        cases hth : thereC (L.take m) tu ty (!nd || !np)
                        · cases e1 : (sq == tu)
                          · have HV := Lib.hid (show thereC (L.take (m + 1)) tu ty (!nd || !np) = false by rw [HTs.out, hth, e1]; rfl)
                            as_aux_lemma =>
                              go_wp2_with fail
                              go_roundw
                              case rel => exact ⟨m + 1, by omega, by go_num, by (rw [HV.out]) <;> simp, lift HBm.out ((by repeat (first | exact Below.refl _ _ | assumption | refine Below.alloc ?_ (by first | omega | (simp <;> omega)) _ | refine Below.setCell ?_ (by first | omega | (simp <;> omega)) _ | refine Below.drew ?_)))⟩
                              case measure => simp [intOf]; omega
                          · cases e2 : (tq == ty)
                            · have HV := Lib.hid (show thereC (L.take (m + 1)) tu ty (!nd || !np) = false by rw [HTs.out, hth, e1, e2]; rfl)
                              as_aux_lemma =>
                                go_wp2_with fail
                                go_roundw
                                case rel => exact ⟨m + 1, by omega, by go_num, by (rw [HV.out]) <;> simp, lift HBm.out ((by repeat (first | exact Below.refl _ _ | assumption | refine Below.alloc ?_ (by first | omega | (simp <;> omega)) _ | refine Below.setCell ?_ (by first | omega | (simp <;> omega)) _ | refine Below.drew ?_)))⟩
                                case measure => simp [intOf]; omega
                            · cases nq
                              · cases nd
                                · have HV := Lib.hid (show thereC (L.take (m + 1)) tu ty (!false || !np) = true by rw [HTs.out, hth, e1, e2]; simp)
                                  as_aux_lemma =>
                                    go_wp2_with fail
                                    go_roundw
                                    case rel => exact ⟨m + 1, by omega, by go_num, by (rw [HV.out]) <;> simp, lift HBm.out ((by repeat (first | exact Below.refl _ _ | assumption | refine Below.alloc ?_ (by first | omega | (simp <;> omega)) _ | refine Below.setCell ?_ (by first | omega | (simp <;> omega)) _ | refine Below.drew ?_)))⟩
                                    case measure => simp [intOf]; omega
                                · have HV := Lib.hid (show thereC (L.take (m + 1)) tu ty (!true || !np) = !np by rw [HTs.out, hth, e1, e2]; simp)
                                  as_aux_lemma =>
                                    go_wp2_with fail
                                    go_roundw
                                    case rel => exact ⟨m + 1, by omega, by go_num, by (rw [HV.out]) <;> simp, lift HBm.out ((by repeat (first | exact Below.refl _ _ | assumption | refine Below.alloc ?_ (by first | omega | (simp <;> omega)) _ | refine Below.setCell ?_ (by first | omega | (simp <;> omega)) _ | refine Below.drew ?_)))⟩
                                    case measure => simp [intOf]; omega
                              · have HV := Lib.hid (show thereC (L.take (m + 1)) tu ty (!nd || !np) = true by rw [HTs.out, hth, e1, e2]; simp)
                                as_aux_lemma =>
                                  go_wp2_with fail
                                  go_roundw
                                  case rel => exact ⟨m + 1, by omega, by go_num, by (rw [HV.out]) <;> simp, lift HBm.out ((by repeat (first | exact Below.refl _ _ | assumption | refine Below.alloc ?_ (by first | omega | (simp <;> omega)) _ | refine Below.setCell ?_ (by first | omega | (simp <;> omega)) _ | refine Below.drew ?_)))⟩
                                  case measure => simp [intOf]; omega
                        · have HV := Lib.hid (show thereC (L.take (m + 1)) tu ty (!nd || !np) = true by rw [HTs.out, hth]; rfl)
                          as_aux_lemma =>
                            go_wp2_with fail
                            go_roundw
                            case rel => exact ⟨m + 1, by omega, by go_num, by (rw [HV.out]) <;> simp, lift HBm.out ((by repeat (first | exact Below.refl _ _ | assumption | refine Below.alloc ?_ (by first | omega | (simp <;> omega)) _ | refine Below.setCell ?_ (by first | omega | (simp <;> omega)) _ | refine Below.drew ?_)))⟩
                            case measure => simp [intOf]; omega
                      · obtain rfl : m = L.length := by omega
                        rw [List.take_length, HTh.out]
                        go_wp2_with fail
                        go_roundw
                        case rel => exact ⟨j + 1, by omega, by go_num, lift (lift (lift HBy.out HB10.out) HBc.out) HBm.out⟩
                        case measure => simp [intOf]; omega
          · obtain rfl : j = es.length := by omega
            go_wp2_with fail
            go_roundw
            case rel => exact ⟨k + 1, by omega, by go_num, lift HB8.out HBy.out⟩
            case measure => simp [intOf]; omega
      · obtain rfl : k = L.length := by omega
        have hle : (L.length : Int) ≤ 4 * (ns.length : Int) := by have := HLe.out; omega
        have hd9 : decide ((L.length : Int) ≤ 4 * (ns.length : Int)) = true := by simpa using hle
        have hw9 : IntKind.i64.wrap (4 * (ns.length : Int)) = 4 * (ns.length : Int) := IntWalk.i64_in _ (by omega)
        go_wp2_with fail
        refine (May15_any An Ae cn ce ns es w7 HG.out.rn HG.out.re (by omega) HG.out.okn).mono ?_
        rintro e wf ⟨rfl, hbf⟩
        rw [HMay.out]
        have HBf := Lib.hid (lift HB.out hbf)
        clear hbf
        go_wp2_with fail
        go_ret
        exact ⟨rfl, HBf.out⟩
end Od
end Go.Proofs.YtbllehjhmfehbaaGreat
end
