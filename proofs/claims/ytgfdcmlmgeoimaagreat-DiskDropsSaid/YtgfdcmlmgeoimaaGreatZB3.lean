/- My texts, joined for the claim: DRef QOfA QOfW DName DRef2. -/
import Derived.Test.YtgfdcmlmgeoimaaGreatZB2
import Derived.BigRegion
import Derived.Test.YtgfdcmlmgeoimaaGreatZB0

section
/- The reference's words for paths: ends, dropName, Split. (bel2) -/
namespace Go.Proofs.YtgfdcmlmgeoimaaGreat
open Go.RowKit
set_option linter.unusedSimpArgs false
namespace Od
def endsV (s e : Str) : Value := match endsW s e with
  | some u => .tuple #[sv u, .bool true]
  | none => .tuple #[sv [], .bool false]
set_option maxHeartbeats 2000000 in
theorem ends12_any (s e : Str) (w : World) (hl : s.length ≤ 140737488355328) (hl2 : e.length ≤ 140737488355328) : Calls Tryz.prog 41 #[sv s, sv e] w fun en w' => en = .returned (endsV s e) ∧ Below w.heap.size w w' := by
  by_cases h1 : e.length < s.length
  · have d1 : decide ((s.length : Int) ≤ (e.length : Int)) = false := by rw [decide_eq_false_iff_not]; omega
    have d2 : decide (s.length ≤ e.length) = false := by rw [decide_eq_false_iff_not]; omega
    have hw1 : IntKind.i64.wrap ((s.length : Int) - (e.length : Int)) = ((s.length - e.length : Nat) : Int) := by rw [IntWalk.i64_in _ (by omega)]; omega
    have hex := extract_str s (s.length - e.length) s.length
    rw [List.take_length] at hex
    have hex2 := extract_str s 0 (s.length - e.length)
    rw [List.drop_zero] at hex2
    have k1 : (0 : Int) ≤ ((s.length - e.length : Nat) : Int) := by omega
    have k2 : ((s.length - e.length : Nat) : Int) ≤ (s.length : Int) := by omega
    have hE : endsV s e = if (s.drop (s.length - e.length) == e) = true then .tuple #[sv (s.take (s.length - e.length)), .bool true] else .tuple #[sv [], .bool false] := by
      unfold endsV endsW
      by_cases hd : s.drop (s.length - e.length) = e
      · rw [if_pos ⟨h1, hd⟩, if_pos (by rw [hd]; simp)]
      · rw [if_neg (fun x => hd x.2), if_neg (by simpa using hd)]
    generalize s.drop (s.length - e.length) = dr at *
    generalize s.take (s.length - e.length) = tk at *
    generalize s.length - e.length = m at *
    cases hb : (dr == e)
    · have HE := Lib.hid (hE.trans (if_neg (by rw [hb]; simp)))
      clear hE
      go_enter Tryz.func41, Tryz.ntmps41
      go_wp2_with fail
      go_ret2
      exact ⟨by rw [HE.out]; rfl, (by repeat (first | exact Below.refl _ _ | assumption | refine Below.alloc ?_ (by first | omega | (simp <;> omega)) _ | refine Below.setCell ?_ (by first | omega | (simp <;> omega)) _ | refine Below.drew ?_))⟩
    · have HE := Lib.hid (hE.trans (if_pos hb))
      clear hE
      go_enter Tryz.func41, Tryz.ntmps41
      go_wp2_with fail
      go_ret2
      exact ⟨by rw [HE.out]; rfl, (by repeat (first | exact Below.refl _ _ | assumption | refine Below.alloc ?_ (by first | omega | (simp <;> omega)) _ | refine Below.setCell ?_ (by first | omega | (simp <;> omega)) _ | refine Below.drew ?_))⟩
  · have d1 : decide ((s.length : Int) ≤ (e.length : Int)) = true := by rw [decide_eq_true_eq]; omega
    have d2 : decide (s.length ≤ e.length) = true := by rw [decide_eq_true_eq]; omega
    have HE := Lib.hid (show endsV s e = .tuple #[sv [], .bool false] by unfold endsV endsW; rw [if_neg (fun x => h1 x.1)])
    clear h1
    go_enter Tryz.func41, Tryz.ntmps41
    go_wp2_with fail
    go_ret2
    exact ⟨by rw [HE.out]; rfl, (by repeat (first | exact Below.refl _ _ | assumption | refine Below.alloc ?_ (by first | omega | (simp <;> omega)) _ | refine Below.setCell ?_ (by first | omega | (simp <;> omega)) _ | refine Below.drew ?_))⟩
/-- The pieces so far, and what is left. -/
structure SplAt (s : Str) (out : List Str) (at_ k : Nat) : Prop where
  le : at_ ≤ k
  cut : splitL 47 s = out ++ splitL 47 (s.drop at_)
  no : ∀ j (hj : j < s.length), at_ ≤ j → j < k → s[j] ≠ 47
  len : out.length ≤ at_
theorem SplAt.start (s : Str) : SplAt s [] 0 0 := ⟨Nat.le_refl _, by simp, fun j _ h1 h2 => by omega, by simp⟩
theorem SplAt.next {s : Str} {out : List Str} {a k : Nat} (h : SplAt s out a k) (hk : k < s.length) (hs : s[k] ≠ 47) : SplAt s out a (k + 1) :=
  ⟨Nat.le_succ_of_le h.le, h.cut, fun j hj h1 h2 => by
    rcases Nat.lt_or_eq_of_le (Nat.le_of_lt_succ h2) with h3 | h3
    · exact h.no j hj h1 h3
    · subst h3; exact hs, h.len⟩
theorem no_in {s : Str} {a k : Nat} (hk : k ≤ s.length) (h : ∀ j (hj : j < s.length), a ≤ j → j < k → s[j] ≠ 47) : (47 : UInt8) ∉ (s.take k).drop a := fun hm => by
  obtain ⟨i, hi, e⟩ := List.getElem_of_mem hm
  rw [List.getElem_drop, List.getElem_take] at e
  rw [List.length_drop, List.length_take] at hi
  exact h (a + i) (by omega) (by omega) (by omega) e
theorem SplAt.hit {s : Str} {out : List Str} {a k : Nat} (h : SplAt s out a k) (hk : k < s.length) (hs : s[k] = 47) : SplAt s (out ++ [(s.take k).drop a]) (k + 1) (k + 1) := by
  have hle := h.le
  refine ⟨Nat.le_refl _, ?_, fun j _ h1 h2 => by omega, by rw [List.length_append, List.length_singleton]; have := h.len; omega⟩
  have e : s.drop a = (s.take k).drop a ++ 47 :: s.drop (k + 1) := by
    have e1 : s = s.take k ++ 47 :: s.drop (k + 1) := by rw [← hs, List.getElem_cons_drop, List.take_append_drop]
    conv => lhs; rw [e1]
    rw [List.drop_append_of_le_length (by rw [List.length_take]; omega)]
  rw [h.cut, e, splitL_cut (no_in (by omega) h.no), List.append_assoc]
  rfl
theorem SplAt.end_ {s : Str} {out : List Str} {a : Nat} (h : SplAt s out a s.length) : splitL 47 s = out ++ [s.drop a] := by
  have e : s.drop a = (s.take s.length).drop a := by rw [List.take_length]
  rw [h.cut, e, splitL_one (no_in (Nat.le_refl _) h.no)]
end Od
end Go.Proofs.YtgfdcmlmgeoimaaGreat
end

section
/- The walk of matinsref1.Of. (bel2) -/
namespace Go.Proofs.YtgfdcmlmgeoimaaGreat
open Go.RowKit
set_option linter.unusedSimpArgs false

namespace Od
abbrev cutC (r : Int × Str × Str × Bool) : Value := .agg #[.int .i64 r.1, sv r.2.1, sv r.2.2.1, .bool r.2.2.2]
theorem end_add (k : Nat) : ((⟨#[46]⟩ : ByteArray) ++ ⟨(sufS k).toArray⟩) = ⟨(endS k).toArray⟩ := by
  apply ByteArray.ext
  simp [endS]
theorem str_add (a b : Str) : ((⟨a.toArray⟩ : ByteArray) ++ ⟨b.toArray⟩) = ⟨(a ++ b).toArray⟩ := by
  apply ByteArray.ext
  simp
/-- The cells of what Of makes. -/
structure OfAt (w0 w : World) (k : Int) (p i : Str) (a : Bool) : Prop where
  lt : w0.heap.size + 1 < w.heap.size
  c0 : w.cell? ⟨w0.heap.size + 1, 0, none⟩ = some (.int .i64 k)
  c1 : w.cell? ⟨w0.heap.size + 1, 1, none⟩ = some (sv p)
  c2 : w.cell? ⟨w0.heap.size + 1, 2, none⟩ = some (sv i)
  c3 : w.cell? ⟨w0.heap.size + 1, 3, none⟩ = some (.bool a)
  r0 : w.cell? ⟨w0.heap.size, 0, none⟩ = some (.int .i64 0)
  r1 : w.cell? ⟨w0.heap.size, 1, none⟩ = some (sv [])
  r2 : w.cell? ⟨w0.heap.size, 2, none⟩ = some (sv [])
  r3 : w.cell? ⟨w0.heap.size, 3, none⟩ = some (.bool false)
  f0 : w.frozen? ⟨w0.heap.size + 1, 0, none⟩ = false
  f1 : w.frozen? ⟨w0.heap.size + 1, 1, none⟩ = false
  f2 : w.frozen? ⟨w0.heap.size + 1, 2, none⟩ = false
  f3 : w.frozen? ⟨w0.heap.size + 1, 3, none⟩ = false
  g0 : w.frozen? ⟨w0.heap.size, 0, none⟩ = false
  g1 : w.frozen? ⟨w0.heap.size, 1, none⟩ = false
  g2 : w.frozen? ⟨w0.heap.size, 2, none⟩ = false
  g3 : w.frozen? ⟨w0.heap.size, 3, none⟩ = false
  bel : Below w0.heap.size w0 w
theorem OfAt.set0 {w0 w : World} {k : Int} {p i : Str} {a : Bool} (h : OfAt w0 w k p i a) (k' : Int) : OfAt w0 (w.setCell ⟨w0.heap.size + 1, 0, none⟩ (.int .i64 k')) k' p i a where
  lt := by rw [World.size_setCell]; exact h.lt
  c0 := World.cell?_setCell_same _ _ _ h.c0
  c1 := (World.cell?_setCell_other _ _ _ _ (by simp)).trans h.c1
  c2 := (World.cell?_setCell_other _ _ _ _ (by simp)).trans h.c2
  c3 := (World.cell?_setCell_other _ _ _ _ (by simp)).trans h.c3
  r0 := (World.cell?_setCell_other _ _ _ _ (by simp)).trans h.r0
  r1 := (World.cell?_setCell_other _ _ _ _ (by simp)).trans h.r1
  r2 := (World.cell?_setCell_other _ _ _ _ (by simp)).trans h.r2
  r3 := (World.cell?_setCell_other _ _ _ _ (by simp)).trans h.r3
  f0 := by rw [World.frozen?_setCell]; exact h.f0
  f1 := by rw [World.frozen?_setCell]; exact h.f1
  f2 := by rw [World.frozen?_setCell]; exact h.f2
  f3 := by rw [World.frozen?_setCell]; exact h.f3
  g0 := by rw [World.frozen?_setCell]; exact h.g0
  g1 := by rw [World.frozen?_setCell]; exact h.g1
  g2 := by rw [World.frozen?_setCell]; exact h.g2
  g3 := by rw [World.frozen?_setCell]; exact h.g3
  bel := h.bel.setCell (by simp) _
theorem OfAt.set1 {w0 w : World} {k : Int} {p i : Str} {a : Bool} (h : OfAt w0 w k p i a) (p' : Str) : OfAt w0 (w.setCell ⟨w0.heap.size + 1, 1, none⟩ (sv p')) k p' i a where
  lt := by rw [World.size_setCell]; exact h.lt
  c0 := (World.cell?_setCell_other _ _ _ _ (by simp)).trans h.c0
  c1 := World.cell?_setCell_same _ _ _ h.c1
  c2 := (World.cell?_setCell_other _ _ _ _ (by simp)).trans h.c2
  c3 := (World.cell?_setCell_other _ _ _ _ (by simp)).trans h.c3
  r0 := (World.cell?_setCell_other _ _ _ _ (by simp)).trans h.r0
  r1 := (World.cell?_setCell_other _ _ _ _ (by simp)).trans h.r1
  r2 := (World.cell?_setCell_other _ _ _ _ (by simp)).trans h.r2
  r3 := (World.cell?_setCell_other _ _ _ _ (by simp)).trans h.r3
  f0 := by rw [World.frozen?_setCell]; exact h.f0
  f1 := by rw [World.frozen?_setCell]; exact h.f1
  f2 := by rw [World.frozen?_setCell]; exact h.f2
  f3 := by rw [World.frozen?_setCell]; exact h.f3
  g0 := by rw [World.frozen?_setCell]; exact h.g0
  g1 := by rw [World.frozen?_setCell]; exact h.g1
  g2 := by rw [World.frozen?_setCell]; exact h.g2
  g3 := by rw [World.frozen?_setCell]; exact h.g3
  bel := h.bel.setCell (by simp) _
theorem OfAt.set2 {w0 w : World} {k : Int} {p i : Str} {a : Bool} (h : OfAt w0 w k p i a) (i' : Str) : OfAt w0 (w.setCell ⟨w0.heap.size + 1, 2, none⟩ (sv i')) k p i' a where
  lt := by rw [World.size_setCell]; exact h.lt
  c0 := (World.cell?_setCell_other _ _ _ _ (by simp)).trans h.c0
  c1 := (World.cell?_setCell_other _ _ _ _ (by simp)).trans h.c1
  c2 := World.cell?_setCell_same _ _ _ h.c2
  c3 := (World.cell?_setCell_other _ _ _ _ (by simp)).trans h.c3
  r0 := (World.cell?_setCell_other _ _ _ _ (by simp)).trans h.r0
  r1 := (World.cell?_setCell_other _ _ _ _ (by simp)).trans h.r1
  r2 := (World.cell?_setCell_other _ _ _ _ (by simp)).trans h.r2
  r3 := (World.cell?_setCell_other _ _ _ _ (by simp)).trans h.r3
  f0 := by rw [World.frozen?_setCell]; exact h.f0
  f1 := by rw [World.frozen?_setCell]; exact h.f1
  f2 := by rw [World.frozen?_setCell]; exact h.f2
  f3 := by rw [World.frozen?_setCell]; exact h.f3
  g0 := by rw [World.frozen?_setCell]; exact h.g0
  g1 := by rw [World.frozen?_setCell]; exact h.g1
  g2 := by rw [World.frozen?_setCell]; exact h.g2
  g3 := by rw [World.frozen?_setCell]; exact h.g3
  bel := h.bel.setCell (by simp) _
theorem OfAt.set3 {w0 w : World} {k : Int} {p i : Str} {a : Bool} (h : OfAt w0 w k p i a) (a' : Bool) : OfAt w0 (w.setCell ⟨w0.heap.size + 1, 3, none⟩ (.bool a')) k p i a' where
  lt := by rw [World.size_setCell]; exact h.lt
  c0 := (World.cell?_setCell_other _ _ _ _ (by simp)).trans h.c0
  c1 := (World.cell?_setCell_other _ _ _ _ (by simp)).trans h.c1
  c2 := (World.cell?_setCell_other _ _ _ _ (by simp)).trans h.c2
  c3 := World.cell?_setCell_same _ _ _ h.c3
  r0 := (World.cell?_setCell_other _ _ _ _ (by simp)).trans h.r0
  r1 := (World.cell?_setCell_other _ _ _ _ (by simp)).trans h.r1
  r2 := (World.cell?_setCell_other _ _ _ _ (by simp)).trans h.r2
  r3 := (World.cell?_setCell_other _ _ _ _ (by simp)).trans h.r3
  f0 := by rw [World.frozen?_setCell]; exact h.f0
  f1 := by rw [World.frozen?_setCell]; exact h.f1
  f2 := by rw [World.frozen?_setCell]; exact h.f2
  f3 := by rw [World.frozen?_setCell]; exact h.f3
  g0 := by rw [World.frozen?_setCell]; exact h.g0
  g1 := by rw [World.frozen?_setCell]; exact h.g1
  g2 := by rw [World.frozen?_setCell]; exact h.g2
  g3 := by rw [World.frozen?_setCell]; exact h.g3
  bel := h.bel.setCell (by simp) _
theorem OfAt.drew {w0 w : World} {k : Int} {p i : Str} {a : Bool} (h : OfAt w0 w k p i a) : OfAt w0 w.drew k p i a := ⟨h.lt, h.c0, h.c1, h.c2, h.c3, h.r0, h.r1, h.r2, h.r3, h.f0, h.f1, h.f2, h.f3, h.g0, h.g1, h.g2, h.g3, h.bel.drew⟩
theorem atCut_none {s : Str} (h : ∀ j (hj : j < s.length), s[j] ≠ 64) : Lib.indexByte s 64 = -1 := by
  rcases (show Lib.indexByte s 64 < 0 ∨ 0 ≤ Lib.indexByte s 64 by omega) with h1 | h1
  · have := Lib.indexByte_ge s 64; omega
  · obtain ⟨i, hi⟩ : ∃ i : Nat, Lib.indexByte s 64 = i := ⟨(Lib.indexByte s 64).toNat, by omega⟩
    have h2 := (Lib.indexByte_some hi).1
    obtain ⟨h3, h4⟩ := List.getElem?_eq_some_iff.1 h2
    exact absurd h4 (h i h3)
theorem atCut_first {s : Str} {i : Nat} (hi : i < s.length) (h0 : s[i] = 64) (h : ∀ j (hj : j < s.length), j < i → s[j] ≠ 64) : Lib.indexByte s 64 = i := by
  have hge := Lib.indexByte_ge s 64
  rcases (show Lib.indexByte s 64 < 0 ∨ 0 ≤ Lib.indexByte s 64 by omega) with h1 | h1
  · have h2 : Lib.indexByte s 64 = -1 := by omega
    exact absurd (by rw [List.getElem?_eq_getElem hi, h0]) (Lib.indexByte_none h2 i)
  · obtain ⟨m, hm⟩ : ∃ m : Nat, Lib.indexByte s 64 = m := ⟨(Lib.indexByte s 64).toNat, by omega⟩
    obtain ⟨h2, h3⟩ := Lib.indexByte_some hm
    obtain ⟨h4, h5⟩ := List.getElem?_eq_some_iff.1 h2
    rcases Nat.lt_trichotomy m i with h6 | h6 | h6
    · exact absurd h5 (h m h4 h6)
    · rw [hm, h6]
    · exact absurd (by rw [List.getElem?_eq_getElem hi, h0]) (h3 i h6)
theorem pk_len (s : Str) : ∀ k, (pk s k).2.length ≤ s.length
  | 0 => by simp [pk]
  | k + 1 => by
    unfold pk
    split
    · simp
    · exact pk_len s k
theorem endS_len (k : Nat) : (endS k).length ≤ 8 := by
  unfold endS sufS
  split
  · decide
  · split
    · decide
    · split
      · decide
      · split <;> decide
end Od
end Go.Proofs.YtgfdcmlmgeoimaaGreat
end

section
/- The walk of matinsref1.Of. (bel2) -/
namespace Go.Proofs.YtgfdcmlmgeoimaaGreat
open Go.RowKit
set_option linter.unusedSimpArgs false

namespace Od
theorem exit_named {Q : Exit → Act → World → Prop} {e : Exit} {a : Act} {w : World} (h : ∀ W, W = w → Q e a W) : Q e a w := h w rfl
set_option maxRecDepth 100000 in
set_option maxHeartbeats 16000000 in
theorem Of_any (s : Str) (w : World) (hl : s.length ≤ 140737488355328) : Calls Tryz.prog 32 #[sv s] w fun e w' => e = .returned (cutC (ofS s)) ∧ Below w.heap.size w w' := by
  by_cases h60 : (60 : Int) < (s.length : Int)
  · have d60 : decide ((60 : Int) < (s.length : Int)) = true := by simpa using h60
    have HO := Lib.hid (show ofS s = (0, [], [], false) by unfold ofS; rw [if_pos (.inl (by omega))])
    go_enter Tryz.func32, Tryz.ntmps32
    go_wp2_with fail
    refine bodyPost_ret (v := cutC (0, [], [], false)) (by simp only [results, Tryz.results32]; go_simp) rfl ⟨by rw [HO.out], (by repeat (first | exact Below.refl _ _ | assumption | refine Below.alloc ?_ (by first | omega | (simp <;> omega)) _ | refine Below.setCell ?_ (by first | omega | (simp <;> omega)) _ | refine Below.drew ?_))⟩
  · have d60 : decide ((60 : Int) < (s.length : Int)) = false := by simpa using h60
    have H60 := Lib.hid h60
    clear h60
    go_enter Tryz.func32, Tryz.ntmps32
    go_wp2_with fail
    go_loopw [5, 4] (fun i rst wr => ∃ k : Nat, k ≤ 4 ∧ i = .int .i64 ((k : Int) + 1) ∧ rst = sv (pk s k).2 ∧ OfAt w wr (pk s k).1 [] [] false) (fun i _ _ => 5 - (intOf i).toNat)
    case atStart => exact ⟨0, by omega, rfl, rfl, show OfAt w _ 0 [] [] false from ⟨by simp, by go_simp, by go_simp, by go_simp, by go_simp, by go_simp, by go_simp, by go_simp, by go_simp, by go_simp, by go_simp, by go_simp, by go_simp, by go_simp, by go_simp, by go_simp, by go_simp, (by repeat (first | exact Below.refl _ _ | assumption | refine Below.alloc ?_ (by first | omega | (simp <;> omega)) _ | refine Below.setCell ?_ (by first | omega | (simp <;> omega)) _ | refine Below.drew ?_))⟩⟩
    case round =>
      obtain ⟨k, hk, rfl, rfl, ho⟩ := hrel
      have HA := Lib.hid ho
      clear ho
      by_cases hlt : k < 4
      · have dk : decide ((k : Int) + 1 ≤ 4) = true := by simp; omega
        have he := end_add (k + 1)
        have hek : ((k + 1 : Nat) : Int) = (k : Int) + 1 := by omega
        rw [hek] at he
        have hel := endS_len (k + 1)
        have hsl : (endS (k + 1)).length = 1 + (sufS ((k : Int) + 1)).length := by rw [← hek]; simp [endS]; omega
        have hns : ¬ 9223372036854775807 < 1 + (sufS ((k : Int) + 1)).length := by omega
        have hpk : pk s (k + 1) = if fitsB s (k + 1) = true then (((k + 1 : Nat) : Int), s.take (s.length - (endS (k + 1)).length)) else pk s k := rfl
        have hex := extract_str s (s.length - (endS (k + 1)).length) s.length
        rw [List.take_length] at hex
        clear hsl
        have hfit : fitsB s (k + 1) = (decide ((endS (k + 1)).length < s.length) && s.drop (s.length - (endS (k + 1)).length) == endS (k + 1)) := rfl
        by_cases hle : (endS (k + 1)).length < s.length
        · cases hse : (s.drop (s.length - (endS (k + 1)).length) == endS (k + 1))
          · have HPK := Lib.hid (hpk.trans (if_neg (by rw [hfit]; simp [hse])))
            clear hpk hfit
            obtain ⟨lt, c0, c1, c2, c3, r0, r1, r2, r3, f0, f1, f2, f3, g0, g1, g2, g3, bel⟩ := HA.out
            go_wp2_with fail
            refine (Suffix1_any ((k : Int) + 1) wr (by omega) (by omega)).mono ?_
            rintro e w5 ⟨rfl, rfl⟩
            go_wp2_with fail
            go_roundw
            case rel => exact ⟨k + 1, by omega, by go_num, by rw [HPK.out], by rw [HPK.out]; exact HA.out⟩
            case measure => simp [intOf]; omega
          · have HPK := Lib.hid (hpk.trans (if_pos (by rw [hfit]; simp [hse, hle])))
            have hex2 := extract_str s 0 (s.length - (endS (k + 1)).length)
            rw [List.drop_zero] at hex2
            clear hpk hfit
            obtain ⟨lt, c0, c1, c2, c3, r0, r1, r2, r3, f0, f1, f2, f3, g0, g1, g2, g3, bel⟩ := HA.out
            go_wp2_with fail
            refine (Suffix1_any ((k : Int) + 1) wr (by omega) (by omega)).mono ?_
            rintro e w5 ⟨rfl, rfl⟩
            go_wp2_with fail
            go_region
            go_wp2_with fail
            go_roundw
            case rel => exact ⟨k + 1, by omega, by go_num, by rw [HPK.out], by rw [HPK.out]; exact (HA.out.set0 _).drew⟩
            case measure => simp [intOf]; omega
        · have HPK := Lib.hid (hpk.trans (if_neg (by rw [hfit]; simp [hle])))
          clear hpk hfit
          obtain ⟨lt, c0, c1, c2, c3, r0, r1, r2, r3, f0, f1, f2, f3, g0, g1, g2, g3, bel⟩ := HA.out
          go_wp2_with fail
          refine (Suffix1_any ((k : Int) + 1) wr (by omega) (by omega)).mono ?_
          rintro e w5 ⟨rfl, rfl⟩
          go_wp2_with fail
          go_roundw
          case rel => exact ⟨k + 1, by omega, by go_num, by rw [HPK.out], by rw [HPK.out]; exact HA.out⟩
          case measure => simp [intOf]; omega
      · have hk4 : k = 4 := by omega
        subst hk4
        have hpl := pk_len s 4
        have hof : (pk s 4).1 = 0 → ofS s = (0, [], [], false) := fun h => by unfold ofS; rw [if_pos (.inr (.inl h))]
        have hof2 : (pk s 4).1 ≠ 0 → ∀ pre ins at_, Lib.indexByte (pk s 4).2 64 = at_ → atCut (pk s 4).2 = (pre, ins) → (pre = [] → ofS s = (0, [], [], false)) ∧ (allB nameB (pre ++ ins) = false → ofS s = (0, [], [], false)) ∧ (pre ≠ [] → allB nameB (pre ++ ins) = true → ofS s = ((pk s 4).1, pre, ins, decide (0 ≤ at_))) := by
          intro h0 pre ins at_ hi hc
          have h60 := H60.out
          refine ⟨fun h => ?_, fun h => ?_, fun h h' => ?_⟩
          · unfold ofS; rw [if_pos (.inr (.inr (.inl (by rw [hc]; exact h))))]
          · unfold ofS; rw [if_pos (.inr (.inr (.inr (by rw [hc]; exact h))))]
          · unfold ofS; rw [hc, hi, if_neg]
            rintro (g | g | g | g)
            · omega
            · exact h0 g
            · exact h g
            · rw [h'] at g; cases g
        generalize hq : pk s 4 = q at *
        obtain ⟨kd, rest⟩ := q
        simp only at hof hof2 hpl HA
        clear hq
        by_cases hkd : kd = 0
        · have HO := Lib.hid (hof hkd)
          clear hof hof2
          obtain ⟨lt, c0, c1, c2, c3, r0, r1, r2, r3, f0, f1, f2, f3, g0, g1, g2, g3, bel⟩ := HA.out
          go_wp2_with fail
          refine bodyPost_ret (v := cutC (0, [], [], false)) (by simp only [results, Tryz.results32]; go_simp) rfl ⟨by rw [HO.out], (by repeat (first | exact Below.refl _ _ | assumption | refine Below.alloc ?_ (by first | omega | (simp <;> omega)) _ | refine Below.setCell ?_ (by first | omega | (simp <;> omega)) _ | refine Below.drew ?_))⟩
        · have HF2 := Lib.hid (hof2 hkd)
          clear hof hof2
          obtain ⟨lt, c0, c1, c2, c3, r0, r1, r2, r3, f0, f1, f2, f3, g0, g1, g2, g3, bel⟩ := HA.out
          go_wp2_with fail
          obtain ⟨w9, hw9⟩ : ∃ w9, w9 = wr.setCell ⟨w.heap.size + 1, 1, none⟩ (sv rest) := ⟨_, rfl⟩
          have ha9 := HA.out.set1 rest
          rw [← hw9] at ha9
          rw [← hw9]
          clear lt c0 c1 c2 c3 r0 r1 r2 r3 f0 f1 f2 f3 g0 g1 g2 g3 bel
          have HA9 := Lib.hid ha9
          clear ha9 hw9 HA
          go_loop [7] (fun i => ∃ k : Nat, k ≤ rest.length ∧ i = .int .i64 k ∧ Hid (∀ j (hj : j < rest.length), j < k → rest[j] ≠ 64)) (fun i => rest.length - (intOf i).toNat)
          case atStart => exact ⟨0, Nat.zero_le _, rfl, fun j _ h => absurd h (by omega)⟩
          case round =>
            obtain ⟨k2, hk2, rfl, hall2⟩ := hrel
            by_cases hlt2 : k2 < rest.length
            · have hex := extract_str rest 0 k2
              have hex2 := extract_str rest (k2 + 1) rest.length
              rw [List.drop_zero] at hex
              rw [List.take_length] at hex2
              by_cases h64 : rest[k2] = 64
              · have hidx := atCut_first hlt2 h64 hall2.out
                have hcut : atCut rest = (rest.take k2, rest.drop (k2 + 1)) := by
                  unfold atCut; rw [hidx, if_pos (by omega)]; simp
                have hof := HF2.out _ _ _ hidx hcut
                rw [show decide ((0 : Int) ≤ (k2 : Int)) = true from by simp] at hof
                have hpl : (rest.take k2).length + (rest.drop (k2 + 1)).length ≤ 140737488355328 := by simp; omega
                have hlt2' := hlt2
                generalize rest.take k2 = pre at *
                generalize rest.drop (k2 + 1) = ins at *
                have hb : ((((({ data := rest.toArray } : ByteArray)[k2]'hlt2).toNat : Nat) : Int) == 64) = true := by show ((rest[k2].toNat : Int) == 64) = true; rw [h64]; rfl
                obtain ⟨lt, c0, c1, c2, c3, r0, r1, r2, r3, f0, f1, f2, f3, g0, g1, g2, g3, bel⟩ := HA9.out
                go_wp2_with fail
                go_region
                refine exit_named ?_
                intro W hW
                have HA := Lib.hid (show OfAt w W kd pre ins true by rw [hW]; exact (((HA9.out.set3 true).set1 pre).set2 ins).drew)
                clear lt c0 c1 c2 c3 r0 r1 r2 r3 f0 f1 f2 f3 g0 g1 g2 g3 bel
                clear hW
                obtain ⟨L, hL⟩ : ∃ L, L = pre ++ ins := ⟨_, rfl⟩
                have hsum := str_add pre ins
                rw [← hL] at hof hsum
                have hLn : L.length = pre.length + ins.length := by rw [hL]; simp
                clear hL
                have HF := Lib.hid hof
                have HP := Lib.hid hpl
                clear hof
                cases hp0 : (pre == ([] : Str))
                · have hpp : ¬ pre = [] := by simpa using hp0
                  have HP0 := Lib.hid hpp
                  have he0 : (pre).isEmpty = false := by simp [hpp]
                  have hnb : ¬ 9223372036854775807 < pre.length + ins.length := by omega
                  clear hpp
                  obtain ⟨lt, c0, c1, c2, c3, r0, r1, r2, r3, f0, f1, f2, f3, g0, g1, g2, g3, bel⟩ := HA.out
                  go_wp2_with fail
                  go_loop [9] (fun i => ∃ k : Nat, k ≤ L.length ∧ i = .int .i64 k ∧ Hid (allB nameB (L.take k) = true)) (fun i => L.length - (intOf i).toNat)
                  case atStart => exact ⟨0, Nat.zero_le _, rfl, by simp [Hid, allB]⟩
                  case round =>
                    obtain ⟨k3, hk3, rfl, hall⟩ := hrel
                    by_cases hlt3 : k3 < L.length
                    · have h1 : allB nameB (L.take (k3 + 1)) = (allB nameB (L.take k3) && nameB (L[k3].toNat : Int)) := by
                        unfold allB; rw [List.take_succ_eq_append_getElem hlt3, List.all_append]; simp
                      have h2 : nameB (L[k3].toNat : Int) = false → allB nameB L = false := fun h => by
                        unfold allB; rw [List.all_eq_false]; exact ⟨L[k3], List.getElem_mem hlt3, by simp [h]⟩
                      have H1 := Lib.hid h1
                      have H2 := Lib.hid h2
                      clear h1 h2
                      go_wp2_with fail
                      refine (nameByte_any (L[k3].toNat : Int) _).mono ?_
                      rintro e v ⟨rfl, rfl⟩
                      cases hpc : nameB (L[k3].toNat : Int)
                      · have H3 := Lib.hid (H2.out hpc)
                        go_wp2_with fail
                        refine bodyPost_ret (v := cutC (0, [], [], false)) (by simp only [results, Tryz.results32]; go_simp) rfl ⟨by rw [HF.out.2.1 H3.out], (by repeat (first | exact Below.refl _ _ | assumption | refine Below.alloc ?_ (by first | omega | (simp <;> omega)) _ | refine Below.setCell ?_ (by first | omega | (simp <;> omega)) _ | refine Below.drew ?_))⟩
                      · have H3 := Lib.hid hpc
                        go_wp2_with fail
                        go_round
                        case rel => exact ⟨k3 + 1, by omega, by go_num, by show _ = true; rw [H1.out, hall.out, H3.out]; rfl⟩
                        case measure => simp [intOf]; omega
                    · have hkn : k3 = L.length := by omega
                      subst hkn
                      have h := hall.out
                      rw [List.take_length] at h
                      have H4 := Lib.hid h
                      clear h
                      go_wp2_with fail
                      refine bodyPost_ret (v := cutC (kd, pre, ins, true)) (by simp only [results, Tryz.results32]; go_simp) rfl ⟨by rw [HF.out.2.2 HP0.out H4.out], (by repeat (first | exact Below.refl _ _ | assumption | refine Below.alloc ?_ (by first | omega | (simp <;> omega)) _ | refine Below.setCell ?_ (by first | omega | (simp <;> omega)) _ | refine Below.drew ?_))⟩
                · have hpp : pre = [] := by simpa using hp0
                  have HP0 := Lib.hid hpp
                  have he0 : (pre).isEmpty = true := by simp [hpp]
                  clear hpp
                  obtain ⟨lt, c0, c1, c2, c3, r0, r1, r2, r3, f0, f1, f2, f3, g0, g1, g2, g3, bel⟩ := HA.out
                  go_wp2_with fail
                  refine bodyPost_ret (v := cutC (0, [], [], false)) (by simp only [results, Tryz.results32]; go_simp) rfl ⟨by rw [HF.out.1 HP0.out], (by repeat (first | exact Below.refl _ _ | assumption | refine Below.alloc ?_ (by first | omega | (simp <;> omega)) _ | refine Below.setCell ?_ (by first | omega | (simp <;> omega)) _ | refine Below.drew ?_))⟩
              · have hb : ((((({ data := rest.toArray } : ByteArray)[k2]'hlt2).toNat : Nat) : Int) == 64) = false := by
                  show ((rest[k2].toNat : Int) == 64) = false
                  rw [beq_eq_false_iff_ne]; intro h; exact h64 (UInt8.toNat_inj.1 (by simp; omega))
                have H64 := Lib.hid h64
                clear h64
                go_wp2_with fail
                go_round
                case rel =>
                  refine ⟨k2 + 1, by omega, by go_num, fun j h1 h2 => ?_⟩
                  by_cases e : j = k2
                  · subst e; exact H64.out
                  · exact hall2.out j h1 (by omega)
                case measure => simp [intOf]; omega
            · have hcut : atCut rest = (rest, []) := by
                unfold atCut; rw [atCut_none (fun j hj => hall2.out j hj (by omega)), if_neg (by omega)]
              have hof := HF2.out rest [] _ (atCut_none (fun j hj => hall2.out j hj (by omega))) hcut
              have HA := HA9
              rw [List.append_nil] at hof
              have hpl : rest.length ≤ 140737488355328 := by omega
              have HF := Lib.hid hof
              have HP := Lib.hid hpl
              clear hof
              cases hp0 : (rest == ([] : Str))
              · have hpp : ¬ rest = [] := by simpa using hp0
                have HP0 := Lib.hid hpp
                have he0 : (rest).isEmpty = false := by simp [hpp]
                have hnb : ¬ 9223372036854775807 < rest.length := by omega
                clear hpp
                obtain ⟨lt, c0, c1, c2, c3, r0, r1, r2, r3, f0, f1, f2, f3, g0, g1, g2, g3, bel⟩ := HA.out
                go_wp2_with fail
                go_loop [9] (fun i => ∃ k : Nat, k ≤ rest.length ∧ i = .int .i64 k ∧ Hid (allB nameB (rest.take k) = true)) (fun i => rest.length - (intOf i).toNat)
                case atStart => exact ⟨0, Nat.zero_le _, rfl, by simp [Hid, allB]⟩
                case round =>
                  obtain ⟨k3, hk3, rfl, hall⟩ := hrel
                  by_cases hlt3 : k3 < rest.length
                  · have h1 : allB nameB (rest.take (k3 + 1)) = (allB nameB (rest.take k3) && nameB (rest[k3].toNat : Int)) := by
                      unfold allB; rw [List.take_succ_eq_append_getElem hlt3, List.all_append]; simp
                    have h2 : nameB (rest[k3].toNat : Int) = false → allB nameB rest = false := fun h => by
                      unfold allB; rw [List.all_eq_false]; exact ⟨rest[k3], List.getElem_mem hlt3, by simp [h]⟩
                    have H1 := Lib.hid h1
                    have H2 := Lib.hid h2
                    clear h1 h2
                    go_wp2_with fail
                    refine (nameByte_any (rest[k3].toNat : Int) _).mono ?_
                    rintro e v ⟨rfl, rfl⟩
                    cases hpc : nameB (rest[k3].toNat : Int)
                    · have H3 := Lib.hid (H2.out hpc)
                      go_wp2_with fail
                      refine bodyPost_ret (v := cutC (0, [], [], false)) (by simp only [results, Tryz.results32]; go_simp) rfl ⟨by rw [HF.out.2.1 H3.out], (by repeat (first | exact Below.refl _ _ | assumption | refine Below.alloc ?_ (by first | omega | (simp <;> omega)) _ | refine Below.setCell ?_ (by first | omega | (simp <;> omega)) _ | refine Below.drew ?_))⟩
                    · have H3 := Lib.hid hpc
                      go_wp2_with fail
                      go_round
                      case rel => exact ⟨k3 + 1, by omega, by go_num, by show _ = true; rw [H1.out, hall.out, H3.out]; rfl⟩
                      case measure => simp [intOf]; omega
                  · have hkn : k3 = rest.length := by omega
                    subst hkn
                    have h := hall.out
                    rw [List.take_length] at h
                    have H4 := Lib.hid h
                    clear h
                    go_wp2_with fail
                    refine bodyPost_ret (v := cutC (kd, rest, [], (decide ((0 : Int) ≤ -1)))) (by simp only [results, Tryz.results32]; go_simp) rfl ⟨by rw [HF.out.2.2 HP0.out H4.out], (by repeat (first | exact Below.refl _ _ | assumption | refine Below.alloc ?_ (by first | omega | (simp <;> omega)) _ | refine Below.setCell ?_ (by first | omega | (simp <;> omega)) _ | refine Below.drew ?_))⟩
              · have hpp : rest = [] := by simpa using hp0
                have HP0 := Lib.hid hpp
                have he0 : (rest).isEmpty = true := by simp [hpp]
                clear hpp
                obtain ⟨lt, c0, c1, c2, c3, r0, r1, r2, r3, f0, f1, f2, f3, g0, g1, g2, g3, bel⟩ := HA.out
                go_wp2_with fail
                refine bodyPost_ret (v := cutC (0, [], [], false)) (by simp only [results, Tryz.results32]; go_simp) rfl ⟨by rw [HF.out.1 HP0.out], (by repeat (first | exact Below.refl _ _ | assumption | refine Below.alloc ?_ (by first | omega | (simp <;> omega)) _ | refine Below.setCell ?_ (by first | omega | (simp <;> omega)) _ | refine Below.drew ?_))⟩
end Od
end Go.Proofs.YtgfdcmlmgeoimaaGreat
end

section
/- Names as package name takes them apart and makes them: Parts, made, Bare, Template, Instance. (bel2) -/
namespace Go.Proofs.YtgfdcmlmgeoimaaGreat
open Go.RowKit
set_option linter.unusedSimpArgs false
namespace Od
theorem nil_beq (s : Str) : (s == ([] : Str)) = s.isEmpty := by cases s <;> rfl
def partsV (s : Str) : Value := .tuple #[sv (ofS s).2.1, sv (ofS s).2.2.1, .bool (ofS s).2.2.2]
set_option maxHeartbeats 2000000 in
theorem Parts_any (s : Str) (w : World) (hl : s.length ≤ 140737488355328) : Calls Tryz.prog 26 #[sv s] w fun e w' => e = .returned (partsV s) ∧ Below w.heap.size w w' := by
  by_cases hk : kindS s = 0
  · have HO := Lib.hid (show partsV s = .tuple #[sv [], sv [], .bool false] by unfold partsV; rw [ofS_zero hk])
    have hb : (kindS s != 0) = false := by simp [hk]
    clear hk
    go_enter Tryz.func26, Tryz.ntmps26
    go_wp2_with fail
    refine (May_any s w hl).mono ?_
    rintro e w1 ⟨rfl, h1⟩
    rw [hb]
    go_wp2_with fail
    go_ret3
    exact ⟨HO.out ▸ rfl, h1⟩
  · have hat := (atCut_eq (nameCut s).1).2
    have HO := Lib.hid (show partsV s = cutV (nameCut s).1 by unfold partsV cutV; rw [ofS_eq hk])
    have hb : (kindS s != 0) = true := by simpa using hk
    have hcl := (nameCut_le s).1
    clear hk hat
    go_enter Tryz.func26, Tryz.ntmps26
    go_wp2_with fail
    refine (May_any s w hl).mono ?_
    rintro e w1 ⟨rfl, h1⟩
    have H1 := Lib.hid h1
    clear h1
    rw [hb]
    go_wp2_with fail
    refine (cutname_any s w1 hl).mono ?_
    rintro e w2 ⟨rfl, h2⟩
    have H2 := Lib.hid (lift H1.out h2)
    clear h2
    go_wp2_with fail
    refine (Cut_at (nameCut s).1 w2 (by omega)).mono ?_
    rintro e w3 ⟨rfl, h3⟩
    have H3 := Lib.hid (lift H2.out h3)
    clear h3
    rw [← HO.out]
    unfold partsV
    go_wp2_with fail
    go_ret3
    exact ⟨rfl, H3.out⟩
theorem ofS_le (s : Str) : (ofS s).2.1.length ≤ 60 ∧ (ofS s).2.2.1.length ≤ 60 := by
  by_cases hk : kindS s = 0
  · rw [ofS_zero hk]; exact ⟨by simp, by simp⟩
  · have h1 := (kind_parts hk).1
    have h2 := (nameCut_le s).1
    have h3 := atCut_le (nameCut s).1
    rw [ofS_eq hk]
    simp only
    omega
set_option maxHeartbeats 2000000 in
theorem made_any (p i : Str) (k : Int) (w : World) (hp : p.length ≤ 140737488355328) (hi : i.length ≤ 140737488355328) : Calls Tryz.prog 54 #[sv p, sv i, .int .i64 k] w fun e w' => e = .returned (sv (makeS (k, p, i, true))) ∧ w' = w := by
  have hl : (sufS k).length ≤ 7 := by
    unfold sufS
    split
    · decide
    · split
      · decide
      · split
        · decide
        · split <;> decide
  have hm : makeS (k, p, i, true) = (((p ++ [64]) ++ i) ++ [46]) ++ sufS k := by unfold makeS; simp
  obtain ⟨A1, hA1⟩ : ∃ A, A = p ++ [64] := ⟨_, rfl⟩
  obtain ⟨A2, hA2⟩ : ∃ A, A = A1 ++ i := ⟨_, rfl⟩
  obtain ⟨A3, hA3⟩ : ∃ A, A = A2 ++ [46] := ⟨_, rfl⟩
  obtain ⟨A4, hA4⟩ : ∃ A, A = A3 ++ sufS k := ⟨_, rfl⟩
  have e1 : ((⟨p.toArray⟩ : ByteArray) ++ ⟨#[64]⟩) = ⟨A1.toArray⟩ := by rw [hA1]; exact str_add p [64]
  have e2 : ((⟨A1.toArray⟩ : ByteArray) ++ ⟨i.toArray⟩) = ⟨A2.toArray⟩ := by rw [hA2]; exact str_add A1 i
  have e3 : ((⟨A2.toArray⟩ : ByteArray) ++ ⟨#[46]⟩) = ⟨A3.toArray⟩ := by rw [hA3]; exact str_add A2 [46]
  have e4 : ((⟨A3.toArray⟩ : ByteArray) ++ ⟨(sufS k).toArray⟩) = ⟨A4.toArray⟩ := by rw [hA4]; exact str_add A3 (sufS k)
  have l1 : A1.length = p.length + 1 := by rw [hA1]; simp
  have l2 : A2.length = A1.length + i.length := by rw [hA2]; simp
  have l3 : A3.length = A2.length + 1 := by rw [hA3]; simp
  have n1 : ¬ 9223372036854775807 < p.length + 1 := by omega
  have n2 : ¬ 9223372036854775807 < A1.length + i.length := by omega
  have n3 : ¬ 9223372036854775807 < A2.length + 1 := by omega
  have n4 : ¬ 9223372036854775807 < A3.length + (sufS k).length := by omega
  have HM := Lib.hid (show sv A4 = sv (makeS (k, p, i, true)) by rw [hm, hA4, hA3, hA2, hA1])
  clear hA1 hA2 hA3 hA4 hm l1 l2 l3
  go_enter Tryz.func54, Tryz.ntmps54
  go_wp2_with fail
  refine (Suffix_any k w).mono ?_
  rintro e w1 ⟨rfl, rfl⟩
  go_wp2_with fail
  go_ret
  exact ⟨HM.out ▸ rfl, rfl⟩
set_option maxHeartbeats 2000000 in
theorem Bare_any (s : Str) (w : World) (hl : s.length ≤ 140737488355328) : Calls Tryz.prog 55 #[sv s] w fun e w' => e = .returned (.bool (tmplS s)) ∧ Below w.heap.size w w' := by
  have HT := Lib.hid (show tmplS s = ((ofS s).2.2.2 && (ofS s).2.2.1 == ([] : Str)) from rfl)
  go_enter Tryz.func55, Tryz.ntmps55
  go_wp2_with fail
  refine (Parts_any s w hl).mono ?_
  rintro e w1 ⟨rfl, h1⟩
  unfold partsV
  generalize (ofS s).2.1 = a at *
  generalize (ofS s).2.2.1 = b at *
  generalize (ofS s).2.2.2 = c at *
  have HB := Lib.hid h1
  clear h1
  cases c
  · skip
    go_wp2_with fail
    go_ret
    exact ⟨ret_bool (by rw [HT.out]; simp [*]), HB.out⟩
  · cases hb : (b == ([] : Str))
    · skip
      go_wp2_with fail
      go_ret
      exact ⟨ret_bool (by rw [HT.out]; simp [*]), HB.out⟩
    · skip
      go_wp2_with fail
      go_ret
      exact ⟨ret_bool (by rw [HT.out]; simp [*]), HB.out⟩
theorem templ_eq (s : Str) : templS s = if (ofS s).2.2.1 = [] then [] else makeS (kindS s, (ofS s).2.1, [], true) := by
  unfold templS
  by_cases hi : (ofS s).2.2.1 = []
  · rw [if_pos hi, if_neg]
    unfold instS
    rw [hi]; simp
  · have hk : kindS s ≠ 0 := fun h0 => hi (by rw [ofS_zero h0])
    obtain ⟨_, _, _, _, _, h5, _⟩ := name_at hk
    have ha : (ofS s).2.2.2 = true := by
      cases ha : (ofS s).2.2.2
      · exact absurd (h5 ha) hi
      · rfl
    rw [if_neg hi, if_pos, ofS_kind]
    unfold instS
    rw [ha]; simpa using hi
set_option maxHeartbeats 2000000 in
theorem Template_any (s : Str) (w : World) (hl : s.length ≤ 140737488355328) : Calls Tryz.prog 46 #[sv s] w fun e w' => e = .returned (sv (templS s)) ∧ Below w.heap.size w w' := by
  have hle := ofS_le s
  by_cases hi : (ofS s).2.2.1 = []
  · have HT := Lib.hid (show sv (templS s) = sv [] by rw [templ_eq, if_pos hi])
    go_enter Tryz.func46, Tryz.ntmps46
    go_wp2_with fail
    refine (Parts_any s w hl).mono ?_
    rintro e w1 ⟨rfl, h1⟩
    unfold partsV
    rw [hi]
    clear hi
    have HB := Lib.hid h1
    clear h1
    go_wp2_with fail
    go_ret
    exact ⟨by rw [HT.out]; rfl, HB.out⟩
  · have HT := Lib.hid (show sv (templS s) = sv (makeS (kindS s, (ofS s).2.1, [], true)) by rw [templ_eq, if_neg hi])
    have hb : ((ofS s).2.2.1 == ([] : Str)) = false := by simpa using hi
    clear hi
    go_enter Tryz.func46, Tryz.ntmps46
    go_wp2_with fail
    refine (Parts_any s w hl).mono ?_
    rintro e w1 ⟨rfl, h1⟩
    unfold partsV
    generalize (ofS s).2.1 = a at *
    generalize (ofS s).2.2.1 = b at *
    generalize (ofS s).2.2.2 = c at *
    have HB := Lib.hid h1
    clear h1
    go_wp2_with fail
    refine (Kind_any s w1 hl).mono ?_
    rintro e w2 ⟨rfl, h2⟩
    have HB2 := Lib.hid (lift HB.out h2)
    clear h2
    go_wp2_with fail
    refine (made_any a [] (kindS s) w2 (by omega) (by simp)).mono ?_
    rintro e w3 ⟨rfl, rfl⟩
    go_wp2_with fail
    go_ret
    exact ⟨by rw [HT.out]; rfl, HB2.out⟩
def pairV (r : Str × Bool) : Value := .tuple #[sv r.1, .bool r.2]
set_option maxHeartbeats 4000000 in
theorem Instance_any (t i : Str) (w : World) (hl : t.length ≤ 140737488355328) (hil : i.length ≤ 1000) : Calls Tryz.prog 27 #[sv t, sv i] w fun e w' => e = .returned (pairV (instOf t i)) ∧ Below w.heap.size w w' := by
  have hle := ofS_le t
  have hP := instP_eq t i
  unfold instP at hP
  have hml : (makeS (kindS t, (ofS t).2.1, i, true)).length ≤ 2000 := by
    have hs : (sufS (kindS t)).length ≤ 7 := by
      unfold sufS
      split
      · decide
      · split
        · decide
        · split
          · decide
          · split <;> decide
    unfold makeS
    simp only [if_true, List.length_append, List.length_cons]
    omega
  have HP := Lib.hid hP
  clear hP
  go_enter Tryz.func27, Tryz.ntmps27
  go_wp2_with fail
  refine (Parts_any t w hl).mono ?_
  rintro e w1 ⟨rfl, h1⟩
  unfold partsV
  generalize (ofS t).2.1 = a at *
  generalize (ofS t).2.2.1 = b at *
  generalize (ofS t).2.2.2 = c at *
  have HB := Lib.hid h1
  clear h1
  go_wp2_with fail
  refine (Kind_any t w1 hl).mono ?_
  rintro e w2 ⟨rfl, h2⟩
  have HB2 := Lib.hid (lift HB.out h2)
  clear h2
  go_wp2_with fail
  refine (made_any a i (kindS t) w2 (by omega) (by omega)).mono ?_
  rintro e w3 ⟨rfl, rfl⟩
  generalize makeS (kindS t, a, i, true) = m at *
  go_wp2_with fail
  refine (Bare_any t w3 hl).mono ?_
  rintro e w4 ⟨rfl, h4⟩
  have HB4 := Lib.hid (lift HB2.out h4)
  clear h4
  cases ht : tmplS t
  · have HI := Lib.hid (HP.out.symm.trans (if_pos (.inl ht)))
    clear HP
    go_wp2_with fail
    go_ret2
    exact ⟨by rw [HI.out]; rfl, HB4.out⟩
  · by_cases hi : i = []
    · subst hi
      have HI := Lib.hid (HP.out.symm.trans (if_pos (.inr (.inl rfl))))
      clear HP
      go_wp2_with fail
      go_ret2
      exact ⟨by rw [HI.out]; rfl, HB4.out⟩
    · have hb : (i == ([] : Str)) = false := by simpa using hi
      go_wp2_with fail
      refine (May_any m w4 (by omega)).mono ?_
      rintro e w5 ⟨rfl, h5⟩
      have HB5 := Lib.hid (lift HB4.out h5)
      clear h5
      by_cases hk : kindS m = 0
      · have HI := Lib.hid (HP.out.symm.trans (if_pos (.inr (.inr hk))))
        have hk2 : (kindS m != 0) = false := by simp [hk]
        rw [hk2]
        clear HP hk hk2
        go_wp2_with fail
        go_ret2
        exact ⟨by rw [HI.out]; rfl, HB5.out⟩
      · have HI := Lib.hid (HP.out.symm.trans (if_neg (by rintro (h | h | h); rw [ht] at h; cases h; exact hi h; exact hk h)))
        have hk2 : (kindS m != 0) = true := by simpa using hk
        rw [hk2]
        clear HP hk hk2 hi
        go_wp2_with fail
        go_ret2
        exact ⟨by rw [HI.out]; rfl, HB5.out⟩
end Od
end Go.Proofs.YtgfdcmlmgeoimaaGreat
end

section
/- The reference's names: May, IsTemplate, IsInstance, Make, Template, Instance. (bel2) -/
namespace Go.Proofs.YtgfdcmlmgeoimaaGreat
open Go.RowKit
set_option linter.unusedSimpArgs false
namespace Od
theorem fldC0 (r : Int × Str × Str × Bool) (w : World) : (Instr.field 57 (cutC r) 0).run Tryz.prog w = .ok (.int .i64 r.1) w := by kernel_rfl
theorem fldC2 (r : Int × Str × Str × Bool) (w : World) : (Instr.field 57 (cutC r) 2).run Tryz.prog w = .ok (sv r.2.2.1) w := by kernel_rfl
theorem fldC3 (r : Int × Str × Str × Bool) (w : World) : (Instr.field 57 (cutC r) 3).run Tryz.prog w = .ok (.bool r.2.2.2) w := by kernel_rfl
set_option maxHeartbeats 2000000 in
theorem May1_any (s : Str) (w : World) (hl : s.length ≤ 140737488355328) : Calls Tryz.prog 17 #[sv s] w fun e w' => e = .returned (.bool (kindS s != 0)) ∧ Below w.heap.size w w' := by
  have HF := Lib.hid (fldC0 (ofS s))
  have HK := Lib.hid (ofS_kind s)
  have hpos : (decide (0 < kindS s)) = (kindS s != 0) := by
    by_cases h : kindS s = 0
    · simp [h]
    · have h2 := (kind_parts h).2.2.2.1
      have e : (kindS s != 0) = true := by simpa using h
      rw [e, decide_eq_true_eq]
      omega
  have HP := Lib.hid hpos
  clear hpos
  go_enter Tryz.func17, Tryz.ntmps17
  go_wp2_with fail
  refine (Of_any s w hl).mono ?_
  rintro e w1 ⟨rfl, h1⟩
  have HB := Lib.hid h1
  clear h1
  have hf := HF.out
  rw [HK.out] at hf
  generalize cutC (ofS s) = cv at *
  clear HF
  go_wp2_with fail
  go_ret
  exact ⟨ret_bool HP.out, HB.out⟩
set_option maxHeartbeats 2000000 in
theorem IsTemplate_any (s : Str) (w : World) (hl : s.length ≤ 140737488355328) : Calls Tryz.prog 43 #[sv s] w fun e w' => e = .returned (.bool (tmplS s)) ∧ Below w.heap.size w w' := by
  have HT := Lib.hid (show tmplS s = ((ofS s).2.2.2 && (ofS s).2.2.1 == ([] : Str)) from rfl)
  have hf2 := fldC2 (ofS s)
  have hf3 := fldC3 (ofS s)
  have HO := Lib.hid (fun W => Of_any s W hl)
  generalize cutC (ofS s) = cv at *
  generalize (ofS s).2.2.1 = b at *
  generalize (ofS s).2.2.2 = c at *
  cases c
  · go_enter Tryz.func43, Tryz.ntmps43
    go_wp2_with fail
    refine (HO.out w).mono ?_
    rintro e w1 ⟨rfl, h1⟩
    have HB := Lib.hid h1
    clear h1
    go_wp2_with fail
    go_ret
    exact ⟨ret_bool (by rw [HT.out]; simp), HB.out⟩
  · cases hb : (b == ([] : Str))
    · go_enter Tryz.func43, Tryz.ntmps43
      go_wp2_with fail
      refine (HO.out w).mono ?_
      rintro e w1 ⟨rfl, h1⟩
      have HB := Lib.hid h1
      clear h1
      go_wp2_with fail
      refine (HO.out w1).mono ?_
      rintro e w2 ⟨rfl, h2⟩
      have HB2 := Lib.hid (lift HB.out h2)
      clear h2
      go_wp2_with fail
      go_ret
      exact ⟨ret_bool (by rw [HT.out]; simp [*]), HB2.out⟩
    · go_enter Tryz.func43, Tryz.ntmps43
      go_wp2_with fail
      refine (HO.out w).mono ?_
      rintro e w1 ⟨rfl, h1⟩
      have HB := Lib.hid h1
      clear h1
      go_wp2_with fail
      refine (HO.out w1).mono ?_
      rintro e w2 ⟨rfl, h2⟩
      have HB2 := Lib.hid (lift HB.out h2)
      clear h2
      go_wp2_with fail
      go_ret
      exact ⟨ret_bool (by rw [HT.out]; simp [*]), HB2.out⟩
set_option maxHeartbeats 2000000 in
theorem IsInstance_any (s : Str) (w : World) (hl : s.length ≤ 140737488355328) : Calls Tryz.prog 30 #[sv s] w fun e w' => e = .returned (.bool (instS s)) ∧ Below w.heap.size w w' := by
  have HT := Lib.hid (show instS s = ((ofS s).2.2.2 && !((ofS s).2.2.1 == ([] : Str))) from rfl)
  have hf2 := fldC2 (ofS s)
  have hf3 := fldC3 (ofS s)
  have HO := Lib.hid (fun W => Of_any s W hl)
  generalize cutC (ofS s) = cv at *
  generalize (ofS s).2.2.1 = b at *
  generalize (ofS s).2.2.2 = c at *
  cases c
  · go_enter Tryz.func30, Tryz.ntmps30
    go_wp2_with fail
    refine (HO.out w).mono ?_
    rintro e w1 ⟨rfl, h1⟩
    have HB := Lib.hid h1
    clear h1
    go_wp2_with fail
    go_ret
    exact ⟨ret_bool (by rw [HT.out]; simp), HB.out⟩
  · cases hb : (b == ([] : Str))
    · go_enter Tryz.func30, Tryz.ntmps30
      go_wp2_with fail
      refine (HO.out w).mono ?_
      rintro e w1 ⟨rfl, h1⟩
      have HB := Lib.hid h1
      clear h1
      go_wp2_with fail
      refine (HO.out w1).mono ?_
      rintro e w2 ⟨rfl, h2⟩
      have HB2 := Lib.hid (lift HB.out h2)
      clear h2
      go_wp2_with fail
      go_ret
      exact ⟨ret_bool (by rw [HT.out]; simp [*]), HB2.out⟩
    · go_enter Tryz.func30, Tryz.ntmps30
      go_wp2_with fail
      refine (HO.out w).mono ?_
      rintro e w1 ⟨rfl, h1⟩
      have HB := Lib.hid h1
      clear h1
      go_wp2_with fail
      refine (HO.out w1).mono ?_
      rintro e w2 ⟨rfl, h2⟩
      have HB2 := Lib.hid (lift HB.out h2)
      clear h2
      go_wp2_with fail
      go_ret
      exact ⟨ret_bool (by rw [HT.out]; simp [*]), HB2.out⟩
set_option maxRecDepth 100000 in
set_option maxHeartbeats 4000000 in
theorem Make1_any (k : Int) (p i : Str) (a : Bool) (w : World) (h1 : 1 ≤ k) (h4 : k ≤ 4) (hp : p.length ≤ 140737488355328) (hi : i.length ≤ 140737488355328) : Calls Tryz.prog 38 #[cutC (k, p, i, a)] w fun e w' => e = .returned (sv (makeS (k, p, i, a))) ∧ Below w.heap.size w w' := by
  have hl := (suf_pos h1 h4).2.2.2
  cases a
  · have hm : makeS (k, p, i, false) = (p ++ [46]) ++ sufS k := by unfold makeS; simp
    obtain ⟨A3, hA3⟩ : ∃ A, A = p ++ [46] := ⟨_, rfl⟩
    have e3 : ((⟨p.toArray⟩ : ByteArray) ++ ⟨#[46]⟩) = ⟨A3.toArray⟩ := by rw [hA3]; exact str_add p [46]
    have n3 : ¬ 9223372036854775807 < p.length + 1 := by omega
    have l3 : A3.length = p.length + 1 := by rw [hA3]; simp
    obtain ⟨A4, hA4⟩ : ∃ A, A = A3 ++ sufS k := ⟨_, rfl⟩
    have e4 : ((⟨A3.toArray⟩ : ByteArray) ++ ⟨(sufS k).toArray⟩) = ⟨A4.toArray⟩ := by rw [hA4]; exact str_add A3 (sufS k)
    have n4 : ¬ 9223372036854775807 < A3.length + (sufS k).length := by omega
    have HM := Lib.hid (show sv (makeS (k, p, i, false)) = sv A4 by rw [hm, hA4, hA3])
    clear hA3 hA4 hm l3
    go_enter Tryz.func38, Tryz.ntmps38
    go_wp2_with fail
    first | (refine wp_named ?_; intro W1 hW) | (refine calls_named ?_; intro W1 hW) | (refine exit_named ?_; intro W1 hW)
    have B1 : Below w.heap.size w W1 := by rw [hW]; exact (by repeat (first | exact Below.refl _ _ | assumption | refine Below.alloc ?_ (by first | omega | (simp <;> omega)) _ | refine Below.setCell ?_ (by first | omega | (simp <;> omega)) _ | refine Below.drew ?_))
    have n0 : w.heap.size < W1.heap.size := by rw [hW]; simp <;> omega
    have c0 : W1.cell? ⟨w.heap.size, 0, none⟩ = some (.int .i64 k) := by rw [hW]; go_simp
    have c1 : W1.cell? ⟨w.heap.size, 1, none⟩ = some (sv p) := by rw [hW]; go_simp
    have c2 : W1.cell? ⟨w.heap.size, 2, none⟩ = some (sv i) := by rw [hW]; go_simp
    have c3 : W1.cell? ⟨w.heap.size, 3, none⟩ = some (.bool false) := by rw [hW]; go_simp
    clear hW
    have HB := Lib.hid B1
    clear B1
    go_upto_region 3 with fail
    try go_wp2_with fail
    refine wp_region_held_drew (S := fun w' => Below W1.heap.size W1 w') (by kernel_rfl) (Below.drew (Below.refl _ _)) (fun hHeld => ?_)
    refine tY (i := 0) (v := ?_) rfl ?_ hHeld ?_; rotate_left 1; focus (intro w' hSw; clear hSw; go_simp; try with_reducible rfl)
    (try simp only [Act.put, zn1, zn2, zn3])
    refine tY (i := 1) (v := ?_) rfl ?_ hHeld ?_; rotate_left 1; focus (intro w' hSw; have hCell := fun (b o : Nat) (h : b < W1.heap.size) => hSw.cell (p := ⟨b, o, none⟩) h; clear hSw; go_simp; try with_reducible rfl)
    (try simp only [Act.put, zn1, zn2, zn3])
    refine tY (i := 2) (v := ?_) rfl ?_ hHeld ?_; rotate_left 1; focus (intro w' hSw; clear hSw; go_simp; try with_reducible rfl)
    (try simp only [Act.put, zn1, zn2, zn3])
    refine tY (i := 3) (v := ?_) rfl ?_ hHeld ?_; rotate_left 1; focus (intro w' hSw; clear hSw; go_simp; try with_reducible rfl)
    (try simp only [Act.put, zn1, zn2, zn3])
    refine tY (i := 4) (v := ?_) rfl ?_ hHeld ?_; rotate_left 1; focus (intro w' hSw; have hCell := fun (b o : Nat) (h : b < W1.heap.size) => hSw.cell (p := ⟨b, o, none⟩) h; clear hSw; go_simp; try with_reducible rfl)
    (try simp only [Act.put, zn1, zn2, zn3])
    refine ready_one (i := 5) rfl (by kernel_rfl) (fun K hK => ?_)
    go_simp
    refine (Suffix1_any k _ h1 h4).mono ?_
    rintro e wy ⟨rfl, rfl⟩
    refine hK.out _ _ ?_ (fun hHeld2 => ?_)
    · (try dsimp only); first | exact Below.trans hHeld (Below.mono hb hHeld.size) | exact hHeld | exact Below.drew hHeld | exact (by repeat (first | exact Below.refl _ _ | assumption | refine Below.alloc ?_ (by first | omega | (simp <;> omega)) _ | refine Below.setCell ?_ (by first | omega | (simp <;> omega)) _ | refine Below.drew ?_))
    clear hK K hHeld; have hHeld := hHeld2; clear hHeld2; (try simp only [Act.put, zn1, zn2, zn3])
    refine tY (i := 6) (v := ?_) rfl ?_ hHeld ?_; rotate_left 1; focus (intro w' hSw; clear hSw; go_simp; try with_reducible rfl)
    (try simp only [Act.put, zn1, zn2, zn3])
    refine tY (i := 7) (v := ?_) rfl ?_ hHeld ?_; rotate_left 1; focus (intro w' hSw; clear hSw; go_simp; try with_reducible rfl)
    (try simp only [Act.put, zn1, zn2, zn3])
    refine wpAnyH_done (by kernel_rfl) ?_ _
    have HB2 := Lib.hid (lift HB.out hHeld)
    clear hHeld
    go_wp2_with fail
    go_ret
    exact ⟨by rw [HM.out]; rfl, HB2.out⟩
  · have hm : makeS (k, p, i, true) = (((p ++ [64]) ++ i) ++ [46]) ++ sufS k := by unfold makeS; simp
    obtain ⟨A1, hA1⟩ : ∃ A, A = p ++ [64] := ⟨_, rfl⟩
    obtain ⟨A2, hA2⟩ : ∃ A, A = A1 ++ i := ⟨_, rfl⟩
    obtain ⟨A3, hA3⟩ : ∃ A, A = A2 ++ [46] := ⟨_, rfl⟩
    have e1 : ((⟨p.toArray⟩ : ByteArray) ++ ⟨#[64]⟩) = ⟨A1.toArray⟩ := by rw [hA1]; exact str_add p [64]
    have e2 : ((⟨A1.toArray⟩ : ByteArray) ++ ⟨i.toArray⟩) = ⟨A2.toArray⟩ := by rw [hA2]; exact str_add A1 i
    have e3 : ((⟨A2.toArray⟩ : ByteArray) ++ ⟨#[46]⟩) = ⟨A3.toArray⟩ := by rw [hA3]; exact str_add A2 [46]
    have l1 : A1.length = p.length + 1 := by rw [hA1]; simp
    have l2 : A2.length = A1.length + i.length := by rw [hA2]; simp
    have l3 : A3.length = A2.length + 1 := by rw [hA3]; simp
    have n1 : ¬ 9223372036854775807 < p.length + 1 := by omega
    have n2 : ¬ 9223372036854775807 < A1.length + i.length := by omega
    have n3 : ¬ 9223372036854775807 < A2.length + 1 := by omega
    obtain ⟨A4, hA4⟩ : ∃ A, A = A3 ++ sufS k := ⟨_, rfl⟩
    have e4 : ((⟨A3.toArray⟩ : ByteArray) ++ ⟨(sufS k).toArray⟩) = ⟨A4.toArray⟩ := by rw [hA4]; exact str_add A3 (sufS k)
    have n4 : ¬ 9223372036854775807 < A3.length + (sufS k).length := by omega
    have HM := Lib.hid (show sv (makeS (k, p, i, true)) = sv A4 by rw [hm, hA4, hA3, hA2, hA1])
    clear hA1 hA2 hA3 hA4 hm l1 l2 l3
    go_enter Tryz.func38, Tryz.ntmps38
    go_wp2_with fail
    first | (refine wp_named ?_; intro W1 hW) | (refine calls_named ?_; intro W1 hW) | (refine exit_named ?_; intro W1 hW)
    have B1 : Below w.heap.size w W1 := by rw [hW]; exact (by repeat (first | exact Below.refl _ _ | assumption | refine Below.alloc ?_ (by first | omega | (simp <;> omega)) _ | refine Below.setCell ?_ (by first | omega | (simp <;> omega)) _ | refine Below.drew ?_))
    have n0 : w.heap.size < W1.heap.size := by rw [hW]; simp <;> omega
    have c0 : W1.cell? ⟨w.heap.size, 0, none⟩ = some (.int .i64 k) := by rw [hW]; go_simp
    have c1 : W1.cell? ⟨w.heap.size, 1, none⟩ = some (sv p) := by rw [hW]; go_simp
    have c2 : W1.cell? ⟨w.heap.size, 2, none⟩ = some (sv i) := by rw [hW]; go_simp
    have c3 : W1.cell? ⟨w.heap.size, 3, none⟩ = some (.bool true) := by rw [hW]; go_simp
    clear hW
    have HB := Lib.hid B1
    clear B1
    go_upto_region 2 with fail
    try go_wp2_with fail
    refine wp_region_held_drew (S := fun w' => Below W1.heap.size W1 w') (by kernel_rfl) (Below.drew (Below.refl _ _)) (fun hHeld => ?_)
    refine tY (i := 0) (v := ?_) rfl ?_ hHeld ?_; rotate_left 1; focus (intro w' hSw; clear hSw; go_simp; try with_reducible rfl)
    (try simp only [Act.put, zn1, zn2, zn3])
    refine tY (i := 1) (v := ?_) rfl ?_ hHeld ?_; rotate_left 1; focus (intro w' hSw; have hCell := fun (b o : Nat) (h : b < W1.heap.size) => hSw.cell (p := ⟨b, o, none⟩) h; clear hSw; go_simp; try with_reducible rfl)
    (try simp only [Act.put, zn1, zn2, zn3])
    refine tY (i := 2) (v := ?_) rfl ?_ hHeld ?_; rotate_left 1; focus (intro w' hSw; clear hSw; go_simp; try with_reducible rfl)
    (try simp only [Act.put, zn1, zn2, zn3])
    refine tY (i := 3) (v := ?_) rfl ?_ hHeld ?_; rotate_left 1; focus (intro w' hSw; clear hSw; go_simp; try with_reducible rfl)
    (try simp only [Act.put, zn1, zn2, zn3])
    refine tY (i := 4) (v := ?_) rfl ?_ hHeld ?_; rotate_left 1; focus (intro w' hSw; have hCell := fun (b o : Nat) (h : b < W1.heap.size) => hSw.cell (p := ⟨b, o, none⟩) h; clear hSw; go_simp; try with_reducible rfl)
    (try simp only [Act.put, zn1, zn2, zn3])
    refine tY (i := 5) (v := ?_) rfl ?_ hHeld ?_; rotate_left 1; focus (intro w' hSw; clear hSw; go_simp; try with_reducible rfl)
    (try simp only [Act.put, zn1, zn2, zn3])
    refine tY (i := 6) (v := ?_) rfl ?_ hHeld ?_; rotate_left 1; focus (intro w' hSw; clear hSw; go_simp; try with_reducible rfl)
    (try simp only [Act.put, zn1, zn2, zn3])
    refine tY (i := 7) (v := ?_) rfl ?_ hHeld ?_; rotate_left 1; focus (intro w' hSw; clear hSw; go_simp; try with_reducible rfl)
    (try simp only [Act.put, zn1, zn2, zn3])
    refine tY (i := 8) (v := ?_) rfl ?_ hHeld ?_; rotate_left 1; focus (intro w' hSw; have hCell := fun (b o : Nat) (h : b < W1.heap.size) => hSw.cell (p := ⟨b, o, none⟩) h; clear hSw; go_simp; try with_reducible rfl)
    (try simp only [Act.put, zn1, zn2, zn3])
    refine ready_one (i := 9) rfl (by kernel_rfl) (fun K hK => ?_)
    go_simp
    refine (Suffix1_any k _ h1 h4).mono ?_
    rintro e wy ⟨rfl, rfl⟩
    refine hK.out _ _ ?_ (fun hHeld2 => ?_)
    · (try dsimp only); first | exact Below.trans hHeld (Below.mono hb hHeld.size) | exact hHeld | exact Below.drew hHeld | exact (by repeat (first | exact Below.refl _ _ | assumption | refine Below.alloc ?_ (by first | omega | (simp <;> omega)) _ | refine Below.setCell ?_ (by first | omega | (simp <;> omega)) _ | refine Below.drew ?_))
    clear hK K hHeld; have hHeld := hHeld2; clear hHeld2; (try simp only [Act.put, zn1, zn2, zn3])
    refine tY (i := 10) (v := ?_) rfl ?_ hHeld ?_; rotate_left 1; focus (intro w' hSw; clear hSw; go_simp; try with_reducible rfl)
    (try simp only [Act.put, zn1, zn2, zn3])
    refine tY (i := 11) (v := ?_) rfl ?_ hHeld ?_; rotate_left 1; focus (intro w' hSw; clear hSw; go_simp; try with_reducible rfl)
    (try simp only [Act.put, zn1, zn2, zn3])
    refine wpAnyH_done (by kernel_rfl) ?_ _
    have HB2 := Lib.hid (lift HB.out hHeld)
    clear hHeld
    go_wp2_with fail
    go_ret
    exact ⟨by rw [HM.out]; rfl, HB2.out⟩
set_option maxRecDepth 100000 in
set_option maxHeartbeats 4000000 in
theorem Template1_any (s : Str) (w : World) (hl : s.length ≤ 140737488355328) : Calls Tryz.prog 18 #[sv s] w fun e w' => e = .returned (sv (templS s)) ∧ Below w.heap.size w w' := by
  have hle := ofS_le s
  cases his : instS s
  · have HT := Lib.hid (show sv (templS s) = sv [] by unfold templS; rw [his]; rfl)
    go_enter Tryz.func18, Tryz.ntmps18
    go_wp2_with fail
    refine (IsInstance_any s w hl).mono ?_
    rintro e w1 ⟨rfl, h1⟩
    rw [his]
    have HB := Lib.hid h1
    clear h1
    go_wp2_with fail
    go_ret
    exact ⟨by rw [HT.out]; rfl, HB.out⟩
  · have hkr := (kind_parts (instS_kind his)).2.2.2.1
    rw [← ofS_kind] at hkr
    have ha : (ofS s).2.2.2 = true := by
      have h := his
      unfold instS at h
      rw [Bool.and_eq_true] at h
      exact h.1
    have HT := Lib.hid (show sv (templS s) = sv (makeS ((ofS s).1, (ofS s).2.1, [], true)) by unfold templS; rw [if_pos his])
    have HO := Lib.hid (fun W => Of_any s W hl)
    generalize hr : ofS s = r at *
    obtain ⟨k, p, i, a⟩ := r
    simp only at ha hkr hle
    subst ha
    have HM := Lib.hid (fun W => Make1_any k p [] true W hkr.1 hkr.2 (by omega) (by simp))
    clear hr
    go_enter Tryz.func18, Tryz.ntmps18
    go_wp2_with fail
    refine (IsInstance_any s w hl).mono ?_
    rintro e w1 ⟨rfl, h1⟩
    rw [his]
    have HB := Lib.hid h1
    clear h1 his
    go_wp2_with fail
    refine (HO.out w1).mono ?_
    rintro e w2 ⟨rfl, h2⟩
    have HB2 := Lib.hid (lift HB.out h2)
    clear h2
    go_wp2_with fail
    first | (refine wp_named ?_; intro W3 hW) | (refine calls_named ?_; intro W3 hW) | (refine exit_named ?_; intro W3 hW)
    have B3 : Below w2.heap.size w2 W3 := by rw [hW]; exact (by repeat (first | exact Below.refl _ _ | assumption | refine Below.alloc ?_ (by first | omega | (simp <;> omega)) _ | refine Below.setCell ?_ (by first | omega | (simp <;> omega)) _ | refine Below.drew ?_))
    clear hW
    have HB3 := Lib.hid (lift HB2.out B3)
    clear B3
    refine (HM.out W3).mono ?_
    rintro e w4 ⟨rfl, h4⟩
    have HB4 := Lib.hid (lift HB3.out h4)
    clear h4
    go_wp2_with fail
    go_ret
    exact ⟨by rw [HT.out]; rfl, HB4.out⟩
set_option maxRecDepth 100000 in
set_option maxHeartbeats 4000000 in
theorem Instance1_any (t i : Str) (w : World) (hl : t.length ≤ 140737488355328) (hil : i.length ≤ 140737488351232) : Calls Tryz.prog 21 #[sv t, sv i] w fun e w' => e = .returned (pairV (instOf t i)) ∧ Below w.heap.size w w' := by
  have hle := ofS_le t
  have hdf : instOf t i = if !tmplS t || i == ([] : Str) then ([], false) else if ofS (makeS ((ofS t).1, (ofS t).2.1, i, true)) = ((ofS t).1, (ofS t).2.1, i, true) then (makeS ((ofS t).1, (ofS t).2.1, i, true), true) else ([], false) := rfl
  cases htm : tmplS t
  · have HT := Lib.hid (show instOf t i = ([], false) by rw [hdf, htm]; rfl)
    clear hdf
    go_enter Tryz.func21, Tryz.ntmps21
    go_wp2_with fail
    refine (IsTemplate_any t w hl).mono ?_
    rintro e w1 ⟨rfl, h1⟩
    rw [htm]
    have HB := Lib.hid h1
    clear h1
    go_wp2_with fail
    go_ret2
    exact ⟨by rw [HT.out]; rfl, HB.out⟩
  · cases hib : (i == ([] : Str))
    · have hkr := (kind_parts (tmpl_kind htm)).2.2.2.1
      rw [← ofS_kind] at hkr
      have ha : (ofS t).2.2.2 = true := by
        have h := htm
        unfold tmplS at h
        rw [Bool.and_eq_true] at h
        exact h.1
      have HT := Lib.hid (show instOf t i = if ofS (makeS ((ofS t).1, (ofS t).2.1, i, true)) = ((ofS t).1, (ofS t).2.1, i, true) then (makeS ((ofS t).1, (ofS t).2.1, i, true), true) else ([], false) by rw [hdf, htm, hib]; rfl)
      have HO := Lib.hid (fun W => Of_any t W hl)
      clear hdf
      generalize hr : ofS t = r at *
      obtain ⟨k, p, i0, a⟩ := r
      simp only at ha hkr hle HT
      subst ha
      have hml : (makeS (k, p, i, true)).length ≤ 140737488355328 := by
        have hs := (suf_pos hkr.1 hkr.2).2.2.2
        unfold makeS
        simp only [if_true, List.length_append, List.length_cons]
        omega
      have HM := Lib.hid (fun W => Make1_any k p i true W hkr.1 hkr.2 (by omega) (by omega))
      generalize makeS (k, p, i, true) = m at *
      clear hr
      go_enter Tryz.func21, Tryz.ntmps21
      go_wp2_with fail
      refine (IsTemplate_any t w hl).mono ?_
      rintro e w1 ⟨rfl, h1⟩
      rw [htm]
      have HB := Lib.hid h1
      clear h1 htm
      go_wp2_with fail
      refine (HO.out w1).mono ?_
      rintro e w2 ⟨rfl, h2⟩
      have HB2 := Lib.hid (lift HB.out h2)
      clear h2
      go_wp2_with fail
      first | (refine wp_named ?_; intro W3 hW) | (refine calls_named ?_; intro W3 hW) | (refine exit_named ?_; intro W3 hW)
      have B3 : Below w2.heap.size w2 W3 := by rw [hW]; exact (by repeat (first | exact Below.refl _ _ | assumption | refine Below.alloc ?_ (by first | omega | (simp <;> omega)) _ | refine Below.setCell ?_ (by first | omega | (simp <;> omega)) _ | refine Below.drew ?_))
      have n0 : w2.heap.size < W3.heap.size := by rw [hW]; simp <;> omega
      have c0 : W3.cell? ⟨w2.heap.size, 0, none⟩ = some (.int .i64 k) := by rw [hW]; go_simp
      have c1 : W3.cell? ⟨w2.heap.size, 1, none⟩ = some (sv p) := by rw [hW]; go_simp
      have c2 : W3.cell? ⟨w2.heap.size, 2, none⟩ = some (sv i) := by rw [hW]; go_simp
      have c3 : W3.cell? ⟨w2.heap.size, 3, none⟩ = some (.bool true) := by rw [hW]; go_simp
      clear hW
      have HB3 := Lib.hid (lift HB2.out B3)
      clear B3
      refine (HM.out W3).mono ?_
      rintro e w4 ⟨rfl, h4⟩
      replace c0 := cellAt c0 h4 (by omega)
      replace c1 := cellAt c1 h4 (by omega)
      replace c2 := cellAt c2 h4 (by omega)
      replace c3 := cellAt c3 h4 (by omega)
      replace n0 : w2.heap.size < w4.heap.size := ltAt n0 h4
      have HB4 := Lib.hid (lift HB3.out h4)
      clear h4
      have HO2 := Lib.hid (fun W => Of_any m W hml)
      by_cases hof : ofS m = (k, p, i, true)
      · have HT2 := Lib.hid (HT.out.trans (if_pos hof))
        generalize ofS m = om at *
        subst hof
        go_upto_region 6 with fail
        try go_wp2_with fail
        refine wp_region_held_drew (S := fun w' => Below w4.heap.size w4 w') (by kernel_rfl) (Below.drew (Below.refl _ _)) (fun hHeld => ?_)
        refine tY (i := 0) (v := ?_) rfl ?_ hHeld ?_; rotate_left 1; focus (intro w' hSw; clear hSw; go_simp; try with_reducible rfl)
        (try simp only [Act.put, zn1, zn2, zn3])
        refine tY (i := 2) (v := ?_) rfl ?_ hHeld ?_; rotate_left 1; focus (intro w' hSw; have hCell := fun (b o : Nat) (h : b < w4.heap.size) => hSw.cell (p := ⟨b, o, none⟩) h; clear hSw; go_simp; try with_reducible rfl)
        (try simp only [Act.put, zn1, zn2, zn3])
        refine ready_one (i := 1) rfl (by kernel_rfl) (fun K hK => ?_)
        go_simp
        refine (HO2.out _).mono ?_
        rintro e w5 ⟨rfl, hb⟩
        refine hK.out _ _ ?_ (fun hHeld2 => ?_)
        · (try dsimp only); first | exact Below.trans hHeld (Below.mono hb hHeld.size) | exact hHeld | exact Below.drew hHeld | exact (by repeat (first | exact Below.refl _ _ | assumption | refine Below.alloc ?_ (by first | omega | (simp <;> omega)) _ | refine Below.setCell ?_ (by first | omega | (simp <;> omega)) _ | refine Below.drew ?_))
        clear hK K hHeld; have hHeld := hHeld2; clear hHeld2; (try simp only [Act.put, zn1, zn2, zn3])
        refine tY (i := 3) (v := ?_) rfl ?_ hHeld ?_; rotate_left 1; focus (intro w' hSw; clear hSw; go_simp; try with_reducible rfl)
        (try simp only [Act.put, zn1, zn2, zn3])
        refine wpAnyH_done (by kernel_rfl) ?_ _
        have HB5 := Lib.hid (lift HB4.out hHeld)
        clear hHeld
        go_wp2_with fail
        go_ret2
        exact ⟨by rw [HT2.out]; rfl, HB5.out⟩
      · have HT2 := Lib.hid (HT.out.trans (if_neg hof))
        generalize ofS m = om at *
        obtain ⟨k2, p2, i2, a2⟩ := om
        by_cases h1 : k2 = k
        · subst h1
          by_cases h2 : p2 = p
          · subst h2
            by_cases h3 : i2 = i
            · subst h3
              cases a2
              · clear hof
                go_upto_region 6 with fail
                try go_wp2_with fail
                refine wp_region_held_drew (S := fun w' => Below w4.heap.size w4 w') (by kernel_rfl) (Below.drew (Below.refl _ _)) (fun hHeld => ?_)
                refine tY (i := 0) (v := ?_) rfl ?_ hHeld ?_; rotate_left 1; focus (intro w' hSw; clear hSw; go_simp; try with_reducible rfl)
                (try simp only [Act.put, zn1, zn2, zn3])
                refine tY (i := 2) (v := ?_) rfl ?_ hHeld ?_; rotate_left 1; focus (intro w' hSw; have hCell := fun (b o : Nat) (h : b < w4.heap.size) => hSw.cell (p := ⟨b, o, none⟩) h; clear hSw; go_simp; try with_reducible rfl)
                (try simp only [Act.put, zn1, zn2, zn3])
                refine ready_one (i := 1) rfl (by kernel_rfl) (fun K hK => ?_)
                go_simp
                refine (HO2.out _).mono ?_
                rintro e w5 ⟨rfl, hb⟩
                refine hK.out _ _ ?_ (fun hHeld2 => ?_)
                · (try dsimp only); first | exact Below.trans hHeld (Below.mono hb hHeld.size) | exact hHeld | exact Below.drew hHeld | exact (by repeat (first | exact Below.refl _ _ | assumption | refine Below.alloc ?_ (by first | omega | (simp <;> omega)) _ | refine Below.setCell ?_ (by first | omega | (simp <;> omega)) _ | refine Below.drew ?_))
                clear hK K hHeld; have hHeld := hHeld2; clear hHeld2; (try simp only [Act.put, zn1, zn2, zn3])
                refine tY (i := 3) (v := ?_) rfl ?_ hHeld ?_; rotate_left 1; focus (intro w' hSw; clear hSw; go_simp; try with_reducible rfl)
                (try simp only [Act.put, zn1, zn2, zn3])
                refine wpAnyH_done (by kernel_rfl) ?_ _
                have HB5 := Lib.hid (lift HB4.out hHeld)
                clear hHeld
                go_wp2_with fail
                go_ret2
                exact ⟨by rw [HT2.out]; rfl, HB5.out⟩
              · exact absurd rfl hof
            · clear hof
              go_upto_region 6 with fail
              try go_wp2_with fail
              refine wp_region_held_drew (S := fun w' => Below w4.heap.size w4 w') (by kernel_rfl) (Below.drew (Below.refl _ _)) (fun hHeld => ?_)
              refine tY (i := 0) (v := ?_) rfl ?_ hHeld ?_; rotate_left 1; focus (intro w' hSw; clear hSw; go_simp; try with_reducible rfl)
              (try simp only [Act.put, zn1, zn2, zn3])
              refine tY (i := 2) (v := ?_) rfl ?_ hHeld ?_; rotate_left 1; focus (intro w' hSw; have hCell := fun (b o : Nat) (h : b < w4.heap.size) => hSw.cell (p := ⟨b, o, none⟩) h; clear hSw; go_simp; try with_reducible rfl)
              (try simp only [Act.put, zn1, zn2, zn3])
              refine ready_one (i := 1) rfl (by kernel_rfl) (fun K hK => ?_)
              go_simp
              refine (HO2.out _).mono ?_
              rintro e w5 ⟨rfl, hb⟩
              refine hK.out _ _ ?_ (fun hHeld2 => ?_)
              · (try dsimp only); first | exact Below.trans hHeld (Below.mono hb hHeld.size) | exact hHeld | exact Below.drew hHeld | exact (by repeat (first | exact Below.refl _ _ | assumption | refine Below.alloc ?_ (by first | omega | (simp <;> omega)) _ | refine Below.setCell ?_ (by first | omega | (simp <;> omega)) _ | refine Below.drew ?_))
              clear hK K hHeld; have hHeld := hHeld2; clear hHeld2; (try simp only [Act.put, zn1, zn2, zn3])
              refine tY (i := 3) (v := ?_) rfl ?_ hHeld ?_; rotate_left 1; focus (intro w' hSw; clear hSw; go_simp; try with_reducible rfl)
              (try simp only [Act.put, zn1, zn2, zn3])
              refine wpAnyH_done (by kernel_rfl) ?_ _
              have HB5 := Lib.hid (lift HB4.out hHeld)
              clear hHeld
              go_wp2_with fail
              go_ret2
              exact ⟨by rw [HT2.out]; rfl, HB5.out⟩
          · clear hof
            go_upto_region 6 with fail
            try go_wp2_with fail
            refine wp_region_held_drew (S := fun w' => Below w4.heap.size w4 w') (by kernel_rfl) (Below.drew (Below.refl _ _)) (fun hHeld => ?_)
            refine tY (i := 0) (v := ?_) rfl ?_ hHeld ?_; rotate_left 1; focus (intro w' hSw; clear hSw; go_simp; try with_reducible rfl)
            (try simp only [Act.put, zn1, zn2, zn3])
            refine tY (i := 2) (v := ?_) rfl ?_ hHeld ?_; rotate_left 1; focus (intro w' hSw; have hCell := fun (b o : Nat) (h : b < w4.heap.size) => hSw.cell (p := ⟨b, o, none⟩) h; clear hSw; go_simp; try with_reducible rfl)
            (try simp only [Act.put, zn1, zn2, zn3])
            refine ready_one (i := 1) rfl (by kernel_rfl) (fun K hK => ?_)
            go_simp
            refine (HO2.out _).mono ?_
            rintro e w5 ⟨rfl, hb⟩
            refine hK.out _ _ ?_ (fun hHeld2 => ?_)
            · (try dsimp only); first | exact Below.trans hHeld (Below.mono hb hHeld.size) | exact hHeld | exact Below.drew hHeld | exact (by repeat (first | exact Below.refl _ _ | assumption | refine Below.alloc ?_ (by first | omega | (simp <;> omega)) _ | refine Below.setCell ?_ (by first | omega | (simp <;> omega)) _ | refine Below.drew ?_))
            clear hK K hHeld; have hHeld := hHeld2; clear hHeld2; (try simp only [Act.put, zn1, zn2, zn3])
            refine tY (i := 3) (v := ?_) rfl ?_ hHeld ?_; rotate_left 1; focus (intro w' hSw; clear hSw; go_simp; try with_reducible rfl)
            (try simp only [Act.put, zn1, zn2, zn3])
            refine wpAnyH_done (by kernel_rfl) ?_ _
            have HB5 := Lib.hid (lift HB4.out hHeld)
            clear hHeld
            go_wp2_with fail
            go_ret2
            exact ⟨by rw [HT2.out]; rfl, HB5.out⟩
        · clear hof
          go_upto_region 6 with fail
          try go_wp2_with fail
          refine wp_region_held_drew (S := fun w' => Below w4.heap.size w4 w') (by kernel_rfl) (Below.drew (Below.refl _ _)) (fun hHeld => ?_)
          refine tY (i := 0) (v := ?_) rfl ?_ hHeld ?_; rotate_left 1; focus (intro w' hSw; clear hSw; go_simp; try with_reducible rfl)
          (try simp only [Act.put, zn1, zn2, zn3])
          refine tY (i := 2) (v := ?_) rfl ?_ hHeld ?_; rotate_left 1; focus (intro w' hSw; have hCell := fun (b o : Nat) (h : b < w4.heap.size) => hSw.cell (p := ⟨b, o, none⟩) h; clear hSw; go_simp; try with_reducible rfl)
          (try simp only [Act.put, zn1, zn2, zn3])
          refine ready_one (i := 1) rfl (by kernel_rfl) (fun K hK => ?_)
          go_simp
          refine (HO2.out _).mono ?_
          rintro e w5 ⟨rfl, hb⟩
          refine hK.out _ _ ?_ (fun hHeld2 => ?_)
          · (try dsimp only); first | exact Below.trans hHeld (Below.mono hb hHeld.size) | exact hHeld | exact Below.drew hHeld | exact (by repeat (first | exact Below.refl _ _ | assumption | refine Below.alloc ?_ (by first | omega | (simp <;> omega)) _ | refine Below.setCell ?_ (by first | omega | (simp <;> omega)) _ | refine Below.drew ?_))
          clear hK K hHeld; have hHeld := hHeld2; clear hHeld2; (try simp only [Act.put, zn1, zn2, zn3])
          refine tY (i := 3) (v := ?_) rfl ?_ hHeld ?_; rotate_left 1; focus (intro w' hSw; clear hSw; go_simp; try with_reducible rfl)
          (try simp only [Act.put, zn1, zn2, zn3])
          refine wpAnyH_done (by kernel_rfl) ?_ _
          have HB5 := Lib.hid (lift HB4.out hHeld)
          clear hHeld
          go_wp2_with fail
          go_ret2
          exact ⟨by rw [HT2.out]; rfl, HB5.out⟩
    · have HT := Lib.hid (show instOf t i = ([], false) by rw [hdf, htm, hib]; rfl)
      clear hdf
      go_enter Tryz.func21, Tryz.ntmps21
      go_wp2_with fail
      refine (IsTemplate_any t w hl).mono ?_
      rintro e w1 ⟨rfl, h1⟩
      rw [htm]
      have HB := Lib.hid h1
      clear h1
      go_wp2_with fail
      go_ret2
      exact ⟨by rw [HT.out]; rfl, HB.out⟩
end Od
end Go.Proofs.YtgfdcmlmgeoimaaGreat
end
