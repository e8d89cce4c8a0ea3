/- My texts, joined for the claim: NKind OAhead OSmall OSame OCmp ORise. -/
import Derived.Test.YtmlogmcnblgnbaaGreatZB0
import Derived.Test.YtmlogmcnblgnbaaGreatRows
import Derived.Shelf.Abstract
import Derived.Deep.QuietTactic
import Derived.BigQuiet
import Derived.Deep.RegionHeld3

section
/- The walks of package name: a name's kind. -/
namespace Go.Proofs.YtmlogmcnblgnbaaGreat
open Go.RowKit

namespace Od
def okK (c : Int) : Nat → Bool
  | 0 => false
  | 1 => letterB c
  | 2 => letterB c || digitB c
  | _ => okB c
set_option maxRecDepth 100000 in
set_option maxHeartbeats 4000000 in
theorem Any1_any (c : Int) (pl b pi : Nat) (w : World) (h0 : w.cell? ⟨pl, 0, none⟩ = some (.slice (some ⟨b, 0, none⟩) 3 3)) (hf0 : w.cell? ⟨b, 0, none⟩ = some (.func (.func 162) #[] #[])) (hf1 : w.cell? ⟨b, 1, none⟩ = some (.func (.func 163) #[] #[]))
    (hf2 : w.cell? ⟨b, 2, none⟩ = some (.func (.func 171) #[] #[.pointer (some ⟨pi, 0, none⟩)])) (hpi : w.cell? ⟨pi, 0, none⟩ = some (sv moreS)) :
    Calls Tryz.prog 170 #[.int .u8 c, .pointer (some ⟨pl, 0, none⟩)] w fun e w' => e = .returned (.bool (okB c)) ∧ Below w.heap.size w w' := by
  have hb0 : b < w.heap.size := cell_blk hf0
  have hpl : pl < w.heap.size := cell_blk h0
  have hstep : ∀ k : Nat, k < 3 → ∃ (g : Nat) (caps : Array Value) (p : Int → Bool), w.cell? ⟨b, k, none⟩ = some (.func (.func g) #[] caps) ∧ SaysB g caps p w ∧ okK c (k + 1) = (okK c k || p c) := by
    intro k hk
    rcases (show k = 0 ∨ k = 1 ∨ k = 2 by omega) with rfl | rfl | rfl
    · exact ⟨_, _, _, hf0, says_letter w, rfl⟩
    · exact ⟨_, _, _, hf1, says_digit w, rfl⟩
    · exact ⟨_, _, _, hf2, says_in pi moreS w hpi, by simp [okK, okB, Bool.or_assoc]⟩
  have HSt := Lib.hid hstep
  clear hstep hf0 hf1 hf2 hpi
  go_enter Tryz.func170, Tryz.ntmps170
  go_wp2_with fail
  go_loopw [8] (fun i wr => ∃ k : Nat, k ≤ 3 ∧ i = .int .i64 k ∧ Hid (okK c k = false) ∧ Below w.heap.size w wr) (fun i _ => 3 - (intOf i).toNat)
  case atStart => exact ⟨0, by omega, rfl, rfl, Below.refl _ _⟩
  case round =>
    obtain ⟨k, hk, rfl, hall, hb⟩ := hrel
    have HB := Lib.hid hb
    clear hb
    by_cases hlt : k < 3
    · have hdk : decide ((k : Int) < 3) = true := by simp; omega
      obtain ⟨g, caps, p, hc, hs, ho⟩ := HSt.out k hlt
      have hcr := cellAt hc HB.out hb0
      have Hs := Lib.hid hs
      have Ho := Lib.hid ho
      have eg := hs.enters
      clear hc hs ho
      go_wp2_with fail
      refine (Hs.out.says wr c HB.out).mono ?_
      rintro e w2 ⟨rfl, hb2⟩
      have HB2 := Lib.hid (HB.out.trans (hb2.mono HB.out.size))
      clear hb2
      cases hp : p c
      · have HP := Lib.hid hp
        go_wp2_with fail
        go_roundw
        case rel => exact ⟨k + 1, by omega, by go_num, by show _ = false; rw [Ho.out, hall.out, HP.out]; rfl, HB2.out⟩
        case measure => simp [intOf]; omega
      · have HP := Lib.hid hp
        go_wp2_with fail
        go_ret
        refine ⟨ret_bool ?_, HB2.out⟩
        have h1 : okK c (k + 1) = true := by rw [Ho.out, HP.out, Bool.or_true]
        rcases (show k = 0 ∨ k = 1 ∨ k = 2 by omega) with rfl | rfl | rfl
        · simp only [okK] at h1; simp [okB, h1]
        · simp only [okK] at h1; unfold okB; rw [← Bool.or_assoc, h1]; rfl
        · exact h1.symm
    · have hk3 : k = 3 := by omega
      have hdk : decide ((k : Int) < 3) = false := by simp; omega
      have h3 := hall.out
      rw [hk3] at h3
      have H3 := Lib.hid h3
      clear hk3 h3
      go_wp2_with fail
      go_ret
      exact ⟨ret_bool H3.out.symm, HB.out⟩

set_option maxRecDepth 100000 in
set_option maxHeartbeats 4000000 in
theorem Anyc_any (A : Option Addr) (w : World) : Calls Tryz.prog 161 #[.slice A 3 3] w fun e w' => e = .returned (.func (.func 170) #[] #[.pointer (some ⟨w.heap.size, 0, none⟩)]) ∧ w' = w.alloc (.cells #[.slice A 3 3] 181) := by
  go_enter Tryz.func161, Tryz.ntmps161
  go_wp2_with fail
  go_ret
  exact ⟨rfl, rfl⟩
theorem says_any (pl b pi : Nat) (w : World) (h0 : w.cell? ⟨pl, 0, none⟩ = some (.slice (some ⟨b, 0, none⟩) 3 3)) (hf0 : w.cell? ⟨b, 0, none⟩ = some (.func (.func 162) #[] #[])) (hf1 : w.cell? ⟨b, 1, none⟩ = some (.func (.func 163) #[] #[]))
    (hf2 : w.cell? ⟨b, 2, none⟩ = some (.func (.func 171) #[] #[.pointer (some ⟨pi, 0, none⟩)])) (hpi : w.cell? ⟨pi, 0, none⟩ = some (sv moreS)) : SaysB 170 #[.pointer (some ⟨pl, 0, none⟩)] okB w where
  enters := enters_of Tryz.func170 (by kernel_rfl) rfl
  says := fun W c h => Any1_any c pl b pi W (cellAt h0 h (cell_blk h0)) (cellAt hf0 h (cell_blk hf0)) (cellAt hf1 h (cell_blk hf0)) (cellAt hf2 h (cell_blk hf0)) (cellAt hpi h (cell_blk hpi))
set_option maxRecDepth 100000 in
set_option maxHeartbeats 4000000 in
theorem plain_any (s : Str) (w : World) (hl : s.length ≤ 140737488355328) : Calls Tryz.prog 149 #[sv s] w fun e w' => e = .returned (.bool (allB okB s)) ∧ Below w.heap.size w w' := by
  have hm : s.length ≤ maxLen := by unfold maxLen; omega
  go_enter Tryz.func149, Tryz.ntmps149
  go_wp2_with fail
  refine (In_any moreS w).mono ?_
  rintro e w1 ⟨rfl, rfl⟩
  go_wp2_with fail
  refine (Anyc_any _ _).mono ?_
  rintro e w2 ⟨rfl, rfl⟩
  go_wp2_with fail
  refine (All_any s _ _ okB _ hm (says_any _ (w.heap.size + 1) w.heap.size _ (by go_simp) (by go_simp) (by go_simp) (by go_simp) (by go_simp))).mono ?_
  rintro e w3 ⟨rfl, hb⟩
  go_wp2_with fail
  go_ret
  exact ⟨rfl, lift (by repeat (first | exact Below.refl _ _ | assumption | refine Below.alloc ?_ (by simp <;> omega) _ | refine Below.setCell ?_ (by simp <;> omega) _ | refine Below.drew ?_)) hb⟩

theorem Suffix_any (k : Int) (w : World) : Calls Tryz.prog 150 #[.int .i64 k] w fun e w' => e = .returned (sv (sufS k)) ∧ w' = w := by
  by_cases h1 : k = 1
  · subst h1
    go_enter Tryz.func150, Tryz.ntmps150
    go_wp2
    go_ret
    exact ⟨rfl, rfl⟩
  by_cases h2 : k = 2
  · subst h2
    go_enter Tryz.func150, Tryz.ntmps150
    go_wp2
    go_ret
    exact ⟨rfl, rfl⟩
  by_cases h3 : k = 3
  · subst h3
    go_enter Tryz.func150, Tryz.ntmps150
    go_wp2
    go_ret
    exact ⟨rfl, rfl⟩
  by_cases h4 : k = 4
  · subst h4
    go_enter Tryz.func150, Tryz.ntmps150
    go_wp2
    go_ret
    exact ⟨rfl, rfl⟩
  · have b1 : (k == 1) = false := by simpa using h1
    have b2 : (k == 2) = false := by simpa using h2
    have b3 : (k == 3) = false := by simpa using h3
    have b4 : (k == 4) = false := by simpa using h4
    have e : sufS k = [] := by simp [sufS, h1, h2, h3, h4]
    have E := Lib.hid e
    clear h1 h2 h3 h4 e
    go_enter Tryz.func150, Tryz.ntmps150
    go_wp2
    go_ret
    exact ⟨by rw [E.out]; rfl, rfl⟩
theorem extract_str (s : Str) (a b : Nat) : (ByteArray.extract ⟨s.toArray⟩ a b) = ⟨((s.take b).drop a).toArray⟩ := by
  apply ByteArray.ext
  apply Array.ext'
  rw [Lib.extract_data]
  simp [List.drop_take]
theorem lastdot_any (s : Str) (w : World) (hl : s.length ≤ 140737488355328) : Calls Tryz.prog 158 #[sv s, .string ⟨#[46]⟩] w fun e w' => e = .returned (.int .i64 (Lib.lastIndexByte ⟨s.toArray⟩ 46)) ∧ w' = w :=
  Tryz.strings_LastIndex_one ⟨s.toArray⟩ ⟨#[46]⟩ rfl (by simp [ByteArray.size]; omega) w
set_option maxRecDepth 100000 in
set_option maxHeartbeats 4000000 in
theorem cutname_any (s : Str) (w : World) (hl : s.length ≤ 140737488355328) : Calls Tryz.prog 147 #[sv s] w fun e w' => e = .returned (.tuple #[sv (nameCut s).1, sv (nameCut s).2]) ∧ Below w.heap.size w w' := by
  have hsp := Lib.lastIndexByte_spec ⟨s.toArray⟩ 46
  unfold nameCut
  generalize hv : Lib.lastIndexByte ⟨s.toArray⟩ 46 = v at *
  rcases hsp with ⟨rfl, _⟩ | ⟨i, hi, rfl, _, _⟩
  · have HV := Lib.hid hv
    clear hv
    go_enter Tryz.func147, Tryz.ntmps147
    go_wp2_with fail
    refine (lastdot_any s w hl).mono ?_
    rintro e w1 ⟨rfl, rfl⟩
    rw [HV.out]
    go_wp2_with fail
    go_ret2
    exact ⟨rfl, Below.refl _ _⟩
  · have HV := Lib.hid hv
    have hi' : i < s.length := by simpa [ByteArray.size] using hi
    clear hv hi
    have k1 : ¬ ((i : Int) < 0) := by omega
    have k2 : (0 : Int) ≤ (i : Int) := by omega
    have k3 : (i : Int) ≤ (s.length : Int) := by omega
    have k4 : (0 : Int) ≤ (i : Int) + 1 := by omega
    have k5 : (i : Int) + 1 ≤ (s.length : Int) := by omega
    have k6 : IntKind.i64.wrap ((i : Int) + 1) = (i : Int) + 1 := IntWalk.i64_in _ (by omega)
    have k7 : ((i : Int) + 1).toNat = i + 1 := by omega
    rw [if_neg k1]
    go_enter Tryz.func147, Tryz.ntmps147
    go_wp2_with fail
    refine (lastdot_any s w hl).mono ?_
    rintro e w1 ⟨rfl, rfl⟩
    rw [HV.out]
    go_wp2_with fail
    try go_wp2_with fail
    refine wp_region_held_drew (S := fun w' => Below w1.heap.size w1 w') (by kernel_rfl) (Below.drew (Below.refl _ _)) (fun hHeld => ?_)
    refine tY (i := 0) (v := ?_) rfl ?_ hHeld ?_; rotate_left 1; focus (intro w' hSw; clear hSw; go_simp; try with_reducible rfl)
    (try simp only [Act.put, zn1, zn2, zn3])
    refine tY (i := 1) (v := ?_) rfl ?_ hHeld ?_; rotate_left 1; focus (intro w' hSw; clear hSw; go_simp; try with_reducible rfl)
    (try simp only [Act.put, zn1, zn2, zn3])
    refine tY (i := 2) (v := ?_) rfl ?_ hHeld ?_; rotate_left 1; focus (intro w' hSw; clear hSw; go_simp; try with_reducible rfl)
    (try simp only [Act.put, zn1, zn2, zn3])
    refine tY (i := 3) (v := ?_) rfl ?_ hHeld ?_; rotate_left 1; focus (intro w' hSw; clear hSw; go_simp; try with_reducible rfl)
    (try simp only [Act.put, zn1, zn2, zn3])
    refine tY (i := 4) (v := ?_) rfl ?_ hHeld ?_; rotate_left 1; focus (intro w' hSw; clear hSw; go_simp; try with_reducible rfl)
    (try simp only [Act.put, zn1, zn2, zn3])
    refine tY (i := 5) (v := ?_) rfl ?_ hHeld ?_; rotate_left 1; focus (intro w' hSw; clear hSw; go_simp; try with_reducible rfl)
    (try simp only [Act.put, zn1, zn2, zn3])
    refine tY (i := 6) (v := ?_) rfl ?_ hHeld ?_; rotate_left 1; focus (intro w' hSw; clear hSw; go_simp; try with_reducible rfl)
    (try simp only [Act.put, zn1, zn2, zn3])
    refine tY (i := 7) (v := ?_) rfl ?_ hHeld ?_; rotate_left 1; focus (intro w' hSw; clear hSw; go_simp; try with_reducible rfl)
    (try simp only [Act.put, zn1, zn2, zn3])
    refine tY (i := 8) (v := ?_) rfl ?_ hHeld ?_; rotate_left 1; focus (intro w' hSw; clear hSw; go_simp; try with_reducible rfl)
    (try simp only [Act.put, zn1, zn2, zn3])
    refine wpAnyH_done (by kernel_rfl) ?_ _
    go_wp2_with fail
    go_ret2
    refine ⟨?_, hHeld⟩
    show Ending.returned (.tuple #[.string (ByteArray.extract ⟨s.toArray⟩ 0 i), .string (ByteArray.extract ⟨s.toArray⟩ (i + 1) s.length)]) = _
    rw [extract_str, extract_str]
    simp
set_option maxHeartbeats 1000000 in
theorem Index_at (s : Str) (w : World) : Calls Tryz.prog 169 #[sv s, .string ⟨#[64]⟩] w fun e w' => e = .returned (.int .i64 (Lib.indexByte s 64)) ∧ w = w' := by
  cases hse : (([64] : Str) == s)
  · have Hse := Lib.hid hse
    go_enter Tryz.func169, Tryz.ntmps169
    go_wp2_with fail
    refine (Tryz.stringslite_IndexByte ⟨s.toArray⟩ 64 w).mono ?_
    rintro e w1 ⟨rfl, rfl⟩
    go_wp2_with fail
    go_ret
    exact ⟨rfl, rfl⟩
  · have hs : ([64] : Str) = s := by simpa using hse
    have h0 : Lib.indexByte s 64 = 0 := by rw [← hs]; rfl
    have H0 := Lib.hid h0
    clear hs h0
    go_enter Tryz.func169, Tryz.ntmps169
    go_wp2_with fail
    go_ret
    exact ⟨ret_int H0.out.symm, rfl⟩
def cutV (s : Str) : Value := .tuple #[sv (atCut s).1, sv (atCut s).2, .bool (decide (0 ≤ Lib.indexByte s 64))]
set_option maxRecDepth 100000 in
set_option maxHeartbeats 4000000 in
theorem Cutl_at (s : Str) (w : World) (hl : s.length ≤ 140737488355328) : Calls Tryz.prog 159 #[sv s, .string ⟨#[64]⟩] w fun e w' => e = .returned (cutV s) ∧ Below w.heap.size w w' := by
  have hge := Lib.indexByte_ge s 64
  have hcv : cutV s = .tuple #[sv (if 0 ≤ Lib.indexByte s 64 then (s.take (Lib.indexByte s 64).toNat, s.drop ((Lib.indexByte s 64).toNat + 1)) else (s, [])).1, sv (if 0 ≤ Lib.indexByte s 64 then (s.take (Lib.indexByte s 64).toNat, s.drop ((Lib.indexByte s 64).toNat + 1)) else (s, [])).2, .bool (decide (0 ≤ Lib.indexByte s 64))] := rfl
  generalize hv : Lib.indexByte s 64 = v at *
  by_cases h0 : 0 ≤ v
  · obtain ⟨i, rfl⟩ : ∃ i : Nat, v = i := ⟨v.toNat, by omega⟩
    have hsp := (Lib.indexByte_some hv).1
    have hi : i < s.length := by
      rcases Nat.lt_or_ge i s.length with h | h
      · exact h
      · rw [List.getElem?_eq_none h] at hsp; cases hsp
    have HV := Lib.hid hv
    have k2 : (0 : Int) ≤ (i : Int) := by omega
    have k3 : (i : Int) ≤ (s.length : Int) := by omega
    have k4 : (0 : Int) ≤ (i : Int) + 1 := by omega
    have k5 : (i : Int) + 1 ≤ (s.length : Int) := by omega
    have k6 : IntKind.i64.wrap ((i : Int) + 1) = (i : Int) + 1 := IntWalk.i64_in _ (by omega)
    have k7 : ((i : Int) + 1).toNat = i + 1 := by omega
    have k8 : decide ((0 : Int) ≤ (i : Int)) = true := by simp
    rw [if_pos h0, k8, Int.toNat_natCast] at hcv
    have HCV := Lib.hid hcv
    clear hv hge hsp h0 hcv
    go_enter Tryz.func159, Tryz.ntmps159
    go_wp2_with fail
    refine (Index_at s w).mono ?_
    rintro e w1 ⟨rfl, rfl⟩
    rw [HV.out]
    go_wp2_with fail
    try go_wp2_with fail
    refine wp_region_held_drew (S := fun w' => Below w.heap.size w w') (by kernel_rfl) (Below.drew (Below.refl _ _)) (fun hHeld => ?_)
    refine tY (i := 0) (v := ?_) rfl ?_ hHeld ?_; rotate_left 1; focus (intro w' hSw; clear hSw; go_simp; try with_reducible rfl)
    (try simp only [Act.put, zn1, zn2, zn3])
    refine tY (i := 1) (v := ?_) rfl ?_ hHeld ?_; rotate_left 1; focus (intro w' hSw; clear hSw; go_simp; try with_reducible rfl)
    (try simp only [Act.put, zn1, zn2, zn3])
    refine tY (i := 2) (v := ?_) rfl ?_ hHeld ?_; rotate_left 1; focus (intro w' hSw; clear hSw; go_simp; try with_reducible rfl)
    (try simp only [Act.put, zn1, zn2, zn3])
    refine tY (i := 3) (v := ?_) rfl ?_ hHeld ?_; rotate_left 1; focus (intro w' hSw; clear hSw; go_simp; try with_reducible rfl)
    (try simp only [Act.put, zn1, zn2, zn3])
    refine tY (i := 4) (v := ?_) rfl ?_ hHeld ?_; rotate_left 1; focus (intro w' hSw; clear hSw; go_simp; try with_reducible rfl)
    (try simp only [Act.put, zn1, zn2, zn3])
    refine tY (i := 5) (v := ?_) rfl ?_ hHeld ?_; rotate_left 1; focus (intro w' hSw; clear hSw; go_simp; try with_reducible rfl)
    (try simp only [Act.put, zn1, zn2, zn3])
    refine tY (i := 6) (v := ?_) rfl ?_ hHeld ?_; rotate_left 1; focus (intro w' hSw; clear hSw; go_simp; try with_reducible rfl)
    (try simp only [Act.put, zn1, zn2, zn3])
    refine tY (i := 7) (v := ?_) rfl ?_ hHeld ?_; rotate_left 1; focus (intro w' hSw; clear hSw; go_simp; try with_reducible rfl)
    (try simp only [Act.put, zn1, zn2, zn3])
    refine tY (i := 8) (v := ?_) rfl ?_ hHeld ?_; rotate_left 1; focus (intro w' hSw; clear hSw; go_simp; try with_reducible rfl)
    (try simp only [Act.put, zn1, zn2, zn3])
    refine tY (i := 9) (v := ?_) rfl ?_ hHeld ?_; rotate_left 1; focus (intro w' hSw; clear hSw; go_simp; try with_reducible rfl)
    (try simp only [Act.put, zn1, zn2, zn3])
    refine tY (i := 10) (v := ?_) rfl ?_ hHeld ?_; rotate_left 1; focus (intro w' hSw; clear hSw; go_simp; try with_reducible rfl)
    (try simp only [Act.put, zn1, zn2, zn3])
    refine tY (i := 11) (v := ?_) rfl ?_ hHeld ?_; rotate_left 1; focus (intro w' hSw; clear hSw; go_simp; try with_reducible rfl)
    (try simp only [Act.put, zn1, zn2, zn3])
    refine wpAnyH_done (by kernel_rfl) ?_ _
    go_wp2_with fail
    go_ret3
    refine ⟨?_, hHeld⟩
    rw [HCV.out]
    show Ending.returned (.tuple #[.string (ByteArray.extract ⟨s.toArray⟩ 0 i), .string (ByteArray.extract ⟨s.toArray⟩ (i + 1) s.length), .bool true]) = _
    rw [extract_str, extract_str]
    simp
  · have HV := Lib.hid hv
    have k8 : decide ((0 : Int) ≤ v) = false := by simpa using h0
    rw [if_neg h0, k8] at hcv
    have HCV := Lib.hid hcv
    clear hv hge h0 hcv
    go_enter Tryz.func159, Tryz.ntmps159
    go_wp2_with fail
    refine (Index_at s w).mono ?_
    rintro e w1 ⟨rfl, rfl⟩
    rw [HV.out]
    go_wp2_with fail
    go_ret3
    exact ⟨by rw [HCV.out]; rfl, Below.refl _ _⟩
set_option maxHeartbeats 1000000 in
theorem Cut_at (s : Str) (w : World) (hl : s.length ≤ 140737488355328) : Calls Tryz.prog 148 #[sv s, .string ⟨#[64]⟩] w fun e w' => e = .returned (cutV s) ∧ Below w.heap.size w w' := by
  go_enter Tryz.func148, Tryz.ntmps148
  go_wp2_with fail
  refine (Cutl_at s w hl).mono ?_
  rintro e w1 ⟨rfl, hb⟩
  have hcv : cutV s = .tuple #[sv (atCut s).1, sv (atCut s).2, .bool (decide (0 ≤ Lib.indexByte s 64))] := rfl
  have HCV := Lib.hid hcv
  rw [hcv]
  clear hcv
  go_wp2_with fail
  go_ret3
  exact ⟨HCV.out ▸ rfl, hb⟩
theorem sufK_at {t : Str} {k : Nat} (h1 : 1 ≤ k) (h2 : k ≤ 4) (ha : ∀ j : Nat, 1 ≤ j → j < k → sufS j ≠ t) (h : sufS k = t) : sufK t = k := by
  unfold sufK
  rcases (show k = 1 ∨ k = 2 ∨ k = 3 ∨ k = 4 by omega) with rfl | rfl | rfl | rfl
  · rw [if_pos (show sufS 1 = t from h)]; rfl
  · rw [if_neg (show sufS 1 ≠ t from ha 1 (by omega) (by omega)), if_pos (show sufS 2 = t from h)]; rfl
  · rw [if_neg (show sufS 1 ≠ t from ha 1 (by omega) (by omega)), if_neg (show sufS 2 ≠ t from ha 2 (by omega) (by omega)), if_pos (show sufS 3 = t from h)]; rfl
  · rw [if_neg (show sufS 1 ≠ t from ha 1 (by omega) (by omega)), if_neg (show sufS 2 ≠ t from ha 2 (by omega) (by omega)), if_neg (show sufS 3 ≠ t from ha 3 (by omega) (by omega)), if_pos (show sufS 4 = t from h)]; rfl
theorem sufK_none {t : Str} (ha : ∀ j : Nat, 1 ≤ j → j < 5 → sufS j ≠ t) : sufK t = 0 := by
  unfold sufK
  rw [if_neg (show sufS 1 ≠ t from ha 1 (by omega) (by omega)), if_neg (show sufS 2 ≠ t from ha 2 (by omega) (by omega)), if_neg (show sufS 3 ≠ t from ha 3 (by omega) (by omega)), if_neg (show sufS 4 ≠ t from ha 4 (by omega) (by omega))]
set_option maxRecDepth 100000 in
set_option maxHeartbeats 4000000 in
theorem Kind_any (s : Str) (w : World) (hl : s.length ≤ 140737488355328) : Calls Tryz.prog 125 #[sv s] w fun e w' => e = .returned (.int .i64 (kindS s)) ∧ Below w.heap.size w w' := by
  have hcl := nameCut_le s
  have hal := atCut_le (nameCut s).1
  have hbad : badName s = (decide (60 < (s.length : Int)) || ((atCut (nameCut s).1).1 == ([] : Str) || (!allB okB (atCut (nameCut s).1).1 || !allB okB (atCut (nameCut s).1).2))) := rfl
  have hkind : kindS s = if badName s then 0 else sufK (nameCut s).2 := rfl
  have hcv : cutV (nameCut s).1 = .tuple #[sv (atCut (nameCut s).1).1, sv (atCut (nameCut s).1).2, .bool (decide (0 ≤ Lib.indexByte (nameCut s).1 64))] := rfl
  rw [hbad] at hkind
  have HK := Lib.hid hkind
  have HCV := Lib.hid hcv
  clear hbad hkind hcv
  have hlh : (nameCut s).1.length ≤ 140737488355328 := by omega
  have hlp : (atCut (nameCut s).1).1.length ≤ 140737488355328 := by omega
  have hli : (atCut (nameCut s).1).2.length ≤ 140737488355328 := by omega
  go_enter Tryz.func125, Tryz.ntmps125
  go_wp2_with fail
  refine (cutname_any s w hl).mono ?_
  rintro e w1 ⟨rfl, hb1⟩
  have HB1 := Lib.hid hb1
  clear hb1
  go_wp2_with fail
  refine (Cut_at (nameCut s).1 w1 hlh).mono ?_
  rintro e w2 ⟨rfl, hb2⟩
  have HB2 := Lib.hid (lift HB1.out hb2)
  clear hb2
  rw [HCV.out]
  generalize hpre : (atCut (nameCut s).1).1 = pre at *
  generalize hins : (atCut (nameCut s).1).2 = ins at *
  generalize hsuf : (nameCut s).2 = suf at *
  have HX := Lib.hid (And.intro hpre (And.intro hins hsuf))
  clear hpre hins hsuf hcl hal
  by_cases h60 : (60 : Int) < (s.length : Int)
  · have d60 : decide ((60 : Int) < (s.length : Int)) = true := by simpa using h60
    have D60 := Lib.hid d60
    go_wp2_with fail
    go_ret
    exact ⟨ret_int (by rw [HK.out]; simp [D60.out]), HB2.out⟩
  · have d60 : decide ((60 : Int) < (s.length : Int)) = false := by simpa using h60
    have D60 := Lib.hid d60
    cases hp0 : (pre == ([] : Str))
    · have HP0 := Lib.hid hp0
      go_wp2_with fail
      refine (plain_any pre w2 hlp).mono ?_
      rintro e w3 ⟨rfl, hb3⟩
      have HB3 := Lib.hid (lift HB2.out hb3)
      clear hb3
      cases hq1 : allB okB pre
      · have HQ1 := Lib.hid hq1
        go_wp2_with fail
        go_ret
        exact ⟨ret_int (by rw [HK.out]; simp [HQ1.out]), HB3.out⟩
      · have HQ1 := Lib.hid hq1
        go_wp2_with fail
        refine (plain_any ins w3 hli).mono ?_
        rintro e w4 ⟨rfl, hb4⟩
        have HB4 := Lib.hid (lift HB3.out hb4)
        clear hb4
        cases hq2 : allB okB ins
        · have HQ2 := Lib.hid hq2
          go_wp2_with fail
          go_ret
          exact ⟨ret_int (by rw [HK.out]; simp [HQ2.out]), HB4.out⟩
        · have HQ2 := Lib.hid hq2
          go_wp2_with fail
          go_loopw [8] (fun i wr => ∃ k : Nat, 1 ≤ k ∧ k ≤ 5 ∧ i = .int .i64 k ∧ Hid (∀ j : Nat, 1 ≤ j → j < k → sufS j ≠ suf) ∧ Below w.heap.size w wr) (fun i _ => 5 - (intOf i).toNat)
          case atStart => exact ⟨1, by omega, by omega, rfl, fun j h1 h2 => by omega, HB4.out⟩
          case round =>
            obtain ⟨k, hk1, hk5, rfl, hall, hb⟩ := hrel
            have HB := Lib.hid hb
            clear hb
            by_cases hlt : k ≤ 4
            · have dk : decide ((k : Int) ≤ 4) = true := by simp; omega
              go_wp2_with fail
              refine (Suffix_any k wr).mono ?_
              rintro e w5 ⟨rfl, rfl⟩
              cases hs : (sufS k == suf)
              · have Hs := Lib.hid hs
                go_wp2_with fail
                go_roundw
                case rel =>
                  refine ⟨k + 1, by omega, by omega, by go_num, fun j h1 h2 => ?_, HB.out⟩
                  by_cases e : j = k
                  · subst e; have := Hs.out; simpa using this
                  · exact hall.out j h1 (by omega)
                case measure => simp [intOf]; omega
              · have Hs := Lib.hid (sufK_at hk1 hlt hall.out (by simpa using hs))
                go_wp2_with fail
                go_ret
                exact ⟨ret_int (by rw [HK.out]; simp [D60.out, HP0.out, HQ1.out, HQ2.out, Hs.out]), HB.out⟩
            · have dk : decide ((k : Int) ≤ 4) = false := by simp; omega
              have Hs := Lib.hid (sufK_none fun j h1 h2 => hall.out j h1 (by omega))
              go_wp2_with fail
              go_ret
              exact ⟨ret_int (by rw [HK.out]; simp [D60.out, HP0.out, HQ1.out, HQ2.out, Hs.out]), HB.out⟩
    · have HP0 := Lib.hid hp0
      go_wp2_with fail
      go_ret
      exact ⟨ret_int (by rw [HK.out]; simp [HP0.out]), HB2.out⟩
set_option maxHeartbeats 1000000 in
theorem May_any (s : Str) (w : World) (hl : s.length ≤ 140737488355328) : Calls Tryz.prog 124 #[sv s] w fun e w' => e = .returned (.bool (kindS s != 0)) ∧ Below w.heap.size w w' := by
  go_enter Tryz.func124, Tryz.ntmps124
  go_wp2_with fail
  refine (Kind_any s w hl).mono ?_
  rintro e w1 ⟨rfl, hb⟩
  go_wp2_with fail
  go_ret
  exact ⟨rfl, hb⟩
end Od
end Go.Proofs.YtmlogmcnblgnbaaGreat
end

section
/- The walks of package order: what comes directly ahead. -/
namespace Go.Proofs.YtmlogmcnblgnbaaGreat
open Go.RowKit

namespace Od
theorem below_box {w w' : World} {B : Nat} (h : Below B w w') (hB : B ≤ w'.heap.size) (o : Obj) : Below B w (w'.alloc o) := h.alloc hB o
abbrev edV (e : Ed) : Value := .agg #[sv e.1, sv e.2.1, .int .i64 e.2.2]
abbrev prV (p : Pr) : Value := .agg #[sv p.1, sv p.2]
/-- The pair that an edge says: the first one ahead of the second one. -/
def pairOf (e : Ed) : Option Pr := if e.2.2 = 8 then some (e.2.1, e.1) else if e.2.2 = 7 then some (e.1, e.2.1) else none

def ofV (e : Ed) : Value := .tuple #[prV ((pairOf e).getD ([], [])), .bool (pairOf e).isSome]
set_option maxHeartbeats 400000 in
theorem of_any (s d : Str) (r : Int) (w : World) :
    Calls Tryz.prog 65 #[.agg #[sv s, sv d, .int .i64 r]] w fun e w' => e = .returned (ofV (s, d, r)) ∧ Below w.heap.size w w' := by
  by_cases h8 : r = 8
  · subst h8
    go_enter Tryz.func65, Tryz.ntmps65
    go_wp2
    exact bodyPost_ret (v := .tuple #[.agg #[sv d, sv s], .bool true]) (by simp [results, Tryz.results65, go_sem]) rfl ⟨by simp [pairOf, ofV], (by repeat (first | exact Below.refl _ _ | assumption | refine Below.alloc ?_ (by simp) _ | refine Below.setCell ?_ (by simp) _ | refine Below.drew ?_))⟩
  by_cases h7 : r = 7
  · subst h7
    go_enter Tryz.func65, Tryz.ntmps65
    go_wp2
    exact bodyPost_ret (v := .tuple #[.agg #[sv s, sv d], .bool true]) (by simp [results, Tryz.results65, go_sem]) rfl ⟨by simp [pairOf, ofV], (by repeat (first | exact Below.refl _ _ | assumption | refine Below.alloc ?_ (by simp) _ | refine Below.setCell ?_ (by simp) _ | refine Below.drew ?_))⟩
  · go_enter Tryz.func65, Tryz.ntmps65
    go_wp2
    exact bodyPost_ret (v := .tuple #[.agg #[sv [], sv []], .bool false]) (by simp [results, Tryz.results65, go_sem]) rfl ⟨by simp [pairOf, ofV, h8, h7], (by repeat (first | exact Below.refl _ _ | assumption | refine Below.alloc ?_ (by simp) _ | refine Below.setCell ?_ (by simp) _ | refine Below.drew ?_))⟩

/-- A function value that says of an edge whether p, whatever has been made since. -/
structure SaysE (g : Nat) (caps : Array Value) (p : Ed → Bool) (w : World) : Prop where
  enters : ∀ (args : Array Value) (W : World), (callFunc g args).run Tryz.prog W = .ok (.enter g args) W
  says : ∀ (W : World) (s d : Str) (r : Int), Below w.heap.size w W → Calls Tryz.prog g (#[.agg #[sv s, sv d, .int .i64 r]] ++ caps) W fun e w' => e = .returned (.bool (p (s, d, r))) ∧ Below W.heap.size W w'

theorem any_take_succ {α : Type} {p : α → Bool} {l : List α} {k : Nat} (hk : k < l.length) : (l.take (k + 1)).any p = ((l.take k).any p || p l[k]) := by
  rw [List.take_succ_eq_append_getElem hk]; simp only [List.any_append, List.any_cons, List.any_nil, Bool.or_false]
theorem any_of_at {α : Type} {p : α → Bool} {l : List α} {k : Nat} (hk : k < l.length) (h : p l[k] = true) : l.any p = true := List.any_eq_true.2 ⟨l[k], List.getElem_mem hk, h⟩

def SomeIdx (yes : Bool) (w : World) (e : Ending) (w' : World) : Prop := ∃ r : Int, e = .returned (.int .i64 r) ∧ (yes = true ↔ 0 ≤ r) ∧ Below w.heap.size w w'

set_option maxRecDepth 100000 in
set_option maxHeartbeats 400000 in
theorem IndexFuncE (A : Option Addr) (c : Nat) (es : List Ed) (g : Nat) (caps : Array Value) (p : Ed → Bool) (w : World) (hr : Rd w w.heap.size 3 A es.length (edsC es)) (hl : es.length ≤ 1000000) (hp : SaysE g caps p w) :
    Calls Tryz.prog 96 #[.slice A es.length c, .func (.func g) #[] caps] w (SomeIdx (es.any p) w) := by
  have Hr := Lib.hid hr
  have Hp := Lib.hid hp
  have eg := hp.enters
  clear hr hp
  go_enter Tryz.func96, Tryz.ntmps96
  go_wp2_with fail
  go_loopw [8] (fun i wr => ∃ k : Nat, k ≤ es.length ∧ i = .int .i64 k ∧ Hid ((es.take k).any p = false) ∧ Below w.heap.size w wr) (fun i _ => es.length - (intOf i).toNat)
  case atStart => exact ⟨0, Nat.zero_le _, rfl, by simp [Hid], Below.refl _ _⟩
  case round =>
    obtain ⟨k, hk, rfl, hall, hbel⟩ := hrel
    by_cases hlt : k < es.length
    · obtain ⟨b, o, rfl, hB, hc0, hc1, hc2⟩ := (Hr.out.on (Nat.le_refl _) hbel).edge hlt
      have Hbel := Lib.hid hbel
      clear hbel
      generalize hx : es[k] = x at hc0 hc1 hc2
      obtain ⟨s, d, r⟩ := x
      have Hx := Lib.hid hx
      clear hx
      simp only at hc0 hc1 hc2
      have hcall := Hp.out.says wr s d r Hbel.out
      cases hpx : p (s, d, r)
      · rw [hpx] at hcall
        have Hpx := Lib.hid hpx
        have Hcall := Lib.hid hcall
        clear hpx hcall
        go_wp2_with fail
        refine Hcall.out.mono ?_
        rintro e w2 ⟨rfl, hb2⟩
        have Hb2 := Lib.hid hb2
        clear hb2
        go_wp2_with fail
        go_roundw
        case rel => exact ⟨k + 1, by omega, by go_num, by show _ = false; rw [any_take_succ hlt, hall.out, Hx.out, Hpx.out]; rfl, Hbel.out.trans (Hb2.out.mono Hbel.out.size)⟩
        case measure => simp [intOf]; omega
      · rw [hpx] at hcall
        have Hpx := Lib.hid hpx
        have Hcall := Lib.hid hcall
        clear hpx hcall
        go_wp2_with fail
        refine Hcall.out.mono ?_
        rintro e w2 ⟨rfl, hb2⟩
        have Hb2 := Lib.hid hb2
        clear hb2
        go_wp2_with fail
        go_ret
        exact ⟨k, rfl, by rw [any_of_at hlt (by rw [Hx.out]; exact Hpx.out)]; simp, Hbel.out.trans (Hb2.out.mono Hbel.out.size)⟩
    · have hkl : k = es.length := by omega
      have ha := hall.out
      rw [List.take_of_length_le (by omega)] at ha
      have Ha := Lib.hid ha
      clear ha hkl
      go_wp2_with fail
      go_ret
      exact ⟨-1, rfl, by rw [Ha.out]; simp, hbel⟩
set_option maxHeartbeats 400000 in
theorem ContainsFuncE (A : Option Addr) (c : Nat) (es : List Ed) (g : Nat) (caps : Array Value) (p : Ed → Bool) (w : World) (hr : Rd w w.heap.size 3 A es.length (edsC es)) (hl : es.length ≤ 1000000) (hp : SaysE g caps p w) :
    Calls Tryz.prog 63 #[.slice A es.length c, .func (.func g) #[] caps] w fun e w' => e = .returned (.bool (es.any p)) ∧ Below w.heap.size w w' := by
  go_enter Tryz.func63, Tryz.ntmps63
  go_wp2_with fail
  refine (IndexFuncE A c es g caps p w hr hl hp).mono ?_
  rintro e w2 ⟨r, rfl, hiff, hb⟩
  have Hiff := Lib.hid hiff
  clear hiff
  go_wp2_with fail
  go_ret
  exact ⟨ret_bool (by rw [Bool.eq_iff_iff, Hiff.out]; simp), hb⟩

/-- Does an edge say that a is directly ahead of b? -/
def aheadB (a b : Str) (e : Ed) : Bool := pairOf e == some (a, b)

set_option maxHeartbeats 400000 in
theorem Ahead1_any (a b s d : Str) (r : Int) (pa pb : Nat) (w : World) (ha : w.cell? ⟨pa, 0, none⟩ = some (sv a)) (hb : w.cell? ⟨pb, 0, none⟩ = some (sv b)) :
    Calls Tryz.prog 64 #[.agg #[sv s, sv d, .int .i64 r], .pointer (some ⟨pa, 0, none⟩), .pointer (some ⟨pb, 0, none⟩)] w fun e w' => e = .returned (.bool (aheadB a b (s, d, r))) ∧ Below w.heap.size w w' := by
  have la := cell_blk ha
  have lb := cell_blk hb
  go_enter Tryz.func64, Tryz.ntmps64
  go_wp2_with fail
  refine (of_any s d r _).mono ?_
  rintro e w2 ⟨rfl, hb2⟩
  unfold ofV
  cases hp : pairOf (s, d, r)
  · simp only [Option.getD_none, Option.isSome_none]
    go_wp2_with fail
    go_ret
    exact ⟨ret_bool (by simp [aheadB, hp]), below_alloc (Nat.le_refl _) hb2 |>.alloc (by have := hb2.size; simp at this; omega) _⟩
  · rename_i q
    obtain ⟨x, y⟩ := q
    simp only [Option.getD_some, Option.isSome_some]
    have ⟨hc, _⟩ := bcell hb2
    have h1 : w2.cell? ⟨pa, 0, none⟩ = some (sv a) := by rw [hc pa 0 (by simp; omega), World.cell?_alloc_lt _ _ _ (by simpa using la)]; exact ha
    have h2 : w2.cell? ⟨pb, 0, none⟩ = some (sv b) := by rw [hc pb 0 (by simp; omega), World.cell?_alloc_lt _ _ _ (by simpa using lb)]; exact hb
    have hz := hb2.size
    simp only [World.size_alloc] at hz
    have Hb2 := Lib.hid hb2
    have n1 : pa < w2.heap.size := by omega
    have n2 : pb < w2.heap.size := by omega
    have n3 : ¬ pa = w2.heap.size := by omega
    have n4 : ¬ pb = w2.heap.size := by omega
    clear hc hb2 ha hb
    go_wp2_with fail
    all_goals go_ret
    all_goals refine ⟨ret_bool ?_, (below_alloc (Nat.le_refl _) Hb2.out).alloc (by omega) _⟩
    all_goals (unfold aheadB; simp_all)

theorem says_ahead (a b : Str) (pa pb : Nat) (w : World) (ha : w.cell? ⟨pa, 0, none⟩ = some (sv a)) (hb : w.cell? ⟨pb, 0, none⟩ = some (sv b)) :
    SaysE 64 #[.pointer (some ⟨pa, 0, none⟩), .pointer (some ⟨pb, 0, none⟩)] (aheadB a b) w where
  enters := enters_of Tryz.func64 (by kernel_rfl) rfl
  says := fun W s d r h => Ahead1_any a b s d r pa pb W ((h.cell (p := ⟨pa, 0, none⟩) (cell_blk ha)).trans ha) ((h.cell (p := ⟨pb, 0, none⟩) (cell_blk hb)).trans hb)

/-- A graph as a value. -/
abbrev gV (An : Option Addr) (nn cn : Nat) (Ae : Option Addr) (ne ce : Nat) : Value := .agg #[.slice An nn cn, .slice Ae ne ce]

set_option maxHeartbeats 400000 in
theorem Ahead_any (An Ae : Option Addr) (nn cn ce : Nat) (es : List Ed) (a b : Str) (w : World) (hr : Rd w w.heap.size 3 Ae es.length (edsC es)) (hl : es.length ≤ 1000000) :
    Calls Tryz.prog 30 #[gV An nn cn Ae es.length ce, sv a, sv b] w fun e w' => e = .returned (.bool (es.any (aheadB a b))) ∧ Below w.heap.size w w' := by
  have Hr := Lib.hid hr
  clear hr
  go_enter Tryz.func30, Tryz.ntmps30
  go_wp2_with fail
  refine (ContainsFuncE Ae ce es _ _ (aheadB a b) _ ?hr hl (says_ahead a b _ _ _ ?ha ?hb)).mono ?_
  case ha => go_simp
  case hb => go_simp
  case hr => exact ((((Hr.out.alloc (Nat.le_refl _) _).alloc (by simp) _).alloc (by simp; omega) _)).more (by simp; omega)
  rintro e w2 ⟨rfl, hb2⟩
  have Hb2 := Lib.hid hb2
  clear hb2
  go_wp2_with fail
  go_ret
  exact ⟨rfl, below_alloc (Nat.le_refl _) (below_alloc (Nat.le_refl _) (below_alloc (Nat.le_refl _) Hb2.out))⟩
end Od
end Go.Proofs.YtmlogmcnblgnbaaGreat
end

section
/- The walks of small helpers: is an edge there, is a text in a row, are two rows alike. -/
namespace Go.Proofs.YtmlogmcnblgnbaaGreat
open Go.RowKit

namespace Od
set_option maxRecDepth 100000 in
set_option maxHeartbeats 1000000 in
theorem Has_any (An Ae : Option Addr) (nn cn ce : Nat) (es : List Ed) (a b : Str) (rel : Int) (w : World) (hr : Rd w w.heap.size 3 Ae es.length (edsC es)) (hl : es.length ≤ 1000000) :
    Calls Tryz.prog 32 #[gV An nn cn Ae es.length ce, sv a, sv b, .int .i64 rel] w fun e w' => e = .returned (.bool (es.any (· == (a, b, rel)))) ∧ Below w.heap.size w w' := by
  have Hr := Lib.hid hr
  clear hr
  go_enter Tryz.func32, Tryz.ntmps32
  go_wp2_with fail
  go_loopw [14] (fun i wr => ∃ k : Nat, k ≤ es.length ∧ i = .int .i64 k ∧ Hid ((es.take k).any (· == (a, b, rel)) = false) ∧ Below w.heap.size w wr) (fun i _ => es.length - (intOf i).toNat)
  case atStart => exact ⟨0, Nat.zero_le _, rfl, by simp [Hid], (Below.refl _ _).alloc (Nat.le_refl _) _⟩
  case round =>
    obtain ⟨k, hk, rfl, hall, hbel⟩ := hrel
    by_cases hlt : k < es.length
    · obtain ⟨bb, o, rfl, hB, hc0, hc1, hc2⟩ := (Hr.out.on (Nat.le_refl _) hbel).edge hlt
      have hz := hbel.size
      have n1 : bb < wr.heap.size := by omega
      have Hbel := Lib.hid hbel
      clear hbel
      generalize hx : es[k] = x at hc0 hc1 hc2
      obtain ⟨s, d, r⟩ := x
      have Hx := Lib.hid hx
      clear hx
      simp only at hc0 hc1 hc2
      go_wp2_with fail
      · go_ret
        exact ⟨ret_bool (by rw [any_of_at hlt (by rw [Hx.out]; simp_all)]), (Hbel.out.alloc hz _)⟩
      all_goals
        go_roundw
        case rel => exact ⟨k + 1, by omega, by go_num, by show _ = false; rw [any_take_succ hlt, hall.out, Hx.out, Bool.false_or, beq_eq_false_iff_ne]; intro he; injection he with h1 he2; injection he2 with h2 h3; simp_all, Hbel.out.alloc hz _⟩
        case measure => simp [intOf]; omega
    · have ha := hall.out
      rw [List.take_of_length_le (by omega)] at ha
      have Ha := Lib.hid ha
      clear ha
      go_wp2_with fail
      go_ret
      exact ⟨ret_bool (by rw [Ha.out]), hbel⟩

theorem ahead_two (a b : Str) (es : List Ed) : (es.any (· == (b, a, (8 : Int))) || es.any (· == (a, b, (7 : Int)))) = es.any (aheadB a b) := by
  rw [Bool.eq_iff_iff]
  simp only [Bool.or_eq_true, List.any_eq_true, aheadB, beq_iff_eq]
  constructor
  · rintro (⟨x, hx, rfl⟩ | ⟨x, hx, rfl⟩)
    · exact ⟨_, hx, by simp [pairOf]⟩
    · exact ⟨_, hx, by simp [pairOf]⟩
  · rintro ⟨⟨s, d, r⟩, hx, hp⟩
    unfold pairOf at hp
    by_cases h8 : r = 8
    · simp only [h8, if_true, Option.some.injEq, Prod.mk.injEq] at hp
      exact .inl ⟨_, hx, by simp [h8, hp]⟩
    · by_cases h7 : r = 7
      · simp only [h7] at hp
        simp at hp
        exact .inr ⟨_, hx, by simp [h7, hp]⟩
      · simp [h8, h7] at hp

set_option maxHeartbeats 400000 in
theorem refAhead_any (An Ae : Option Addr) (nn cn ce : Nat) (es : List Ed) (a b : Str) (w : World) (hr : Rd w w.heap.size 3 Ae es.length (edsC es)) (hl : es.length ≤ 1000000) :
    Calls Tryz.prog 86 #[gV An nn cn Ae es.length ce, sv a, sv b] w fun e w' => e = .returned (.bool (es.any (aheadB a b))) ∧ Below w.heap.size w w' := by
  have Hr := Lib.hid hr
  clear hr
  rw [← ahead_two]
  cases h1 : es.any (· == (b, a, (8 : Int)))
  · have H1 := Lib.hid h1
    clear h1
    go_enter Tryz.func86, Tryz.ntmps86
    go_wp2_with fail
    refine (Has_any An Ae nn cn ce es b a 8 _ ?hr hl).mono ?_
    case hr => exact (Hr.out.alloc (Nat.le_refl _) _).more (by simp)
    rintro e w2 ⟨rfl, hb2⟩
    rw [H1.out]
    have ⟨hc, _⟩ := bcell hb2
    have hcell0 : w2.cell? ⟨w.heap.size, 0, none⟩ = some (.slice An nn cn) := by rw [hc _ _ (by simp)]; go_simp
    have hcell1 : w2.cell? ⟨w.heap.size, 1, none⟩ = some (.slice Ae es.length ce) := by rw [hc _ _ (by simp)]; go_simp
    have Hb2 := Lib.hid hb2
    have Hr2 := Lib.hid ((((Hr.out.alloc (Nat.le_refl _) _).more (B' := (w.alloc (.cells #[.slice An nn cn, .slice Ae es.length ce] 25)).heap.size) (by simp)).on (Nat.le_refl _) hb2).more hb2.size)
    clear hc hb2
    go_wp2_with fail
    refine (Has_any An Ae nn cn ce es a b 7 _ Hr2.out hl).mono ?_
    rintro e w3 ⟨rfl, hb3⟩
    have Hb3 := Lib.hid hb3
    clear hb3
    go_wp2_with fail
    go_ret
    exact ⟨rfl, below_alloc (Nat.le_refl _) (Hb2.out.trans (Hb3.out.mono Hb2.out.size))⟩
  · have H1 := Lib.hid h1
    clear h1
    go_enter Tryz.func86, Tryz.ntmps86
    go_wp2_with fail
    refine (Has_any An Ae nn cn ce es b a 8 _ ?hr hl).mono ?_
    case hr => exact (Hr.out.alloc (Nat.le_refl _) _).more (by simp)
    rintro e w2 ⟨rfl, hb2⟩
    rw [H1.out]
    have Hb2 := Lib.hid hb2
    clear hb2
    go_wp2_with fail
    go_ret
    exact ⟨rfl, below_alloc (Nat.le_refl _) Hb2.out⟩
end Od
end Go.Proofs.YtmlogmcnblgnbaaGreat
end

section
/- The walks of the references' helpers: are two rows of texts alike; has a row a text; are two graphs alike. -/
namespace Go.Proofs.YtmlogmcnblgnbaaGreat
open Go.RowKit

namespace Od
theorem eq_of_at {α : Type} {xs ys : List α} (hl : xs.length = ys.length) (h : ∀ j (h1 : j < xs.length) (h2 : j < ys.length), xs[j] = ys[j]) : xs = ys := List.ext_getElem hl h
theorem at_ne {α : Type} {xs ys : List α} {k : Nat} (hx : k < xs.length) (hy : k < ys.length) (h : xs[k] ≠ ys[k]) : xs ≠ ys := fun e => by subst e; exact h rfl

set_option maxRecDepth 100000 in
set_option maxHeartbeats 1000000 in
theorem Same_any (A A' : Option Addr) (c c' : Nat) (xs ys : List Str) (w : World) (hr : Rd w w.heap.size 1 A xs.length (svs xs)) (hr' : Rd w w.heap.size 1 A' ys.length (svs ys)) (hb : xs.length ≤ 1000000) :
    Calls Tryz.prog 19 #[.slice A xs.length c, .slice A' ys.length c'] w fun e w' => e = .returned (.bool (decide (xs = ys))) ∧ Below w.heap.size w w' := by
  have Hr := Lib.hid hr
  have Hr' := Lib.hid hr'
  clear hr hr'
  by_cases hl : xs.length = ys.length
  · have Hl := Lib.hid hl
    have hl1 : ((xs.length : Int) != (ys.length : Int)) = false := by simp [hl]
    clear hl
    go_enter Tryz.func19, Tryz.ntmps19
    go_wp2_with fail
    go_loopw [13] (fun i wr => ∃ k : Nat, k ≤ xs.length ∧ i = .int .i64 k ∧ Hid (∀ j (h1 : j < xs.length) (h2 : j < ys.length), j < k → xs[j] = ys[j]) ∧ Below w.heap.size w wr) (fun i _ => xs.length - (intOf i).toNat)
    case atStart => exact ⟨0, Nat.zero_le _, rfl, fun _ _ _ h => absurd h (by omega), Below.refl _ _⟩
    case round =>
      obtain ⟨k, hk, rfl, hall, hbel⟩ := hrel
      have Hbel := Lib.hid hbel
      by_cases hlt : k < xs.length
      · have hlt' : k < ys.length := by have := Hl.out; omega
        obtain ⟨b, o, rfl, hB, hcell⟩ := (Hr.out.on (Nat.le_refl _) hbel).str hlt
        obtain ⟨b', o', rfl, hB', hcell'⟩ := (Hr'.out.on (Nat.le_refl _) hbel).str hlt'
        generalize hx : xs[k] = x at hcell
        generalize hy : ys[k] = y at hcell'
        have Hx := Lib.hid hx
        have Hy := Lib.hid hy
        have hk0 : (0 : Int) ≤ (k : Int) := by omega
        have hk1 : (k : Int) < (xs.length : Int) := by omega
        have hk2 : (k : Int) < (ys.length : Int) := by omega
        clear hx hy hbel
        cases hne : (x == y)
        · have Hne := Lib.hid hne
          go_wp2
          go_quiet (fail)
          go_wp2
          go_ret
          exact ⟨ret_bool (by
            have hd : xs[k] ≠ ys[k] := by rw [Hx.out, Hy.out]; simpa using Hne.out
            simp [at_ne hlt hlt' hd]), below_drewN Hbel.out _⟩
        · have Hne := Lib.hid hne
          go_wp2
          go_quiet (fail)
          go_wp2
          go_roundw
          case rel => exact ⟨k + 1, by omega, by go_num, fun j h1 h2 h3 => by
            rcases Nat.lt_or_ge j k with h | h
            · exact hall.out j h1 h2 h
            · obtain rfl : j = k := by omega
              rw [Hx.out, Hy.out]; simpa using Hne.out, below_drewN Hbel.out _⟩
          case measure => simp [intOf]; omega
      · go_wp2
        go_ret
        exact ⟨ret_bool (by
          have : xs = ys := eq_of_at Hl.out fun j h1 h2 => hall.out j h1 h2 (by omega)
          simp [this]), Hbel.out⟩
  · have hl1 : ((xs.length : Int) != (ys.length : Int)) = true := by rw [bne_iff_ne]; omega
    have Hl := Lib.hid hl
    clear hl
    go_enter Tryz.func19, Tryz.ntmps19
    go_wp2
    go_ret
    exact ⟨ret_bool (by
      have : ¬ xs = ys := fun e => Hl.out (by rw [e])
      simp [this]), Below.refl _ _⟩

def hasB (xs : List Str) (s : Str) : Bool := xs.contains s
theorem hasB_iff (xs : List Str) (s : Str) : hasB xs s = true ↔ s ∈ xs := by unfold hasB; simp
theorem hasB_any (xs : List Str) (s : Str) : xs.any (· == s) = hasB xs s := by unfold hasB; rw [List.any_beq']

set_option maxRecDepth 100000 in
set_option maxHeartbeats 1000000 in
theorem HasS_any (A : Option Addr) (c : Nat) (xs : List Str) (s : Str) (w : World) (hr : Rd w w.heap.size 1 A xs.length (svs xs)) (hb : xs.length ≤ 140737488355328) :
    Calls Tryz.prog 33 #[.slice A xs.length c, sv s] w fun e w' => e = .returned (.bool (hasB xs s)) ∧ w = w' := by
  have Hr := Lib.hid hr
  clear hr
  go_enter Tryz.func33, Tryz.ntmps33
  go_wp2_with fail
  go_loop [9] (fun i => ∃ k : Nat, k ≤ xs.length ∧ i = .int .i64 k ∧ Hid ((xs.take k).any (· == s) = false)) (fun i => xs.length - (intOf i).toNat)
  case atStart => exact ⟨0, Nat.zero_le _, rfl, by simp [Hid]⟩
  case round =>
    obtain ⟨k, hk, rfl, hall⟩ := hrel
    by_cases hlt : k < xs.length
    · obtain ⟨b, o, rfl, hB, hcell⟩ := Hr.out.str hlt
      generalize hx : xs[k] = x at hcell
      have Hx := Lib.hid hx
      clear hx
      cases hne : (x == s)
      · have Hne := Lib.hid hne
        go_wp2_with fail
        go_round
        case rel => exact ⟨k + 1, by omega, by go_num, by show _ = false; rw [any_take_succ hlt, hall.out, Hx.out, Hne.out]; rfl⟩
        case measure => simp [intOf]; omega
      · have Hne := Lib.hid hne
        go_wp2_with fail
        go_ret
        exact ⟨ret_bool (by
          have := any_of_at (p := (· == s)) hlt (by rw [Hx.out]; exact Hne.out)
          rw [hasB_any] at this
          exact this.symm), rfl⟩
    · have ha := hall.out
      rw [List.take_of_length_le (by omega), hasB_any] at ha
      have Ha := Lib.hid ha
      clear ha
      go_wp2_with fail
      go_ret
      exact ⟨ret_bool (by rw [Ha.out]), rfl⟩
end Od
end Go.Proofs.YtmlogmcnblgnbaaGreat
end

section
/- The walks of cmp.Compare, cmp.Or and of what tells which of two edges or nodes stands ahead. -/
namespace Go.Proofs.YtmlogmcnblgnbaaGreat
open Go.RowKit

namespace Od
def lessS (a b : Str) : Bool := Op.bytesLess a b
def cmpS (a b : Str) : Int := if lessS a b = true then -1 else if a = b then 0 else 1
def cmpI (a b : Int) : Int := if a < b then -1 else if b < a then 1 else 0
def orI : List Int → Int
  | [] => 0
  | x :: r => if x = 0 then orI r else x
def edgeCmp (e f : Ed) : Int := orI [cmpS e.1 f.1, cmpS e.2.1 f.2.1, cmpI e.2.2 f.2.2]

set_option maxHeartbeats 400000 in
theorem isNaNS_any (a : Str) (w : World) : Calls Tryz.prog 142 #[sv a] w fun e w' => e = .returned (.bool false) ∧ w = w' := by
  go_enter Tryz.func142, Tryz.ntmps142
  go_wp2
  go_ret
  exact ⟨ret_bool (by simp), rfl⟩

set_option maxHeartbeats 400000 in
theorem isNaNI_any (a : Int) (w : World) : Calls Tryz.prog 146 #[.int .i64 a] w fun e w' => e = .returned (.bool false) ∧ w = w' := by
  go_enter Tryz.func146, Tryz.ntmps146
  go_wp2
  go_ret
  exact ⟨ret_bool (by simp), rfl⟩

def IntIs (v : Int) (w : World) (e : Ending) (w' : World) : Prop := e = .returned (.int .i64 v) ∧ w = w'

set_option maxHeartbeats 400000 in
theorem CompareS_any (a b : Str) (w : World) : Calls Tryz.prog 121 #[sv a, sv b] w (IntIs (cmpS a b) w) := by
  cases h1 : Op.bytesLess a b
  · by_cases h2 : a = b
    · subst h2
      go_enter Tryz.func121, Tryz.ntmps121
      go_wp2_with ((go_at_call 142; refine (isNaNS_any _ _).mono ?_; rintro e w' ⟨rfl, rfl⟩))
      all_goals go_ret
      all_goals exact ⟨ret_int (by simp_all [cmpS, lessS]), rfl⟩
    · go_enter Tryz.func121, Tryz.ntmps121
      go_wp2_with ((go_at_call 142; refine (isNaNS_any _ _).mono ?_; rintro e w' ⟨rfl, rfl⟩))
      all_goals go_ret
      all_goals exact ⟨ret_int (by simp_all [cmpS, lessS]), rfl⟩
  · go_enter Tryz.func121, Tryz.ntmps121
    go_wp2_with ((go_at_call 142; refine (isNaNS_any _ _).mono ?_; rintro e w' ⟨rfl, rfl⟩))
    all_goals go_ret
    all_goals exact ⟨ret_int (by simp_all [cmpS, lessS]), rfl⟩

set_option maxHeartbeats 400000 in
theorem CompareI_any (a b : Int) (w : World) : Calls Tryz.prog 123 #[.int .i64 a, .int .i64 b] w (IntIs (cmpI a b) w) := by
  go_enter Tryz.func123, Tryz.ntmps123
  go_wp2_with ((go_at_call 146; refine (isNaNI_any _ _).mono ?_; rintro e w' ⟨rfl, rfl⟩))
  all_goals go_ret
  all_goals refine ⟨ret_int ?_, rfl⟩
  all_goals (unfold cmpI; (repeat' split) <;> omega)

theorem orI_cons0 (r : List Int) : orI (0 :: r) = orI r := rfl
theorem orI_cons {x : Int} (h : x ≠ 0) (r : List Int) : orI (x :: r) = x := by simp [orI, h]
theorem orI_app0 (b : List Int) : ∀ (a : List Int), orI a = 0 → orI (a ++ b) = orI b
  | [], _ => rfl
  | x :: r, ha => by
    rcases Decidable.em (x = 0) with h | h
    · subst h
      rw [List.cons_append, orI_cons0]
      rw [orI_cons0] at ha
      exact orI_app0 b r ha
    · rw [orI_cons h] at ha
      exact absurd ha h
theorem orI_take {xs : List Int} {k : Nat} (hk : k < xs.length) (h0 : orI (xs.take k) = 0) (hx : xs[k] ≠ 0) : orI xs = xs[k] := by
  have e : xs = xs.take k ++ (xs[k] :: xs.drop (k + 1)) := by rw [List.getElem_cons_drop, List.take_append_drop]
  have h := orI_app0 (xs[k] :: xs.drop (k + 1)) (xs.take k) h0
  rw [← e, orI_cons hx] at h
  exact h

set_option maxHeartbeats 400000 in
theorem Or_any (A : Option Addr) (c : Nat) (xs : List Int) (w : World) (hr : Rd w w.heap.size 1 A xs.length (ints xs)) (hl : xs.length ≤ 1000000) :
    Calls Tryz.prog 122 #[.slice A xs.length c] w (IntIs (orI xs) w) := by
  have Hr := Lib.hid hr
  clear hr
  go_enter Tryz.func122, Tryz.ntmps122
  go_wp2_with fail
  go_loop [8] (fun i => ∃ k : Nat, k ≤ xs.length ∧ i = .int .i64 k ∧ Hid (orI (xs.take k) = 0)) (fun i => xs.length - (intOf i).toNat)
  case atStart => exact ⟨0, Nat.zero_le _, rfl, rfl⟩
  case round =>
    obtain ⟨k, hk, rfl, hall⟩ := hrel
    by_cases hlt : k < xs.length
    · obtain ⟨b, o, rfl, hB, hc⟩ := Hr.out.open (by omega)
      have hcell : w.cell? ⟨b, o + k, none⟩ = some (.int .i64 xs[k]) := by rw [hc k (by omega), ints_at hlt]
      clear hc
      generalize hx : xs[k] = x at hcell
      have Hx := Lib.hid hx
      clear hx
      cases hne : (x != 0)
      · have Hne := Lib.hid hne
        go_wp2_with fail
        go_round
        case rel => exact ⟨k + 1, by omega, by go_num, by
          show _ = (0 : Int)
          rw [List.take_succ_eq_append_getElem hlt, orI_app0 _ _ hall.out, Hx.out]
          have : x = 0 := by simpa using Hne.out
          rw [this]; rfl⟩
        case measure => simp [intOf]; omega
      · have Hne := Lib.hid hne
        go_wp2_with fail
        go_ret
        exact ⟨ret_int (by rw [orI_take hlt hall.out (by rw [Hx.out]; simpa using Hne.out), Hx.out]), rfl⟩
    · have ha := hall.out
      rw [List.take_of_length_le (by omega)] at ha
      have Ha := Lib.hid ha
      clear ha
      go_wp2_with fail
      go_ret
      exact ⟨ret_int (by rw [Ha.out]), rfl⟩

def IntIsB (v : Int) (w : World) (e : Ending) (w' : World) : Prop := e = .returned (.int .i64 v) ∧ Below w.heap.size w w'

set_option maxHeartbeats 400000 in
theorem byName_any (a b : Nd) (w : World) :
    Calls Tryz.prog 88 #[.agg #[sv a.1, .int .i64 a.2.1, .int .i64 a.2.2], .agg #[sv b.1, .int .i64 b.2.1, .int .i64 b.2.2]] w (IntIsB (cmpS a.1 b.1) w) := by
  obtain ⟨n, k, s⟩ := a
  obtain ⟨n', k', s'⟩ := b
  go_enter Tryz.func88, Tryz.ntmps88
  go_wp2_with fail
  refine (CompareS_any _ _ _).mono ?_
  rintro e w2 ⟨rfl, rfl⟩
  go_wp2_with fail
  go_ret
  exact ⟨rfl, ((Below.refl _ _).alloc (Nat.le_refl _) _).alloc (by simp) _⟩

set_option maxRecDepth 100000 in
set_option maxHeartbeats 1000000 in
theorem byEdge_any (a b a' b' : Str) (x y : Int) (w : World) :
    Calls Tryz.prog 90 #[.agg #[sv a, sv b, .int .i64 x], .agg #[sv a', sv b', .int .i64 y]] w (IntIsB (edgeCmp (a, b, x) (a', b', y)) w) := by
  have h3 : Rd ((((w.alloc (.cells #[sv a, sv b, .int .i64 x] 85)).alloc (.cells #[sv a', sv b', .int .i64 y] 85)).alloc (.cells #[.int .i64 (cmpS a a'), .int .i64 (cmpS b b'), .int .i64 (cmpI x y)] 3)).drew) ((((w.alloc (.cells #[sv a, sv b, .int .i64 x] 85)).alloc (.cells #[sv a', sv b', .int .i64 y] 85)).alloc (.cells #[.int .i64 (cmpS a a'), .int .i64 (cmpS b b'), .int .i64 (cmpI x y)] 3)).drew).heap.size 1 (some ⟨w.heap.size + 1 + 1, 0, none⟩) 3 (ints [cmpS a a', cmpS b b', cmpI x y]) := by
    have h := (Rd.lit ((w.alloc (.cells #[sv a, sv b, .int .i64 x] 85)).alloc (.cells #[sv a', sv b', .int .i64 y] 85)) (ints [cmpS a a', cmpS b b', cmpI x y]) 3 1 3 rfl).drew
    simp only [World.size_alloc] at h
    exact h.more (by simp)
  have H3 := Lib.hid h3
  clear h3
  go_enter Tryz.func90, Tryz.ntmps90
  go_wp2_with fail
  go_region_held3 (fun w' => w'.cell? ⟨w.heap.size, 0, none⟩ = some (sv a) ∧ w'.cell? ⟨w.heap.size, 1, none⟩ = some (sv b) ∧ w'.cell? ⟨w.heap.size, 2, none⟩ = some (.int .i64 x) ∧ w'.cell? ⟨w.heap.size + 1, 0, none⟩ = some (sv a') ∧ w'.cell? ⟨w.heap.size + 1, 1, none⟩ = some (sv b') ∧ w'.cell? ⟨w.heap.size + 1, 2, none⟩ = some (.int .i64 y)) (go_keep)
    (first | (go_at_call 121; refine (CompareS_any _ _ _).mono ?_; rintro e w' ⟨rfl, rfl⟩) | (go_at_call 123; refine (CompareI_any _ _ _).mono ?_; rintro e w' ⟨rfl, rfl⟩) | (go_at_call 122; refine (Or_any (some ⟨w.heap.size + 1 + 1, 0, none⟩) 3 [cmpS a a', cmpS b b', cmpI x y] _ H3.out (by simp)).mono ?_; rintro e w' ⟨rfl, rfl⟩))
  go_wp2_with fail
  go_ret
  exact ⟨rfl, ((((Below.refl _ _).alloc (Nat.le_refl _) _).alloc (by simp) _).alloc (by simp; omega) _).drew⟩
end Od
end Go.Proofs.YtmlogmcnblgnbaaGreat
end

section
/- The walks of graph.rises at edges and nodes. -/
namespace Go.Proofs.YtmlogmcnblgnbaaGreat
open Go.RowKit

namespace Od
def risesB {α : Type} (c : α → α → Int) : List α → Bool
  | x :: y :: r => decide (c x y < 0) && risesB c (y :: r)
  | _ => true
theorem risesB_iff {α : Type} (c : α → α → Int) : ∀ (l : List α), risesB c l = true ↔ ∀ i (h : i + 1 < l.length), c l[i] l[i + 1] < 0
  | [] => by simp [risesB]
  | [x] => by simp [risesB]
  | x :: y :: r => by
    have ih := risesB_iff c (y :: r)
    unfold risesB
    rw [Bool.and_eq_true, decide_eq_true_eq, ih]
    constructor
    · rintro ⟨h1, h2⟩ i hi
      cases i with
      | zero => exact h1
      | succ i => exact h2 i (by simpa using hi)
    · intro h
      exact ⟨h 0 (by simp), fun i hi => h (i + 1) (by simpa using hi)⟩

def nodeCmp (a b : Nd) : Int := cmpS a.1 b.1

set_option maxRecDepth 100000 in
set_option maxHeartbeats 1000000 in
theorem risesE_any (A : Option Addr) (c : Nat) (es : List Ed) (w : World) (hr : Rd w w.heap.size 3 A es.length (edsC es)) (hl : es.length ≤ 1000000) :
    Calls Tryz.prog 89 #[.slice A es.length c, .func (.func 90) #[] #[]] w fun e w' => e = .returned (.bool (risesB edgeCmp es)) ∧ Below w.heap.size w w' := by
  have Hr := Lib.hid hr
  clear hr
  go_enter Tryz.func89, Tryz.ntmps89
  go_wp2_with fail
  go_loopw [5] (fun i wr => ∃ k : Nat, 1 ≤ k ∧ (k ≤ es.length ∨ k = 1) ∧ i = .int .i64 k ∧ Hid (∀ j (h : j + 1 < es.length), j + 1 < k → edgeCmp es[j] es[j + 1] < 0) ∧ Below w.heap.size w wr) (fun i _ => es.length + 1 - (intOf i).toNat)
  case atStart => exact ⟨1, by omega, .inr rfl, rfl, fun j _ h => absurd h (by omega), Below.refl _ _⟩
  case round =>
    obtain ⟨k, hk1, hk, rfl, hall, hbel⟩ := hrel
    by_cases hlt : k < es.length
    · have hRr := Hr.out.on (Nat.le_refl _) hbel
      obtain ⟨b, o, rfl, hB, hc0, hc1, hc2⟩ := hRr.edge (i := k - 1) (by omega)
      obtain ⟨b', o', he, _, hd0, hd1, hd2⟩ := hRr.edge hlt
      injection he with he
      injection he with he1 he2
      subst he1 he2
      obtain ⟨j, rfl⟩ : ∃ j, k = j + 1 := ⟨k - 1, by omega⟩
      simp only [Nat.add_sub_cancel] at hc0 hc1 hc2
      have hz := hbel.size
      have n1 : b < wr.heap.size := by omega
      have Hbel := Lib.hid hbel
      clear hbel hRr
      generalize hx : es[j] = x at hc0 hc1 hc2
      generalize hy : es[j + 1] = y at hd0 hd1 hd2
      obtain ⟨s, d, r⟩ := x
      obtain ⟨s', d', r'⟩ := y
      have Hx := Lib.hid hx
      have Hy := Lib.hid hy
      clear hx hy
      simp only at hc0 hc1 hc2 hd0 hd1 hd2
      have k1 : (0 : Int) ≤ (j : Int) := by omega
      have k2 : (j : Int) < (es.length : Int) := by omega
      have k3 : (j : Int) + 1 < (es.length : Int) := by omega
      have k4 : IntKind.i64.wrap (j : Int) = j := IntWalk.i64_in _ (by omega)
      have k5 : IntKind.i64.wrap ((j : Int) + 1) = (j : Int) + 1 := IntWalk.i64_in _ (by omega)
      have k6 : ((j : Int) + 1).toNat = j + 1 := by omega
      have k7 : (0 : Int) ≤ (j : Int) + 1 := by omega
      have k8 : IntKind.i64.wrap ((j : Int) + 1 - 1) = j := by rw [show (j : Int) + 1 - 1 = j from by omega]; exact k4
      go_wp2_with fail
      go_region_held3 (fun w' => w'.cell? ⟨b, o + j * 3, none⟩ = some (sv s) ∧ w'.cell? ⟨b, o + j * 3 + 1, none⟩ = some (sv d) ∧ w'.cell? ⟨b, o + j * 3 + 2, none⟩ = some (.int .i64 r) ∧ w'.cell? ⟨b, o + (j + 1) * 3, none⟩ = some (sv s') ∧ w'.cell? ⟨b, o + (j + 1) * 3 + 1, none⟩ = some (sv d') ∧ w'.cell? ⟨b, o + (j + 1) * 3 + 2, none⟩ = some (.int .i64 r')) (first | go_keep | exact ⟨(hb2.cell (p := ⟨b, o + j * 3, none⟩) n1).trans hc0, (hb2.cell (p := ⟨b, o + j * 3 + 1, none⟩) n1).trans hc1, (hb2.cell (p := ⟨b, o + j * 3 + 2, none⟩) n1).trans hc2, (hb2.cell (p := ⟨b, o + (j + 1) * 3, none⟩) n1).trans hd0, (hb2.cell (p := ⟨b, o + (j + 1) * 3 + 1, none⟩) n1).trans hd1, (hb2.cell (p := ⟨b, o + (j + 1) * 3 + 2, none⟩) n1).trans hd2⟩)
        (first | (go_at_call 90; refine (byEdge_any _ _ _ _ _ _ _).mono ?_; rintro e w2 ⟨rfl, hb2⟩))
      have Hb3 := Lib.hid (Hbel.out.trans (show Below w.heap.size wr w2 from ⟨hb2.os, hb2.tape, hb2.output, hb2.size, fun i hi => hb2.block i (Nat.lt_of_lt_of_le hi hz)⟩))
      clear hb2
      by_cases hcmp : edgeCmp (s, d, r) (s', d', r') < 0
      · have hcmp' : ¬ 0 ≤ edgeCmp (s, d, r) (s', d', r') := by omega
        go_wp2_with fail
        go_roundw
        case rel => exact ⟨j + 2, by omega, by omega, by go_num, fun i h1 h2 => by
          rcases Nat.lt_or_ge i j with h | h
          · exact hall.out i h1 (by omega)
          · obtain rfl : i = j := by omega
            rw [Hx.out, Hy.out]; exact hcmp, Hb3.out⟩
        case measure => simp [intOf]; omega
      · have hcmp' : 0 ≤ edgeCmp (s, d, r) (s', d', r') := by omega
        go_wp2_with fail
        go_ret
        exact ⟨ret_bool (by
          symm
          rw [Bool.eq_false_iff, ne_eq, risesB_iff]
          intro h
          have := h j hlt
          rw [Hx.out, Hy.out] at this
          omega), Hb3.out⟩
    · go_wp2_with fail
      go_ret
      exact ⟨ret_bool (by
        symm
        rw [risesB_iff]
        intro i hi
        exact hall.out i hi (by omega)), hbel⟩
set_option maxRecDepth 100000 in
set_option maxHeartbeats 1000000 in
theorem risesN_any (A : Option Addr) (c : Nat) (ns : List Nd) (w : World) (hr : Rd w w.heap.size 3 A ns.length (ndsC ns)) (hl : ns.length ≤ 1000000) :
    Calls Tryz.prog 87 #[.slice A ns.length c, .func (.func 88) #[] #[]] w fun e w' => e = .returned (.bool (risesB nodeCmp ns)) ∧ Below w.heap.size w w' := by
  have Hr := Lib.hid hr
  clear hr
  go_enter Tryz.func87, Tryz.ntmps87
  go_wp2_with fail
  go_loopw [5] (fun i wr => ∃ k : Nat, 1 ≤ k ∧ (k ≤ ns.length ∨ k = 1) ∧ i = .int .i64 k ∧ Hid (∀ j (h : j + 1 < ns.length), j + 1 < k → nodeCmp ns[j] ns[j + 1] < 0) ∧ Below w.heap.size w wr) (fun i _ => ns.length + 1 - (intOf i).toNat)
  case atStart => exact ⟨1, by omega, .inr rfl, rfl, fun j _ h => absurd h (by omega), Below.refl _ _⟩
  case round =>
    obtain ⟨k, hk1, hk, rfl, hall, hbel⟩ := hrel
    by_cases hlt : k < ns.length
    · have hRr := Hr.out.on (Nat.le_refl _) hbel
      obtain ⟨b, o, rfl, hB, hc0, hc1, hc2⟩ := hRr.node (i := k - 1) (by omega)
      obtain ⟨b', o', he, _, hd0, hd1, hd2⟩ := hRr.node hlt
      injection he with he
      injection he with he1 he2
      subst he1 he2
      obtain ⟨j, rfl⟩ : ∃ j, k = j + 1 := ⟨k - 1, by omega⟩
      simp only [Nat.add_sub_cancel] at hc0 hc1 hc2
      have hz := hbel.size
      have n1 : b < wr.heap.size := by omega
      have Hbel := Lib.hid hbel
      clear hbel hRr
      generalize hx : ns[j] = x at hc0 hc1 hc2
      generalize hy : ns[j + 1] = y at hd0 hd1 hd2
      obtain ⟨s, d, r⟩ := x
      obtain ⟨s', d', r'⟩ := y
      have Hx := Lib.hid hx
      have Hy := Lib.hid hy
      clear hx hy
      simp only at hc0 hc1 hc2 hd0 hd1 hd2
      have k1 : (0 : Int) ≤ (j : Int) := by omega
      have k2 : (j : Int) < (ns.length : Int) := by omega
      have k3 : (j : Int) + 1 < (ns.length : Int) := by omega
      have k4 : IntKind.i64.wrap (j : Int) = j := IntWalk.i64_in _ (by omega)
      have k5 : IntKind.i64.wrap ((j : Int) + 1) = (j : Int) + 1 := IntWalk.i64_in _ (by omega)
      have k6 : ((j : Int) + 1).toNat = j + 1 := by omega
      have k7 : (0 : Int) ≤ (j : Int) + 1 := by omega
      have k8 : IntKind.i64.wrap ((j : Int) + 1 - 1) = j := by rw [show (j : Int) + 1 - 1 = j from by omega]; exact k4
      go_wp2_with fail
      go_region_held3 (fun w' => w'.cell? ⟨b, o + j * 3, none⟩ = some (sv s) ∧ w'.cell? ⟨b, o + j * 3 + 1, none⟩ = some (.int .i64 d) ∧ w'.cell? ⟨b, o + j * 3 + 2, none⟩ = some (.int .i64 r) ∧ w'.cell? ⟨b, o + (j + 1) * 3, none⟩ = some (sv s') ∧ w'.cell? ⟨b, o + (j + 1) * 3 + 1, none⟩ = some (.int .i64 d') ∧ w'.cell? ⟨b, o + (j + 1) * 3 + 2, none⟩ = some (.int .i64 r')) (first | go_keep | exact ⟨(hb2.cell (p := ⟨b, o + j * 3, none⟩) n1).trans hc0, (hb2.cell (p := ⟨b, o + j * 3 + 1, none⟩) n1).trans hc1, (hb2.cell (p := ⟨b, o + j * 3 + 2, none⟩) n1).trans hc2, (hb2.cell (p := ⟨b, o + (j + 1) * 3, none⟩) n1).trans hd0, (hb2.cell (p := ⟨b, o + (j + 1) * 3 + 1, none⟩) n1).trans hd1, (hb2.cell (p := ⟨b, o + (j + 1) * 3 + 2, none⟩) n1).trans hd2⟩)
        (first | (go_at_call 88; refine (byName_any (s, d, r) (s', d', r') _).mono ?_; rintro e w2 ⟨rfl, hb2⟩))
      have Hb3 := Lib.hid (Hbel.out.trans (show Below w.heap.size wr w2 from ⟨hb2.os, hb2.tape, hb2.output, hb2.size, fun i hi => hb2.block i (Nat.lt_of_lt_of_le hi hz)⟩))
      clear hb2
      by_cases hcmp : nodeCmp (s, d, r) (s', d', r') < 0
      · have hcmp' : ¬ 0 ≤ nodeCmp (s, d, r) (s', d', r') := by omega
        go_wp2_with fail
        go_roundw
        case rel => exact ⟨j + 2, by omega, by omega, by go_num, fun i h1 h2 => by
          rcases Nat.lt_or_ge i j with h | h
          · exact hall.out i h1 (by omega)
          · obtain rfl : i = j := by omega
            rw [Hx.out, Hy.out]; exact hcmp, Hb3.out⟩
        case measure => simp [intOf]; omega
      · have hcmp' : 0 ≤ nodeCmp (s, d, r) (s', d', r') := by omega
        go_wp2_with fail
        go_ret
        exact ⟨ret_bool (by
          symm
          rw [Bool.eq_false_iff, ne_eq, risesB_iff]
          intro h
          have := h j hlt
          rw [Hx.out, Hy.out] at this
          omega), Hb3.out⟩
    · go_wp2_with fail
      go_ret
      exact ⟨ret_bool (by
        symm
        rw [risesB_iff]
        intro i hi
        exact hall.out i hi (by omega)), hbel⟩
end Od
end Go.Proofs.YtmlogmcnblgnbaaGreat
end
