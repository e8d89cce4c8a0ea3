/- My texts, joined for the claim: NKind GMath. -/
import Derived.Test.YtgfdcmlmgeoimaaZB1
import Derived.Test.YtgfdcmlmgeoimaaZB2
import Derived.Lib.SlicesCompact
import Derived.Sort.Walk0

section
/- The walks of package name: a name's kind. -/
namespace Go.Proofs.Ytgfdcmlmgeoimaa
open Go.RowKit

namespace Od
def okK (c : Int) : Nat → Bool
  | 0 => false
  | 1 => letterB c
  | 2 => letterB c || digitB c
  | _ => okB c
set_option maxRecDepth 100000 in
set_option maxHeartbeats 4000000 in
theorem Any1_any (c : Int) (pl b pi : Nat) (w : World) (h0 : w.cell? ⟨pl, 0, none⟩ = some (.slice (some ⟨b, 0, none⟩) 3 3)) (hf0 : w.cell? ⟨b, 0, none⟩ = some (.func (.func 40) #[] #[])) (hf1 : w.cell? ⟨b, 1, none⟩ = some (.func (.func 41) #[] #[]))
    (hf2 : w.cell? ⟨b, 2, none⟩ = some (.func (.func 56) #[] #[.pointer (some ⟨pi, 0, none⟩)])) (hpi : w.cell? ⟨pi, 0, none⟩ = some (sv moreS)) :
    Calls Try.prog 55 #[.int .u8 c, .pointer (some ⟨pl, 0, none⟩)] w fun e w' => e = .returned (.bool (okB c)) ∧ Below w.heap.size w w' := by
  have hb0 : b < w.heap.size := cell_blk hf0
  have hpl : pl < w.heap.size := cell_blk h0
  have hstep : ∀ k : Nat, k < 3 → ∃ (g : Nat) (caps : Array Value) (p : Int → Bool), w.cell? ⟨b, k, none⟩ = some (.func (.func g) #[] caps) ∧ SaysB g caps p w ∧ okK c (k + 1) = (okK c k || p c) := by
    intro k hk
    rcases (show k = 0 ∨ k = 1 ∨ k = 2 by omega) with rfl | rfl | rfl
    · exact ⟨_, _, _, hf0, says_letter w, rfl⟩
    · exact ⟨_, _, _, hf1, says_digit w, rfl⟩
    · exact ⟨_, _, _, hf2, says_in pi moreS w hpi, by simp [okK, okB, Bool.or_assoc]⟩
  have HSt := Lib.hid hstep
  clear hstep hf0 hf1 hf2 hpi
  go_enter Try.func55, Try.ntmps55
  go_wp2_with fail
  go_loopw [8] (fun i wr => ∃ k : Nat, k ≤ 3 ∧ i = .int .i64 k ∧ Hid (okK c k = false) ∧ Below w.heap.size w wr) (fun i _ => 3 - (intOf i).toNat)
  case atStart => exact ⟨0, by omega, rfl, rfl, Below.refl _ _⟩
  case round =>
    obtain ⟨k, hk, rfl, hall, hb⟩ := hrel
    have HB := Lib.hid hb
    clear hb
    by_cases hlt : k < 3
    · have hdk : decide ((k : Int) < 3) = true := by simp; omega
      obtain ⟨g, caps, p, hc, hs, ho⟩ := HSt.out k hlt
      have hcr := cellAt hc HB.out hb0
      have Hs := Lib.hid hs
      have Ho := Lib.hid ho
      have eg := hs.enters
      clear hc hs ho
      go_wp2_with fail
      refine (Hs.out.says wr c HB.out).mono ?_
      rintro e w2 ⟨rfl, hb2⟩
      have HB2 := Lib.hid (HB.out.trans (hb2.mono HB.out.size))
      clear hb2
      cases hp : p c
      · have HP := Lib.hid hp
        go_wp2_with fail
        go_roundw
        case rel => exact ⟨k + 1, by omega, by go_num, by show _ = false; rw [Ho.out, hall.out, HP.out]; rfl, HB2.out⟩
        case measure => simp [intOf]; omega
      · have HP := Lib.hid hp
        go_wp2_with fail
        go_ret
        refine ⟨ret_bool ?_, HB2.out⟩
        have h1 : okK c (k + 1) = true := by rw [Ho.out, HP.out, Bool.or_true]
        rcases (show k = 0 ∨ k = 1 ∨ k = 2 by omega) with rfl | rfl | rfl
        · simp only [okK] at h1; simp [okB, h1]
        · simp only [okK] at h1; unfold okB; rw [← Bool.or_assoc, h1]; rfl
        · exact h1.symm
    · have hk3 : k = 3 := by omega
      have hdk : decide ((k : Int) < 3) = false := by simp; omega
      have h3 := hall.out
      rw [hk3] at h3
      have H3 := Lib.hid h3
      clear hk3 h3
      go_wp2_with fail
      go_ret
      exact ⟨ret_bool H3.out.symm, HB.out⟩

set_option maxRecDepth 100000 in
set_option maxHeartbeats 4000000 in
theorem Anyc_any (A : Option Addr) (w : World) : Calls Try.prog 39 #[.slice A 3 3] w fun e w' => e = .returned (.func (.func 55) #[] #[.pointer (some ⟨w.heap.size, 0, none⟩)]) ∧ w' = w.alloc (.cells #[.slice A 3 3] 82) := by
  go_enter Try.func39, Try.ntmps39
  go_wp2_with fail
  go_ret
  exact ⟨rfl, rfl⟩
theorem says_any (pl b pi : Nat) (w : World) (h0 : w.cell? ⟨pl, 0, none⟩ = some (.slice (some ⟨b, 0, none⟩) 3 3)) (hf0 : w.cell? ⟨b, 0, none⟩ = some (.func (.func 40) #[] #[])) (hf1 : w.cell? ⟨b, 1, none⟩ = some (.func (.func 41) #[] #[]))
    (hf2 : w.cell? ⟨b, 2, none⟩ = some (.func (.func 56) #[] #[.pointer (some ⟨pi, 0, none⟩)])) (hpi : w.cell? ⟨pi, 0, none⟩ = some (sv moreS)) : SaysB 55 #[.pointer (some ⟨pl, 0, none⟩)] okB w where
  enters := enters_of Try.func55 (by kernel_rfl) rfl
  says := fun W c h => Any1_any c pl b pi W (cellAt h0 h (cell_blk h0)) (cellAt hf0 h (cell_blk hf0)) (cellAt hf1 h (cell_blk hf0)) (cellAt hf2 h (cell_blk hf0)) (cellAt hpi h (cell_blk hpi))
set_option maxRecDepth 100000 in
set_option maxHeartbeats 4000000 in
theorem plain_any (s : Str) (w : World) (hl : s.length ≤ 140737488355328) : Calls Try.prog 43 #[sv s] w fun e w' => e = .returned (.bool (allB okB s)) ∧ Below w.heap.size w w' := by
  have hm : s.length ≤ maxLen := by unfold maxLen; omega
  go_enter Try.func43, Try.ntmps43
  go_wp2_with fail
  refine (In_any moreS w).mono ?_
  rintro e w1 ⟨rfl, rfl⟩
  go_wp2_with fail
  refine (Anyc_any _ _).mono ?_
  rintro e w2 ⟨rfl, rfl⟩
  go_wp2_with fail
  refine (All_any s _ _ okB _ hm (says_any _ (w.heap.size + 1) w.heap.size _ (by go_simp) (by go_simp) (by go_simp) (by go_simp) (by go_simp))).mono ?_
  rintro e w3 ⟨rfl, hb⟩
  go_wp2_with fail
  go_ret
  exact ⟨rfl, lift (by repeat (first | exact Below.refl _ _ | assumption | refine Below.alloc ?_ (by simp <;> omega) _ | refine Below.setCell ?_ (by simp <;> omega) _ | refine Below.drew ?_)) hb⟩

theorem Suffix_any (k : Int) (w : World) : Calls Try.prog 44 #[.int .i64 k] w fun e w' => e = .returned (sv (sufS k)) ∧ w' = w := by
  by_cases h1 : k = 1
  · subst h1
    go_enter Try.func44, Try.ntmps44
    go_wp2
    go_ret
    exact ⟨rfl, rfl⟩
  by_cases h2 : k = 2
  · subst h2
    go_enter Try.func44, Try.ntmps44
    go_wp2
    go_ret
    exact ⟨rfl, rfl⟩
  by_cases h3 : k = 3
  · subst h3
    go_enter Try.func44, Try.ntmps44
    go_wp2
    go_ret
    exact ⟨rfl, rfl⟩
  by_cases h4 : k = 4
  · subst h4
    go_enter Try.func44, Try.ntmps44
    go_wp2
    go_ret
    exact ⟨rfl, rfl⟩
  · have b1 : (k == 1) = false := by simpa using h1
    have b2 : (k == 2) = false := by simpa using h2
    have b3 : (k == 3) = false := by simpa using h3
    have b4 : (k == 4) = false := by simpa using h4
    have e : sufS k = [] := by simp [sufS, h1, h2, h3, h4]
    have E := Lib.hid e
    clear h1 h2 h3 h4 e
    go_enter Try.func44, Try.ntmps44
    go_wp2
    go_ret
    exact ⟨by rw [E.out]; rfl, rfl⟩
theorem extract_str (s : Str) (a b : Nat) : (ByteArray.extract ⟨s.toArray⟩ a b) = ⟨((s.take b).drop a).toArray⟩ := by
  apply ByteArray.ext
  apply Array.ext'
  rw [Lib.extract_data]
  simp [List.drop_take]
theorem lastdot_any (s : Str) (w : World) (hl : s.length ≤ 140737488355328) : Calls Try.prog 50 #[sv s, .string ⟨#[46]⟩] w fun e w' => e = .returned (.int .i64 (Lib.lastIndexByte ⟨s.toArray⟩ 46)) ∧ w' = w :=
  Try.strings_LastIndex_one ⟨s.toArray⟩ ⟨#[46]⟩ rfl (by simp [ByteArray.size]; omega) w
set_option maxRecDepth 100000 in
set_option maxHeartbeats 4000000 in
theorem cutname_any (s : Str) (w : World) (hl : s.length ≤ 140737488355328) : Calls Try.prog 29 #[sv s] w fun e w' => e = .returned (.tuple #[sv (nameCut s).1, sv (nameCut s).2]) ∧ Below w.heap.size w w' := by
  have hsp := Lib.lastIndexByte_spec ⟨s.toArray⟩ 46
  unfold nameCut
  generalize hv : Lib.lastIndexByte ⟨s.toArray⟩ 46 = v at *
  rcases hsp with ⟨rfl, _⟩ | ⟨i, hi, rfl, _, _⟩
  · have HV := Lib.hid hv
    clear hv
    go_enter Try.func29, Try.ntmps29
    go_wp2_with fail
    refine (lastdot_any s w hl).mono ?_
    rintro e w1 ⟨rfl, rfl⟩
    rw [HV.out]
    go_wp2_with fail
    go_ret2
    exact ⟨rfl, Below.refl _ _⟩
  · have HV := Lib.hid hv
    have hi' : i < s.length := by simpa [ByteArray.size] using hi
    clear hv hi
    have k1 : ¬ ((i : Int) < 0) := by omega
    have k2 : (0 : Int) ≤ (i : Int) := by omega
    have k3 : (i : Int) ≤ (s.length : Int) := by omega
    have k4 : (0 : Int) ≤ (i : Int) + 1 := by omega
    have k5 : (i : Int) + 1 ≤ (s.length : Int) := by omega
    have k6 : IntKind.i64.wrap ((i : Int) + 1) = (i : Int) + 1 := IntWalk.i64_in _ (by omega)
    have k7 : ((i : Int) + 1).toNat = i + 1 := by omega
    rw [if_neg k1]
    go_enter Try.func29, Try.ntmps29
    go_wp2_with fail
    refine (lastdot_any s w hl).mono ?_
    rintro e w1 ⟨rfl, rfl⟩
    rw [HV.out]
    go_wp2_with fail
    try go_wp2_with fail
    refine wp_region_held_drew (S := fun w' => Below w1.heap.size w1 w') (by kernel_rfl) (Below.drew (Below.refl _ _)) (fun hHeld => ?_)
    refine tY (i := 0) (v := ?_) rfl ?_ hHeld ?_; rotate_left 1; focus (intro w' hSw; clear hSw; go_simp; try with_reducible rfl)
    (try simp only [Act.put, zn1, zn2, zn3])
    refine tY (i := 1) (v := ?_) rfl ?_ hHeld ?_; rotate_left 1; focus (intro w' hSw; clear hSw; go_simp; try with_reducible rfl)
    (try simp only [Act.put, zn1, zn2, zn3])
    refine tY (i := 2) (v := ?_) rfl ?_ hHeld ?_; rotate_left 1; focus (intro w' hSw; clear hSw; go_simp; try with_reducible rfl)
    (try simp only [Act.put, zn1, zn2, zn3])
    refine tY (i := 3) (v := ?_) rfl ?_ hHeld ?_; rotate_left 1; focus (intro w' hSw; clear hSw; go_simp; try with_reducible rfl)
    (try simp only [Act.put, zn1, zn2, zn3])
    refine tY (i := 4) (v := ?_) rfl ?_ hHeld ?_; rotate_left 1; focus (intro w' hSw; clear hSw; go_simp; try with_reducible rfl)
    (try simp only [Act.put, zn1, zn2, zn3])
    refine tY (i := 5) (v := ?_) rfl ?_ hHeld ?_; rotate_left 1; focus (intro w' hSw; clear hSw; go_simp; try with_reducible rfl)
    (try simp only [Act.put, zn1, zn2, zn3])
    refine tY (i := 6) (v := ?_) rfl ?_ hHeld ?_; rotate_left 1; focus (intro w' hSw; clear hSw; go_simp; try with_reducible rfl)
    (try simp only [Act.put, zn1, zn2, zn3])
    refine tY (i := 7) (v := ?_) rfl ?_ hHeld ?_; rotate_left 1; focus (intro w' hSw; clear hSw; go_simp; try with_reducible rfl)
    (try simp only [Act.put, zn1, zn2, zn3])
    refine tY (i := 8) (v := ?_) rfl ?_ hHeld ?_; rotate_left 1; focus (intro w' hSw; clear hSw; go_simp; try with_reducible rfl)
    (try simp only [Act.put, zn1, zn2, zn3])
    refine wpAnyH_done (by kernel_rfl) ?_ _
    go_wp2_with fail
    go_ret2
    refine ⟨?_, hHeld⟩
    show Ending.returned (.tuple #[.string (ByteArray.extract ⟨s.toArray⟩ 0 i), .string (ByteArray.extract ⟨s.toArray⟩ (i + 1) s.length)]) = _
    rw [extract_str, extract_str]
    simp
set_option maxHeartbeats 1000000 in
theorem Index_at (s : Str) (w : World) : Calls Try.prog 74 #[sv s, .string ⟨#[64]⟩] w fun e w' => e = .returned (.int .i64 (Lib.indexByte s 64)) ∧ w = w' := by
  cases hse : (([64] : Str) == s)
  · have Hse := Lib.hid hse
    go_enter Try.func74, Try.ntmps74
    go_wp2_with fail
    refine (Try.stringslite_IndexByte ⟨s.toArray⟩ 64 w).mono ?_
    rintro e w1 ⟨rfl, rfl⟩
    go_wp2_with fail
    go_ret
    exact ⟨rfl, rfl⟩
  · have hs : ([64] : Str) = s := by simpa using hse
    have h0 : Lib.indexByte s 64 = 0 := by rw [← hs]; rfl
    have H0 := Lib.hid h0
    clear hs h0
    go_enter Try.func74, Try.ntmps74
    go_wp2_with fail
    go_ret
    exact ⟨ret_int H0.out.symm, rfl⟩
def cutV (s : Str) : Value := .tuple #[sv (atCut s).1, sv (atCut s).2, .bool (decide (0 ≤ Lib.indexByte s 64))]
set_option maxRecDepth 100000 in
set_option maxHeartbeats 4000000 in
theorem Cutl_at (s : Str) (w : World) (hl : s.length ≤ 140737488355328) : Calls Try.prog 51 #[sv s, .string ⟨#[64]⟩] w fun e w' => e = .returned (cutV s) ∧ Below w.heap.size w w' := by
  have hge := Lib.indexByte_ge s 64
  have hcv : cutV s = .tuple #[sv (if 0 ≤ Lib.indexByte s 64 then (s.take (Lib.indexByte s 64).toNat, s.drop ((Lib.indexByte s 64).toNat + 1)) else (s, [])).1, sv (if 0 ≤ Lib.indexByte s 64 then (s.take (Lib.indexByte s 64).toNat, s.drop ((Lib.indexByte s 64).toNat + 1)) else (s, [])).2, .bool (decide (0 ≤ Lib.indexByte s 64))] := rfl
  generalize hv : Lib.indexByte s 64 = v at *
  by_cases h0 : 0 ≤ v
  · obtain ⟨i, rfl⟩ : ∃ i : Nat, v = i := ⟨v.toNat, by omega⟩
    have hsp := (Lib.indexByte_some hv).1
    have hi : i < s.length := by
      rcases Nat.lt_or_ge i s.length with h | h
      · exact h
      · rw [List.getElem?_eq_none h] at hsp; cases hsp
    have HV := Lib.hid hv
    have k2 : (0 : Int) ≤ (i : Int) := by omega
    have k3 : (i : Int) ≤ (s.length : Int) := by omega
    have k4 : (0 : Int) ≤ (i : Int) + 1 := by omega
    have k5 : (i : Int) + 1 ≤ (s.length : Int) := by omega
    have k6 : IntKind.i64.wrap ((i : Int) + 1) = (i : Int) + 1 := IntWalk.i64_in _ (by omega)
    have k7 : ((i : Int) + 1).toNat = i + 1 := by omega
    have k8 : decide ((0 : Int) ≤ (i : Int)) = true := by simp
    rw [if_pos h0, k8, Int.toNat_natCast] at hcv
    have HCV := Lib.hid hcv
    clear hv hge hsp h0 hcv
    go_enter Try.func51, Try.ntmps51
    go_wp2_with fail
    refine (Index_at s w).mono ?_
    rintro e w1 ⟨rfl, rfl⟩
    rw [HV.out]
    go_wp2_with fail
    try go_wp2_with fail
    refine wp_region_held_drew (S := fun w' => Below w.heap.size w w') (by kernel_rfl) (Below.drew (Below.refl _ _)) (fun hHeld => ?_)
    refine tY (i := 0) (v := ?_) rfl ?_ hHeld ?_; rotate_left 1; focus (intro w' hSw; clear hSw; go_simp; try with_reducible rfl)
    (try simp only [Act.put, zn1, zn2, zn3])
    refine tY (i := 1) (v := ?_) rfl ?_ hHeld ?_; rotate_left 1; focus (intro w' hSw; clear hSw; go_simp; try with_reducible rfl)
    (try simp only [Act.put, zn1, zn2, zn3])
    refine tY (i := 2) (v := ?_) rfl ?_ hHeld ?_; rotate_left 1; focus (intro w' hSw; clear hSw; go_simp; try with_reducible rfl)
    (try simp only [Act.put, zn1, zn2, zn3])
    refine tY (i := 3) (v := ?_) rfl ?_ hHeld ?_; rotate_left 1; focus (intro w' hSw; clear hSw; go_simp; try with_reducible rfl)
    (try simp only [Act.put, zn1, zn2, zn3])
    refine tY (i := 4) (v := ?_) rfl ?_ hHeld ?_; rotate_left 1; focus (intro w' hSw; clear hSw; go_simp; try with_reducible rfl)
    (try simp only [Act.put, zn1, zn2, zn3])
    refine tY (i := 5) (v := ?_) rfl ?_ hHeld ?_; rotate_left 1; focus (intro w' hSw; clear hSw; go_simp; try with_reducible rfl)
    (try simp only [Act.put, zn1, zn2, zn3])
    refine tY (i := 6) (v := ?_) rfl ?_ hHeld ?_; rotate_left 1; focus (intro w' hSw; clear hSw; go_simp; try with_reducible rfl)
    (try simp only [Act.put, zn1, zn2, zn3])
    refine tY (i := 7) (v := ?_) rfl ?_ hHeld ?_; rotate_left 1; focus (intro w' hSw; clear hSw; go_simp; try with_reducible rfl)
    (try simp only [Act.put, zn1, zn2, zn3])
    refine tY (i := 8) (v := ?_) rfl ?_ hHeld ?_; rotate_left 1; focus (intro w' hSw; clear hSw; go_simp; try with_reducible rfl)
    (try simp only [Act.put, zn1, zn2, zn3])
    refine tY (i := 9) (v := ?_) rfl ?_ hHeld ?_; rotate_left 1; focus (intro w' hSw; clear hSw; go_simp; try with_reducible rfl)
    (try simp only [Act.put, zn1, zn2, zn3])
    refine tY (i := 10) (v := ?_) rfl ?_ hHeld ?_; rotate_left 1; focus (intro w' hSw; clear hSw; go_simp; try with_reducible rfl)
    (try simp only [Act.put, zn1, zn2, zn3])
    refine tY (i := 11) (v := ?_) rfl ?_ hHeld ?_; rotate_left 1; focus (intro w' hSw; clear hSw; go_simp; try with_reducible rfl)
    (try simp only [Act.put, zn1, zn2, zn3])
    refine wpAnyH_done (by kernel_rfl) ?_ _
    go_wp2_with fail
    go_ret3
    refine ⟨?_, hHeld⟩
    rw [HCV.out]
    show Ending.returned (.tuple #[.string (ByteArray.extract ⟨s.toArray⟩ 0 i), .string (ByteArray.extract ⟨s.toArray⟩ (i + 1) s.length), .bool true]) = _
    rw [extract_str, extract_str]
    simp
  · have HV := Lib.hid hv
    have k8 : decide ((0 : Int) ≤ v) = false := by simpa using h0
    rw [if_neg h0, k8] at hcv
    have HCV := Lib.hid hcv
    clear hv hge h0 hcv
    go_enter Try.func51, Try.ntmps51
    go_wp2_with fail
    refine (Index_at s w).mono ?_
    rintro e w1 ⟨rfl, rfl⟩
    rw [HV.out]
    go_wp2_with fail
    go_ret3
    exact ⟨by rw [HCV.out]; rfl, Below.refl _ _⟩
set_option maxHeartbeats 1000000 in
theorem Cut_at (s : Str) (w : World) (hl : s.length ≤ 140737488355328) : Calls Try.prog 30 #[sv s, .string ⟨#[64]⟩] w fun e w' => e = .returned (cutV s) ∧ Below w.heap.size w w' := by
  go_enter Try.func30, Try.ntmps30
  go_wp2_with fail
  refine (Cutl_at s w hl).mono ?_
  rintro e w1 ⟨rfl, hb⟩
  have hcv : cutV s = .tuple #[sv (atCut s).1, sv (atCut s).2, .bool (decide (0 ≤ Lib.indexByte s 64))] := rfl
  have HCV := Lib.hid hcv
  rw [hcv]
  clear hcv
  go_wp2_with fail
  go_ret3
  exact ⟨HCV.out ▸ rfl, hb⟩
theorem sufK_at {t : Str} {k : Nat} (h1 : 1 ≤ k) (h2 : k ≤ 4) (ha : ∀ j : Nat, 1 ≤ j → j < k → sufS j ≠ t) (h : sufS k = t) : sufK t = k := by
  unfold sufK
  rcases (show k = 1 ∨ k = 2 ∨ k = 3 ∨ k = 4 by omega) with rfl | rfl | rfl | rfl
  · rw [if_pos (show sufS 1 = t from h)]; rfl
  · rw [if_neg (show sufS 1 ≠ t from ha 1 (by omega) (by omega)), if_pos (show sufS 2 = t from h)]; rfl
  · rw [if_neg (show sufS 1 ≠ t from ha 1 (by omega) (by omega)), if_neg (show sufS 2 ≠ t from ha 2 (by omega) (by omega)), if_pos (show sufS 3 = t from h)]; rfl
  · rw [if_neg (show sufS 1 ≠ t from ha 1 (by omega) (by omega)), if_neg (show sufS 2 ≠ t from ha 2 (by omega) (by omega)), if_neg (show sufS 3 ≠ t from ha 3 (by omega) (by omega)), if_pos (show sufS 4 = t from h)]; rfl
theorem sufK_none {t : Str} (ha : ∀ j : Nat, 1 ≤ j → j < 5 → sufS j ≠ t) : sufK t = 0 := by
  unfold sufK
  rw [if_neg (show sufS 1 ≠ t from ha 1 (by omega) (by omega)), if_neg (show sufS 2 ≠ t from ha 2 (by omega) (by omega)), if_neg (show sufS 3 ≠ t from ha 3 (by omega) (by omega)), if_neg (show sufS 4 ≠ t from ha 4 (by omega) (by omega))]
set_option maxRecDepth 100000 in
set_option maxHeartbeats 4000000 in
theorem Kind_any (s : Str) (w : World) (hl : s.length ≤ 140737488355328) : Calls Try.prog 21 #[sv s] w fun e w' => e = .returned (.int .i64 (kindS s)) ∧ Below w.heap.size w w' := by
  have hcl := nameCut_le s
  have hal := atCut_le (nameCut s).1
  have hbad : badName s = (decide (60 < (s.length : Int)) || ((atCut (nameCut s).1).1 == ([] : Str) || (!allB okB (atCut (nameCut s).1).1 || !allB okB (atCut (nameCut s).1).2))) := rfl
  have hkind : kindS s = if badName s then 0 else sufK (nameCut s).2 := rfl
  have hcv : cutV (nameCut s).1 = .tuple #[sv (atCut (nameCut s).1).1, sv (atCut (nameCut s).1).2, .bool (decide (0 ≤ Lib.indexByte (nameCut s).1 64))] := rfl
  rw [hbad] at hkind
  have HK := Lib.hid hkind
  have HCV := Lib.hid hcv
  clear hbad hkind hcv
  have hlh : (nameCut s).1.length ≤ 140737488355328 := by omega
  have hlp : (atCut (nameCut s).1).1.length ≤ 140737488355328 := by omega
  have hli : (atCut (nameCut s).1).2.length ≤ 140737488355328 := by omega
  go_enter Try.func21, Try.ntmps21
  go_wp2_with fail
  refine (cutname_any s w hl).mono ?_
  rintro e w1 ⟨rfl, hb1⟩
  have HB1 := Lib.hid hb1
  clear hb1
  go_wp2_with fail
  refine (Cut_at (nameCut s).1 w1 hlh).mono ?_
  rintro e w2 ⟨rfl, hb2⟩
  have HB2 := Lib.hid (lift HB1.out hb2)
  clear hb2
  rw [HCV.out]
  generalize hpre : (atCut (nameCut s).1).1 = pre at *
  generalize hins : (atCut (nameCut s).1).2 = ins at *
  generalize hsuf : (nameCut s).2 = suf at *
  have HX := Lib.hid (And.intro hpre (And.intro hins hsuf))
  clear hpre hins hsuf hcl hal
  by_cases h60 : (60 : Int) < (s.length : Int)
  · have d60 : decide ((60 : Int) < (s.length : Int)) = true := by simpa using h60
    have D60 := Lib.hid d60
    go_wp2_with fail
    go_ret
    exact ⟨ret_int (by rw [HK.out]; simp [D60.out]), HB2.out⟩
  · have d60 : decide ((60 : Int) < (s.length : Int)) = false := by simpa using h60
    have D60 := Lib.hid d60
    cases hp0 : (pre == ([] : Str))
    · have HP0 := Lib.hid hp0
      go_wp2_with fail
      refine (plain_any pre w2 hlp).mono ?_
      rintro e w3 ⟨rfl, hb3⟩
      have HB3 := Lib.hid (lift HB2.out hb3)
      clear hb3
      cases hq1 : allB okB pre
      · have HQ1 := Lib.hid hq1
        go_wp2_with fail
        go_ret
        exact ⟨ret_int (by rw [HK.out]; simp [HQ1.out]), HB3.out⟩
      · have HQ1 := Lib.hid hq1
        go_wp2_with fail
        refine (plain_any ins w3 hli).mono ?_
        rintro e w4 ⟨rfl, hb4⟩
        have HB4 := Lib.hid (lift HB3.out hb4)
        clear hb4
        cases hq2 : allB okB ins
        · have HQ2 := Lib.hid hq2
          go_wp2_with fail
          go_ret
          exact ⟨ret_int (by rw [HK.out]; simp [HQ2.out]), HB4.out⟩
        · have HQ2 := Lib.hid hq2
          go_wp2_with fail
          go_loopw [8] (fun i wr => ∃ k : Nat, 1 ≤ k ∧ k ≤ 5 ∧ i = .int .i64 k ∧ Hid (∀ j : Nat, 1 ≤ j → j < k → sufS j ≠ suf) ∧ Below w.heap.size w wr) (fun i _ => 5 - (intOf i).toNat)
          case atStart => exact ⟨1, by omega, by omega, rfl, fun j h1 h2 => by omega, HB4.out⟩
          case round =>
            obtain ⟨k, hk1, hk5, rfl, hall, hb⟩ := hrel
            have HB := Lib.hid hb
            clear hb
            by_cases hlt : k ≤ 4
            · have dk : decide ((k : Int) ≤ 4) = true := by simp; omega
              go_wp2_with fail
              refine (Suffix_any k wr).mono ?_
              rintro e w5 ⟨rfl, rfl⟩
              cases hs : (sufS k == suf)
              · have Hs := Lib.hid hs
                go_wp2_with fail
                go_roundw
                case rel =>
                  refine ⟨k + 1, by omega, by omega, by go_num, fun j h1 h2 => ?_, HB.out⟩
                  by_cases e : j = k
                  · subst e; have := Hs.out; simpa using this
                  · exact hall.out j h1 (by omega)
                case measure => simp [intOf]; omega
              · have Hs := Lib.hid (sufK_at hk1 hlt hall.out (by simpa using hs))
                go_wp2_with fail
                go_ret
                exact ⟨ret_int (by rw [HK.out]; simp [D60.out, HP0.out, HQ1.out, HQ2.out, Hs.out]), HB.out⟩
            · have dk : decide ((k : Int) ≤ 4) = false := by simp; omega
              have Hs := Lib.hid (sufK_none fun j h1 h2 => hall.out j h1 (by omega))
              go_wp2_with fail
              go_ret
              exact ⟨ret_int (by rw [HK.out]; simp [D60.out, HP0.out, HQ1.out, HQ2.out, Hs.out]), HB.out⟩
    · have HP0 := Lib.hid hp0
      go_wp2_with fail
      go_ret
      exact ⟨ret_int (by rw [HK.out]; simp [HP0.out]), HB2.out⟩
set_option maxHeartbeats 1000000 in
theorem May_any (s : Str) (w : World) (hl : s.length ≤ 140737488355328) : Calls Try.prog 13 #[sv s] w fun e w' => e = .returned (.bool (kindS s != 0)) ∧ Below w.heap.size w w' := by
  go_enter Try.func13, Try.ntmps13
  go_wp2_with fail
  refine (Kind_any s w hl).mono ?_
  rintro e w1 ⟨rfl, hb⟩
  go_wp2_with fail
  go_ret
  exact ⟨rfl, hb⟩
end Od
end Go.Proofs.Ytgfdcmlmgeoimaa
end

section
/- Plain mathematics: strictly rising lists, each element once; what compaction of a sorted list is. No program. -/
namespace Go.Proofs.Ytgfdcmlmgeoimaa

theorem nil_or_snoc {α : Type} (l : List α) : l = [] ∨ ∃ r y, l = r ++ [y] := by
  rcases List.eq_nil_or_concat l with h | ⟨r, y, h⟩
  · exact .inl h
  · exact .inr ⟨r, y, by rw [h, List.concat_eq_append]⟩

/-- A strict order that parts any two that are not one. -/
structure TO {α : Type} (lt : α → α → Bool) : Prop where
  irrefl : ∀ x, lt x x = false
  trans : ∀ {x y z}, lt x y = true → lt y z = true → lt x z = true
  total : ∀ {x y}, lt x y = false → lt y x = false → x = y

section
variable {α : Type} {lt : α → α → Bool}
/-- Rising, each once. -/
def SS (lt : α → α → Bool) (l : List α) : Prop := l.Pairwise (fun x y => lt x y = true)

theorem SS.unique (T : TO lt) : ∀ {l l' : List α}, SS lt l → SS lt l' → (∀ x, x ∈ l ↔ x ∈ l') → l = l'
  | [], [], _, _, _ => rfl
  | [], y :: r', _, _, h => absurd ((h y).2 (.head _)) (by simp)
  | x :: r, [], _, _, h => absurd ((h x).1 (.head _)) (by simp)
  | x :: r, y :: r', h1, h2, h => by
    obtain ⟨hx, hr⟩ := List.pairwise_cons.1 h1
    obtain ⟨hy, hr'⟩ := List.pairwise_cons.1 h2
    have exy : x = y := by
      rcases List.mem_cons.1 ((h x).1 (.head _)) with e | e
      · exact e
      · rcases List.mem_cons.1 ((h y).2 (.head _)) with e' | e'
        · exact e'.symm
        · have := T.trans (hx y e') (hy x e)
          rw [T.irrefl] at this; cases this
    subst exy
    congr 1
    refine SS.unique T hr hr' fun z => ?_
    constructor
    · intro hz
      rcases List.mem_cons.1 ((h z).1 (.tail _ hz)) with e | e
      · subst e; have := hx z hz; rw [T.irrefl] at this; cases this
      · exact e
    · intro hz
      rcases List.mem_cons.1 ((h z).2 (.tail _ hz)) with e | e
      · subst e; have := hy z hz; rw [T.irrefl] at this; cases this
      · exact e
theorem SS.nodup (T : TO lt) {l : List α} (h : SS lt l) : l.Nodup := h.imp fun {a b} hab e => by subst e; rw [T.irrefl] at hab; cases hab
theorem SS.sublist {l l' : List α} (h : SS lt l) (hs : l'.Sublist l) : SS lt l' := List.Pairwise.sublist hs h

/-- Into a rising list, once. -/
def insL [DecidableEq α] (lt : α → α → Bool) (x : α) : List α → List α
  | [] => [x]
  | y :: r => if lt y x = true then y :: insL lt x r else if y = x then y :: r else x :: y :: r
variable [DecidableEq α]
theorem mem_insL {x z : α} : ∀ {l : List α}, z ∈ insL lt x l ↔ z = x ∨ z ∈ l
  | [] => by simp [insL]
  | y :: r => by
    unfold insL
    split
    · rw [List.mem_cons, mem_insL, List.mem_cons]
      constructor
      · rintro (h | h | h)
        · exact .inr (.inl h)
        · exact .inl h
        · exact .inr (.inr h)
      · rintro (h | h | h)
        · exact .inr (.inl h)
        · exact .inl h
        · exact .inr (.inr h)
    · split
      · rename_i h
        subst h
        simp
      · simp
theorem SS.insL (T : TO lt) {x : α} : ∀ {l : List α}, SS lt l → SS lt (insL lt x l)
  | [], _ => List.pairwise_singleton _ _
  | y :: r, h => by
    obtain ⟨hy, hr⟩ := List.pairwise_cons.1 h
    unfold Proofs.Ytgfdcmlmgeoimaa.insL
    split
    · rename_i h1
      refine List.pairwise_cons.2 ⟨fun z hz => ?_, SS.insL T hr⟩
      rcases mem_insL.1 hz with e | e
      · rw [e]; exact h1
      · exact hy z e
    · rename_i h1
      split
      · exact h
      · rename_i h2
        have hxy : lt x y = true := by
          cases h3 : lt x y
          · exact absurd (T.total (by simpa using h1) h3) h2
          · rfl
        refine List.pairwise_cons.2 ⟨fun z hz => ?_, h⟩
        rcases List.mem_cons.1 hz with e | e
        · rw [e]; exact hxy
        · exact T.trans hxy (hy z e)
/-- A list made rising, each once. -/
def canon (lt : α → α → Bool) (l : List α) : List α := l.foldl (fun acc x => insL lt x acc) []
theorem canon_fold (T : TO lt) : ∀ (l acc : List α), SS lt acc → SS lt (l.foldl (fun acc x => insL lt x acc) acc) ∧ ∀ z, z ∈ l.foldl (fun acc x => insL lt x acc) acc ↔ z ∈ acc ∨ z ∈ l
  | [], acc, h => ⟨h, by simp⟩
  | x :: l, acc, h => by
    obtain ⟨h1, h2⟩ := canon_fold T l (insL lt x acc) (h.insL T)
    refine ⟨h1, fun z => ?_⟩
    rw [List.foldl_cons, h2, mem_insL, List.mem_cons]
    constructor
    · rintro ((h | h) | h)
      · exact .inr (.inl h)
      · exact .inl h
      · exact .inr (.inr h)
    · rintro (h | h | h)
      · exact .inl (.inr h)
      · exact .inl (.inl h)
      · exact .inr h
theorem canon_ss (T : TO lt) (l : List α) : SS lt (canon lt l) := (canon_fold T l [] List.Pairwise.nil).1
theorem mem_canon (T : TO lt) {l : List α} {z : α} : z ∈ canon lt l ↔ z ∈ l := by
  rw [canon, (canon_fold T l [] List.Pairwise.nil).2]; simp
theorem SS.eq_canon (T : TO lt) {l l' : List α} (h : SS lt l') (hm : ∀ x, x ∈ l' ↔ x ∈ l) : l' = canon lt l :=
  SS.unique T h (canon_ss T l) fun x => by rw [hm, mem_canon T]
theorem canon_len (l : List α) : (canon lt l).length ≤ l.length := by
  have h : ∀ (l acc : List α), (l.foldl (fun acc x => insL lt x acc) acc).length ≤ acc.length + l.length := by
    intro l
    induction l with
    | nil => intro acc; simp
    | cons x l ih =>
      intro acc
      have hi : ∀ acc : List α, (Proofs.Ytgfdcmlmgeoimaa.insL lt x acc).length ≤ acc.length + 1 := by
        intro acc
        induction acc with
        | nil => simp [Proofs.Ytgfdcmlmgeoimaa.insL]
        | cons y r ih => unfold Proofs.Ytgfdcmlmgeoimaa.insL; split <;> (try split) <;> simp_all
      have := ih (Proofs.Ytgfdcmlmgeoimaa.insL lt x acc)
      have := hi acc
      simp only [List.foldl_cons, List.length_cons]
      omega
  have := h l []
  simpa [canon] using this

/-- Not falling. -/
def LE (lt : α → α → Bool) (l : List α) : Prop := l.Pairwise (fun x y => lt y x = false)

section
variable [Inhabited α]
theorem compact_snoc (zs : List α) (x : α) : Lib.compact (zs ++ [x]) = Lib.compact zs ++ (if zs = [] ∨ zs.getLast? ≠ some x then [x] else []) := by
  have e : ∀ m, m ≤ zs.length → Lib.compactUpTo (zs ++ [x]).toArray m = Lib.compactUpTo zs.toArray m := by
    intro m
    induction m with
    | zero => intro _; rfl
    | succ m ih =>
      intro hm
      rw [Lib.compactUpTo_succ, Lib.compactUpTo_succ, ih (by omega)]
      have g : ∀ j, j < zs.length → (zs ++ [x]).toArray[j]! = zs.toArray[j]! := by
        intro j hj
        simp [getElem!_def, List.getElem?_append_left hj]
      have hk : Lib.keeps (zs ++ [x]).toArray m = Lib.keeps zs.toArray m := by
        unfold Lib.keeps
        rw [g m (by omega), g (m - 1) (by omega)]
      rw [hk, g m (by omega)]
  unfold Lib.compact
  rw [show (zs ++ [x]).length = zs.length + 1 by simp, Lib.compactUpTo_succ, e _ (Nat.le_refl _)]
  congr 1
  have g1 : (zs ++ [x]).toArray[zs.length]! = x := by simp
  have hk : Lib.keeps (zs ++ [x]).toArray zs.length = decide (zs = [] ∨ zs.getLast? ≠ some x) := by
    unfold Lib.keeps
    rw [g1]
    rcases nil_or_snoc zs with rfl | ⟨r, y, rfl⟩
    · simp
    · have g2 : (r ++ [y] ++ [x]).toArray[(r ++ [y]).length - 1]! = y := by simp
      rw [g2]
      simp
      exact eq_comm
  rw [hk, g1]
  by_cases h : zs = [] ∨ zs.getLast? ≠ some x <;> simp [h]
theorem mem_compact : ∀ {zs : List α} {x : α}, x ∈ Lib.compact zs ↔ x ∈ zs := by
  suffices h : ∀ (n : Nat) (zs : List α), zs.length = n → ∀ x, x ∈ Lib.compact zs ↔ x ∈ zs from fun {zs x} => h _ zs rfl x
  intro n
  induction n with
  | zero => intro zs hz x; rw [List.length_eq_zero_iff.1 hz]; simp [Lib.compact, Lib.compactUpTo]
  | succ n ih =>
    intro zs hz x
    rcases nil_or_snoc zs with rfl | ⟨r, y, rfl⟩
    · simp at hz
    · rw [compact_snoc, List.mem_append, List.mem_append, ih r (by simpa using hz)]
      by_cases h : r = [] ∨ r.getLast? ≠ some y
      · simp [h]
      · simp only [h, if_false, List.not_mem_nil, or_false, List.mem_singleton]
        have h2 : r.getLast? = some y := by
          rcases Classical.em (r.getLast? = some y) with e | e
          · exact e
          · exact absurd (.inr e) h
        constructor
        · exact .inl
        · rintro (e | e)
          · exact e
          · rw [e]; exact List.mem_of_getLast? h2
theorem compact_ss (T : TO lt) : ∀ {zs : List α}, LE lt zs → SS lt (Lib.compact zs) := by
  suffices h : ∀ (n : Nat) (zs : List α), zs.length = n → LE lt zs → SS lt (Lib.compact zs) from fun {zs} => h _ zs rfl
  intro n
  induction n with
  | zero => intro zs hz _; rw [List.length_eq_zero_iff.1 hz]; exact List.Pairwise.nil
  | succ n ih =>
    intro zs hz hs
    rcases nil_or_snoc zs with rfl | ⟨r, y, rfl⟩
    · simp at hz
    · obtain ⟨h1, _, h3⟩ := List.pairwise_append.1 hs
      rw [compact_snoc]
      by_cases h : r = [] ∨ r.getLast? ≠ some y
      · simp only [h, if_true]
        refine List.pairwise_append.2 ⟨ih r (by simpa using hz) h1, List.pairwise_singleton _ _, fun a ha b hb => ?_⟩
        have hb : b = y := by simpa using hb
        subst hb
        rw [mem_compact] at ha
        -- a is below the last, which is below b
        rcases nil_or_snoc r with rfl | ⟨q, l, rfl⟩
        · simp at ha
        · have hl : l ≠ b := by simpa using h
          have hlb : lt l b = true := by
            cases h5 : lt l b
            · exact absurd (T.total h5 (h3 l (by simp) b (by simp))) hl
            · rfl
          rcases List.mem_append.1 ha with e | e
          · have h6 := (List.pairwise_append.1 h1).2.2 a e l (by simp)
            cases h7 : lt a l
            · rw [T.total h7 h6]; exact hlb
            · exact T.trans h7 hlb
          · have : a = l := by simpa using e
            rw [this]; exact hlb
      · simp only [h, if_false, List.append_nil]
        exact ih r (by simpa using hz) h1
theorem compact_canon (T : TO lt) {zs l : List α} (h : LE lt zs) (hm : ∀ x, x ∈ zs ↔ x ∈ l) : Lib.compact zs = canon lt l :=
  SS.eq_canon T (compact_ss T h) fun x => by rw [mem_compact, hm]
end
end

namespace Od
/-- Texts in order. -/
def ltS (a b : Str) : Bool := Op.bytesLess a b
theorem ltS_iff {a b : Str} : ltS a b = true ↔ a < b := by unfold ltS; rw [Go.Proofs.bytesLess_eq]; simp
theorem ltS_false {a b : Str} : ltS a b = false ↔ ¬ a < b := by rw [← ltS_iff]; simp
theorem toS : TO ltS where
  irrefl x := by rw [ltS_false]; exact List.lt_irrefl x
  trans h1 h2 := by rw [ltS_iff] at *; exact List.lt_trans h1 h2
  total h1 h2 := by
    rw [ltS_false] at h1 h2
    exact List.le_antisymm (List.not_lt.1 h2) (List.not_lt.1 h1)
/-- Pairs of texts in order. -/
def ltP (p q : Pr) : Bool := ltS p.1 q.1 || (p.1 == q.1 && ltS p.2 q.2)
theorem toP : TO ltP where
  irrefl x := by simp [ltP, toS.irrefl]
  trans {x y z} h1 h2 := by
    simp only [ltP, Bool.or_eq_true, Bool.and_eq_true, beq_iff_eq] at *
    rcases h1 with h1 | ⟨e1, h1⟩ <;> rcases h2 with h2 | ⟨e2, h2⟩
    · exact .inl (toS.trans h1 h2)
    · exact .inl (e2 ▸ h1)
    · exact .inl (e1 ▸ h2)
    · exact .inr ⟨e1.trans e2, toS.trans h1 h2⟩
  total {x y} h1 h2 := by
    simp only [ltP, Bool.or_eq_false_iff, Bool.and_eq_false_iff, beq_eq_false_iff_ne] at *
    have e1 := toS.total h1.1 h2.1
    rcases h1.2 with h | h
    · exact absurd e1 h
    · rcases h2.2 with h' | h'
      · exact absurd e1.symm h'
      · exact Prod.ext e1 (toS.total h h')
end Od
end Go.Proofs.Ytgfdcmlmgeoimaa
end
