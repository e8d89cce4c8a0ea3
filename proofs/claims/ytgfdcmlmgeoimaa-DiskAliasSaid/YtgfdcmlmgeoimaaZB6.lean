/- My texts, joined for the claim: DCut DRef QOfA QOfW DName DRef2 DChars DSplit DPathM DPath DKeep DPath3 DFl DTree DMayF. -/
import Derived.Test.YtgfdcmlmgeoimaaZB1
import Derived.Test.YtgfdcmlmgeoimaaZB3
import Derived.Test.YtgfdcmlmgeoimaaZB5
import Derived.Test.YtgfdcmlmgeoimaaZB0
import Derived.Test.YtgfdcmlmgeoimaaZB4
import Derived.BigRegion
import Derived.Test.YtgfdcmlmgeoimaaZB2
import Derived.Deep.RegionWith
import Derived.Deep.DeepCutAuto

section
/- strings.Cut at a slash; suffixes of texts. (bel2) -/
namespace Go.Proofs.Ytgfdcmlmgeoimaa
open Go.RowKit
set_option linter.unusedSimpArgs false
namespace Od
/-- Up to the first slash, and behind it. -/
def slCut (s : Str) : Str × Str := if 0 ≤ Lib.indexByte s 47 then (s.take (Lib.indexByte s 47).toNat, s.drop ((Lib.indexByte s 47).toNat + 1)) else (s, [])
set_option maxHeartbeats 1000000 in
theorem Index_sl (s : Str) (w : World) : Calls Try.prog 74 #[sv s, .string ⟨#[47]⟩] w fun e w' => e = .returned (.int .i64 (Lib.indexByte s 47)) ∧ w = w' := by
  cases hse : (([47] : Str) == s)
  · have Hse := Lib.hid hse
    go_enter Try.func74, Try.ntmps74
    go_wp2_with fail
    refine (Try.stringslite_IndexByte ⟨s.toArray⟩ 47 w).mono ?_
    rintro e w1 ⟨rfl, rfl⟩
    go_wp2_with fail
    go_ret
    exact ⟨rfl, rfl⟩
  · have hs : ([47] : Str) = s := by simpa using hse
    have h0 : Lib.indexByte s 47 = 0 := by rw [← hs]; rfl
    have H0 := Lib.hid h0
    clear hs h0
    go_enter Try.func74, Try.ntmps74
    go_wp2_with fail
    go_ret
    exact ⟨ret_int H0.out.symm, rfl⟩
def cutSl (s : Str) : Value := .tuple #[sv (slCut s).1, sv (slCut s).2, .bool (decide (0 ≤ Lib.indexByte s 47))]
set_option maxRecDepth 100000 in
set_option maxHeartbeats 4000000 in
theorem Cutl_sl (s : Str) (w : World) (hl : s.length ≤ 140737488355328) : Calls Try.prog 51 #[sv s, .string ⟨#[47]⟩] w fun e w' => e = .returned (cutSl s) ∧ Below w.heap.size w w' := by
  have hge := Lib.indexByte_ge s 47
  have hcv : cutSl s = .tuple #[sv (if 0 ≤ Lib.indexByte s 47 then (s.take (Lib.indexByte s 47).toNat, s.drop ((Lib.indexByte s 47).toNat + 1)) else (s, [])).1, sv (if 0 ≤ Lib.indexByte s 47 then (s.take (Lib.indexByte s 47).toNat, s.drop ((Lib.indexByte s 47).toNat + 1)) else (s, [])).2, .bool (decide (0 ≤ Lib.indexByte s 47))] := rfl
  generalize hv : Lib.indexByte s 47 = v at *
  by_cases h0 : 0 ≤ v
  · obtain ⟨i, rfl⟩ : ∃ i : Nat, v = i := ⟨v.toNat, by omega⟩
    have hsp := (Lib.indexByte_some hv).1
    have hi : i < s.length := by
      rcases Nat.lt_or_ge i s.length with h | h
      · exact h
      · rw [List.getElem?_eq_none h] at hsp; cases hsp
    have HV := Lib.hid hv
    have k2 : (0 : Int) ≤ (i : Int) := by omega
    have k3 : (i : Int) ≤ (s.length : Int) := by omega
    have k4 : (0 : Int) ≤ (i : Int) + 1 := by omega
    have k5 : (i : Int) + 1 ≤ (s.length : Int) := by omega
    have k6 : IntKind.i64.wrap ((i : Int) + 1) = (i : Int) + 1 := IntWalk.i64_in _ (by omega)
    have k7 : ((i : Int) + 1).toNat = i + 1 := by omega
    have k8 : decide ((0 : Int) ≤ (i : Int)) = true := by simp
    rw [if_pos h0, k8, Int.toNat_natCast] at hcv
    have HCV := Lib.hid hcv
    clear hv hge hsp h0 hcv
    go_enter Try.func51, Try.ntmps51
    go_wp2_with fail
    refine (Index_sl s w).mono ?_
    rintro e w1 ⟨rfl, rfl⟩
    rw [HV.out]
    go_wp2_with fail
    try go_wp2_with fail
    refine wp_region_held_drew (S := fun w' => Below w.heap.size w w') (by kernel_rfl) (Below.drew (Below.refl _ _)) (fun hHeld => ?_)
    refine tY (i := 0) (v := ?_) rfl ?_ hHeld ?_; rotate_left 1; focus (intro w' hSw; clear hSw; go_simp; try with_reducible rfl)
    (try simp only [Act.put, zn1, zn2, zn3])
    refine tY (i := 1) (v := ?_) rfl ?_ hHeld ?_; rotate_left 1; focus (intro w' hSw; clear hSw; go_simp; try with_reducible rfl)
    (try simp only [Act.put, zn1, zn2, zn3])
    refine tY (i := 2) (v := ?_) rfl ?_ hHeld ?_; rotate_left 1; focus (intro w' hSw; clear hSw; go_simp; try with_reducible rfl)
    (try simp only [Act.put, zn1, zn2, zn3])
    refine tY (i := 3) (v := ?_) rfl ?_ hHeld ?_; rotate_left 1; focus (intro w' hSw; clear hSw; go_simp; try with_reducible rfl)
    (try simp only [Act.put, zn1, zn2, zn3])
    refine tY (i := 4) (v := ?_) rfl ?_ hHeld ?_; rotate_left 1; focus (intro w' hSw; clear hSw; go_simp; try with_reducible rfl)
    (try simp only [Act.put, zn1, zn2, zn3])
    refine tY (i := 5) (v := ?_) rfl ?_ hHeld ?_; rotate_left 1; focus (intro w' hSw; clear hSw; go_simp; try with_reducible rfl)
    (try simp only [Act.put, zn1, zn2, zn3])
    refine tY (i := 6) (v := ?_) rfl ?_ hHeld ?_; rotate_left 1; focus (intro w' hSw; clear hSw; go_simp; try with_reducible rfl)
    (try simp only [Act.put, zn1, zn2, zn3])
    refine tY (i := 7) (v := ?_) rfl ?_ hHeld ?_; rotate_left 1; focus (intro w' hSw; clear hSw; go_simp; try with_reducible rfl)
    (try simp only [Act.put, zn1, zn2, zn3])
    refine tY (i := 8) (v := ?_) rfl ?_ hHeld ?_; rotate_left 1; focus (intro w' hSw; clear hSw; go_simp; try with_reducible rfl)
    (try simp only [Act.put, zn1, zn2, zn3])
    refine tY (i := 9) (v := ?_) rfl ?_ hHeld ?_; rotate_left 1; focus (intro w' hSw; clear hSw; go_simp; try with_reducible rfl)
    (try simp only [Act.put, zn1, zn2, zn3])
    refine tY (i := 10) (v := ?_) rfl ?_ hHeld ?_; rotate_left 1; focus (intro w' hSw; clear hSw; go_simp; try with_reducible rfl)
    (try simp only [Act.put, zn1, zn2, zn3])
    refine tY (i := 11) (v := ?_) rfl ?_ hHeld ?_; rotate_left 1; focus (intro w' hSw; clear hSw; go_simp; try with_reducible rfl)
    (try simp only [Act.put, zn1, zn2, zn3])
    refine wpAnyH_done (by kernel_rfl) ?_ _
    go_wp2_with fail
    go_ret3
    refine ⟨?_, hHeld⟩
    rw [HCV.out]
    show Ending.returned (.tuple #[.string (ByteArray.extract ⟨s.toArray⟩ 0 i), .string (ByteArray.extract ⟨s.toArray⟩ (i + 1) s.length), .bool true]) = _
    rw [extract_str, extract_str]
    simp
  · have HV := Lib.hid hv
    have k8 : decide ((0 : Int) ≤ v) = false := by simpa using h0
    rw [if_neg h0, k8] at hcv
    have HCV := Lib.hid hcv
    clear hv hge h0 hcv
    go_enter Try.func51, Try.ntmps51
    go_wp2_with fail
    refine (Index_sl s w).mono ?_
    rintro e w1 ⟨rfl, rfl⟩
    rw [HV.out]
    go_wp2_with fail
    go_ret3
    exact ⟨by rw [HCV.out]; rfl, Below.refl _ _⟩
set_option maxHeartbeats 1000000 in
theorem Cut_sl (s : Str) (w : World) (hl : s.length ≤ 140737488355328) : Calls Try.prog 30 #[sv s, .string ⟨#[47]⟩] w fun e w' => e = .returned (cutSl s) ∧ Below w.heap.size w w' := by
  go_enter Try.func30, Try.ntmps30
  go_wp2_with fail
  refine (Cutl_sl s w hl).mono ?_
  rintro e w1 ⟨rfl, hb⟩
  have hcv : cutSl s = .tuple #[sv (slCut s).1, sv (slCut s).2, .bool (decide (0 ≤ Lib.indexByte s 47))] := rfl
  have HCV := Lib.hid hcv
  rw [hcv]
  clear hcv
  go_wp2_with fail
  go_ret3
  exact ⟨HCV.out ▸ rfl, hb⟩
theorem slCut_some {s a b : Str} (h : cutR 47 s = some (a, b)) : cutSl s = .tuple #[sv a, sv b, .bool true] := by
  have e := cutR_index (c := 47) (s := s)
  rw [h] at e
  unfold cutSl slCut
  by_cases h0 : 0 ≤ Lib.indexByte s 47
  · rw [if_pos h0] at e
    injection e with e
    injection e with e1 e2
    rw [if_pos h0, decide_eq_true h0, e1, e2]
  · rw [if_neg h0] at e; cases e
theorem slCut_none {s : Str} (h : cutR 47 s = none) : cutSl s = .tuple #[sv s, sv [], .bool false] := by
  have e := cutR_index (c := 47) (s := s)
  rw [h] at e
  unfold cutSl slCut
  by_cases h0 : 0 ≤ Lib.indexByte s 47
  · rw [if_pos h0] at e; cases e
  · rw [if_neg h0, decide_eq_false h0]
end Od
end Go.Proofs.Ytgfdcmlmgeoimaa
end

section
/- The reference's words for paths: ends, dropName, Split. (bel2) -/
namespace Go.Proofs.Ytgfdcmlmgeoimaa
open Go.RowKit
set_option linter.unusedSimpArgs false
namespace Od
end Od
end Go.Proofs.Ytgfdcmlmgeoimaa
end

section
/- The walk of matinsref1.Of. (bel2) -/
namespace Go.Proofs.Ytgfdcmlmgeoimaa
open Go.RowKit
set_option linter.unusedSimpArgs false

namespace Od
theorem str_add (a b : Str) : ((⟨a.toArray⟩ : ByteArray) ++ ⟨b.toArray⟩) = ⟨(a ++ b).toArray⟩ := by
  apply ByteArray.ext
  simp
end Od
end Go.Proofs.Ytgfdcmlmgeoimaa
end

section
/- The walk of matinsref1.Of. (bel2) -/
namespace Go.Proofs.Ytgfdcmlmgeoimaa
open Go.RowKit
set_option linter.unusedSimpArgs false

namespace Od
theorem exit_named {Q : Exit → Act → World → Prop} {e : Exit} {a : Act} {w : World} (h : ∀ W, W = w → Q e a W) : Q e a w := h w rfl
end Od
end Go.Proofs.Ytgfdcmlmgeoimaa
end

section
/- Names as package name takes them apart and makes them: Parts, made, Bare, Template, Instance. (bel2) -/
namespace Go.Proofs.Ytgfdcmlmgeoimaa
open Go.RowKit
set_option linter.unusedSimpArgs false
namespace Od
def partsV (s : Str) : Value := .tuple #[sv (ofS s).2.1, sv (ofS s).2.2.1, .bool (ofS s).2.2.2]
set_option maxHeartbeats 2000000 in
theorem Parts_any (s : Str) (w : World) (hl : s.length ≤ 140737488355328) : Calls Try.prog 16 #[sv s] w fun e w' => e = .returned (partsV s) ∧ Below w.heap.size w w' := by
  by_cases hk : kindS s = 0
  · have HO := Lib.hid (show partsV s = .tuple #[sv [], sv [], .bool false] by unfold partsV; rw [ofS_zero hk])
    have hb : (kindS s != 0) = false := by simp [hk]
    clear hk
    go_enter Try.func16, Try.ntmps16
    go_wp2_with fail
    refine (May_any s w hl).mono ?_
    rintro e w1 ⟨rfl, h1⟩
    rw [hb]
    go_wp2_with fail
    go_ret3
    exact ⟨HO.out ▸ rfl, h1⟩
  · have hat := (atCut_eq (nameCut s).1).2
    have HO := Lib.hid (show partsV s = cutV (nameCut s).1 by unfold partsV cutV; rw [ofS_eq hk])
    have hb : (kindS s != 0) = true := by simpa using hk
    have hcl := (nameCut_le s).1
    clear hk hat
    go_enter Try.func16, Try.ntmps16
    go_wp2_with fail
    refine (May_any s w hl).mono ?_
    rintro e w1 ⟨rfl, h1⟩
    have H1 := Lib.hid h1
    clear h1
    rw [hb]
    go_wp2_with fail
    refine (cutname_any s w1 hl).mono ?_
    rintro e w2 ⟨rfl, h2⟩
    have H2 := Lib.hid (lift H1.out h2)
    clear h2
    go_wp2_with fail
    refine (Cut_at (nameCut s).1 w2 (by omega)).mono ?_
    rintro e w3 ⟨rfl, h3⟩
    have H3 := Lib.hid (lift H2.out h3)
    clear h3
    rw [← HO.out]
    unfold partsV
    go_wp2_with fail
    go_ret3
    exact ⟨rfl, H3.out⟩
theorem ofS_le (s : Str) : (ofS s).2.1.length ≤ 60 ∧ (ofS s).2.2.1.length ≤ 60 := by
  by_cases hk : kindS s = 0
  · rw [ofS_zero hk]; exact ⟨by simp, by simp⟩
  · have h1 := (kind_parts hk).1
    have h2 := (nameCut_le s).1
    have h3 := atCut_le (nameCut s).1
    rw [ofS_eq hk]
    simp only
    omega
set_option maxHeartbeats 2000000 in
theorem made_any (p i : Str) (k : Int) (w : World) (hp : p.length ≤ 140737488355328) (hi : i.length ≤ 140737488355328) : Calls Try.prog 31 #[sv p, sv i, .int .i64 k] w fun e w' => e = .returned (sv (makeS (k, p, i, true))) ∧ w' = w := by
  have hl : (sufS k).length ≤ 7 := by
    unfold sufS
    split
    · decide
    · split
      · decide
      · split
        · decide
        · split <;> decide
  have hm : makeS (k, p, i, true) = (((p ++ [64]) ++ i) ++ [46]) ++ sufS k := by unfold makeS; simp
  obtain ⟨A1, hA1⟩ : ∃ A, A = p ++ [64] := ⟨_, rfl⟩
  obtain ⟨A2, hA2⟩ : ∃ A, A = A1 ++ i := ⟨_, rfl⟩
  obtain ⟨A3, hA3⟩ : ∃ A, A = A2 ++ [46] := ⟨_, rfl⟩
  obtain ⟨A4, hA4⟩ : ∃ A, A = A3 ++ sufS k := ⟨_, rfl⟩
  have e1 : ((⟨p.toArray⟩ : ByteArray) ++ ⟨#[64]⟩) = ⟨A1.toArray⟩ := by rw [hA1]; exact str_add p [64]
  have e2 : ((⟨A1.toArray⟩ : ByteArray) ++ ⟨i.toArray⟩) = ⟨A2.toArray⟩ := by rw [hA2]; exact str_add A1 i
  have e3 : ((⟨A2.toArray⟩ : ByteArray) ++ ⟨#[46]⟩) = ⟨A3.toArray⟩ := by rw [hA3]; exact str_add A2 [46]
  have e4 : ((⟨A3.toArray⟩ : ByteArray) ++ ⟨(sufS k).toArray⟩) = ⟨A4.toArray⟩ := by rw [hA4]; exact str_add A3 (sufS k)
  have l1 : A1.length = p.length + 1 := by rw [hA1]; simp
  have l2 : A2.length = A1.length + i.length := by rw [hA2]; simp
  have l3 : A3.length = A2.length + 1 := by rw [hA3]; simp
  have n1 : ¬ 9223372036854775807 < p.length + 1 := by omega
  have n2 : ¬ 9223372036854775807 < A1.length + i.length := by omega
  have n3 : ¬ 9223372036854775807 < A2.length + 1 := by omega
  have n4 : ¬ 9223372036854775807 < A3.length + (sufS k).length := by omega
  have HM := Lib.hid (show sv A4 = sv (makeS (k, p, i, true)) by rw [hm, hA4, hA3, hA2, hA1])
  clear hA1 hA2 hA3 hA4 hm l1 l2 l3
  go_enter Try.func31, Try.ntmps31
  go_wp2_with fail
  refine (Suffix_any k w).mono ?_
  rintro e w1 ⟨rfl, rfl⟩
  go_wp2_with fail
  go_ret
  exact ⟨HM.out ▸ rfl, rfl⟩
set_option maxHeartbeats 2000000 in
theorem Bare_any (s : Str) (w : World) (hl : s.length ≤ 140737488355328) : Calls Try.prog 32 #[sv s] w fun e w' => e = .returned (.bool (tmplS s)) ∧ Below w.heap.size w w' := by
  have HT := Lib.hid (show tmplS s = ((ofS s).2.2.2 && (ofS s).2.2.1 == ([] : Str)) from rfl)
  go_enter Try.func32, Try.ntmps32
  go_wp2_with fail
  refine (Parts_any s w hl).mono ?_
  rintro e w1 ⟨rfl, h1⟩
  unfold partsV
  generalize (ofS s).2.1 = a at *
  generalize (ofS s).2.2.1 = b at *
  generalize (ofS s).2.2.2 = c at *
  have HB := Lib.hid h1
  clear h1
  cases c
  · skip
    go_wp2_with fail
    go_ret
    exact ⟨ret_bool (by rw [HT.out]; simp [*]), HB.out⟩
  · cases hb : (b == ([] : Str))
    · skip
      go_wp2_with fail
      go_ret
      exact ⟨ret_bool (by rw [HT.out]; simp [*]), HB.out⟩
    · skip
      go_wp2_with fail
      go_ret
      exact ⟨ret_bool (by rw [HT.out]; simp [*]), HB.out⟩
theorem templ_eq (s : Str) : templS s = if (ofS s).2.2.1 = [] then [] else makeS (kindS s, (ofS s).2.1, [], true) := by
  unfold templS
  by_cases hi : (ofS s).2.2.1 = []
  · rw [if_pos hi, if_neg]
    unfold instS
    rw [hi]; simp
  · have hk : kindS s ≠ 0 := fun h0 => hi (by rw [ofS_zero h0])
    obtain ⟨_, _, _, _, _, h5, _⟩ := name_at hk
    have ha : (ofS s).2.2.2 = true := by
      cases ha : (ofS s).2.2.2
      · exact absurd (h5 ha) hi
      · rfl
    rw [if_neg hi, if_pos, ofS_kind]
    unfold instS
    rw [ha]; simpa using hi
set_option maxHeartbeats 2000000 in
theorem Template_any (s : Str) (w : World) (hl : s.length ≤ 140737488355328) : Calls Try.prog 23 #[sv s] w fun e w' => e = .returned (sv (templS s)) ∧ Below w.heap.size w w' := by
  have hle := ofS_le s
  by_cases hi : (ofS s).2.2.1 = []
  · have HT := Lib.hid (show sv (templS s) = sv [] by rw [templ_eq, if_pos hi])
    go_enter Try.func23, Try.ntmps23
    go_wp2_with fail
    refine (Parts_any s w hl).mono ?_
    rintro e w1 ⟨rfl, h1⟩
    unfold partsV
    rw [hi]
    clear hi
    have HB := Lib.hid h1
    clear h1
    go_wp2_with fail
    go_ret
    exact ⟨by rw [HT.out]; rfl, HB.out⟩
  · have HT := Lib.hid (show sv (templS s) = sv (makeS (kindS s, (ofS s).2.1, [], true)) by rw [templ_eq, if_neg hi])
    have hb : ((ofS s).2.2.1 == ([] : Str)) = false := by simpa using hi
    clear hi
    go_enter Try.func23, Try.ntmps23
    go_wp2_with fail
    refine (Parts_any s w hl).mono ?_
    rintro e w1 ⟨rfl, h1⟩
    unfold partsV
    generalize (ofS s).2.1 = a at *
    generalize (ofS s).2.2.1 = b at *
    generalize (ofS s).2.2.2 = c at *
    have HB := Lib.hid h1
    clear h1
    go_wp2_with fail
    refine (Kind_any s w1 hl).mono ?_
    rintro e w2 ⟨rfl, h2⟩
    have HB2 := Lib.hid (lift HB.out h2)
    clear h2
    go_wp2_with fail
    refine (made_any a [] (kindS s) w2 (by omega) (by simp)).mono ?_
    rintro e w3 ⟨rfl, rfl⟩
    go_wp2_with fail
    go_ret
    exact ⟨by rw [HT.out]; rfl, HB2.out⟩
def pairV (r : Str × Bool) : Value := .tuple #[sv r.1, .bool r.2]
set_option maxHeartbeats 4000000 in
theorem Instance_any (t i : Str) (w : World) (hl : t.length ≤ 140737488355328) (hil : i.length ≤ 1000) : Calls Try.prog 17 #[sv t, sv i] w fun e w' => e = .returned (pairV (instOf t i)) ∧ Below w.heap.size w w' := by
  have hle := ofS_le t
  have hP := instP_eq t i
  unfold instP at hP
  have hml : (makeS (kindS t, (ofS t).2.1, i, true)).length ≤ 2000 := by
    have hs : (sufS (kindS t)).length ≤ 7 := by
      unfold sufS
      split
      · decide
      · split
        · decide
        · split
          · decide
          · split <;> decide
    unfold makeS
    simp only [if_true, List.length_append, List.length_cons]
    omega
  have HP := Lib.hid hP
  clear hP
  go_enter Try.func17, Try.ntmps17
  go_wp2_with fail
  refine (Parts_any t w hl).mono ?_
  rintro e w1 ⟨rfl, h1⟩
  unfold partsV
  generalize (ofS t).2.1 = a at *
  generalize (ofS t).2.2.1 = b at *
  generalize (ofS t).2.2.2 = c at *
  have HB := Lib.hid h1
  clear h1
  go_wp2_with fail
  refine (Kind_any t w1 hl).mono ?_
  rintro e w2 ⟨rfl, h2⟩
  have HB2 := Lib.hid (lift HB.out h2)
  clear h2
  go_wp2_with fail
  refine (made_any a i (kindS t) w2 (by omega) (by omega)).mono ?_
  rintro e w3 ⟨rfl, rfl⟩
  generalize makeS (kindS t, a, i, true) = m at *
  go_wp2_with fail
  refine (Bare_any t w3 hl).mono ?_
  rintro e w4 ⟨rfl, h4⟩
  have HB4 := Lib.hid (lift HB2.out h4)
  clear h4
  cases ht : tmplS t
  · have HI := Lib.hid (HP.out.symm.trans (if_pos (.inl ht)))
    clear HP
    go_wp2_with fail
    go_ret2
    exact ⟨by rw [HI.out]; rfl, HB4.out⟩
  · by_cases hi : i = []
    · subst hi
      have HI := Lib.hid (HP.out.symm.trans (if_pos (.inr (.inl rfl))))
      clear HP
      go_wp2_with fail
      go_ret2
      exact ⟨by rw [HI.out]; rfl, HB4.out⟩
    · have hb : (i == ([] : Str)) = false := by simpa using hi
      go_wp2_with fail
      refine (May_any m w4 (by omega)).mono ?_
      rintro e w5 ⟨rfl, h5⟩
      have HB5 := Lib.hid (lift HB4.out h5)
      clear h5
      by_cases hk : kindS m = 0
      · have HI := Lib.hid (HP.out.symm.trans (if_pos (.inr (.inr hk))))
        have hk2 : (kindS m != 0) = false := by simp [hk]
        rw [hk2]
        clear HP hk hk2
        go_wp2_with fail
        go_ret2
        exact ⟨by rw [HI.out]; rfl, HB5.out⟩
      · have HI := Lib.hid (HP.out.symm.trans (if_neg (by rintro (h | h | h); rw [ht] at h; cases h; exact hi h; exact hk h)))
        have hk2 : (kindS m != 0) = true := by simpa using hk
        rw [hk2]
        clear HP hk hk2 hi
        go_wp2_with fail
        go_ret2
        exact ⟨by rw [HI.out]; rfl, HB5.out⟩
end Od
end Go.Proofs.Ytgfdcmlmgeoimaa
end

section
/- The reference's names: May, IsTemplate, IsInstance, Make, Template, Instance. (bel2) -/
namespace Go.Proofs.Ytgfdcmlmgeoimaa
open Go.RowKit
set_option linter.unusedSimpArgs false
namespace Od
end Od
end Go.Proofs.Ytgfdcmlmgeoimaa
end

section
/- Kinds of bytes: letters, digits, those of a text; a text of some length, all of them so. (bel2) -/
namespace Go.Proofs.Ytgfdcmlmgeoimaa
open Go.RowKit
set_option linter.unusedSimpArgs false
namespace Od
/-- One of a letter, a digit, a text's. -/
def okT (t : Str) (c : Int) : Bool := letterB c || (digitB c || inB t c)
def okKt (t : Str) (c : Int) : Nat → Bool
  | 0 => false
  | 1 => letterB c
  | 2 => letterB c || digitB c
  | _ => okT t c
set_option maxRecDepth 100000 in
set_option maxHeartbeats 4000000 in
theorem Any1t_any (t : Str) (c : Int) (pl b pi : Nat) (w : World) (h0 : w.cell? ⟨pl, 0, none⟩ = some (.slice (some ⟨b, 0, none⟩) 3 3)) (hf0 : w.cell? ⟨b, 0, none⟩ = some (.func (.func 40) #[] #[])) (hf1 : w.cell? ⟨b, 1, none⟩ = some (.func (.func 41) #[] #[]))
    (hf2 : w.cell? ⟨b, 2, none⟩ = some (.func (.func 56) #[] #[.pointer (some ⟨pi, 0, none⟩)])) (hpi : w.cell? ⟨pi, 0, none⟩ = some (sv t)) :
    Calls Try.prog 55 #[.int .u8 c, .pointer (some ⟨pl, 0, none⟩)] w fun e w' => e = .returned (.bool (okT t c)) ∧ Below w.heap.size w w' := by
  have hb0 : b < w.heap.size := cell_blk hf0
  have hpl : pl < w.heap.size := cell_blk h0
  have hstep : ∀ k : Nat, k < 3 → ∃ (g : Nat) (caps : Array Value) (p : Int → Bool), w.cell? ⟨b, k, none⟩ = some (.func (.func g) #[] caps) ∧ SaysB g caps p w ∧ okKt t c (k + 1) = (okKt t c k || p c) := by
    intro k hk
    rcases (show k = 0 ∨ k = 1 ∨ k = 2 by omega) with rfl | rfl | rfl
    · exact ⟨_, _, _, hf0, says_letter w, rfl⟩
    · exact ⟨_, _, _, hf1, says_digit w, rfl⟩
    · exact ⟨_, _, _, hf2, says_in pi t w hpi, by simp [okKt, okT, Bool.or_assoc]⟩
  have HSt := Lib.hid hstep
  clear hstep hf0 hf1 hf2 hpi
  go_enter Try.func55, Try.ntmps55
  go_wp2_with fail
  go_loopw [8] (fun i wr => ∃ k : Nat, k ≤ 3 ∧ i = .int .i64 k ∧ Hid (okKt t c k = false) ∧ Below w.heap.size w wr) (fun i _ => 3 - (intOf i).toNat)
  case atStart => exact ⟨0, by omega, rfl, rfl, Below.refl _ _⟩
  case round =>
    obtain ⟨k, hk, rfl, hall, hb⟩ := hrel
    have HB := Lib.hid hb
    clear hb
    by_cases hlt : k < 3
    · have hdk : decide ((k : Int) < 3) = true := by simp; omega
      obtain ⟨g, caps, p, hc, hs, ho⟩ := HSt.out k hlt
      have hcr := cellAt hc HB.out hb0
      have Hs := Lib.hid hs
      have Ho := Lib.hid ho
      have eg := hs.enters
      clear hc hs ho
      go_wp2_with fail
      refine (Hs.out.says wr c HB.out).mono ?_
      rintro e w2 ⟨rfl, hb2⟩
      have HB2 := Lib.hid (HB.out.trans (hb2.mono HB.out.size))
      clear hb2
      cases hp : p c
      · have HP := Lib.hid hp
        go_wp2_with fail
        go_roundw
        case rel => exact ⟨k + 1, by omega, by go_num, by show _ = false; rw [Ho.out, hall.out, HP.out]; rfl, HB2.out⟩
        case measure => simp [intOf]; omega
      · have HP := Lib.hid hp
        go_wp2_with fail
        go_ret
        refine ⟨ret_bool ?_, HB2.out⟩
        have h1 : okKt t c (k + 1) = true := by rw [Ho.out, HP.out, Bool.or_true]
        rcases (show k = 0 ∨ k = 1 ∨ k = 2 by omega) with rfl | rfl | rfl
        · simp only [okKt] at h1; simp [okT, h1]
        · simp only [okKt] at h1; unfold okT; rw [← Bool.or_assoc, h1]; rfl
        · exact h1.symm
    · have hk3 : k = 3 := by omega
      have hdk : decide ((k : Int) < 3) = false := by simp; omega
      have h3 := hall.out
      rw [hk3] at h3
      have H3 := Lib.hid h3
      clear hk3 h3
      go_wp2_with fail
      go_ret
      exact ⟨ret_bool H3.out.symm, HB.out⟩

theorem saysT_any (t : Str) (pl b pi : Nat) (w : World) (h0 : w.cell? ⟨pl, 0, none⟩ = some (.slice (some ⟨b, 0, none⟩) 3 3)) (hf0 : w.cell? ⟨b, 0, none⟩ = some (.func (.func 40) #[] #[])) (hf1 : w.cell? ⟨b, 1, none⟩ = some (.func (.func 41) #[] #[]))
    (hf2 : w.cell? ⟨b, 2, none⟩ = some (.func (.func 56) #[] #[.pointer (some ⟨pi, 0, none⟩)])) (hpi : w.cell? ⟨pi, 0, none⟩ = some (sv t)) : SaysB 55 #[.pointer (some ⟨pl, 0, none⟩)] (okT t) w where
  enters := enters_of Try.func55 (by kernel_rfl) rfl
  says := fun W c h => Any1t_any t c pl b pi W (cellAt h0 h (cell_blk h0)) (cellAt hf0 h (cell_blk hf0)) (cellAt hf1 h (cell_blk hf0)) (cellAt hf2 h (cell_blk hf0)) (cellAt hpi h (cell_blk hpi))
def dashS : Str := [45, 95]
theorem dropB_ok : ∀ n : Nat, n < 256 → okT dashS (n : Int) = dropB (n : Int) := by decide +kernel
theorem allB_drop (s : Str) : allB (okT dashS) s = allB dropB s := by
  unfold allB
  refine Bool.eq_iff_iff.2 ?_
  rw [List.all_eq_true, List.all_eq_true]
  have h : ∀ c : UInt8, okT dashS (c.toNat : Int) = dropB (c.toNat : Int) := fun c => dropB_ok _ c.toNat_lt
  simp only [h]
set_option maxRecDepth 100000 in
set_option maxHeartbeats 4000000 in
theorem Long_any (s : Str) (n : Nat) (g : Nat) (caps : Array Value) (p : Int → Bool) (w : World) (hl : s.length ≤ maxLen) (hp : SaysB g caps p w) :
    Calls Try.prog 38 #[sv s, .int .i64 n, .func (.func g) #[] caps] w fun e w' => e = .returned (.bool (!(s == ([] : Str)) && (!decide (n < s.length) && allB p s))) ∧ Below w.heap.size w w' := by
  have Hp := Lib.hid hp
  clear hp
  cases s with
  | nil =>
    go_enter Try.func38, Try.ntmps38
    go_wp2_with fail
    go_ret
    exact ⟨rfl, (by repeat (first | exact Below.refl _ _ | assumption | refine Below.alloc ?_ (by first | omega | (simp <;> omega)) _ | refine Below.setCell ?_ (by first | omega | (simp <;> omega)) _ | refine Below.drew ?_))⟩
  | cons c s =>
    by_cases hn : n < (c :: s).length
    · have d0 : decide (((c :: s).length : Int) ≤ (n : Int)) = false := by rw [decide_eq_false_iff_not]; omega
      have d2 : decide (n < (c :: s).length) = true := by rw [decide_eq_true_eq]; omega
      have d3 : decide ((c :: s).length ≤ n) = false := by rw [decide_eq_false_iff_not]; omega
      have HD := Lib.hid d2
      have hc : (c :: s).isEmpty = false := rfl
      generalize (c :: s) = s at *
      go_enter Try.func38, Try.ntmps38
      go_wp2_with fail
      go_ret
      exact ⟨ret_bool (by rw [HD.out]; simp), (by repeat (first | exact Below.refl _ _ | assumption | refine Below.alloc ?_ (by first | omega | (simp <;> omega)) _ | refine Below.setCell ?_ (by first | omega | (simp <;> omega)) _ | refine Below.drew ?_))⟩
    · have d0 : decide (((c :: s).length : Int) ≤ (n : Int)) = true := by rw [decide_eq_true_eq]; omega
      have d2 : decide (n < (c :: s).length) = false := by rw [decide_eq_false_iff_not]; omega
      have d3 : decide ((c :: s).length ≤ n) = true := by rw [decide_eq_true_eq]; omega
      have HD := Lib.hid d2
      have hc : (c :: s == ([] : Str)) = false := rfl
      have HC := Lib.hid hc
      generalize (c :: s) = s at *
      go_enter Try.func38, Try.ntmps38
      go_wp2_with fail
      refine (All_any s g caps p _ hl Hp.out).mono ?_
      rintro e w1 ⟨rfl, hb⟩
      go_wp2_with fail
      go_ret
      exact ⟨ret_bool (by rw [HD.out, HC.out]; simp), hb⟩
end Od
end Go.Proofs.Ytgfdcmlmgeoimaa
end

section
/- matinsref3.Split; places; dropName. (bel2) -/
namespace Go.Proofs.Ytgfdcmlmgeoimaa
open Go.RowKit Go.Sort
set_option linter.unusedSimpArgs false
namespace Od
theorem cells3_new (w : World) (a b c : Value) (t : TypeId) : Rd (w.alloc (.cells #[a, b, c] t)) (w.alloc (.cells #[a, b, c] t)).heap.size 1 (some ⟨w.heap.size, 0, none⟩) 3 [a, b, c] := Rd.lit w [a, b, c] t 1 3 rfl
/-- A call hands back a slice that reads as these texts. -/
def ReadS (ss : List Str) (w : World) (e : Ending) (w' : World) : Prop := ∃ A c, e = .returned (.slice A ss.length c) ∧ ss.length ≤ c ∧ Rd w' w'.heap.size 1 A ss.length (svs ss) ∧ Below w.heap.size w w'
set_option maxHeartbeats 1000000 in
theorem Places_any (w : World) : Calls Try.prog 12 #[] w (ReadS placesL w) := by
  go_enter Try.func12, Try.ntmps12
  go_wp2_with fail
  go_ret
  exact ⟨_, _, rfl, Nat.le_refl _, cells3_new w _ _ _ _, (by repeat (first | exact Below.refl _ _ | assumption | refine Below.alloc ?_ (by first | omega | (simp <;> omega)) _ | refine Below.setCell ?_ (by first | omega | (simp <;> omega)) _ | refine Below.drew ?_))⟩
end Od
end Go.Proofs.Ytgfdcmlmgeoimaa
end

section
/- What the reference's Path keeps in memory, and the shape of what it splits. (bel2) -/
namespace Go.Proofs.Ytgfdcmlmgeoimaa
open Go.RowKit Go.Sort
set_option linter.unusedSimpArgs false
namespace Od
def endE (k : Nat) : Str := foldE (k + 1)
theorem okU_some {o : Option Str} {v : Str} (h : okU o = some v) : o = some v ∧ kindS v ≠ 0 := by
  unfold okU at h
  obtain ⟨h1, h2⟩ := Option.filter_eq_some_iff.1 h
  exact ⟨h1, by simpa using h2⟩
/-- A way in a block. -/
structure WyC (w : World) (b : Nat) (k : Int) (p u o : Str) : Prop where
  c0 : w.cell? ⟨b, 0, none⟩ = some (.int .i64 k)
  c1 : w.cell? ⟨b, 1, none⟩ = some (sv p)
  c2 : w.cell? ⟨b, 2, none⟩ = some (sv u)
  c3 : w.cell? ⟨b, 3, none⟩ = some (sv o)
  f0 : w.frozen? ⟨b, 0, none⟩ = false
  f1 : w.frozen? ⟨b, 1, none⟩ = false
  f2 : w.frozen? ⟨b, 2, none⟩ = false
  f3 : w.frozen? ⟨b, 3, none⟩ = false
section
variable {w w' : World} {b : Nat} {k : Int} {p u o : Str}
theorem WyC.lt (h : WyC w b k p u o) : b < w.heap.size := cell_blk h.c0
theorem WyC.bel {B : Nat} (h : WyC w b k p u o) (hb : Below B w w') (hB : b < B) : WyC w' b k p u o :=
  ⟨(hb.cell (p := ⟨b, 0, none⟩) hB).trans h.c0, (hb.cell (p := ⟨b, 1, none⟩) hB).trans h.c1, (hb.cell (p := ⟨b, 2, none⟩) hB).trans h.c2, (hb.cell (p := ⟨b, 3, none⟩) hB).trans h.c3,
   (hb.frozen (p := ⟨b, 0, none⟩) hB).trans h.f0, (hb.frozen (p := ⟨b, 1, none⟩) hB).trans h.f1, (hb.frozen (p := ⟨b, 2, none⟩) hB).trans h.f2, (hb.frozen (p := ⟨b, 3, none⟩) hB).trans h.f3⟩
theorem WyC.on (h : WyC w b k p u o) (hb : Below w.heap.size w w') : WyC w' b k p u o := h.bel hb h.lt
theorem adr_ne {b o o' : Nat} (h : o ≠ o') : (⟨b, o, none⟩ : Addr) ≠ ⟨b, o', none⟩ := fun e => h (by injection e)
theorem WyC.set3 (h : WyC w b k p u o) (o' : Str) : WyC (w.setCell ⟨b, 3, none⟩ (sv o')) b k p u o' :=
  ⟨(World.cell?_setCell_other _ _ _ _ (adr_ne (by decide))).trans h.c0, (World.cell?_setCell_other _ _ _ _ (adr_ne (by decide))).trans h.c1, (World.cell?_setCell_other _ _ _ _ (adr_ne (by decide))).trans h.c2, World.cell?_setCell_same _ _ _ h.c3,
   by rw [World.frozen?_setCell]; exact h.f0, by rw [World.frozen?_setCell]; exact h.f1, by rw [World.frozen?_setCell]; exact h.f2, by rw [World.frozen?_setCell]; exact h.f3⟩
end
end Od
end Go.Proofs.Ytgfdcmlmgeoimaa
end

section
/- The walk of the reference's Path. (bel2) -/
namespace Go.Proofs.Ytgfdcmlmgeoimaa
open Go.RowKit Go.Sort
set_option linter.unusedSimpArgs false
namespace Od
end Od
end Go.Proofs.Ytgfdcmlmgeoimaa
end

section
/- One block turned, the others kept (parts of older texts). No program. -/
namespace Go.Proofs.Ytgfdcmlmgeoimaa
open Go.RowKit
set_option linter.unusedSimpArgs false
namespace Od
/-- What a call leaves as it was: the blocks of X. -/
structure Keeps (X : Nat → Prop) (w w' : World) : Prop where
  os : w'.os = w.os
  tape : w'.tape = w.tape
  output : w'.output = w.output
  size : w.heap.size ≤ w'.heap.size
  block : ∀ j, X j → w'.heap[j]? = w.heap[j]?
theorem Keeps.below {X : Nat → Prop} {w w' : World} (h : Keeps X w w') {B : Nat} (hB : ∀ j, j < B → X j) : Below B w w' := ⟨h.os, h.tape, h.output, h.size, fun j hj => h.block j (hB j hj)⟩
end Od
theorem grownBy_setCell (w : World) (p : Addr) (u : Value) : w.grownBy (w.setCell p u) (some p.block) :=
  ⟨rfl, rfl, rfl, by simp [World.setCell], fun k _ hne => Below.heap_setCell _ _ _ _ (fun e => hne (by rw [e]))⟩
theorem cell_kept {w w' : World} {b o : Nat} {v : Value} {row : Option Nat} (c : w.cell? ⟨b, o, none⟩ = some v) (hg : w.grownBy w' row) (hb : b < w.heap.size) (hne : row ≠ some b) : w'.cell? ⟨b, o, none⟩ = some v :=
  (World.cell?_of_block (a := ⟨b, o, none⟩) (hg.block b hb (fun e => hne e.symm))).trans c
theorem fro_kept {w w' : World} {b o : Nat} {row : Option Nat} (c : w.frozen? ⟨b, o, none⟩ = false) (hg : w.grownBy w' row) (hb : b < w.heap.size) (hne : row ≠ some b) : w'.frozen? ⟨b, o, none⟩ = false :=
  (World.frozen?_of_block (a := ⟨b, o, none⟩) (hg.block b hb (fun e => hne e.symm))).trans c
namespace Od
/-- All blocks but one. -/
def But (w : World) (md : Nat) (b : Nat) : Prop := b < w.heap.size ∧ b ≠ md
section
variable {w w' : World} {md : Nat}
theorem But.below (hb : Below w.heap.size w w') : Keeps (But w md) w w' := ⟨hb.os, hb.tape, hb.output, hb.size, fun j hj => hb.block j hj.1⟩
theorem But.trans {w'' : World} (h : Keeps (But w md) w w') (h' : Keeps (But w' md) w' w'') : Keeps (But w md) w w'' :=
  ⟨h'.os.trans h.os, h'.tape.trans h.tape, h'.output.trans h.output, Nat.le_trans h.size h'.size, fun j hj => (h'.block j ⟨Nat.lt_of_lt_of_le hj.1 h.size, hj.2⟩).trans (h.block j hj)⟩
theorem cellK {b o : Nat} {v : Value} (c : w.cell? ⟨b, o, none⟩ = some v) (hk : Keeps (But w md) w w') (h : b < w.heap.size) (hne : ¬ b = md) : w'.cell? ⟨b, o, none⟩ = some v := (World.cell?_of_block (a := ⟨b, o, none⟩) (hk.block b ⟨h, hne⟩)).trans c
theorem froK {b o : Nat} (c : w.frozen? ⟨b, o, none⟩ = false) (hk : Keeps (But w md) w w') (h : b < w.heap.size) (hne : ¬ b = md) : w'.frozen? ⟨b, o, none⟩ = false := (World.frozen?_of_block (a := ⟨b, o, none⟩) (hk.block b ⟨h, hne⟩)).trans c
theorem But.grown (hg : w.grownBy w' (some md)) : Keeps (But w md) w w' := ⟨hg.os, hg.tape, hg.output, hg.size, fun j hj => hg.block j hj.1 (fun e => hj.2 (by injection e))⟩
theorem But.two {w1 w2 : World} {mj : Nat} (h : Keeps (But w mj) w w1) (hb : Below w1.heap.size w1 w2) : Keeps (But w mj) w w2 := But.trans h (But.below hb)
theorem But.low {w0 w1 : World} (hb : Below w0.heap.size w0 w) (h : Keeps (But w md) w w1) (hm : w0.heap.size ≤ md) : Below w0.heap.size w0 w1 :=
  ⟨h.os.trans hb.os, h.tape.trans hb.tape, h.output.trans hb.output, Nat.le_trans hb.size h.size, fun j hj => (h.block j ⟨Nat.lt_of_lt_of_le hj hb.size, by omega⟩).trans (hb.block j hj)⟩
end
theorem But.set (w : World) (b o : Nat) (u : Value) : Keeps (But w b) w (w.setCell ⟨b, o, none⟩ u) := But.grown (grownBy_setCell w ⟨b, o, none⟩ u)
end Od
end Go.Proofs.Ytgfdcmlmgeoimaa
end

section
/- The walk of the reference's Path where there are three pieces; Path. (bel2) -/
namespace Go.Proofs.Ytgfdcmlmgeoimaa
open Go.RowKit Go.Sort
set_option linter.unusedSimpArgs false
namespace Od

end Od
end Go.Proofs.Ytgfdcmlmgeoimaa
end

section
/- Files as data: how they lie in cells. (bel2) -/
namespace Go.Proofs.Ytgfdcmlmgeoimaa
open Go.RowKit Go.Sort
set_option linter.unusedSimpArgs false
def flC (f : Od.Fl) : List Value := [sv f.1, sv f.2.1, sv f.2.2]
def flsC (l : List Od.Fl) : List Value := l.flatMap flC
theorem flC_len (f : Od.Fl) : (flC f).length = 3 := rfl
theorem Rd.fl {w : World} {B : Nat} {A : Option Addr} {fs : List Od.Fl} (h : Rd w B 3 A fs.length (flsC fs)) {i : Nat} (hi : i < fs.length) :
    ∃ b o : Nat, A = some ⟨b, o, none⟩ ∧ b < B ∧ w.cell? ⟨b, o + i * 3, none⟩ = some (sv fs[i].1) ∧ w.cell? ⟨b, o + i * 3 + 1, none⟩ = some (sv fs[i].2.1) ∧ w.cell? ⟨b, o + i * 3 + 2, none⟩ = some (sv fs[i].2.2) := by
  obtain ⟨b, o, e, hb, hc⟩ := h.open (by omega)
  have h0 := flat_at flC 3 flC_len fs i 0 hi (by omega)
  have h1 := flat_at flC 3 flC_len fs i 1 hi (by omega)
  have h2 := flat_at flC 3 flC_len fs i 2 hi (by omega)
  refine ⟨b, o, e, hb, ?_, ?_, ?_⟩
  · exact (hc (i * 3) (by omega)).trans h0
  · exact (hc (i * 3 + 1) (by omega)).trans h1
  · exact (hc (i * 3 + 2) (by omega)).trans h2
theorem flsC_app (a b : List Od.Fl) : flsC (a ++ b) = flsC a ++ flsC b := by simp [flsC]
theorem flsC_one (f : Od.Fl) : flsC [f] = flC f := by simp [flsC]
namespace Od
abbrev flV (f : Fl) : Value := .agg #[sv f.1, sv f.2.1, sv f.2.2]
/-- Texts that are not too long for the reading. -/
def okFl (f : Fl) : Prop := f.1.length ≤ 140737488351232 ∧ f.2.1.length ≤ 140737488351232 ∧ f.2.2.length ≤ 140737488351232
/-- Files that came in. -/
structure FlIn (w : World) (A : Option Addr) (fs : List Fl) : Prop where
  rd : Rd w w.heap.size 3 A fs.length (flsC fs)
  ok : ∀ f ∈ fs, okFl f
theorem FlIn.at {w w' : World} {A : Option Addr} {fs : List Fl} (h : FlIn w A fs) (hb : Below w.heap.size w w') : FlIn w' A fs := ⟨h.rd.at hb, h.ok⟩
theorem one_flC (f : Fl) : ∀ u ∈ flC f, u.oneCell' = true := fun u hu => by
  unfold flC at hu
  simp only [List.mem_cons, List.not_mem_nil, or_false] at hu
  rcases hu with rfl | rfl | rfl <;> rfl
end Od
end Go.Proofs.Ytgfdcmlmgeoimaa
end

section
/- Regions in which several calls and allocs may come up at once: each order. (bel2) -/
namespace Go.Proofs.Ytgfdcmlmgeoimaa
open Go.RowKit Go.Sort
set_option linter.unusedSimpArgs false
section
variable {P : Program} {ops : Array Oper} {Q : Exit → Act → World → Prop} {md : Region.Mode} {S : World → Prop}
variable {i j k : Nat} {dst dst2 dst3 : Option Tmp} {op op2 op3 : Op} {ty ty2 ty3 : TypeId} {pos pos2 pos3 : String} {aft aft2 aft3 : Array Edge} {grd grd2 grd3 : Option (Nat × Bool)} {fuel : Nat} {listed : Array Bool} {a : Act} {w : World}
theorem ready_twoD (hi : ops[i]? = some ⟨dst, op, ty, pos, aft, grd⟩) (hj : ops[j]? = some ⟨dst2, op2, ty2, pos2, aft2, grd2⟩) (hr : Region.ready md ops listed = [i, j])
    (h : ∀ K' : Act → World → Prop, Shut (∀ a w, S w → (S w → wpAnyH P md ops Q S fuel (listed.setIfInBounds i true) a w) → K' a w) → if Region.wanted ⟨dst, op, ty, pos, aft, grd⟩ (yielded ops a.tmps) = true then Oper.wp P ⟨dst, op, ty, pos, aft, grd⟩ a w K' Q else K' (a.put dst undef) w)
    (h2 : ∀ K' : Act → World → Prop, Shut (∀ a w, S w → (S w → wpAnyH P md ops Q S fuel (listed.setIfInBounds j true) a w) → K' a w) → if Region.wanted ⟨dst2, op2, ty2, pos2, aft2, grd2⟩ (yielded ops a.tmps) = true then Oper.wp P ⟨dst2, op2, ty2, pos2, aft2, grd2⟩ a w K' Q else K' (a.put dst2 undef) w) :
    wpAnyH P md ops Q S (fuel + 1) listed a w :=
  wpAnyH_ready hr (by simp) (AllReadyH.cons hi h (AllReadyH.cons hj h2 AllReadyH.nil))
theorem ready_threeD (hi : ops[i]? = some ⟨dst, op, ty, pos, aft, grd⟩) (hj : ops[j]? = some ⟨dst2, op2, ty2, pos2, aft2, grd2⟩) (hk : ops[k]? = some ⟨dst3, op3, ty3, pos3, aft3, grd3⟩) (hr : Region.ready md ops listed = [i, j, k])
    (h : ∀ K' : Act → World → Prop, Shut (∀ a w, S w → (S w → wpAnyH P md ops Q S fuel (listed.setIfInBounds i true) a w) → K' a w) → if Region.wanted ⟨dst, op, ty, pos, aft, grd⟩ (yielded ops a.tmps) = true then Oper.wp P ⟨dst, op, ty, pos, aft, grd⟩ a w K' Q else K' (a.put dst undef) w)
    (h2 : ∀ K' : Act → World → Prop, Shut (∀ a w, S w → (S w → wpAnyH P md ops Q S fuel (listed.setIfInBounds j true) a w) → K' a w) → if Region.wanted ⟨dst2, op2, ty2, pos2, aft2, grd2⟩ (yielded ops a.tmps) = true then Oper.wp P ⟨dst2, op2, ty2, pos2, aft2, grd2⟩ a w K' Q else K' (a.put dst2 undef) w)
    (h3 : ∀ K' : Act → World → Prop, Shut (∀ a w, S w → (S w → wpAnyH P md ops Q S fuel (listed.setIfInBounds k true) a w) → K' a w) → if Region.wanted ⟨dst3, op3, ty3, pos3, aft3, grd3⟩ (yielded ops a.tmps) = true then Oper.wp P ⟨dst3, op3, ty3, pos3, aft3, grd3⟩ a w K' Q else K' (a.put dst3 undef) w) :
    wpAnyH P md ops Q S (fuel + 1) listed a w :=
  wpAnyH_ready hr (by simp) (AllReadyH.cons hi h (AllReadyH.cons hj h2 (AllReadyH.cons hk h3 AllReadyH.nil)))
end
namespace Od
theorem below_new (w : World) (o : Obj) : Below w.heap.size w (w.alloc o) := (Below.refl _ _).alloc (Nat.le_refl _) o
end Od
end Go.Proofs.Ytgfdcmlmgeoimaa
end

section
/- mayFile of the reference. (bel2) -/
namespace Go.Proofs.Ytgfdcmlmgeoimaa
open Go.RowKit Go.Sort
set_option linter.unusedSimpArgs false
namespace Od
end Od
end Go.Proofs.Ytgfdcmlmgeoimaa
end
