/- My texts, joined for the claim: DShown DSame DShownW DApp DSlice Frame. -/
import Derived.Test.YtgfdcmlmgeoimaaZB13
import Derived.Test.YtgfdcmlmgeoimaaZB14
import Derived.Test.YtgfdcmlmgeoimaaZB11
import Derived.Test.YtgfdcmlmgeoimaaZB6
import Derived.Test.YtgfdcmlmgeoimaaZB4
import Derived.Test.YtgfdcmlmgeoimaaZB1
import Derived.Test.YtgfdcmlmgeoimaaRows
import Derived.ProofKit
import Derived.OpenShut

section
/- The five files that the laws of Disk begin with, and what they come to. No program. -/
namespace Go.Proofs.Ytgfdcmlmgeoimaa
set_option linter.unusedSimpArgs false
namespace Od
def shA1 : Str := [97, 64, 49, 46, 115, 101, 114, 118, 105, 99, 101]
def shE : Str := [101, 46, 116, 105, 109, 101, 114]
def shZ : Str := [122, 46, 116, 105, 109, 101, 114]
def shC : Str := [99, 46, 116, 97, 114, 103, 101, 116]
def shD : Str := [100, 46, 115, 101, 114, 118, 105, 99, 101]
def shLib : Str := [108, 105, 98, 47, 97, 64, 46, 115, 101, 114, 118, 105, 99, 101]
def shEtc : Str := [101, 116, 99, 47, 97, 64, 49, 46, 115, 101, 114, 118, 105, 99, 101, 46, 100, 47, 98, 46, 99, 111, 110, 102]
def shLibD : Str := [108, 105, 98, 47, 97, 64, 46, 115, 101, 114, 118, 105, 99, 101, 46, 100, 47, 98, 46, 99, 111, 110, 102]
def shRun : Str := [114, 117, 110, 47, 99, 46, 116, 97, 114, 103, 101, 116, 46, 119, 97, 110, 116, 115, 47, 100, 46, 115, 101, 114, 118, 105, 99, 101]
def shEt : Str := [101, 116, 99, 47, 101, 46, 116, 105, 109, 101, 114]
def shFs : List Fl := [(shLib, [120], []), (shEtc, [121], []), (shLibD, [], []), (shRun, [], shD), (shEt, [], nullS)]
theorem sh_may : mayFs shFs = true := by decide +kernel
def shB : Bool :=
  let x := findF shFs shA1; let y := findF shFs shE; let z := findF shFs shZ
  x.2 == 0 && (x.1.1 == shA1 && (x.1.2.1 == shLib && (x.1.2.2.1 == false && (x.1.2.2.2 == [shEtc] && (y.2 == 0 && (y.1.1 == shE && (y.1.2.1 == shEt && (y.1.2.2.1 && (y.1.2.2.2 == ([] : List Str) && (z.2 == 6 && (z.1.1 == ([] : Str) && (z.1.2.1 == ([] : Str) && (!z.1.2.2.1 && (z.1.2.2.2 == ([] : List Str) && (linksF shFs 3 shC == [shD] && linksF shFs 4 shC == ([] : List Str))))))))))))))))
theorem sh_all : shB = true := by decide +kernel
theorem sh_x : findF shFs shA1 = ((shA1, shLib, false, [shEtc]), 0) ∧ findF shFs shE = ((shE, shEt, true, []), 0) ∧ findF shFs shZ = (found0, 6) ∧ linksF shFs 3 shC = [shD] ∧ linksF shFs 4 shC = [] := by
  have h := sh_all
  unfold shB at h
  simp only [Bool.and_eq_true, beq_iff_eq, Bool.not_eq_true'] at h
  obtain ⟨h1, h2, h3, h4, h5, h6, h7, h8, h9, h10, h11, h12, h13, h14, h15, h16, h17⟩ := h
  exact ⟨Prod.ext (Prod.ext h2 (Prod.ext h3 (Prod.ext h4 h5))) h1, Prod.ext (Prod.ext h7 (Prod.ext h8 (Prod.ext h9 h10))) h6, Prod.ext (Prod.ext h12 (Prod.ext h13 (Prod.ext h14 h15))) h11, h16, h17⟩
end Od
end Go.Proofs.Ytgfdcmlmgeoimaa
end

section
/- What layer 12's laws begin with: same, shown. (bel2) -/
namespace Go.Proofs.Ytgfdcmlmgeoimaa
open Go.RowKit Go.Sort
set_option linter.unusedSimpArgs false
namespace Od
abbrev fdV (x : Fd) (A : Option Addr) (c : Nat) : Value := .agg #[sv x.1, sv x.2.1, .bool x.2.2.1, .slice A x.2.2.2.length c]
theorem drops_len {fs : List Fl} (h : mayFs fs = true) (u : Str) : (dropsF fs u).length ≤ 120 := by
  unfold dropsF
  rw [List.length_map]
  exact Nat.le_trans (canon_len (lt := ltS) _) (Nat.le_trans (List.length_filterMap_le _ _) (mayFs_iff.1 h).1)
theorem go_len {fs : List Fl} (h : mayFs fs = true) : ∀ (k : Nat) (asked : List Str) (n : Str), (goF fs k asked n).1.2.2.2.length ≤ 120
  | 0, _, _ => Nat.zero_le _
  | k + 1, asked, n => by
    unfold goF hopF
    cases ho : ownedF fs n with
    | none => exact Nat.zero_le _
    | some y =>
      obtain ⟨f, own⟩ := y
      simp only
      by_cases h0 : f.2.2 = []
      · rw [if_pos h0]; exact drops_len h n
      · rw [if_neg h0]
        by_cases h1 : f.2.2 = nullS
        · rw [if_pos h1]; exact Nat.zero_le _
        · rw [if_neg h1]
          generalize (if own = true then (f.2.2, true) else instOf f.2.2 (ofS n).2.2.1) = t
          by_cases hc : t.2 = false ∨ t.1 ∈ asked ∨ 8 < asked.length
          · rw [if_pos hc]; exact Nat.zero_le _
          · rw [if_neg hc]; exact go_len h k _ _
theorem find_len (fs : List Fl) (u : Str) : (findF fs u).1.2.2.2.length ≤ 120 := by
  unfold findF
  split
  · exact Nat.zero_le _
  · rename_i h
    split
    · exact Nat.zero_le _
    · exact go_len (by simpa using h) _ _ _
theorem links_len (fs : List Fl) (k : Nat) (u : Str) : (linksF fs k u).length ≤ 120 := by
  unfold linksF
  split
  · rename_i h
    exact Nat.le_trans (canon_len (lt := ltS) _) (Nat.le_trans (List.length_filterMap_le _ _) (mayFs_iff.1 h).1)
  · exact Nat.zero_le _
set_option maxRecDepth 100000 in
set_option maxHeartbeats 4000000 in
/-- Two finds that are one are alike. -/
theorem same12_any (x : Fd) (A A' : Option Addr) (c c' : Nat) (w : World) (hr : Rd w w.heap.size 1 A x.2.2.2.length (svs x.2.2.2)) (hr' : Rd w w.heap.size 1 A' x.2.2.2.length (svs x.2.2.2)) (hl : x.2.2.2.length ≤ 1000000) :
    Calls Try.prog 8 #[fdV x A c, fdV x A' c'] w fun e w' => e = .returned (.bool true) ∧ Below w.heap.size w w' := by
  obtain ⟨n, p, m, ds⟩ := x
  simp only at hr hr' hl
  have HR := Lib.hid hr
  have HR' := Lib.hid hr'
  clear hr hr'
  have e1 : (n == n) = true := by simp
  have e2 : (p == p) = true := by simp
  have e3 : (m == m) = true := by simp
  go_enter Try.func8, Try.ntmps8
  go_wp2_with fail
  first | (refine wp_named ?_; intro W1 hW) | (refine calls_named ?_; intro W1 hW) | (refine exit_named ?_; intro W1 hW)
  have B1 : Below w.heap.size w W1 := by rw [hW]; exact (by repeat (first | exact Below.refl _ _ | assumption | refine Below.alloc ?_ (by first | omega | (simp <;> omega)) _ | refine Below.setCell ?_ (by first | omega | (simp <;> omega)) _ | refine Below.drew ?_))
  replace HR := Lib.hid (HR.out.at B1)
  replace HR' := Lib.hid (HR'.out.at B1)
  clear hW
  have HB1 := Lib.hid B1
  clear B1
  refine (Same_any A A' c c' ds ds W1 HR.out HR'.out hl).mono ?_
  rintro e w2 ⟨rfl, hb⟩
  have HB2 := Lib.hid (lift HB1.out hb)
  clear hb
  have e4 : decide (ds = ds) = true := by simp
  rw [e4]
  go_wp2_with fail
  go_ret
  exact ⟨rfl, HB2.out⟩
end Od
end Go.Proofs.Ytgfdcmlmgeoimaa
end

section
/- matinslaw12.shown. (bel2) -/
namespace Go.Proofs.Ytgfdcmlmgeoimaa
open Go.RowKit Go.Sort
set_option linter.unusedSimpArgs false
namespace Od
theorem okFl_sh : ∀ f ∈ shFs, okFl f := by
  intro f hf
  simp only [shFs, List.mem_cons, List.not_mem_nil, or_false] at hf
  rcases hf with rfl | rfl | rfl | rfl | rfl <;> exact ⟨by decide, by decide, by decide⟩
theorem findR_sh {x : Fd × Int} {fs : List Fl} {u : Str} (hx : findF fs u = x) {A : Option Addr} {c : Nat} {w : World} (h : Calls Try.prog 6 #[.slice A fs.length c, sv u] w (FindR (findF fs u) w)) : Calls Try.prog 6 #[.slice A fs.length c, sv u] w (FindR x w) := by rw [hx] at h; exact h
set_option maxRecDepth 100000 in
set_option maxHeartbeats 8000000 in
theorem shown12_any (w : World) : Calls Try.prog 5 #[] w fun e w' => e = .returned (.bool true) ∧ Below w.heap.size w w' := by
  obtain ⟨s1, s2, s3, s4, s5⟩ := sh_x
  have hl5 : shFs.length = 5 := rfl
  go_enter Try.func5, Try.ntmps5
  go_wp2_with fail
  first | (refine wp_named ?_; intro W1 hW) | (refine calls_named ?_; intro W1 hW) | (refine exit_named ?_; intro W1 hW)
  have B1 : Below w.heap.size w W1 := by rw [hW]; exact (by repeat (first | exact Below.refl _ _ | assumption | refine Below.alloc ?_ (by first | omega | (simp <;> omega)) _ | refine Below.setCell ?_ (by first | omega | (simp <;> omega)) _ | refine Below.drew ?_))
  have hf0 : FlIn W1 (some ⟨w.heap.size, 0, none⟩) shFs := by rw [hW]; exact ⟨Rd.lit w (flsC shFs) 38 3 5 rfl, okFl_sh⟩
  clear hW
  have HF := Lib.hid hf0
  have HB := Lib.hid B1
  clear B1 hf0
  refine (show Calls Try.prog 6 #[.slice (some ⟨w.heap.size, 0, none⟩) 5 5, sv shA1] W1 _ from findR_sh s1 (Find_any (some ⟨w.heap.size, 0, none⟩) 5 shFs shA1 W1 HF.out (by decide) (by decide))).mono ?_
  rintro e w2 ⟨A2, c2, rfl, hr, hb⟩
  have HR2 := Lib.hid hr
  replace HF := Lib.hid (HF.out.at hb)
  replace HB := Lib.hid (lift HB.out hb)
  clear hb hr
  go_wp2_with fail
  first | (refine wp_named ?_; intro W3 hW) | (refine calls_named ?_; intro W3 hW) | (refine exit_named ?_; intro W3 hW)
  have B3 : Below w2.heap.size w2 W3 := by rw [hW]; exact (by repeat (first | exact Below.refl _ _ | assumption | refine Below.alloc ?_ (by first | omega | (simp <;> omega)) _ | refine Below.setCell ?_ (by first | omega | (simp <;> omega)) _ | refine Below.drew ?_))
  replace HF := Lib.hid (HF.out.at B3)
  replace HB := Lib.hid (lift HB.out B3)
  replace HR2 := Lib.hid (HR2.out.at B3)
  have n3 : w2.heap.size < W3.heap.size := by rw [hW]; simp <;> omega
  have x0 : W3.cell? ⟨w2.heap.size, 0, none⟩ = some (sv shA1) := by rw [hW]; go_simp
  have x1 : W3.cell? ⟨w2.heap.size, 1, none⟩ = some (sv shLib) := by rw [hW]; go_simp
  have x3 : W3.cell? ⟨w2.heap.size, 3, none⟩ = some (.slice A2 1 c2) := by rw [hW]; go_simp
  clear hW
  clear B3
  refine (show Calls Try.prog 6 #[.slice (some ⟨w.heap.size, 0, none⟩) 5 5, sv shE] W3 _ from findR_sh s2 (Find_any (some ⟨w.heap.size, 0, none⟩) 5 shFs shE W3 HF.out (by decide) (by decide))).mono ?_
  rintro e w4 ⟨A4, c4, rfl, hr, hb⟩
  replace x0 := cellAt x0 hb (by omega)
  replace x1 := cellAt x1 hb (by omega)
  replace x3 := cellAt x3 hb (by omega)
  replace HF := Lib.hid (HF.out.at hb)
  replace HB := Lib.hid (lift HB.out hb)
  replace HR2 := Lib.hid (HR2.out.at hb)
  replace n3 : w2.heap.size < w4.heap.size := ltAt n3 hb
  clear hb hr
  go_wp2_with fail
  first | (refine wp_named ?_; intro W5 hW) | (refine calls_named ?_; intro W5 hW) | (refine exit_named ?_; intro W5 hW)
  have B5 : Below w4.heap.size w4 W5 := by rw [hW]; exact (by repeat (first | exact Below.refl _ _ | assumption | refine Below.alloc ?_ (by first | omega | (simp <;> omega)) _ | refine Below.setCell ?_ (by first | omega | (simp <;> omega)) _ | refine Below.drew ?_))
  replace x0 := cellAt x0 B5 (by omega)
  replace x1 := cellAt x1 B5 (by omega)
  replace x3 := cellAt x3 B5 (by omega)
  replace HF := Lib.hid (HF.out.at B5)
  replace HB := Lib.hid (lift HB.out B5)
  replace HR2 := Lib.hid (HR2.out.at B5)
  replace n3 : w2.heap.size < W5.heap.size := ltAt n3 B5
  have n5 : w4.heap.size < W5.heap.size := by rw [hW]; simp <;> omega
  have y2 : W5.cell? ⟨w4.heap.size, 2, none⟩ = some (.bool true) := by rw [hW]; go_simp
  clear hW
  clear B5
  refine (show Calls Try.prog 6 #[.slice (some ⟨w.heap.size, 0, none⟩) 5 5, sv shZ] W5 _ from findR_sh s3 (Find_any (some ⟨w.heap.size, 0, none⟩) 5 shFs shZ W5 HF.out (by decide) (by decide))).mono ?_
  rintro e w6 ⟨A6, c6, rfl, hr, hb⟩
  replace x0 := cellAt x0 hb (by omega)
  replace x1 := cellAt x1 hb (by omega)
  replace x3 := cellAt x3 hb (by omega)
  replace y2 := cellAt y2 hb (by omega)
  replace HF := Lib.hid (HF.out.at hb)
  replace HB := Lib.hid (lift HB.out hb)
  replace HR2 := Lib.hid (HR2.out.at hb)
  replace n3 : w2.heap.size < w6.heap.size := ltAt n3 hb
  replace n5 : w4.heap.size < w6.heap.size := ltAt n5 hb
  clear hb hr
  go_wp2_with fail
  first | (refine wp_named ?_; intro W7 hW) | (refine calls_named ?_; intro W7 hW) | (refine exit_named ?_; intro W7 hW)
  have B7 : Below w6.heap.size w6 W7 := by rw [hW]; exact (by repeat (first | exact Below.refl _ _ | assumption | refine Below.alloc ?_ (by first | omega | (simp <;> omega)) _ | refine Below.setCell ?_ (by first | omega | (simp <;> omega)) _ | refine Below.drew ?_))
  replace x0 := cellAt x0 B7 (by omega)
  replace x1 := cellAt x1 B7 (by omega)
  replace x3 := cellAt x3 B7 (by omega)
  replace y2 := cellAt y2 B7 (by omega)
  replace HF := Lib.hid (HF.out.at B7)
  replace HB := Lib.hid (lift HB.out B7)
  replace HR2 := Lib.hid (HR2.out.at B7)
  replace n3 : w2.heap.size < W7.heap.size := ltAt n3 B7
  replace n5 : w4.heap.size < W7.heap.size := ltAt n5 B7
  have n7 : w6.heap.size < W7.heap.size := by rw [hW]; simp <;> omega
  clear hW
  clear B7
  have hlk := Links_any (some ⟨w.heap.size, 0, none⟩) 5 shFs shC W7 HF.out (by decide)
  unfold LinksR at hlk
  rw [s4, s5] at hlk
  refine (show Calls Try.prog 7 #[.slice (some ⟨w.heap.size, 0, none⟩) 5 5, sv shC] W7 _ from hlk).mono ?_
  clear hlk
  rintro e w8 ⟨A8, c8, A9, c9, rfl, hr8, hr9, hb⟩
  have HR8 := Lib.hid hr8
  replace x0 := cellAt x0 hb (by omega)
  replace x1 := cellAt x1 hb (by omega)
  replace x3 := cellAt x3 hb (by omega)
  replace y2 := cellAt y2 hb (by omega)
  replace HF := Lib.hid (HF.out.at hb)
  replace HB := Lib.hid (lift HB.out hb)
  replace HR2 := Lib.hid (HR2.out.at hb)
  replace n3 : w2.heap.size < w8.heap.size := ltAt n3 hb
  replace n5 : w4.heap.size < w8.heap.size := ltAt n5 hb
  replace n7 : w6.heap.size < w8.heap.size := ltAt n7 hb
  clear hb hr8 hr9
  go_wp2_with fail
  refine (show Calls Try.prog 10 #[.slice (some ⟨w.heap.size, 0, none⟩) 5 5] w8 _ from MayD_any (some ⟨w.heap.size, 0, none⟩) 5 shFs w8 HF.out (by decide)).mono ?_
  rintro e w9 ⟨rfl, hb⟩
  rw [sh_may]
  replace x0 := cellAt x0 hb (by omega)
  replace x1 := cellAt x1 hb (by omega)
  replace x3 := cellAt x3 hb (by omega)
  replace y2 := cellAt y2 hb (by omega)
  replace HF := Lib.hid (HF.out.at hb)
  replace HB := Lib.hid (lift HB.out hb)
  replace HR2 := Lib.hid (HR2.out.at hb)
  replace n3 : w2.heap.size < w9.heap.size := ltAt n3 hb
  replace n5 : w4.heap.size < w9.heap.size := ltAt n5 hb
  replace n7 : w6.heap.size < w9.heap.size := ltAt n7 hb
  replace HR8 := Lib.hid (HR8.out.at hb)
  clear hb
  go_wp2_with fail
  first | (refine wp_named ?_; intro W10 hW) | (refine calls_named ?_; intro W10 hW) | (refine exit_named ?_; intro W10 hW)
  have B10 : Below w9.heap.size w9 W10 := by rw [hW]; exact (by repeat (first | exact Below.refl _ _ | assumption | refine Below.alloc ?_ (by first | omega | (simp <;> omega)) _ | refine Below.setCell ?_ (by first | omega | (simp <;> omega)) _ | refine Below.drew ?_))
  replace x0 := cellAt x0 B10 (by omega)
  replace x1 := cellAt x1 B10 (by omega)
  replace x3 := cellAt x3 B10 (by omega)
  replace y2 := cellAt y2 B10 (by omega)
  replace HF := Lib.hid (HF.out.at B10)
  replace HB := Lib.hid (lift HB.out B10)
  replace HR2 := Lib.hid (HR2.out.at B10)
  replace n3 : w2.heap.size < W10.heap.size := ltAt n3 B10
  replace n5 : w4.heap.size < W10.heap.size := ltAt n5 B10
  replace n7 : w6.heap.size < W10.heap.size := ltAt n7 B10
  replace HR8 := Lib.hid (HR8.out.at B10)
  have he0 : Rd W10 W10.heap.size 1 (some ⟨w9.heap.size, 0, none⟩) 1 (svs [shEtc]) := by rw [hW]; exact Rd.lit w9 (svs [shEtc]) 9 1 1 rfl
  clear hW
  clear B10
  refine (show Calls Try.prog 9 #[.slice A2 1 c2, .slice (some ⟨w9.heap.size, 0, none⟩) 1 1] W10 _ from Same_any A2 (some ⟨w9.heap.size, 0, none⟩) c2 1 [shEtc] [shEtc] W10 HR2.out he0 (by decide)).mono ?_
  rintro e w11 ⟨rfl, hb⟩
  rw [show decide ([shEtc] = [shEtc]) = true by simp]
  replace x0 := cellAt x0 hb (by omega)
  replace x1 := cellAt x1 hb (by omega)
  replace x3 := cellAt x3 hb (by omega)
  replace y2 := cellAt y2 hb (by omega)
  replace HF := Lib.hid (HF.out.at hb)
  replace HB := Lib.hid (lift HB.out hb)
  replace HR2 := Lib.hid (HR2.out.at hb)
  replace n3 : w2.heap.size < w11.heap.size := ltAt n3 hb
  replace n5 : w4.heap.size < w11.heap.size := ltAt n5 hb
  replace n7 : w6.heap.size < w11.heap.size := ltAt n7 hb
  replace HR8 := Lib.hid (HR8.out.at hb)
  clear hb he0
  go_wp2_with fail
  first | (refine wp_named ?_; intro W12 hW) | (refine calls_named ?_; intro W12 hW) | (refine exit_named ?_; intro W12 hW)
  have B12 : Below w11.heap.size w11 W12 := by rw [hW]; exact (by repeat (first | exact Below.refl _ _ | assumption | refine Below.alloc ?_ (by first | omega | (simp <;> omega)) _ | refine Below.setCell ?_ (by first | omega | (simp <;> omega)) _ | refine Below.drew ?_))
  replace x0 := cellAt x0 B12 (by omega)
  replace x1 := cellAt x1 B12 (by omega)
  replace x3 := cellAt x3 B12 (by omega)
  replace y2 := cellAt y2 B12 (by omega)
  replace HF := Lib.hid (HF.out.at B12)
  replace HB := Lib.hid (lift HB.out B12)
  replace HR2 := Lib.hid (HR2.out.at B12)
  replace n3 : w2.heap.size < W12.heap.size := ltAt n3 B12
  replace n5 : w4.heap.size < W12.heap.size := ltAt n5 B12
  replace n7 : w6.heap.size < W12.heap.size := ltAt n7 B12
  replace HR8 := Lib.hid (HR8.out.at B12)
  have he0 : Rd W12 W12.heap.size 1 (some ⟨w11.heap.size, 0, none⟩) 1 (svs [shD]) := by rw [hW]; exact Rd.lit w11 (svs [shD]) 9 1 1 rfl
  clear hW
  clear B12
  refine (show Calls Try.prog 9 #[.slice A8 1 c8, .slice (some ⟨w11.heap.size, 0, none⟩) 1 1] W12 _ from Same_any A8 (some ⟨w11.heap.size, 0, none⟩) c8 1 [shD] [shD] W12 HR8.out he0 (by decide)).mono ?_
  rintro e w13 ⟨rfl, hb⟩
  rw [show decide ([shD] = [shD]) = true by simp]
  replace x0 := cellAt x0 hb (by omega)
  replace x1 := cellAt x1 hb (by omega)
  replace x3 := cellAt x3 hb (by omega)
  replace y2 := cellAt y2 hb (by omega)
  replace HF := Lib.hid (HF.out.at hb)
  replace HB := Lib.hid (lift HB.out hb)
  replace HR2 := Lib.hid (HR2.out.at hb)
  replace n3 : w2.heap.size < w13.heap.size := ltAt n3 hb
  replace n5 : w4.heap.size < w13.heap.size := ltAt n5 hb
  replace n7 : w6.heap.size < w13.heap.size := ltAt n7 hb
  replace HR8 := Lib.hid (HR8.out.at hb)
  clear hb he0
  go_wp2_with fail
  refine (Places_any w13).mono ?_
  rintro e w14 ⟨A1, c1, rfl, hcp, hrp, hb⟩
  have HRp := Lib.hid hrp
  replace x0 := cellAt x0 hb (by omega)
  replace x1 := cellAt x1 hb (by omega)
  replace x3 := cellAt x3 hb (by omega)
  replace y2 := cellAt y2 hb (by omega)
  replace HF := Lib.hid (HF.out.at hb)
  replace HB := Lib.hid (lift HB.out hb)
  replace HR2 := Lib.hid (HR2.out.at hb)
  replace n3 : w2.heap.size < w14.heap.size := ltAt n3 hb
  replace n5 : w4.heap.size < w14.heap.size := ltAt n5 hb
  replace n7 : w6.heap.size < w14.heap.size := ltAt n7 hb
  replace HR8 := Lib.hid (HR8.out.at hb)
  clear hb hrp hcp
  go_wp2_with fail
  first | (refine wp_named ?_; intro W15 hW) | (refine calls_named ?_; intro W15 hW) | (refine exit_named ?_; intro W15 hW)
  have B15 : Below w14.heap.size w14 W15 := by rw [hW]; exact (by repeat (first | exact Below.refl _ _ | assumption | refine Below.alloc ?_ (by first | omega | (simp <;> omega)) _ | refine Below.setCell ?_ (by first | omega | (simp <;> omega)) _ | refine Below.drew ?_))
  replace x0 := cellAt x0 B15 (by omega)
  replace x1 := cellAt x1 B15 (by omega)
  replace x3 := cellAt x3 B15 (by omega)
  replace y2 := cellAt y2 B15 (by omega)
  replace HF := Lib.hid (HF.out.at B15)
  replace HB := Lib.hid (lift HB.out B15)
  replace HR2 := Lib.hid (HR2.out.at B15)
  replace n3 : w2.heap.size < W15.heap.size := ltAt n3 B15
  replace n5 : w4.heap.size < W15.heap.size := ltAt n5 B15
  replace n7 : w6.heap.size < W15.heap.size := ltAt n7 B15
  replace HR8 := Lib.hid (HR8.out.at B15)
  replace HRp := Lib.hid (HRp.out.at B15)
  have he0 : Rd W15 W15.heap.size 1 (some ⟨w14.heap.size, 0, none⟩) 3 (svs placesL) := by rw [hW]; exact Rd.lit w14 (svs placesL) 9 1 3 rfl
  clear hW
  clear B15
  refine (show Calls Try.prog 9 #[.slice A1 placesL.length c1, .slice (some ⟨w14.heap.size, 0, none⟩) 3 3] W15 _ from Same_any A1 (some ⟨w14.heap.size, 0, none⟩) c1 3 placesL placesL W15 HRp.out he0 (by decide)).mono ?_
  rintro e w16 ⟨rfl, hb⟩
  rw [show decide (placesL = placesL) = true by simp]
  replace x0 := cellAt x0 hb (by omega)
  replace x1 := cellAt x1 hb (by omega)
  replace x3 := cellAt x3 hb (by omega)
  replace y2 := cellAt y2 hb (by omega)
  replace HF := Lib.hid (HF.out.at hb)
  replace HB := Lib.hid (lift HB.out hb)
  replace HR2 := Lib.hid (HR2.out.at hb)
  replace n3 : w2.heap.size < w16.heap.size := ltAt n3 hb
  replace n5 : w4.heap.size < w16.heap.size := ltAt n5 hb
  replace n7 : w6.heap.size < w16.heap.size := ltAt n7 hb
  replace HR8 := Lib.hid (HR8.out.at hb)
  replace HRp := Lib.hid (HRp.out.at hb)
  clear hb he0
  go_wp2_with fail
  go_ret
  exact ⟨rfl, HB.out⟩
end Od
end Go.Proofs.Ytgfdcmlmgeoimaa
end

section
/- Rows of files of the call's own: appended to, filtered. (bel2) -/
namespace Go.Proofs.Ytgfdcmlmgeoimaa
open Go.RowKit Go.Sort
set_option linter.unusedSimpArgs false
/-- 'append([]T(nil), xs...)'. -/
theorem wpList_append_first {P : Program} (w : World) {ops : Array Oper} {rest : List Oper} {o : Oper} {a : Act} {Q : Exit → Act → World → Prop} (hgd : o.guard = none) (s x : Operand) (t : TypeId)
    (ho : o.op = .call { callee := .builtin .append, args := #[s, x], argTypes := #[t, t] })
    (base : Nat) (e : TypeId) (i : TypeInfo) (z : Value) (size bytes : Nat) (ht : P.underlying t = some (.slice e)) (hi : P.info? e = some i) (hz : i.zero = some z)
    (hsize : i.size = size) (hby : i.bytes = bytes) (hzs : z.cells.size = size) (hsz : 0 < size) (hs : a.eval s = .slice none 0 0)
    (B : Nat) (A : Option Addr) (m c : Nat) (news : List Value) (hx : a.eval x = .slice A m c) (hr : Rd w B size A m news) (h1 : ∀ u ∈ news, u.oneCell' = true)
    (h63 : m ≤ maxLen) (hbytes : m * bytes ≤ 140737488355328) (hbase : base ≤ w.heap.size)
    (h : ∀ A' c' w', w'.ownsRow base e size (.slice A' m c') m news → Below w.heap.size w w' → wpList P ops Q rest (a.put o.dst (.slice A' m c')) w') : wpList P ops Q (o :: rest) a w := by
  refine wpList_append_rd w hgd s x t ho base e i z size bytes ht hi hz hsize hby hzs hsz (.slice none 0 0) 0 [] hs (World.ownsRow_nil _ _ _ _) B A m c news hx hr h1 (by omega) (by simpa using hbytes) hbase ?_
  intro A' c' w' h2 h3 _
  rw [Nat.zero_add, List.nil_append] at h2
  rw [Nat.zero_add]
  exact h A' c' w' h2 ((Below.refl _ _).grown h3 (Nat.le_refl _) (by simp [Value.ownBlock]))
namespace Od
theorem one_flsC (l : List Fl) : ∀ u ∈ flsC l, u.oneCell' = true := fun u hu => by
  unfold flsC at hu
  obtain ⟨f, _, hf⟩ := List.mem_flatMap.1 hu
  exact one_flC f u hf
theorem FlIn.snoc {w' : World} {A : Option Addr} {c : Nat} {L : List Fl} {base : Nat} {s t l : Str} (h : ∀ f ∈ L, okFl f) (ho : w'.ownsRow base 38 3 (.slice A (L.length + 1) c) (L.length + 1) (flsC L ++ [sv s, sv t, sv l])) (hf : okFl (s, t, l)) : FlIn w' A (L ++ [(s, t, l)]) := by
  refine ⟨?_, fun f hm => ?_⟩
  · rw [List.length_append, flsC_app, flsC_one]
    exact own_rd' ho
  · rcases List.mem_append.1 hm with e | e
    · exact h f e
    · rw [List.mem_singleton.1 e]; exact hf
end Od
end Go.Proofs.Ytgfdcmlmgeoimaa
end

section
/- 's[k:]' and 's[:k]' of a slice that reads as a list. No program. -/
namespace Go.Proofs.Ytgfdcmlmgeoimaa
open Go.RowKit
def dropD (A : Option Addr) (c k size : Nat) : Option Addr := if c = k then A else A.map (·.add (k * size))
def takeD (A : Option Addr) (c size : Nat) : Option Addr := if c = 0 then A else A.map (·.add (0 * size))
section
variable {P : Program}
theorem run_slice_tailD {t e : TypeId} {i : TypeInfo} (ht : P.underlying t = some (.slice e)) (hi : P.info? e = some i) (A : Option Addr) (n c k : Nat) (hk : k ≤ n) (w : World) :
    (Instr.slice t (.slice A n c) (some (.int .i64 k)) none none).run P w = .ok (.slice (dropD A c k i.size) (n - k) (c - k)) w := by
  simp [Instr.slice, run_underlying ht, Instr.sliceBounds, Instr.sliceBound, asIntOf, sizeOf, typeInfo, hi, dropD]
  intro h; omega
theorem run_slice_headD {t e : TypeId} {i : TypeInfo} (ht : P.underlying t = some (.slice e)) (hi : P.info? e = some i) (A : Option Addr) (n c k : Nat) (hk : k ≤ c) (w : World) :
    (Instr.slice t (.slice A n c) none (some (.int .i64 k)) none).run P w = .ok (.slice (takeD A c i.size) k c) w := by
  simp [Instr.slice, run_underlying ht, Instr.sliceBounds, Instr.sliceBound, asIntOf, sizeOf, typeInfo, hi, takeD]
  intro h; omega
end
theorem Rd.dropD {w : World} {B k n m c : Nat} {A : Option Addr} {xs : List Value} (h : Rd w B k A n xs) (hm : m ≤ n) (hc : n ≤ c) : Rd w B k (dropD A c m k) (n - m) (xs.drop (m * k)) := h.drop hm hc
theorem addD_zero (a : Addr) : a.add 0 = a := by simp [Addr.add]
theorem Rd.takeD {w : World} {B k n m c : Nat} {A : Option Addr} {xs : List Value} (h : Rd w B k A n xs) (hm : m ≤ n) : Rd w B k (takeD A c k) m (xs.take (m * k)) := by
  have h' := h.take hm
  unfold Go.Proofs.Ytgfdcmlmgeoimaa.takeD
  split
  · exact h'
  · simp only [Nat.zero_mul]
    rw [show (fun x : Addr => x.add 0) = id from funext addD_zero]
    simpa using h'
end Go.Proofs.Ytgfdcmlmgeoimaa
end

section
/- What every law's row asks behind the walk: the result is true, and each argument reads as it did, since nothing that was there has turned. -/
namespace Go.Proofs.Ytgfdcmlmgeoimaa
open Go.ChangeShapes Go.WideShapes Go.ChangeAt Go.RowKit

theorem own : ownKnob Try.prog.godebug = none := by kernel_rfl
theorem laid : laidOutB Try.prog = true := by kernel_rfl

section
variable {H : Type} {enc : TypeId × Value → H} {P : Program}

theorem trodAll_stays (hl : laidOutB P = true) {W W' : World} (hb : Below W.heap.size W W') :
    ∀ {ts : List TypeId} {vs : List Value} {ds : List (DataW H)} {p : List MemPlace}, (∀ t ∈ ts, P.readableRec t = true ∧ t < P.types.size) → (∀ x ∈ p, x.block < W.heap.size) →
      DataW.TrodAll enc P W 0 (fun _ => true) true ts vs ds p → DataW.TrodAll enc P W' 0 (fun b => decide (b < W.heap.size)) true ts vs ds p
  | [], _, _, _, _, _, h => by
    obtain ⟨rfl, rfl, rfl⟩ := trodAll_nil h
    exact trodAll_mk0
  | t :: _, _, _, _, hr, hlt, h => by
    obtain ⟨v, vs1, d, ds1, a, b, rfl, rfl, rfl, h1, h2⟩ := trodAll_cons h
    have ht := hr t List.mem_cons_self
    exact trodAll_cons_mk (Below.trod hl ht.1 ht.2 h1 hb (fun x hx => hlt x (List.mem_append.2 (.inl hx))))
      (trodAll_stays hl hb (fun u hu => hr u (List.mem_cons_of_mem _ hu)) (fun x hx => hlt x (List.mem_append.2 (.inr hx))) h2)

/-- The row's post, for a law: it returned true, and nothing that was there has turned. -/
theorem law_post (hl : laidOutB P = true) {f : Func} {s : ChangeSpec} {W W' : World} {args : Array Value} {ds gs : List (DataW H)} {before : List MemPlace} {tb : TypeId}
    (hr : ∀ t ∈ f.params.toList, P.readableRec t = true ∧ t < P.types.size) (hv : s.vars = []) (hres : f.resultTypes = #[tb]) (htb : P.underlying tb = some .bool)
    (hW : DataW.Whole enc P f.params.toList s.vars false W args.toList ds gs before) (hs : s.fn H (ds ++ gs) = { results := [.lit (.bool true)], args := ds }) (hb : Below W.heap.size W W') :
    s.post enc P f false true false false W args (.bool true) W' := by
  have hlt : ∀ p ∈ before, p.block < W.heap.size := fun p hp => hW.lt p hp
  have hW0 := hW
  obtain ⟨p, q, hA, hV, rfl, _, _⟩ := hW0
  rw [hv] at hV
  obtain ⟨rfl, rfl⟩ := trodVars_none hV
  rw [List.append_nil] at hlt
  refine ⟨ds, [], _, [], p, [], hW, ?_, ?_, ?_, hb.frame _, fun h => by cases h⟩
  · rw [hs, hres]
    exact trodAll_cons_mk (shut_bool htb true) trodAll_mk0
  · rw [hs]
    exact trodAll_stays hl hb hr hlt hA
  · rw [hs, hv]
    exact rfl

theorem cell_lt {w : World} {a : Addr} {v : Value} (h : w.cell? a = some v) : a.block < w.heap.size := by
  rcases Nat.lt_or_ge a.block w.heap.size with h1 | h1
  · exact h1
  · unfold World.cell? at h
    rw [Array.getElem?_eq_none h1] at h
    cases h

/-- An argument that is a slice of numbers. -/
theorem open_rd_ints {W : World} {base : Nat} {t e : TypeId} {v : Value} {d : DataW H} {p : List MemPlace} (ht : P.underlying t = some (.slice e)) (he : P.underlying e = some (.int .i64)) (hc : P.cellsOf e = 1)
    (hok : Value.okWide P W .any base t v) (h : DataW.Trod enc P W 0 (fun _ => true) true t v d p) : ∃ (A : Option Addr) (c : Nat) (xs : List Int), v = .slice A xs.length c ∧ Rd W W.heap.size 1 A xs.length (ints xs) ∧ ∀ x ∈ xs, (Lit.int .i64 x).wf = true := by
  obtain ⟨a0, len, cap, rfl⟩ := okWide_slice ht hok
  obtain ⟨fuel, hf⟩ := h
  rcases open_ints ht he hc hf with ⟨hcs, _⟩ | ⟨a, len', cap', zs, hcs, _, hl, hm, hz, hx, hcell, hwz⟩
  · simp only [Value.cells, List.cons.injEq, and_true] at hcs
    injection hcs with h1 h2 h3
    subst h1 h2 h3
    exact ⟨none, 0, [], rfl, Rd.none_, fun x hx => by cases hx⟩
  · simp only [Value.cells, List.cons.injEq, and_true] at hcs
    injection hcs with h1 h2 h3
    subst h1 h2 h3
    have hz' : zs.length = cap := hz
    have hlen : (zs.take len).length = len := by simp; omega
    refine ⟨some a, cap, zs.take len, by rw [hlen], ⟨by simp, fun hn => ?_⟩, fun x hx => hwz x (List.mem_of_mem_take hx)⟩
    rw [hlen] at hn
    have hc0 := hcell 0 (by omega)
    have hb : a.block < W.heap.size := by simpa [Addr.add] using cell_lt hc0
    have hsp : a.spot = none := by
      cases hs : a.spot with
      | none => rfl
      | some s =>
        exfalso
        simp only [Addr.add, if_pos, World.cell?, hs] at hc0
        revert hc0
        split <;> simp
    refine ⟨a, rfl, hb, hsp, fun j hj => ?_⟩
    have hj' : j < len := by rw [hlen] at hj; omega
    have := hcell j (by omega)
    have hadd : a.add j = ⟨a.block, a.off + j, none⟩ := by
      unfold Addr.add
      split
      · rename_i h0; subst h0; cases a; simp_all
      · rfl
    rw [hadd] at this
    rw [this]
    simp [ints, hj', List.getD, show j < zs.length from by omega]
end

end Go.Proofs.Ytgfdcmlmgeoimaa
end
