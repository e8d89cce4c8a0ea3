/- My texts, joined for the claim: DShownW DDrops. -/
import Derived.Test.YtgfdcmlmgeoimaaGreatZB11
import Derived.Test.YtgfdcmlmgeoimaaGreatZB10
import Derived.Test.YtgfdcmlmgeoimaaGreatZB9

section
/- matinslaw12.shown. (bel2) -/
namespace Go.Proofs.YtgfdcmlmgeoimaaGreat
open Go.RowKit Go.Sort
set_option linter.unusedSimpArgs false
namespace Od
theorem okFl_sh : ∀ f ∈ shFs, okFl f := by
  intro f hf
  simp only [shFs, List.mem_cons, List.not_mem_nil, or_false] at hf
  rcases hf with rfl | rfl | rfl | rfl | rfl <;> exact ⟨by decide, by decide, by decide⟩
theorem findR_sh {x : Fd × Int} {fs : List Fl} {u : Str} (hx : findF fs u = x) {A : Option Addr} {c : Nat} {w : World} (h : Calls Tryz.prog 9 #[.slice A fs.length c, sv u] w (FindR (findF fs u) w)) : Calls Tryz.prog 9 #[.slice A fs.length c, sv u] w (FindR x w) := by rw [hx] at h; exact h
set_option maxRecDepth 100000 in
set_option maxHeartbeats 8000000 in
theorem shown12_any (w : World) : Calls Tryz.prog 8 #[] w fun e w' => e = .returned (.bool true) ∧ Below w.heap.size w w' := by
  obtain ⟨s1, s2, s3, s4, s5⟩ := sh_x
  have hl5 : shFs.length = 5 := rfl
  go_enter Tryz.func8, Tryz.ntmps8
  go_wp2_with fail
  first | (refine wp_named ?_; intro W1 hW) | (refine calls_named ?_; intro W1 hW) | (refine exit_named ?_; intro W1 hW)
  have B1 : Below w.heap.size w W1 := by rw [hW]; exact (by repeat (first | exact Below.refl _ _ | assumption | refine Below.alloc ?_ (by first | omega | (simp <;> omega)) _ | refine Below.setCell ?_ (by first | omega | (simp <;> omega)) _ | refine Below.drew ?_))
  have hf0 : FlIn W1 (some ⟨w.heap.size, 0, none⟩) shFs := by rw [hW]; exact ⟨Rd.lit w (flsC shFs) 37 3 5 rfl, okFl_sh⟩
  clear hW
  have HF := Lib.hid hf0
  have HB := Lib.hid B1
  clear B1 hf0
  refine (show Calls Tryz.prog 9 #[.slice (some ⟨w.heap.size, 0, none⟩) 5 5, sv shA1] W1 _ from findR_sh s1 (Find_any (some ⟨w.heap.size, 0, none⟩) 5 shFs shA1 W1 HF.out (by decide) (by decide))).mono ?_
  rintro e w2 ⟨A2, c2, rfl, hr, hb⟩
  have HR2 := Lib.hid hr
  replace HF := Lib.hid (HF.out.at hb)
  replace HB := Lib.hid (lift HB.out hb)
  clear hb hr
  go_wp2_with fail
  first | (refine wp_named ?_; intro W3 hW) | (refine calls_named ?_; intro W3 hW) | (refine exit_named ?_; intro W3 hW)
  have B3 : Below w2.heap.size w2 W3 := by rw [hW]; exact (by repeat (first | exact Below.refl _ _ | assumption | refine Below.alloc ?_ (by first | omega | (simp <;> omega)) _ | refine Below.setCell ?_ (by first | omega | (simp <;> omega)) _ | refine Below.drew ?_))
  replace HF := Lib.hid (HF.out.at B3)
  replace HB := Lib.hid (lift HB.out B3)
  replace HR2 := Lib.hid (HR2.out.at B3)
  have n3 : w2.heap.size < W3.heap.size := by rw [hW]; simp <;> omega
  have x0 : W3.cell? ⟨w2.heap.size, 0, none⟩ = some (sv shA1) := by rw [hW]; go_simp
  have x1 : W3.cell? ⟨w2.heap.size, 1, none⟩ = some (sv shLib) := by rw [hW]; go_simp
  have x3 : W3.cell? ⟨w2.heap.size, 3, none⟩ = some (.slice A2 1 c2) := by rw [hW]; go_simp
  clear hW
  clear B3
  refine (show Calls Tryz.prog 9 #[.slice (some ⟨w.heap.size, 0, none⟩) 5 5, sv shE] W3 _ from findR_sh s2 (Find_any (some ⟨w.heap.size, 0, none⟩) 5 shFs shE W3 HF.out (by decide) (by decide))).mono ?_
  rintro e w4 ⟨A4, c4, rfl, hr, hb⟩
  replace x0 := cellAt x0 hb (by omega)
  replace x1 := cellAt x1 hb (by omega)
  replace x3 := cellAt x3 hb (by omega)
  replace HF := Lib.hid (HF.out.at hb)
  replace HB := Lib.hid (lift HB.out hb)
  replace HR2 := Lib.hid (HR2.out.at hb)
  replace n3 : w2.heap.size < w4.heap.size := ltAt n3 hb
  clear hb hr
  go_wp2_with fail
  first | (refine wp_named ?_; intro W5 hW) | (refine calls_named ?_; intro W5 hW) | (refine exit_named ?_; intro W5 hW)
  have B5 : Below w4.heap.size w4 W5 := by rw [hW]; exact (by repeat (first | exact Below.refl _ _ | assumption | refine Below.alloc ?_ (by first | omega | (simp <;> omega)) _ | refine Below.setCell ?_ (by first | omega | (simp <;> omega)) _ | refine Below.drew ?_))
  replace x0 := cellAt x0 B5 (by omega)
  replace x1 := cellAt x1 B5 (by omega)
  replace x3 := cellAt x3 B5 (by omega)
  replace HF := Lib.hid (HF.out.at B5)
  replace HB := Lib.hid (lift HB.out B5)
  replace HR2 := Lib.hid (HR2.out.at B5)
  replace n3 : w2.heap.size < W5.heap.size := ltAt n3 B5
  have n5 : w4.heap.size < W5.heap.size := by rw [hW]; simp <;> omega
  have y2 : W5.cell? ⟨w4.heap.size, 2, none⟩ = some (.bool true) := by rw [hW]; go_simp
  clear hW
  clear B5
  refine (show Calls Tryz.prog 9 #[.slice (some ⟨w.heap.size, 0, none⟩) 5 5, sv shZ] W5 _ from findR_sh s3 (Find_any (some ⟨w.heap.size, 0, none⟩) 5 shFs shZ W5 HF.out (by decide) (by decide))).mono ?_
  rintro e w6 ⟨A6, c6, rfl, hr, hb⟩
  replace x0 := cellAt x0 hb (by omega)
  replace x1 := cellAt x1 hb (by omega)
  replace x3 := cellAt x3 hb (by omega)
  replace y2 := cellAt y2 hb (by omega)
  replace HF := Lib.hid (HF.out.at hb)
  replace HB := Lib.hid (lift HB.out hb)
  replace HR2 := Lib.hid (HR2.out.at hb)
  replace n3 : w2.heap.size < w6.heap.size := ltAt n3 hb
  replace n5 : w4.heap.size < w6.heap.size := ltAt n5 hb
  clear hb hr
  go_wp2_with fail
  first | (refine wp_named ?_; intro W7 hW) | (refine calls_named ?_; intro W7 hW) | (refine exit_named ?_; intro W7 hW)
  have B7 : Below w6.heap.size w6 W7 := by rw [hW]; exact (by repeat (first | exact Below.refl _ _ | assumption | refine Below.alloc ?_ (by first | omega | (simp <;> omega)) _ | refine Below.setCell ?_ (by first | omega | (simp <;> omega)) _ | refine Below.drew ?_))
  replace x0 := cellAt x0 B7 (by omega)
  replace x1 := cellAt x1 B7 (by omega)
  replace x3 := cellAt x3 B7 (by omega)
  replace y2 := cellAt y2 B7 (by omega)
  replace HF := Lib.hid (HF.out.at B7)
  replace HB := Lib.hid (lift HB.out B7)
  replace HR2 := Lib.hid (HR2.out.at B7)
  replace n3 : w2.heap.size < W7.heap.size := ltAt n3 B7
  replace n5 : w4.heap.size < W7.heap.size := ltAt n5 B7
  have n7 : w6.heap.size < W7.heap.size := by rw [hW]; simp <;> omega
  clear hW
  clear B7
  have hlk := Links_any (some ⟨w.heap.size, 0, none⟩) 5 shFs shC W7 HF.out (by decide)
  unfold LinksR at hlk
  rw [s4, s5] at hlk
  refine (show Calls Tryz.prog 14 #[.slice (some ⟨w.heap.size, 0, none⟩) 5 5, sv shC] W7 _ from hlk).mono ?_
  clear hlk
  rintro e w8 ⟨A8, c8, A9, c9, rfl, hr8, hr9, hb⟩
  have HR8 := Lib.hid hr8
  replace x0 := cellAt x0 hb (by omega)
  replace x1 := cellAt x1 hb (by omega)
  replace x3 := cellAt x3 hb (by omega)
  replace y2 := cellAt y2 hb (by omega)
  replace HF := Lib.hid (HF.out.at hb)
  replace HB := Lib.hid (lift HB.out hb)
  replace HR2 := Lib.hid (HR2.out.at hb)
  replace n3 : w2.heap.size < w8.heap.size := ltAt n3 hb
  replace n5 : w4.heap.size < w8.heap.size := ltAt n5 hb
  replace n7 : w6.heap.size < w8.heap.size := ltAt n7 hb
  clear hb hr8 hr9
  go_wp2_with fail
  refine (show Calls Tryz.prog 12 #[.slice (some ⟨w.heap.size, 0, none⟩) 5 5] w8 _ from MayD_any (some ⟨w.heap.size, 0, none⟩) 5 shFs w8 HF.out (by decide)).mono ?_
  rintro e w9 ⟨rfl, hb⟩
  rw [sh_may]
  replace x0 := cellAt x0 hb (by omega)
  replace x1 := cellAt x1 hb (by omega)
  replace x3 := cellAt x3 hb (by omega)
  replace y2 := cellAt y2 hb (by omega)
  replace HF := Lib.hid (HF.out.at hb)
  replace HB := Lib.hid (lift HB.out hb)
  replace HR2 := Lib.hid (HR2.out.at hb)
  replace n3 : w2.heap.size < w9.heap.size := ltAt n3 hb
  replace n5 : w4.heap.size < w9.heap.size := ltAt n5 hb
  replace n7 : w6.heap.size < w9.heap.size := ltAt n7 hb
  replace HR8 := Lib.hid (HR8.out.at hb)
  clear hb
  go_wp2_with fail
  first | (refine wp_named ?_; intro W10 hW) | (refine calls_named ?_; intro W10 hW) | (refine exit_named ?_; intro W10 hW)
  have B10 : Below w9.heap.size w9 W10 := by rw [hW]; exact (by repeat (first | exact Below.refl _ _ | assumption | refine Below.alloc ?_ (by first | omega | (simp <;> omega)) _ | refine Below.setCell ?_ (by first | omega | (simp <;> omega)) _ | refine Below.drew ?_))
  replace x0 := cellAt x0 B10 (by omega)
  replace x1 := cellAt x1 B10 (by omega)
  replace x3 := cellAt x3 B10 (by omega)
  replace y2 := cellAt y2 B10 (by omega)
  replace HF := Lib.hid (HF.out.at B10)
  replace HB := Lib.hid (lift HB.out B10)
  replace HR2 := Lib.hid (HR2.out.at B10)
  replace n3 : w2.heap.size < W10.heap.size := ltAt n3 B10
  replace n5 : w4.heap.size < W10.heap.size := ltAt n5 B10
  replace n7 : w6.heap.size < W10.heap.size := ltAt n7 B10
  replace HR8 := Lib.hid (HR8.out.at B10)
  have he0 : Rd W10 W10.heap.size 1 (some ⟨w9.heap.size, 0, none⟩) 1 (svs [shEtc]) := by rw [hW]; exact Rd.lit w9 (svs [shEtc]) 9 1 1 rfl
  clear hW
  clear B10
  refine (show Calls Tryz.prog 16 #[.slice A2 1 c2, .slice (some ⟨w9.heap.size, 0, none⟩) 1 1] W10 _ from Same_any A2 (some ⟨w9.heap.size, 0, none⟩) c2 1 [shEtc] [shEtc] W10 HR2.out he0 (by decide)).mono ?_
  rintro e w11 ⟨rfl, hb⟩
  rw [show decide ([shEtc] = [shEtc]) = true by simp]
  replace x0 := cellAt x0 hb (by omega)
  replace x1 := cellAt x1 hb (by omega)
  replace x3 := cellAt x3 hb (by omega)
  replace y2 := cellAt y2 hb (by omega)
  replace HF := Lib.hid (HF.out.at hb)
  replace HB := Lib.hid (lift HB.out hb)
  replace HR2 := Lib.hid (HR2.out.at hb)
  replace n3 : w2.heap.size < w11.heap.size := ltAt n3 hb
  replace n5 : w4.heap.size < w11.heap.size := ltAt n5 hb
  replace n7 : w6.heap.size < w11.heap.size := ltAt n7 hb
  replace HR8 := Lib.hid (HR8.out.at hb)
  clear hb he0
  go_wp2_with fail
  first | (refine wp_named ?_; intro W12 hW) | (refine calls_named ?_; intro W12 hW) | (refine exit_named ?_; intro W12 hW)
  have B12 : Below w11.heap.size w11 W12 := by rw [hW]; exact (by repeat (first | exact Below.refl _ _ | assumption | refine Below.alloc ?_ (by first | omega | (simp <;> omega)) _ | refine Below.setCell ?_ (by first | omega | (simp <;> omega)) _ | refine Below.drew ?_))
  replace x0 := cellAt x0 B12 (by omega)
  replace x1 := cellAt x1 B12 (by omega)
  replace x3 := cellAt x3 B12 (by omega)
  replace y2 := cellAt y2 B12 (by omega)
  replace HF := Lib.hid (HF.out.at B12)
  replace HB := Lib.hid (lift HB.out B12)
  replace HR2 := Lib.hid (HR2.out.at B12)
  replace n3 : w2.heap.size < W12.heap.size := ltAt n3 B12
  replace n5 : w4.heap.size < W12.heap.size := ltAt n5 B12
  replace n7 : w6.heap.size < W12.heap.size := ltAt n7 B12
  replace HR8 := Lib.hid (HR8.out.at B12)
  have he0 : Rd W12 W12.heap.size 1 (some ⟨w11.heap.size, 0, none⟩) 1 (svs [shD]) := by rw [hW]; exact Rd.lit w11 (svs [shD]) 9 1 1 rfl
  clear hW
  clear B12
  refine (show Calls Tryz.prog 16 #[.slice A8 1 c8, .slice (some ⟨w11.heap.size, 0, none⟩) 1 1] W12 _ from Same_any A8 (some ⟨w11.heap.size, 0, none⟩) c8 1 [shD] [shD] W12 HR8.out he0 (by decide)).mono ?_
  rintro e w13 ⟨rfl, hb⟩
  rw [show decide ([shD] = [shD]) = true by simp]
  replace x0 := cellAt x0 hb (by omega)
  replace x1 := cellAt x1 hb (by omega)
  replace x3 := cellAt x3 hb (by omega)
  replace y2 := cellAt y2 hb (by omega)
  replace HF := Lib.hid (HF.out.at hb)
  replace HB := Lib.hid (lift HB.out hb)
  replace HR2 := Lib.hid (HR2.out.at hb)
  replace n3 : w2.heap.size < w13.heap.size := ltAt n3 hb
  replace n5 : w4.heap.size < w13.heap.size := ltAt n5 hb
  replace n7 : w6.heap.size < w13.heap.size := ltAt n7 hb
  replace HR8 := Lib.hid (HR8.out.at hb)
  clear hb he0
  go_wp2_with fail
  refine (Places_any w13).mono ?_
  rintro e w14 ⟨A1, c1, rfl, hcp, hrp, hb⟩
  have HRp := Lib.hid hrp
  replace x0 := cellAt x0 hb (by omega)
  replace x1 := cellAt x1 hb (by omega)
  replace x3 := cellAt x3 hb (by omega)
  replace y2 := cellAt y2 hb (by omega)
  replace HF := Lib.hid (HF.out.at hb)
  replace HB := Lib.hid (lift HB.out hb)
  replace HR2 := Lib.hid (HR2.out.at hb)
  replace n3 : w2.heap.size < w14.heap.size := ltAt n3 hb
  replace n5 : w4.heap.size < w14.heap.size := ltAt n5 hb
  replace n7 : w6.heap.size < w14.heap.size := ltAt n7 hb
  replace HR8 := Lib.hid (HR8.out.at hb)
  clear hb hrp hcp
  go_wp2_with fail
  first | (refine wp_named ?_; intro W15 hW) | (refine calls_named ?_; intro W15 hW) | (refine exit_named ?_; intro W15 hW)
  have B15 : Below w14.heap.size w14 W15 := by rw [hW]; exact (by repeat (first | exact Below.refl _ _ | assumption | refine Below.alloc ?_ (by first | omega | (simp <;> omega)) _ | refine Below.setCell ?_ (by first | omega | (simp <;> omega)) _ | refine Below.drew ?_))
  replace x0 := cellAt x0 B15 (by omega)
  replace x1 := cellAt x1 B15 (by omega)
  replace x3 := cellAt x3 B15 (by omega)
  replace y2 := cellAt y2 B15 (by omega)
  replace HF := Lib.hid (HF.out.at B15)
  replace HB := Lib.hid (lift HB.out B15)
  replace HR2 := Lib.hid (HR2.out.at B15)
  replace n3 : w2.heap.size < W15.heap.size := ltAt n3 B15
  replace n5 : w4.heap.size < W15.heap.size := ltAt n5 B15
  replace n7 : w6.heap.size < W15.heap.size := ltAt n7 B15
  replace HR8 := Lib.hid (HR8.out.at B15)
  replace HRp := Lib.hid (HRp.out.at B15)
  have he0 : Rd W15 W15.heap.size 1 (some ⟨w14.heap.size, 0, none⟩) 3 (svs placesL) := by rw [hW]; exact Rd.lit w14 (svs placesL) 9 1 3 rfl
  clear hW
  clear B15
  refine (show Calls Tryz.prog 16 #[.slice A1 placesL.length c1, .slice (some ⟨w14.heap.size, 0, none⟩) 3 3] W15 _ from Same_any A1 (some ⟨w14.heap.size, 0, none⟩) c1 3 placesL placesL W15 HRp.out he0 (by decide)).mono ?_
  rintro e w16 ⟨rfl, hb⟩
  rw [show decide (placesL = placesL) = true by simp]
  replace x0 := cellAt x0 hb (by omega)
  replace x1 := cellAt x1 hb (by omega)
  replace x3 := cellAt x3 hb (by omega)
  replace y2 := cellAt y2 hb (by omega)
  replace HF := Lib.hid (HF.out.at hb)
  replace HB := Lib.hid (lift HB.out hb)
  replace HR2 := Lib.hid (HR2.out.at hb)
  replace n3 : w2.heap.size < w16.heap.size := ltAt n3 hb
  replace n5 : w4.heap.size < w16.heap.size := ltAt n5 hb
  replace n7 : w6.heap.size < w16.heap.size := ltAt n7 hb
  replace HR8 := Lib.hid (HR8.out.at hb)
  replace HRp := Lib.hid (HRp.out.at hb)
  clear hb he0
  go_wp2_with fail
  go_ret
  exact ⟨rfl, HB.out⟩
end Od
end Go.Proofs.YtgfdcmlmgeoimaaGreat
end

section
/- matinsref12.Drops: what is laid over a name's. (bel2) -/
namespace Go.Proofs.YtgfdcmlmgeoimaaGreat
open Go.RowKit Go.Sort
set_option linter.unusedSimpArgs false
namespace Od
/-- The first path that is there, as a loop finds it. -/
def sbD (fs : List Fl) (a q : Str) : Str := if (atF fs q).isSome = true ∧ a = [] then q else a
def ibD (fs : List Fl) (v x : Str) (j : Nat) (a : Str) : Str := (placesL.take j).foldl (fun a p => sbD fs a (pathX p v x)) a
def obD (fs : List Fl) (us : List Str) (x : Str) (k : Nat) : Str := (us.take k).foldl (fun a v => ibD fs v x placesL.length a) []
theorem ibD_zero (fs : List Fl) (v x : Str) (a : Str) : ibD fs v x 0 a = a := rfl
theorem obD_zero (fs : List Fl) (us : List Str) (x : Str) : obD fs us x 0 = [] := rfl
theorem ibD_succ (fs : List Fl) (v x : Str) {j : Nat} (hj : j < placesL.length) (a : Str) : ibD fs v x (j + 1) a = sbD fs (ibD fs v x j a) (pathX placesL[j] v x) := by
  unfold ibD; rw [List.take_succ_eq_append_getElem hj, List.foldl_append]; rfl
theorem obD_succ (fs : List Fl) (us : List Str) (x : Str) {k : Nat} (hk : k < us.length) : obD fs us x (k + 1) = ibD fs us[k] x placesL.length (obD fs us x k) := by
  unfold obD; rw [List.take_succ_eq_append_getElem hk, List.foldl_append]; rfl
theorem sbD_fold (fs : List Fl) : ∀ (Q : List Str) (a : Str), (∀ q ∈ Q, q ≠ []) → Q.foldl (sbD fs) a = if a = [] then (Q.find? fun q => (atF fs q).isSome).getD [] else a
  | [], a, _ => by
    by_cases h : a = []
    · rw [if_pos h, h]; rfl
    · rw [if_neg h]; rfl
  | q :: Q, a, hq => by
    rw [List.foldl_cons, sbD_fold fs Q _ fun y hy => hq y (.tail _ hy)]
    have h0 := hq q (.head _)
    unfold sbD
    by_cases ha : a = []
    · cases hs : (atF fs q).isSome
      · simp only [Bool.false_eq_true, false_and, if_false]
        rw [if_pos ha, if_pos ha, List.find?_cons]
        simp only [hs]
      · simp only [true_and]
        rw [if_pos ha, if_neg h0, if_pos ha, List.find?_cons]
        simp only [hs]
        rfl
    · simp only [ha, and_false, if_false]
theorem obD_fold (fs : List Fl) (x : Str) : ∀ (us : List Str) (a : Str), us.foldl (fun a v => ibD fs v x placesL.length a) a = (us.flatMap fun v => placesL.map fun p => pathX p v x).foldl (sbD fs) a
  | [], a => rfl
  | v :: us, a => by
    rw [List.foldl_cons, List.flatMap_cons, List.foldl_append, obD_fold fs x us]
    congr 1
theorem obD_all (fs : List Fl) (u x : Str) : obD fs (foldersF u) x (foldersF u).length = bestF fs u x := by
  unfold obD bestF
  rw [List.take_length, obD_fold, sbD_fold, if_pos rfl]
  intro q hq
  obtain ⟨v, _, h2⟩ := List.mem_flatMap.1 hq
  obtain ⟨p, _, rfl⟩ := List.mem_map.1 h2
  unfold pathX
  simp
theorem over_len {fs : List Fl} (h : mayFs fs = true) {us : List Str} {x : Str} (hx : x ∈ canon ltS (fs.filterMap (overF us))) : x.length ≤ 20 := by
  rw [mem_canon toS] at hx
  obtain ⟨f, hf, he⟩ := List.mem_filterMap.1 hx
  unfold overF at he
  split at he
  · rename_i hc
    injection he with he
    rcases may_cases ((mayFs_iff.1 h).2.1 f hf) with ⟨_, _, _, e3, _⟩ | ⟨_, _, z, _, e3, _, _, hz, _⟩ | ⟨_, _, _, j, _, e3, _, _, hj, _⟩
    · rw [e3] at hc; have := hc.1; simp at this
    · rw [e3] at he
      simp only at he
      subst he
      unfold dropN at hz
      simp only [Bool.and_eq_true, Bool.not_eq_true', beq_eq_false_iff_ne, ne_eq, decide_eq_false_iff_not] at hz
      omega
    · rw [e3] at hc
      have h1 := hc.1
      simp only at h1
      omega
  · cases he
theorem folders_len {u : Str} (hu : u.length ≤ 1000) : (foldersF u).length ≤ 2 ∧ ∀ v ∈ foldersF u, v.length ≤ 1000 := by
  unfold foldersF
  split
  · refine ⟨by simp, fun v hv => ?_⟩
    rcases List.mem_cons.1 hv with rfl | hv
    · exact hu
    · rw [List.mem_singleton.1 hv]; have := templ_le u; omega
  · exact ⟨by simp, fun v hv => by rw [List.mem_singleton.1 hv]; exact hu⟩
/-- The pieces of a path as they are put together. -/
theorem path_parts (p v x : Str) : pathX p v x = ((((p ++ [47]) ++ v) ++ [46, 100, 47]) ++ x) ++ [46, 99, 111, 110, 102] := by unfold pathX dropsS confS; simp
set_option maxRecDepth 100000 in
set_option maxHeartbeats 8000000 in
theorem Drops12_any (A : Option Addr) (c : Nat) (fs : List Fl) (u : Str) (w : World) (h : FlIn w A fs) (hm : mayFs fs = true) (hs : Short fs) (hu : u.length ≤ 1000) : Calls Tryz.prog 31 #[.slice A fs.length c, sv u] w (OwnS (dropsF fs u) w) := by
  obtain ⟨i0, hi, hz0, hz1, hz2⟩ := info_parts infoS
  have HF := Lib.hid h
  have HS := Lib.hid hs
  have HF0 := Lib.hid h
  have hlen := (mayFs_iff.1 hm).1
  clear h hs
  cases hI : instS u
  · obtain ⟨us, hus⟩ : ∃ us, foldersF u = us := ⟨_, rfl⟩
    have hue : us = [u] := by rw [← hus]; unfold foldersF; rw [hI]; rfl
    go_enter Tryz.func31, Tryz.ntmps31
    go_wp2_with fail
    have HU0 := Lib.hid (show Rd (w.alloc (.cells #[sv u] 9)) (w.alloc (.cells #[sv u] 9)).heap.size 1 (some ⟨w.heap.size, 0, none⟩) us.length (svs us) by rw [hue]; exact Rd.lit w (svs [u]) 9 1 1 rfl)
    have hul1 : us.length = 1 := by rw [hue]; rfl
    clear hue
    first | (refine wp_named ?_; intro W1 hW) | (refine calls_named ?_; intro W1 hW) | (refine exit_named ?_; intro W1 hW)
    have B1 : Below w.heap.size w W1 := by rw [hW]; exact (by repeat (first | exact Below.refl _ _ | assumption | refine Below.alloc ?_ (by first | omega | (simp <;> omega)) _ | refine Below.setCell ?_ (by first | omega | (simp <;> omega)) _ | refine Below.drew ?_))
    replace HF := Lib.hid (HF.out.at B1)
    rw [← hW] at HU0
    clear hW
    have HB1 := Lib.hid B1
    clear B1
    refine (IsInstance_any u W1 (by omega)).mono ?_
    rintro e w2 ⟨rfl, hb⟩
    rw [hI]
    have HU := Lib.hid (HU0.out.at hb)
    have HBw := Lib.hid (lift HB1.out hb)
    have HFw := Lib.hid (HF.out.at hb)
    clear hb HU0 HF HB1
    rw [show (Value.slice (some ⟨w.heap.size, 0, none⟩) 1 1) = Value.slice (some ⟨w.heap.size, 0, none⟩) us.length 1 by rw [hul1]]
    clear hul1
    generalize hAu : (some ⟨w.heap.size, 0, none⟩ : Option Addr) = Au at *
    clear hAu
    have hll := folders_len (u := u) hu
    rw [hus] at hll
    have HBe := Lib.hid (show ∀ x, obD fs us x us.length = bestF fs u x from fun x => by rw [← hus]; exact obD_all fs u x)
    have HDr := Lib.hid (show dropsF fs u = (canon ltS (fs.filterMap (overF us))).map (bestF fs u) by rw [← hus]; rfl)
    have HXl := Lib.hid (show ∀ x ∈ canon ltS (fs.filterMap (overF us)), x.length ≤ 20 from fun x hx => over_len hm hx)
    have hov : ∀ f : Fl, overF us f = if (wayS f.1).1 = 2 ∧ (wayS f.1).2.2.1 ∈ us then some (wayS f.1).2.2.2 else none := fun _ => rfl
    have hul := hll.2
    have hul2 := hll.1
    clear hus hll
    generalize overF us = F at *
    generalize bestF fs u = best at *
    go_wp2_with fail
    go_loopw [5, 31] (fun v i wr => ∃ (k : Nat) (A1 : Option Addr) (c1 : Nat), k ≤ fs.length ∧ v = .slice A1 (canon ltS ((fs.take k).filterMap F)).length c1 ∧ i = .int .i64 k ∧ Hid (Rd wr wr.heap.size 1 A1 (canon ltS ((fs.take k).filterMap F)).length (svs (canon ltS ((fs.take k).filterMap F)))) ∧ Hid (Below w2.heap.size w2 wr)) (fun _ i _ => fs.length - (intOf i).toNat)
    case atStart => exact ⟨0, none, 0, Nat.zero_le _, rfl, rfl, Rd.none_, Below.refl _ _⟩
    case round =>
      obtain ⟨k, A1, c1, hk, rfl, rfl, HR1, HBk⟩ := hrel
      obtain ⟨w6, rfl⟩ : ∃ wo : World, wo = wr := ⟨_, rfl⟩
      have hz6 := HBk.out.size
      by_cases hlt : k < fs.length
      · obtain ⟨b2, o2, hA, hB2, x0, x1, x2⟩ := (HFw.out.at HBk.out).rd.fl hlt
        have ht3 := filterMap_take (F := F) hlt
        have hsh := HS.out _ (List.getElem_mem hlt)
        have hq3 := hov fs[k]
        subst hA
        have hlO3 : ((fs.take k).filterMap F).length ≤ 120 := Nat.le_trans (List.length_filterMap_le _ _) (by rw [List.length_take]; omega)
        generalize fs[k] = p at x0 x1 x2 ht3 hsh hq3
        obtain ⟨s, t, l⟩ := p
        simp only at x0 x1 x2 hsh hq3
        have hpa := fun W => Path_any s W hsh
        rcases hx : wayS s with ⟨kd, pl, un, ot⟩
        rw [hx] at hpa hq3
        simp only at hq3
        have hn3 := canon_snoc ((fs.take k).filterMap F)
        generalize F (s, t, l) = f3 at ht3 hq3
        generalize hO3 : (fs.take k).filterMap F = O3 at *
        have hc3 := canon_len (lt := ltS) O3
        generalize hC3 : canon ltS O3 = C3 at *
        have HC3 := Lib.hid hC3
        clear hC3
        have HT3 := Lib.hid ht3
        have HQ3 := Lib.hid hq3
        have HN3 := Lib.hid hn3
        have i1 : (0 : Int) ≤ (k : Int) := by omega
        have i2 : (k : Int) < (fs.length : Int) := by omega
        clear hx ht3 hq3 hn3 hO3
        go_wp2_with fail
        first | (refine wp_named ?_; intro W7 hW) | (refine calls_named ?_; intro W7 hW) | (refine exit_named ?_; intro W7 hW)
        have B7 : Below w6.heap.size w6 W7 := by rw [hW]; exact (by repeat (first | exact Below.refl _ _ | assumption | refine Below.alloc ?_ (by first | omega | (simp <;> omega)) _ | refine Below.setCell ?_ (by first | omega | (simp <;> omega)) _ | refine Below.drew ?_))
        replace HR1 := Lib.hid (HR1.out.at B7)
        have m7 : w6.heap.size < W7.heap.size := by rw [hW]; simp <;> omega
        clear hW
        have HB7 := Lib.hid (lift HBk.out B7)
        clear B7 x0 x1 x2
        refine (hpa W7).mono ?_
        rintro e w8 ⟨rfl, hb⟩
        replace HR1 := Lib.hid (HR1.out.at hb)
        replace m7 : w6.heap.size < w8.heap.size := ltAt m7 hb
        have HB8 := Lib.hid (lift HB7.out hb)
        clear hb hpa
        go_upto_region 9 with fail
        first | (refine wp_named ?_; intro W9 hW) | (refine calls_named ?_; intro W9 hW) | (refine exit_named ?_; intro W9 hW)
        have B9 : Below w8.heap.size w8 W9 := by rw [hW]; exact (by repeat (first | exact Below.refl _ _ | assumption | refine Below.alloc ?_ (by first | omega | (simp <;> omega)) _ | refine Below.setCell ?_ (by first | omega | (simp <;> omega)) _ | refine Below.drew ?_))
        replace HR1 := Lib.hid (HR1.out.at B9)
        replace m7 : w6.heap.size < W9.heap.size := ltAt m7 B9
        have m9 : w8.heap.size < W9.heap.size := by rw [hW]; simp <;> omega
        have y0 : W9.cell? ⟨w8.heap.size, 0, none⟩ = some (.int .i64 kd) := by rw [hW]; go_simp
        have y2 : W9.cell? ⟨w8.heap.size, 2, none⟩ = some (sv un) := by rw [hW]; go_simp
        have y3 : W9.cell? ⟨w8.heap.size, 3, none⟩ = some (sv ot) := by rw [hW]; go_simp
        clear hW
        have HB9 := Lib.hid (lift HB8.out B9)
        clear B9
        have HUk := Lib.hid (HU.out.at HB9.out)
        by_cases h3 : kd = 2
        · have b3 : ((kd : Int) == 2) = true := by rw [beq_iff_eq]; omega
          cases hu2 : hasB us un
          · have hun : ¬ (kd = 2 ∧ un ∈ us) := fun e => by rw [(hasB_iff _ _).2 e.2] at hu2; cases hu2
            have E3 := Lib.hid (show canon ltS ((fs.take (k + 1)).filterMap F) = C3 by rw [HT3.out, HQ3.out, if_neg hun]; simpa using HC3.out)
            clear HT3 HQ3 HN3 HC3
            go_wp2_with fail
            (refine (HasS_any Au 1 us un W9 HUk.out (by omega)).mono ?_; rintro e wz ⟨rfl, rfl⟩; rw [hu2]; go_wp2_with fail)
            go_roundw
            case rel => exact ⟨k + 1, A1, c1, by omega, by rw [E3.out], by go_num, by rw [E3.out]; exact HR1.out, HB9.out⟩
            case measure => simp [intOf]; omega
          · have hun : kd = 2 ∧ un ∈ us := ⟨h3, (hasB_iff _ _).1 hu2⟩
            have E3 := Lib.hid (show canon ltS ((fs.take (k + 1)).filterMap F) = addG ot false C3 by rw [HT3.out, HQ3.out, if_pos hun]; exact HN3.out ot)
            clear HT3 HQ3 HN3 HC3
            go_wp2_with fail
            refine (HasS_any Au 1 us un W9 HUk.out (by omega)).mono ?_
            rintro e wz ⟨rfl, rfl⟩
            rw [hu2]
            go_wp2_with fail
            refine (add_any A1 c1 C3 ot W9 HR1.out (by omega)).mono ?_
            rintro e w10 ⟨A5, c5, rfl, ho, hb⟩
            have HR5 := Lib.hid (own_rd' ho)
            have HB10 := Lib.hid (lift HB9.out hb)
            replace y0 := cellAt y0 hb (by omega)
            replace y2 := cellAt y2 hb (by omega)
            replace y3 := cellAt y3 hb (by omega)
            replace HR1 := Lib.hid (HR1.out.at hb)
            replace m7 : w6.heap.size < w10.heap.size := ltAt m7 hb
            replace m9 : w8.heap.size < w10.heap.size := ltAt m9 hb
            clear hb ho
            go_wp2_with fail
            go_roundw
            case rel => exact ⟨k + 1, A5, c5, by omega, by rw [E3.out], by go_num, by rw [E3.out]; exact HR5.out, HB10.out⟩
            case measure => simp [intOf]; omega
        · have b3 : ((kd : Int) == 2) = false := by rw [beq_eq_false_iff_ne]; omega
          have hun : ¬ (kd = 2 ∧ un ∈ us) := fun e => h3 e.1
          have E3 := Lib.hid (show canon ltS ((fs.take (k + 1)).filterMap F) = C3 by rw [HT3.out, HQ3.out, if_neg hun]; simpa using HC3.out)
          clear HT3 HQ3 HN3 HC3
          go_wp2_with fail
          skip
          go_roundw
          case rel => exact ⟨k + 1, A1, c1, by omega, by rw [E3.out], by go_num, by rw [E3.out]; exact HR1.out, HB9.out⟩
          case measure => simp [intOf]; omega
      · obtain rfl : k = fs.length := by omega
        rw [List.take_length] at HR1 ⊢
        have hXl : (canon ltS (fs.filterMap F)).length ≤ 120 := Nat.le_trans (canon_len (lt := ltS) _) (Nat.le_trans (List.length_filterMap_le _ _) (by omega))
        generalize canon ltS (fs.filterMap F) = X at *
        have HBz := Lib.hid (lift HBw.out HBk.out)
        have HUz := Lib.hid (HU.out.at HBk.out)
        have HFz := Lib.hid (HFw.out.at HBk.out)
        clear HBw HU HFw hov HBk
        go_wp2_with fail
        go_loopw [10, 54] (fun v i wr => ∃ (k : Nat) (A2 : Option Addr) (c2 : Nat), k ≤ X.length ∧ v = .slice A2 k c2 ∧ i = .int .i64 k ∧ Hid (wr.ownsRow w6.heap.size 9 1 (.slice A2 k c2) k (svs ((X.take k).map best))) ∧ Hid (Below w6.heap.size w6 wr)) (fun _ i _ => X.length - (intOf i).toNat)
        case atStart => exact ⟨0, none, 0, Nat.zero_le _, rfl, rfl, World.ownsRow_nil _ _ _ _, Below.refl _ _⟩
        case round =>
          obtain ⟨k, A2, c2, hk, rfl, rfl, HO, HB⟩ := hrel
          obtain ⟨w7, rfl⟩ : ∃ wo : World, wo = wr := ⟨_, rfl⟩
          by_cases hlt : k < X.length
          · obtain ⟨b2, o2, hA, hB2, x0⟩ := (HR1.out.at HB.out).str hlt
            subst hA
            have hxl := HXl.out _ (List.getElem_mem hlt)
            have htk : (X.take (k + 1)).map best = (X.take k).map best ++ [best X[k]] := by rw [List.take_succ_eq_append_getElem hlt, List.map_append]; rfl
            have hbe := HBe.out X[k]
            generalize X[k] = x at x0 hxl htk hbe
            have HTk := Lib.hid htk
            have HBx := Lib.hid hbe
            have HU7 := Lib.hid (HUz.out.at HB.out)
            have HF7 := Lib.hid (HFz.out.at HB.out)
            have i1 : (0 : Int) ≤ (k : Int) := by omega
            have i2 : (k : Int) < (X.length : Int) := by omega
            clear htk hbe
            go_wp2_with fail
            go_loopw [13, 60] (fun v i wr => ∃ j : Nat, j ≤ us.length ∧ v = sv (obD fs us x j) ∧ i = .int .i64 j ∧ Hid (Below w7.heap.size w7 wr)) (fun _ i _ => us.length - (intOf i).toNat)
            case atStart => exact ⟨0, Nat.zero_le _, rfl, rfl, Below.refl _ _⟩
            case round =>
              clear x0
              obtain ⟨j, hj, rfl, rfl, HB8⟩ := hrel
              obtain ⟨w8, rfl⟩ : ∃ wo : World, wo = wr := ⟨_, rfl⟩
              by_cases hjt : j < us.length
              · obtain ⟨b3, o3, hA, hB3, x0⟩ := (HU7.out.at HB8.out).str hjt
                subst hA
                have hvl := hul _ (List.getElem_mem hjt)
                have hob := obD_succ fs us x hjt
                generalize us[j] = v at x0 hvl hob
                generalize obD fs us x j = a0 at *
                have HOb := Lib.hid hob
                have i3 : (0 : Int) ≤ (j : Int) := by omega
                have i4 : (j : Int) < (us.length : Int) := by omega
                clear hob
                go_wp2_with fail
                refine (places_any w8).mono ?_
                rintro e w9 ⟨A3, c3, rfl, hc3, hr3, hb⟩
                have HR3 := Lib.hid hr3
                have HB9 := Lib.hid (lift HB8.out hb)
                have HF9 := Lib.hid (HF7.out.at HB9.out)
                have hpl : placesL.length = 3 := rfl
                clear hb hr3 x0
                go_wp2_with fail
                go_loopw [13, 66] (fun vv i wr => ∃ m : Nat, m ≤ placesL.length ∧ vv = sv (ibD fs v x m a0) ∧ i = .int .i64 m ∧ Hid (Below w9.heap.size w9 wr)) (fun _ i _ => placesL.length - (intOf i).toNat)
                case atStart => exact ⟨0, Nat.zero_le _, rfl, rfl, Below.refl _ _⟩
                case round =>
                  obtain ⟨m, hmm, rfl, rfl, HB10⟩ := hrel
                  obtain ⟨w10, rfl⟩ : ∃ wo : World, wo = wr := ⟨_, rfl⟩
                  by_cases hmt : m < placesL.length
                  · obtain ⟨b4, o4, hA, hB4, x0⟩ := (HR3.out.at HB10.out).str hmt
                    subst hA
                    have HF10 := Lib.hid (HF9.out.at HB10.out)
                    have hin := ibD_succ fs v x hmt a0
                    have hp3 : placesL[m].length = 3 := place_three (List.getElem_mem hmt)
                    generalize placesL[m] = p at x0 hp3 hin
                    generalize ibD fs v x m a0 = a at *
                    have hst : ∀ q, sbD fs a q = if (atF fs q).isSome = true ∧ a = [] then q else a := fun _ => rfl
                    obtain ⟨S1, hS1⟩ : ∃ S, S = p ++ [47] := ⟨_, rfl⟩
                    have e1 : ((⟨p.toArray⟩ : ByteArray) ++ ⟨#[47]⟩) = ⟨S1.toArray⟩ := by rw [hS1]; exact str_add p [47]
                    have l1 : S1.length = 4 := by rw [hS1]; simp [hp3]
                    obtain ⟨S2, hS2⟩ : ∃ S, S = S1 ++ v := ⟨_, rfl⟩
                    have e2 : ((⟨S1.toArray⟩ : ByteArray) ++ ⟨v.toArray⟩) = ⟨S2.toArray⟩ := by rw [hS2]; exact str_add S1 v
                    have l2 : S2.length ≤ 1004 := by rw [hS2, List.length_append]; omega
                    obtain ⟨S3, hS3⟩ : ∃ S, S = S2 ++ [46, 100, 47] := ⟨_, rfl⟩
                    have e3 : ((⟨S2.toArray⟩ : ByteArray) ++ ⟨#[46, 100, 47]⟩) = ⟨S3.toArray⟩ := by rw [hS3]; exact str_add S2 [46, 100, 47]
                    have l3 : S3.length ≤ 1007 := by rw [hS3, List.length_append]; simp; omega
                    obtain ⟨S4, hS4⟩ : ∃ S, S = S3 ++ x := ⟨_, rfl⟩
                    have e4 : ((⟨S3.toArray⟩ : ByteArray) ++ ⟨x.toArray⟩) = ⟨S4.toArray⟩ := by rw [hS4]; exact str_add S3 x
                    have l4 : S4.length ≤ 1027 := by rw [hS4, List.length_append]; omega
                    obtain ⟨S5, hS5⟩ : ∃ S, S = S4 ++ [46, 99, 111, 110, 102] := ⟨_, rfl⟩
                    have e5 : ((⟨S4.toArray⟩ : ByteArray) ++ ⟨#[46, 99, 111, 110, 102]⟩) = ⟨S5.toArray⟩ := by rw [hS5]; exact str_add S4 [46, 99, 111, 110, 102]
                    have n1 : ¬ 9223372036854775807 < p.length + 1 := by omega
                    have n2 : ¬ 9223372036854775807 < S1.length + v.length := by omega
                    have n3 : ¬ 9223372036854775807 < S2.length + 3 := by omega
                    have n4 : ¬ 9223372036854775807 < S3.length + x.length := by omega
                    have n5 : ¬ 9223372036854775807 < S4.length + 5 := by omega
                    have hpx : pathX p v x = S5 := by rw [path_parts, hS5, hS4, hS3, hS2, hS1]
                    rw [hpx, hst] at hin
                    have HIn := Lib.hid hin
                    have i5 : (0 : Int) ≤ (m : Int) := by omega
                    have i6 : (m : Int) < (placesL.length : Int) := by omega
                    clear hS1 hS2 hS3 hS4 hS5 hpx hst hin
                    go_wp2_with fail
                    refine (at12_any A c fs S5 w10 HF10.out (by omega)).mono ?_
                    rintro e w11 ⟨rfl, hb⟩
                    have HB11 := Lib.hid (lift HB10.out hb)
                    have hz11 := HB11.out.size
                    clear hb x0
                    cases hat : atF fs S5 with
                    | none =>
                      have HN := Lib.hid (show ibD fs v x (m + 1) a0 = a by rw [HIn.out, hat, if_neg (by simp)])
                      clear HIn hat
                      unfold optV
                      simp only
                      go_wp2_with fail
                      go_roundw
                      case rel => exact ⟨m + 1, by omega, by rw [HN.out], by go_num, HB11.out.alloc hz11 _⟩
                      case measure => simp [intOf]; omega
                    | some f =>
                      obtain ⟨fs0, ft0, fl0⟩ := f
                      unfold optV
                      simp only
                      cases ha : (a == ([] : Str))
                      · have ha0 : a ≠ [] := by simpa using ha
                        have HN := Lib.hid (show ibD fs v x (m + 1) a0 = a by rw [HIn.out, if_neg (fun e => ha0 e.2)])
                        clear HIn hat ha0
                        go_wp2_with fail
                        go_roundw
                        case rel => exact ⟨m + 1, by omega, by rw [HN.out], by go_num, HB11.out.alloc hz11 _⟩
                        case measure => simp [intOf]; omega
                      · have ha0 : a = [] := by simpa using ha
                        have HN := Lib.hid (show ibD fs v x (m + 1) a0 = S5 by rw [HIn.out, hat, if_pos ⟨rfl, ha0⟩])
                        clear HIn hat ha0
                        go_wp2_with fail
                        go_roundw
                        case rel => exact ⟨m + 1, by omega, by rw [HN.out], by go_num, HB11.out.alloc hz11 _⟩
                        case measure => simp [intOf]; omega
                  · obtain rfl : m = placesL.length := by omega
                    rw [← HOb.out]
                    go_wp2_with fail
                    go_roundw
                    case rel => exact ⟨j + 1, by omega, rfl, by go_num, lift HB9.out HB10.out⟩
                    case measure => simp [intOf]; omega
              · obtain rfl : j = us.length := by omega
                rw [HBx.out]
                generalize best x = q at *
                have HB9 := Lib.hid (lift HB.out HB8.out)
                have HO9 := Lib.hid (own_on HO.out HB8.out)
                have hz9 := HB9.out.size
                have h63 := Lib.hid (show k + 1 ≤ maxLen by unfold maxLen; omega)
                have hby := Lib.hid (show (k + 1) * 16 ≤ 140737488355328 by omega)
                go_wp2_with (first | (at_builtin; refine wpList_pushm w8 w8 (by rfl) (.tmp 98) (.tmp 100) 24 (by rfl) w6.heap.size 9 i0 _ 1 16 Tryz.underlying24 hi hz0 hz1 hz2 rfl (by decide) _ _ _ (by rfl) HO9.out [sv q] w8.heap.size rfl (by rfl) rfl (one_sv q) h63.out hby.out hz9 (Below.refl _ _) ?_; intro A10 c10 w10 hown hbel hg hat; have HO10 := Lib.hid hown; have HBa := Lib.hid hbel; clear hown hbel hg hat) | fail)
                go_roundw
                case rel => exact ⟨k + 1, A10, c10, by omega, rfl, by go_num, by rw [HTk.out, svs_app]; exact HO10.out, HB9.out.trans HBa.out⟩
                case measure => simp [intOf]; omega
          · obtain rfl : k = X.length := by omega
            have hO := HO.out
            rw [List.take_length] at hO
            have HO8 := Lib.hid (own_base hO HBz.out.size)
            have HB8 := Lib.hid (lift HBz.out HB.out)
            clear hO
            go_wp2_with fail
            go_ret
            rw [HDr.out]
            exact ⟨A2, c2, by rw [List.length_map]; rfl, by rw [List.length_map]; exact HO8.out, HB8.out⟩
  · obtain ⟨us, hus⟩ : ∃ us, foldersF u = us := ⟨_, rfl⟩
    have hue : us = [u, templS u] := by rw [← hus]; unfold foldersF; rw [hI]; rfl
    have htl := templ_le u
    have HTm := Lib.hid (fun W => Template1_any u W (by omega))
    generalize templS u = tu at *
    have hul1 : us.length = 2 := by rw [hue]; rfl
    have HUe := Lib.hid hue
    clear hue
    go_enter Tryz.func31, Tryz.ntmps31
    go_wp2_with fail
    have hg0 := World.ownsRow_lit (base := w.heap.size) (e := 9) (size := 1) w #[sv u] 1 (Nat.le_refl _) (by unfold maxLen; decide) rfl
    have HG := Lib.hid hg0
    first | (refine wp_named ?_; intro W1 hW) | (refine calls_named ?_; intro W1 hW) | (refine exit_named ?_; intro W1 hW)
    have B1 : Below w.heap.size w W1 := by rw [hW]; exact (by repeat (first | exact Below.refl _ _ | assumption | refine Below.alloc ?_ (by first | omega | (simp <;> omega)) _ | refine Below.setCell ?_ (by first | omega | (simp <;> omega)) _ | refine Below.drew ?_))
    replace HF := Lib.hid (HF.out.at B1)
    rw [← hW] at HG
    clear hW
    have HB1 := Lib.hid B1
    clear B1 hg0
    refine (IsInstance_any u W1 (by omega)).mono ?_
    rintro e w2 ⟨rfl, hb⟩
    rw [hI]
    replace HF := Lib.hid (HF.out.at hb)
    replace HG := Lib.hid (own_on HG.out hb)
    replace HB1 := Lib.hid (lift HB1.out hb)
    clear hb
    go_wp2_with fail
    refine (HTm.out w2).mono ?_
    rintro e w3 ⟨rfl, hb⟩
    replace HF := Lib.hid (HF.out.at hb)
    replace HG := Lib.hid (own_on HG.out hb)
    replace HB1 := Lib.hid (lift HB1.out hb)
    clear hb
    have h63 := Lib.hid (show 1 + 1 ≤ maxLen by unfold maxLen; decide)
    have hz3 := HB1.out.size
    go_wp2_with (first | (at_builtin; refine wpList_pushm w3 w3 (by rfl) (.tmp 24) (.tmp 27) 24 (by rfl) w.heap.size 9 i0 _ 1 16 Tryz.underlying24 hi hz0 hz1 hz2 rfl (by decide) _ _ _ (by rfl) HG.out [sv tu] w3.heap.size rfl (by rfl) rfl (one_sv tu) h63.out (by decide) hz3 (Below.refl _ _) ?_; intro A9 c9 w9 hown hbel hg hat; have HO9 := Lib.hid hown; have HBa := Lib.hid hbel; clear hown hbel hg hat) | fail)
    have HU := Lib.hid (show Rd w9 w9.heap.size 1 A9 us.length (svs us) by rw [HUe.out]; exact own_rd' HO9.out)
    have HBw := Lib.hid (HB1.out.trans HBa.out)
    have HFw := Lib.hid (show FlIn w9 A fs from HF0.out.at HBw.out)
    rw [show (Value.slice A9 (1 + 1) c9) = Value.slice A9 us.length c9 by rw [hul1]]
    clear hul1 HG HBa HO9 HUe h63 HTm HF htl
    have hll := folders_len (u := u) hu
    rw [hus] at hll
    have HBe := Lib.hid (show ∀ x, obD fs us x us.length = bestF fs u x from fun x => by rw [← hus]; exact obD_all fs u x)
    have HDr := Lib.hid (show dropsF fs u = (canon ltS (fs.filterMap (overF us))).map (bestF fs u) by rw [← hus]; rfl)
    have HXl := Lib.hid (show ∀ x ∈ canon ltS (fs.filterMap (overF us)), x.length ≤ 20 from fun x hx => over_len hm hx)
    have hov : ∀ f : Fl, overF us f = if (wayS f.1).1 = 2 ∧ (wayS f.1).2.2.1 ∈ us then some (wayS f.1).2.2.2 else none := fun _ => rfl
    have hul := hll.2
    have hul2 := hll.1
    clear hus hll
    generalize overF us = F at *
    generalize bestF fs u = best at *
    go_wp2_with fail
    go_loopw [5, 31] (fun v i wr => ∃ (k : Nat) (A1 : Option Addr) (c1 : Nat), k ≤ fs.length ∧ v = .slice A1 (canon ltS ((fs.take k).filterMap F)).length c1 ∧ i = .int .i64 k ∧ Hid (Rd wr wr.heap.size 1 A1 (canon ltS ((fs.take k).filterMap F)).length (svs (canon ltS ((fs.take k).filterMap F)))) ∧ Hid (Below w9.heap.size w9 wr)) (fun _ i _ => fs.length - (intOf i).toNat)
    case atStart => exact ⟨0, none, 0, Nat.zero_le _, rfl, rfl, Rd.none_, Below.refl _ _⟩
    case round =>
      obtain ⟨k, A1, c1, hk, rfl, rfl, HR1, HBk⟩ := hrel
      obtain ⟨w6, rfl⟩ : ∃ wo : World, wo = wr := ⟨_, rfl⟩
      have hz6 := HBk.out.size
      by_cases hlt : k < fs.length
      · obtain ⟨b2, o2, hA, hB2, x0, x1, x2⟩ := (HFw.out.at HBk.out).rd.fl hlt
        have ht3 := filterMap_take (F := F) hlt
        have hsh := HS.out _ (List.getElem_mem hlt)
        have hq3 := hov fs[k]
        subst hA
        have hlO3 : ((fs.take k).filterMap F).length ≤ 120 := Nat.le_trans (List.length_filterMap_le _ _) (by rw [List.length_take]; omega)
        generalize fs[k] = p at x0 x1 x2 ht3 hsh hq3
        obtain ⟨s, t, l⟩ := p
        simp only at x0 x1 x2 hsh hq3
        have hpa := fun W => Path_any s W hsh
        rcases hx : wayS s with ⟨kd, pl, un, ot⟩
        rw [hx] at hpa hq3
        simp only at hq3
        have hn3 := canon_snoc ((fs.take k).filterMap F)
        generalize F (s, t, l) = f3 at ht3 hq3
        generalize hO3 : (fs.take k).filterMap F = O3 at *
        have hc3 := canon_len (lt := ltS) O3
        generalize hC3 : canon ltS O3 = C3 at *
        have HC3 := Lib.hid hC3
        clear hC3
        have HT3 := Lib.hid ht3
        have HQ3 := Lib.hid hq3
        have HN3 := Lib.hid hn3
        have i1 : (0 : Int) ≤ (k : Int) := by omega
        have i2 : (k : Int) < (fs.length : Int) := by omega
        clear hx ht3 hq3 hn3 hO3
        go_wp2_with fail
        first | (refine wp_named ?_; intro W7 hW) | (refine calls_named ?_; intro W7 hW) | (refine exit_named ?_; intro W7 hW)
        have B7 : Below w6.heap.size w6 W7 := by rw [hW]; exact (by repeat (first | exact Below.refl _ _ | assumption | refine Below.alloc ?_ (by first | omega | (simp <;> omega)) _ | refine Below.setCell ?_ (by first | omega | (simp <;> omega)) _ | refine Below.drew ?_))
        replace HR1 := Lib.hid (HR1.out.at B7)
        have m7 : w6.heap.size < W7.heap.size := by rw [hW]; simp <;> omega
        clear hW
        have HB7 := Lib.hid (lift HBk.out B7)
        clear B7 x0 x1 x2
        refine (hpa W7).mono ?_
        rintro e w8 ⟨rfl, hb⟩
        replace HR1 := Lib.hid (HR1.out.at hb)
        replace m7 : w6.heap.size < w8.heap.size := ltAt m7 hb
        have HB8 := Lib.hid (lift HB7.out hb)
        clear hb hpa
        go_upto_region 9 with fail
        first | (refine wp_named ?_; intro W9 hW) | (refine calls_named ?_; intro W9 hW) | (refine exit_named ?_; intro W9 hW)
        have B9 : Below w8.heap.size w8 W9 := by rw [hW]; exact (by repeat (first | exact Below.refl _ _ | assumption | refine Below.alloc ?_ (by first | omega | (simp <;> omega)) _ | refine Below.setCell ?_ (by first | omega | (simp <;> omega)) _ | refine Below.drew ?_))
        replace HR1 := Lib.hid (HR1.out.at B9)
        replace m7 : w6.heap.size < W9.heap.size := ltAt m7 B9
        have m9 : w8.heap.size < W9.heap.size := by rw [hW]; simp <;> omega
        have y0 : W9.cell? ⟨w8.heap.size, 0, none⟩ = some (.int .i64 kd) := by rw [hW]; go_simp
        have y2 : W9.cell? ⟨w8.heap.size, 2, none⟩ = some (sv un) := by rw [hW]; go_simp
        have y3 : W9.cell? ⟨w8.heap.size, 3, none⟩ = some (sv ot) := by rw [hW]; go_simp
        clear hW
        have HB9 := Lib.hid (lift HB8.out B9)
        clear B9
        have HUk := Lib.hid (HU.out.at HB9.out)
        by_cases h3 : kd = 2
        · have b3 : ((kd : Int) == 2) = true := by rw [beq_iff_eq]; omega
          cases hu2 : hasB us un
          · have hun : ¬ (kd = 2 ∧ un ∈ us) := fun e => by rw [(hasB_iff _ _).2 e.2] at hu2; cases hu2
            have E3 := Lib.hid (show canon ltS ((fs.take (k + 1)).filterMap F) = C3 by rw [HT3.out, HQ3.out, if_neg hun]; simpa using HC3.out)
            clear HT3 HQ3 HN3 HC3
            go_wp2_with fail
            (refine (HasS_any A9 c9 us un W9 HUk.out (by omega)).mono ?_; rintro e wz ⟨rfl, rfl⟩; rw [hu2]; go_wp2_with fail)
            go_roundw
            case rel => exact ⟨k + 1, A1, c1, by omega, by rw [E3.out], by go_num, by rw [E3.out]; exact HR1.out, HB9.out⟩
            case measure => simp [intOf]; omega
          · have hun : kd = 2 ∧ un ∈ us := ⟨h3, (hasB_iff _ _).1 hu2⟩
            have E3 := Lib.hid (show canon ltS ((fs.take (k + 1)).filterMap F) = addG ot false C3 by rw [HT3.out, HQ3.out, if_pos hun]; exact HN3.out ot)
            clear HT3 HQ3 HN3 HC3
            go_wp2_with fail
            refine (HasS_any A9 c9 us un W9 HUk.out (by omega)).mono ?_
            rintro e wz ⟨rfl, rfl⟩
            rw [hu2]
            go_wp2_with fail
            refine (add_any A1 c1 C3 ot W9 HR1.out (by omega)).mono ?_
            rintro e w10 ⟨A5, c5, rfl, ho, hb⟩
            have HR5 := Lib.hid (own_rd' ho)
            have HB10 := Lib.hid (lift HB9.out hb)
            replace y0 := cellAt y0 hb (by omega)
            replace y2 := cellAt y2 hb (by omega)
            replace y3 := cellAt y3 hb (by omega)
            replace HR1 := Lib.hid (HR1.out.at hb)
            replace m7 : w6.heap.size < w10.heap.size := ltAt m7 hb
            replace m9 : w8.heap.size < w10.heap.size := ltAt m9 hb
            clear hb ho
            go_wp2_with fail
            go_roundw
            case rel => exact ⟨k + 1, A5, c5, by omega, by rw [E3.out], by go_num, by rw [E3.out]; exact HR5.out, HB10.out⟩
            case measure => simp [intOf]; omega
        · have b3 : ((kd : Int) == 2) = false := by rw [beq_eq_false_iff_ne]; omega
          have hun : ¬ (kd = 2 ∧ un ∈ us) := fun e => h3 e.1
          have E3 := Lib.hid (show canon ltS ((fs.take (k + 1)).filterMap F) = C3 by rw [HT3.out, HQ3.out, if_neg hun]; simpa using HC3.out)
          clear HT3 HQ3 HN3 HC3
          go_wp2_with fail
          skip
          go_roundw
          case rel => exact ⟨k + 1, A1, c1, by omega, by rw [E3.out], by go_num, by rw [E3.out]; exact HR1.out, HB9.out⟩
          case measure => simp [intOf]; omega
      · obtain rfl : k = fs.length := by omega
        rw [List.take_length] at HR1 ⊢
        have hXl : (canon ltS (fs.filterMap F)).length ≤ 120 := Nat.le_trans (canon_len (lt := ltS) _) (Nat.le_trans (List.length_filterMap_le _ _) (by omega))
        generalize canon ltS (fs.filterMap F) = X at *
        have HBz := Lib.hid (lift HBw.out HBk.out)
        have HUz := Lib.hid (HU.out.at HBk.out)
        have HFz := Lib.hid (HFw.out.at HBk.out)
        clear HBw HU HFw hov HBk
        go_wp2_with fail
        go_loopw [10, 54] (fun v i wr => ∃ (k : Nat) (A2 : Option Addr) (c2 : Nat), k ≤ X.length ∧ v = .slice A2 k c2 ∧ i = .int .i64 k ∧ Hid (wr.ownsRow w6.heap.size 9 1 (.slice A2 k c2) k (svs ((X.take k).map best))) ∧ Hid (Below w6.heap.size w6 wr)) (fun _ i _ => X.length - (intOf i).toNat)
        case atStart => exact ⟨0, none, 0, Nat.zero_le _, rfl, rfl, World.ownsRow_nil _ _ _ _, Below.refl _ _⟩
        case round =>
          obtain ⟨k, A2, c2, hk, rfl, rfl, HO, HB⟩ := hrel
          obtain ⟨w7, rfl⟩ : ∃ wo : World, wo = wr := ⟨_, rfl⟩
          by_cases hlt : k < X.length
          · obtain ⟨b2, o2, hA, hB2, x0⟩ := (HR1.out.at HB.out).str hlt
            subst hA
            have hxl := HXl.out _ (List.getElem_mem hlt)
            have htk : (X.take (k + 1)).map best = (X.take k).map best ++ [best X[k]] := by rw [List.take_succ_eq_append_getElem hlt, List.map_append]; rfl
            have hbe := HBe.out X[k]
            generalize X[k] = x at x0 hxl htk hbe
            have HTk := Lib.hid htk
            have HBx := Lib.hid hbe
            have HU7 := Lib.hid (HUz.out.at HB.out)
            have HF7 := Lib.hid (HFz.out.at HB.out)
            have i1 : (0 : Int) ≤ (k : Int) := by omega
            have i2 : (k : Int) < (X.length : Int) := by omega
            clear htk hbe
            go_wp2_with fail
            go_loopw [13, 60] (fun v i wr => ∃ j : Nat, j ≤ us.length ∧ v = sv (obD fs us x j) ∧ i = .int .i64 j ∧ Hid (Below w7.heap.size w7 wr)) (fun _ i _ => us.length - (intOf i).toNat)
            case atStart => exact ⟨0, Nat.zero_le _, rfl, rfl, Below.refl _ _⟩
            case round =>
              clear x0
              obtain ⟨j, hj, rfl, rfl, HB8⟩ := hrel
              obtain ⟨w8, rfl⟩ : ∃ wo : World, wo = wr := ⟨_, rfl⟩
              by_cases hjt : j < us.length
              · obtain ⟨b3, o3, hA, hB3, x0⟩ := (HU7.out.at HB8.out).str hjt
                subst hA
                have hvl := hul _ (List.getElem_mem hjt)
                have hob := obD_succ fs us x hjt
                generalize us[j] = v at x0 hvl hob
                generalize obD fs us x j = a0 at *
                have HOb := Lib.hid hob
                have i3 : (0 : Int) ≤ (j : Int) := by omega
                have i4 : (j : Int) < (us.length : Int) := by omega
                clear hob
                go_wp2_with fail
                refine (places_any w8).mono ?_
                rintro e w9 ⟨A3, c3, rfl, hc3, hr3, hb⟩
                have HR3 := Lib.hid hr3
                have HB9 := Lib.hid (lift HB8.out hb)
                have HF9 := Lib.hid (HF7.out.at HB9.out)
                have hpl : placesL.length = 3 := rfl
                clear hb hr3 x0
                go_wp2_with fail
                go_loopw [13, 66] (fun vv i wr => ∃ m : Nat, m ≤ placesL.length ∧ vv = sv (ibD fs v x m a0) ∧ i = .int .i64 m ∧ Hid (Below w9.heap.size w9 wr)) (fun _ i _ => placesL.length - (intOf i).toNat)
                case atStart => exact ⟨0, Nat.zero_le _, rfl, rfl, Below.refl _ _⟩
                case round =>
                  obtain ⟨m, hmm, rfl, rfl, HB10⟩ := hrel
                  obtain ⟨w10, rfl⟩ : ∃ wo : World, wo = wr := ⟨_, rfl⟩
                  by_cases hmt : m < placesL.length
                  · obtain ⟨b4, o4, hA, hB4, x0⟩ := (HR3.out.at HB10.out).str hmt
                    subst hA
                    have HF10 := Lib.hid (HF9.out.at HB10.out)
                    have hin := ibD_succ fs v x hmt a0
                    have hp3 : placesL[m].length = 3 := place_three (List.getElem_mem hmt)
                    generalize placesL[m] = p at x0 hp3 hin
                    generalize ibD fs v x m a0 = a at *
                    have hst : ∀ q, sbD fs a q = if (atF fs q).isSome = true ∧ a = [] then q else a := fun _ => rfl
                    obtain ⟨S1, hS1⟩ : ∃ S, S = p ++ [47] := ⟨_, rfl⟩
                    have e1 : ((⟨p.toArray⟩ : ByteArray) ++ ⟨#[47]⟩) = ⟨S1.toArray⟩ := by rw [hS1]; exact str_add p [47]
                    have l1 : S1.length = 4 := by rw [hS1]; simp [hp3]
                    obtain ⟨S2, hS2⟩ : ∃ S, S = S1 ++ v := ⟨_, rfl⟩
                    have e2 : ((⟨S1.toArray⟩ : ByteArray) ++ ⟨v.toArray⟩) = ⟨S2.toArray⟩ := by rw [hS2]; exact str_add S1 v
                    have l2 : S2.length ≤ 1004 := by rw [hS2, List.length_append]; omega
                    obtain ⟨S3, hS3⟩ : ∃ S, S = S2 ++ [46, 100, 47] := ⟨_, rfl⟩
                    have e3 : ((⟨S2.toArray⟩ : ByteArray) ++ ⟨#[46, 100, 47]⟩) = ⟨S3.toArray⟩ := by rw [hS3]; exact str_add S2 [46, 100, 47]
                    have l3 : S3.length ≤ 1007 := by rw [hS3, List.length_append]; simp; omega
                    obtain ⟨S4, hS4⟩ : ∃ S, S = S3 ++ x := ⟨_, rfl⟩
                    have e4 : ((⟨S3.toArray⟩ : ByteArray) ++ ⟨x.toArray⟩) = ⟨S4.toArray⟩ := by rw [hS4]; exact str_add S3 x
                    have l4 : S4.length ≤ 1027 := by rw [hS4, List.length_append]; omega
                    obtain ⟨S5, hS5⟩ : ∃ S, S = S4 ++ [46, 99, 111, 110, 102] := ⟨_, rfl⟩
                    have e5 : ((⟨S4.toArray⟩ : ByteArray) ++ ⟨#[46, 99, 111, 110, 102]⟩) = ⟨S5.toArray⟩ := by rw [hS5]; exact str_add S4 [46, 99, 111, 110, 102]
                    have n1 : ¬ 9223372036854775807 < p.length + 1 := by omega
                    have n2 : ¬ 9223372036854775807 < S1.length + v.length := by omega
                    have n3 : ¬ 9223372036854775807 < S2.length + 3 := by omega
                    have n4 : ¬ 9223372036854775807 < S3.length + x.length := by omega
                    have n5 : ¬ 9223372036854775807 < S4.length + 5 := by omega
                    have hpx : pathX p v x = S5 := by rw [path_parts, hS5, hS4, hS3, hS2, hS1]
                    rw [hpx, hst] at hin
                    have HIn := Lib.hid hin
                    have i5 : (0 : Int) ≤ (m : Int) := by omega
                    have i6 : (m : Int) < (placesL.length : Int) := by omega
                    clear hS1 hS2 hS3 hS4 hS5 hpx hst hin
                    go_wp2_with fail
                    refine (at12_any A c fs S5 w10 HF10.out (by omega)).mono ?_
                    rintro e w11 ⟨rfl, hb⟩
                    have HB11 := Lib.hid (lift HB10.out hb)
                    have hz11 := HB11.out.size
                    clear hb x0
                    cases hat : atF fs S5 with
                    | none =>
                      have HN := Lib.hid (show ibD fs v x (m + 1) a0 = a by rw [HIn.out, hat, if_neg (by simp)])
                      clear HIn hat
                      unfold optV
                      simp only
                      go_wp2_with fail
                      go_roundw
                      case rel => exact ⟨m + 1, by omega, by rw [HN.out], by go_num, HB11.out.alloc hz11 _⟩
                      case measure => simp [intOf]; omega
                    | some f =>
                      obtain ⟨fs0, ft0, fl0⟩ := f
                      unfold optV
                      simp only
                      cases ha : (a == ([] : Str))
                      · have ha0 : a ≠ [] := by simpa using ha
                        have HN := Lib.hid (show ibD fs v x (m + 1) a0 = a by rw [HIn.out, if_neg (fun e => ha0 e.2)])
                        clear HIn hat ha0
                        go_wp2_with fail
                        go_roundw
                        case rel => exact ⟨m + 1, by omega, by rw [HN.out], by go_num, HB11.out.alloc hz11 _⟩
                        case measure => simp [intOf]; omega
                      · have ha0 : a = [] := by simpa using ha
                        have HN := Lib.hid (show ibD fs v x (m + 1) a0 = S5 by rw [HIn.out, hat, if_pos ⟨rfl, ha0⟩])
                        clear HIn hat ha0
                        go_wp2_with fail
                        go_roundw
                        case rel => exact ⟨m + 1, by omega, by rw [HN.out], by go_num, HB11.out.alloc hz11 _⟩
                        case measure => simp [intOf]; omega
                  · obtain rfl : m = placesL.length := by omega
                    rw [← HOb.out]
                    go_wp2_with fail
                    go_roundw
                    case rel => exact ⟨j + 1, by omega, rfl, by go_num, lift HB9.out HB10.out⟩
                    case measure => simp [intOf]; omega
              · obtain rfl : j = us.length := by omega
                rw [HBx.out]
                generalize best x = q at *
                have HB9 := Lib.hid (lift HB.out HB8.out)
                have HO9 := Lib.hid (own_on HO.out HB8.out)
                have hz9 := HB9.out.size
                have h63 := Lib.hid (show k + 1 ≤ maxLen by unfold maxLen; omega)
                have hby := Lib.hid (show (k + 1) * 16 ≤ 140737488355328 by omega)
                go_wp2_with (first | (at_builtin; refine wpList_pushm w8 w8 (by rfl) (.tmp 98) (.tmp 100) 24 (by rfl) w6.heap.size 9 i0 _ 1 16 Tryz.underlying24 hi hz0 hz1 hz2 rfl (by decide) _ _ _ (by rfl) HO9.out [sv q] w8.heap.size rfl (by rfl) rfl (one_sv q) h63.out hby.out hz9 (Below.refl _ _) ?_; intro A10 c10 w10 hown hbel hg hat; have HO10 := Lib.hid hown; have HBa := Lib.hid hbel; clear hown hbel hg hat) | fail)
                go_roundw
                case rel => exact ⟨k + 1, A10, c10, by omega, rfl, by go_num, by rw [HTk.out, svs_app]; exact HO10.out, HB9.out.trans HBa.out⟩
                case measure => simp [intOf]; omega
          · obtain rfl : k = X.length := by omega
            have hO := HO.out
            rw [List.take_length] at hO
            have HO8 := Lib.hid (own_base hO HBz.out.size)
            have HB8 := Lib.hid (lift HBz.out HB.out)
            clear hO
            go_wp2_with fail
            go_ret
            rw [HDr.out]
            exact ⟨A2, c2, by rw [List.length_map]; rfl, by rw [List.length_map]; exact HO8.out, HB8.out⟩
end Od
end Go.Proofs.YtgfdcmlmgeoimaaGreat
end
