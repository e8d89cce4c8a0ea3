/- My texts, joined for the claim: LdA. -/
import Derived.Test.YtgfdcmlmgeoimaaGreatZB12
import Derived.Test.YtgfdcmlmgeoimaaGreatZB13

section
/- The walk of the law DiskFind. (bel2) -/
namespace Go.Proofs.YtgfdcmlmgeoimaaGreat
open Go.RowKit Go.Sort
set_option linter.unusedSimpArgs false
namespace Od

set_option maxRecDepth 100000 in
set_option maxHeartbeats 8000000 in
theorem diskFind_any (A : Option Addr) (c : Nat) (fs : List Fl) (u : Str) (w : World) (h : FlIn w A fs) (hs : Short fs) (hl : fs.length ≤ 10000000000000) (hu : u.length ≤ 140737488355328) :
    Calls Tryz.prog 3 #[.slice A fs.length c, sv u] w fun e w' => e = .returned (.bool true) ∧ Below w.heap.size w w' := by
  have HF := Lib.hid h
  have HS := Lib.hid hs
  have hfl := find_len fs u
  have HX := Lib.hid (fun W (h : FlIn W A fs) => Find_any A c fs u W h hl hu)
  have HY := Lib.hid (fun W (h : FlIn W A fs) => Find12_any A c fs u W h hs hu)
  clear h hs
  generalize findF fs u = R at *
  obtain ⟨⟨n, p, m, ds⟩, k⟩ := R
  simp only at hfl
  have hkk : (k == k) = true := by simp
  go_enter Tryz.func3, Tryz.ntmps3
  go_wp2_with fail
  refine (shown12_any w).mono ?_
  rintro e w1 ⟨rfl, hb⟩
  replace HF := Lib.hid (HF.out.at hb)
  have HB := Lib.hid hb
  clear hb
  go_wp2_with fail
  refine (HX.out w1 HF.out).mono ?_
  rintro e w2 ⟨A2, c2, rfl, hr, hb⟩
  simp only at hr ⊢
  have HR2 := Lib.hid hr
  replace HF := Lib.hid (HF.out.at hb)
  replace HB := Lib.hid (lift HB.out hb)
  clear hb hr
  go_wp2_with fail
  first | (refine wp_named ?_; intro W3 hW) | (refine calls_named ?_; intro W3 hW) | (refine exit_named ?_; intro W3 hW)
  have B3 : Below w2.heap.size w2 W3 := by rw [hW]; exact (by repeat (first | exact Below.refl _ _ | assumption | refine Below.alloc ?_ (by first | omega | (simp <;> omega)) _ | refine Below.setCell ?_ (by first | omega | (simp <;> omega)) _ | refine Below.drew ?_))
  replace HF := Lib.hid (HF.out.at B3)
  replace HB := Lib.hid (lift HB.out B3)
  replace HR2 := Lib.hid (HR2.out.at B3)
  have n3 : w2.heap.size < W3.heap.size := by rw [hW]; simp <;> omega
  have x0 : W3.cell? ⟨w2.heap.size, 0, none⟩ = some (sv n) := by rw [hW]; go_simp
  have x1 : W3.cell? ⟨w2.heap.size, 1, none⟩ = some (sv p) := by rw [hW]; go_simp
  have x2 : W3.cell? ⟨w2.heap.size, 2, none⟩ = some (.bool m) := by rw [hW]; go_simp
  have x3 : W3.cell? ⟨w2.heap.size, 3, none⟩ = some (.slice A2 ds.length c2) := by rw [hW]; go_simp
  clear hW
  clear B3
  refine (HY.out W3 HF.out).mono ?_
  rintro e w4 ⟨A4, c4, rfl, hr, hb⟩
  simp only at hr ⊢
  have HR4 := Lib.hid hr
  replace x0 := cellAt x0 hb (by omega)
  replace x1 := cellAt x1 hb (by omega)
  replace x2 := cellAt x2 hb (by omega)
  replace x3 := cellAt x3 hb (by omega)
  replace HF := Lib.hid (HF.out.at hb)
  replace HB := Lib.hid (lift HB.out hb)
  replace HR2 := Lib.hid (HR2.out.at hb)
  replace n3 : w2.heap.size < w4.heap.size := ltAt n3 hb
  clear hb hr
  go_wp2_with fail
  first | (refine wp_named ?_; intro W5 hW) | (refine calls_named ?_; intro W5 hW) | (refine exit_named ?_; intro W5 hW)
  have B5 : Below w4.heap.size w4 W5 := by rw [hW]; exact (by repeat (first | exact Below.refl _ _ | assumption | refine Below.alloc ?_ (by first | omega | (simp <;> omega)) _ | refine Below.setCell ?_ (by first | omega | (simp <;> omega)) _ | refine Below.drew ?_))
  replace x0 := cellAt x0 B5 (by omega)
  replace x1 := cellAt x1 B5 (by omega)
  replace x2 := cellAt x2 B5 (by omega)
  replace x3 := cellAt x3 B5 (by omega)
  replace HF := Lib.hid (HF.out.at B5)
  replace HB := Lib.hid (lift HB.out B5)
  replace HR2 := Lib.hid (HR2.out.at B5)
  replace n3 : w2.heap.size < W5.heap.size := ltAt n3 B5
  replace HR4 := Lib.hid (HR4.out.at B5)
  have n5 : w4.heap.size < W5.heap.size := by rw [hW]; simp <;> omega
  clear hW
  clear B5
  refine (same12_any (n, p, m, ds) A2 A4 c2 c4 W5 HR2.out HR4.out (by simp only; omega)).mono ?_
  rintro e w6 ⟨rfl, hb⟩
  replace x0 := cellAt x0 hb (by omega)
  replace x1 := cellAt x1 hb (by omega)
  replace x2 := cellAt x2 hb (by omega)
  replace x3 := cellAt x3 hb (by omega)
  replace HF := Lib.hid (HF.out.at hb)
  replace HB := Lib.hid (lift HB.out hb)
  replace HR2 := Lib.hid (HR2.out.at hb)
  replace n3 : w2.heap.size < w6.heap.size := ltAt n3 hb
  replace HR4 := Lib.hid (HR4.out.at hb)
  replace n5 : w4.heap.size < w6.heap.size := ltAt n5 hb
  clear hb
  go_wp2_with fail
  refine (MayD_any A c fs w6 HF.out hl).mono ?_
  rintro e w7 ⟨rfl, hb⟩
  replace x0 := cellAt x0 hb (by omega)
  replace x1 := cellAt x1 hb (by omega)
  replace x2 := cellAt x2 hb (by omega)
  replace x3 := cellAt x3 hb (by omega)
  replace HF := Lib.hid (HF.out.at hb)
  replace HB := Lib.hid (lift HB.out hb)
  replace HR2 := Lib.hid (HR2.out.at hb)
  replace n3 : w2.heap.size < w7.heap.size := ltAt n3 hb
  replace HR4 := Lib.hid (HR4.out.at hb)
  replace n5 : w4.heap.size < w7.heap.size := ltAt n5 hb
  clear hb
  go_wp2_with fail
  refine (May12_any A c fs w7 HF.out HS.out).mono ?_
  rintro e w8 ⟨rfl, hb⟩
  replace x0 := cellAt x0 hb (by omega)
  replace x1 := cellAt x1 hb (by omega)
  replace x2 := cellAt x2 hb (by omega)
  replace x3 := cellAt x3 hb (by omega)
  replace HF := Lib.hid (HF.out.at hb)
  replace HB := Lib.hid (lift HB.out hb)
  replace HR2 := Lib.hid (HR2.out.at hb)
  replace n3 : w2.heap.size < w8.heap.size := ltAt n3 hb
  replace HR4 := Lib.hid (HR4.out.at hb)
  replace n5 : w4.heap.size < w8.heap.size := ltAt n5 hb
  clear hb
  have hmm : (mayFs fs == mayFs fs) = true := by simp
  go_wp2_with fail
  go_ret
  exact ⟨rfl, HB.out⟩
end Od
end Go.Proofs.YtgfdcmlmgeoimaaGreat
end
