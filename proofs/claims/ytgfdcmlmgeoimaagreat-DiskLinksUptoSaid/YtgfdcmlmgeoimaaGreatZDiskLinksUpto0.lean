/- My texts, joined for the claim: LdB. -/
import Derived.Test.YtgfdcmlmgeoimaaGreatZB12
import Derived.Test.YtgfdcmlmgeoimaaGreatZB10

section
/- The walk of the law DiskLinks. (bel2) -/
namespace Go.Proofs.YtgfdcmlmgeoimaaGreat
open Go.RowKit Go.Sort
set_option linter.unusedSimpArgs false
namespace Od

set_option maxRecDepth 100000 in
set_option maxHeartbeats 8000000 in
theorem diskLinks_any (A : Option Addr) (c : Nat) (fs : List Fl) (u : Str) (w : World) (h : FlIn w A fs) (hs : Short fs) (hl : fs.length ≤ 10000000000000) :
    Calls Tryz.prog 4 #[.slice A fs.length c, sv u] w fun e w' => e = .returned (.bool true) ∧ Below w.heap.size w w' := by
  have HF := Lib.hid h
  have hl3 := links_len fs 3 u
  have hl4 := links_len fs 4 u
  have HX := Lib.hid (fun W (h : FlIn W A fs) => Links_any A c fs u W h hl)
  have HY := Lib.hid (fun W (h : FlIn W A fs) => Links12_any A c fs u W h hs)
  unfold LinksR at HX HY
  clear h hs
  generalize linksF fs 3 u = L3 at *
  generalize linksF fs 4 u = L4 at *
  go_enter Tryz.func4, Tryz.ntmps4
  go_wp2_with fail
  refine (shown12_any w).mono ?_
  rintro e w1 ⟨rfl, hb⟩
  replace HF := Lib.hid (HF.out.at hb)
  have HB := Lib.hid hb
  clear hb
  go_wp2_with fail
  refine (HX.out w1 HF.out).mono ?_
  rintro e w2 ⟨A2, c2, A3, c3, rfl, hr2, hr3, hb⟩
  have HR2 := Lib.hid hr2
  have HR3 := Lib.hid hr3
  replace HF := Lib.hid (HF.out.at hb)
  replace HB := Lib.hid (lift HB.out hb)
  clear hb hr2 hr3
  go_wp2_with fail
  refine (HY.out w2 HF.out).mono ?_
  rintro e w4 ⟨A4, c4, A5, c5, rfl, hr4, hr5, hb⟩
  have HR4 := Lib.hid hr4
  have HR5 := Lib.hid hr5
  replace HF := Lib.hid (HF.out.at hb)
  replace HB := Lib.hid (lift HB.out hb)
  replace HR2 := Lib.hid (HR2.out.at hb)
  replace HR3 := Lib.hid (HR3.out.at hb)
  clear hb hr4 hr5
  go_wp2_with fail
  refine (Same_any A2 A4 c2 c4 L3 L3 w4 HR2.out HR4.out (by omega)).mono ?_
  rintro e w6 ⟨rfl, hb⟩
  rw [show decide (L3 = L3) = true by simp]
  replace HF := Lib.hid (HF.out.at hb)
  replace HB := Lib.hid (lift HB.out hb)
  replace HR2 := Lib.hid (HR2.out.at hb)
  replace HR3 := Lib.hid (HR3.out.at hb)
  replace HR4 := Lib.hid (HR4.out.at hb)
  replace HR5 := Lib.hid (HR5.out.at hb)
  clear hb
  go_wp2_with fail
  refine (Same_any A3 A5 c3 c5 L4 L4 w6 HR3.out HR5.out (by omega)).mono ?_
  rintro e w7 ⟨rfl, hb⟩
  rw [show decide (L4 = L4) = true by simp]
  replace HF := Lib.hid (HF.out.at hb)
  replace HB := Lib.hid (lift HB.out hb)
  replace HR2 := Lib.hid (HR2.out.at hb)
  replace HR3 := Lib.hid (HR3.out.at hb)
  replace HR4 := Lib.hid (HR4.out.at hb)
  replace HR5 := Lib.hid (HR5.out.at hb)
  clear hb
  go_wp2_with fail
  go_ret
  exact ⟨rfl, HB.out⟩
end Od
end Go.Proofs.YtgfdcmlmgeoimaaGreat
end
