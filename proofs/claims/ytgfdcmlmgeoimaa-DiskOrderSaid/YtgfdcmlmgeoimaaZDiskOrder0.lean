/- My texts, joined for the claim: LdG. -/
import Derived.Test.YtgfdcmlmgeoimaaZB1
import Derived.Test.YtgfdcmlmgeoimaaZB15
import Derived.Test.YtgfdcmlmgeoimaaZB12

section
/- The walk of the law DiskOrder. (bel2) -/
namespace Go.Proofs.Ytgfdcmlmgeoimaa
open Go.RowKit Go.Sort
set_option linter.unusedSimpArgs false
namespace Od

theorem and_rangeD (x : Int) : 0 ≤ bits .and .i64 x 65535 ∧ bits .and .i64 x 65535 ≤ 65535 := by
  have e : bits .and .i64 x 65535 = IntKind.i64.wrap ((BitVec.ofInt 64 x &&& BitVec.ofInt 64 65535).toNat : Int) := rfl
  have h : (BitVec.ofInt 64 x &&& BitVec.ofInt 64 65535).toNat ≤ 65535 := by
    rw [BitVec.toNat_and]
    exact Nat.le_trans Nat.and_le_right (by decide)
  rw [e, IntKind.wrap_i64]
  omega

theorem cut_atD (x : Int) (n : Nat) (hn : 1 ≤ n) : ∃ k : Nat, k < n ∧ (bits .and .i64 x 65535).tmod (n : Int) = (k : Int) := by
  have h := and_rangeD x
  generalize bits .and .i64 x 65535 = v at h
  have e : v.tmod (n : Int) = v % (n : Int) := Int.tmod_eq_emod_of_nonneg h.1
  have h1 := Int.emod_nonneg v (show (n : Int) ≠ 0 by omega)
  have h2 := Int.emod_lt_of_pos v (show (0 : Int) < (n : Int) by omega)
  exact ⟨(v % (n : Int)).toNat, by omega, by rw [e]; omega⟩

theorem flsC_len (l : List Fl) : (flsC l).length = l.length * 3 := by
  induction l with
  | nil => rfl
  | cons x l ih => rw [show flsC (x :: l) = flC x ++ flsC l from rfl, List.length_append, ih, flC_len, List.length_cons]; omega
theorem flsC_drop (l : List Fl) {k : Nat} (hk : k ≤ l.length) : (flsC l).drop (k * 3) = flsC (l.drop k) := by
  conv => lhs; rw [← List.take_append_drop k l, flsC_app]
  rw [List.drop_left' (by rw [flsC_len, List.length_take]; omega)]
theorem flsC_take (l : List Fl) {k : Nat} (hk : k ≤ l.length) : (flsC l).take (k * 3) = flsC (l.take k) := by
  conv => lhs; rw [← List.take_append_drop k l, flsC_app]
  rw [List.take_left' (by rw [flsC_len, List.length_take]; omega)]
set_option maxRecDepth 100000 in
set_option maxHeartbeats 16000000 in
theorem diskOrder_any (A : Option Addr) (c : Nat) (fs : List Fl) (u : Str) (tn : Int) (w : World) (h : FlIn w A fs) (hc : fs.length ≤ c) (hl : fs.length * 48 ≤ 140737488351232) (hu : u.length ≤ 140737488351232) :
    Calls Try.prog 3 #[.slice A fs.length c, sv u, .int .i64 tn] w fun e w' => e = .returned (.bool true) ∧ Below w.heap.size w w' := by
  obtain ⟨i0, hi, hz0, hz1, hz2⟩ := info_parts infoFl
  have HF := Lib.hid h
  clear h
  by_cases h0 : fs.length = 0
  · have b0 : ((fs.length : Int) == 0) = true := by rw [beq_iff_eq]; omega
    go_enter Try.func3, Try.ntmps3
    go_wp2_with fail
    refine (shown12_any w).mono ?_
    rintro e w1 ⟨rfl, hb⟩
    replace HF := Lib.hid (HF.out.at hb)
    have HB := Lib.hid hb
    clear hb
    go_wp2_with fail
    go_ret
    exact ⟨rfl, HB.out⟩
  · have b0 : ((fs.length : Int) == 0) = false := by rw [beq_eq_false_iff_ne]; omega
    obtain ⟨k, hk, hkb⟩ := cut_atD tn fs.length (by omega)
    obtain ⟨r, hr⟩ : ∃ r, r = fs.length - k := ⟨_, rfl⟩
    go_enter Try.func3, Try.ntmps3
    go_wp2_with fail
    refine (shown12_any w).mono ?_
    rintro e w1 ⟨rfl, hb⟩
    replace HF := Lib.hid (HF.out.at hb)
    have HB := Lib.hid hb
    clear hb
    go_wp2_with fail
    go_upto_region 7 with fail
    clear hkb
    have hs2 := run_slice_tailD (P := Try.prog) Try.underlying22 hi A fs.length c k (by omega)
    have hs3 := run_slice_headD (P := Try.prog) Try.underlying22 hi A fs.length c k (by omega)
    rw [hz1] at hs2 hs3
    have hrd := HF.out.rd.dropD (m := k) (c := c) (by omega) hc
    have hrt := HF.out.rd.takeD (m := k) (c := c) (by omega)
    rw [flsC_drop fs (by omega)] at hrd
    rw [flsC_take fs (by omega)] at hrt
    rw [← hr] at hs2 hrd
    generalize dropD A c k 3 = Ad at *
    generalize takeD A c 3 = At at *
    obtain ⟨gs, hgs⟩ : ∃ gs, gs = fs.drop k ++ fs.take k := ⟨_, rfl⟩
    have hp : fs.Perm gs := by
      rw [hgs]
      conv => lhs; rw [← List.take_append_drop k fs]
      exact List.perm_append_comm
    have hgl : gs.length = r + k := by rw [← hp.length_eq]; omega
    have HG := Lib.hid hgs
    have HGl := Lib.hid hgl
    have HX := Lib.hid (fun W (h : FlIn W A fs) => Find_any A c fs u W h (by omega) (by omega))
    have HY : Hid (∀ A7 c7 W, FlIn W A7 gs → Calls Try.prog 6 #[.slice A7 (r + k) c7, sv u] W (FindR (findF fs u) W)) := Lib.hid (fun A7 c7 W h => by
      have h1 := Find_any A7 c7 gs u W h (by omega) (by omega)
      rwa [hgl, ← find_perm hp] at h1)
    have HL := Lib.hid (fun W (h : FlIn W A fs) => Links_any A c fs u W h (by omega))
    have HM : Hid (∀ A7 c7 W, FlIn W A7 gs → Calls Try.prog 7 #[.slice A7 (r + k) c7, sv u] W (LinksR fs u W)) := Lib.hid (fun A7 c7 W h => by
      have h1 := Links_any A7 c7 gs u W h (by omega)
      unfold LinksR at h1 ⊢
      rwa [hgl, ← links_perm hp, ← links_perm hp] at h1)
    have HN : Hid (∀ A7 c7 W, FlIn W A7 gs → Calls Try.prog 10 #[.slice A7 (r + k) c7] W fun e w' => e = .returned (.bool (mayFs fs)) ∧ Below W.heap.size W w') := Lib.hid (fun A7 c7 W h => by
      have h1 := MayD_any A7 c7 gs W h (by omega)
      rwa [hgl, ← mayFs_perm hp] at h1)
    have HMy := Lib.hid (fun W (h : FlIn W A fs) => MayD_any A c fs W h (by omega))
    have hok := HF.out.ok
    have hfl := find_len fs u
    have hl3 := links_len fs 3 u
    have hl4 := links_len fs 4 u
    have hokg : ∀ f ∈ gs, okFl f := fun f hf => hok f (hp.mem_iff.2 hf)
    have h63 := Lib.hid (show r ≤ maxLen by unfold maxLen; omega)
    have hby := Lib.hid (show r * 48 ≤ 140737488355328 by omega)
    have h63b := Lib.hid (show r + k ≤ maxLen by unfold maxLen; omega)
    have hbyb := Lib.hid (show (r + k) * 48 ≤ 140737488355328 by omega)
    have HRd := Lib.hid hrd
    have HRt := Lib.hid hrt
    unfold LinksR at HL HM
    clear hgs hp hgl hr hrd hrt hok h0 b0
    generalize findF fs u = R at *
    generalize linksF fs 3 u = L3 at *
    generalize linksF fs 4 u = L4 at *
    obtain ⟨⟨n, p, m, ds⟩, kk⟩ := R
    simp only at hfl
    try go_wp2_with fail
    refine wp_region_held_drew (S := fun w' => Below w1.heap.size w1 w') (by kernel_rfl) (Below.drew (Below.refl _ _)) (fun hHeld => ?_)
    refine tY (i := 0) (v := ?_) rfl ?_ hHeld ?_; rotate_left 1; focus (intro w' hSw; clear hSw; go_simp; try with_reducible rfl)
    (try simp only [Act.put, zn1, zn2, zn3])
    refine tY (i := 1) (v := ?_) rfl ?_ hHeld ?_; rotate_left 1; focus (intro w' hSw; clear hSw; go_simp; try with_reducible rfl)
    (try simp only [Act.put, zn1, zn2, zn3])
    refine tY (i := 2) (v := ?_) rfl ?_ hHeld ?_; rotate_left 1; focus (intro w' hSw; clear hSw; go_simp; try with_reducible rfl)
    (try simp only [Act.put, zn1, zn2, zn3])
    refine tY (i := 4) (v := ?_) rfl ?_ hHeld ?_; rotate_left 1; focus (intro w' hSw; clear hSw; go_simp; try with_reducible rfl)
    (try simp only [Act.put, zn1, zn2, zn3])
    refine tY (i := 5) (v := ?_) rfl ?_ hHeld ?_; rotate_left 1; focus (intro w' hSw; clear hSw; go_simp; try with_reducible rfl)
    (try simp only [Act.put, zn1, zn2, zn3])
    refine tY (i := 6) (v := ?_) rfl ?_ hHeld ?_; rotate_left 1; focus (intro w' hSw; clear hSw; go_simp; try with_reducible rfl)
    (try simp only [Act.put, zn1, zn2, zn3])
    refine ready_one (i := 3) rfl (by kernel_rfl) (fun K hK => ?_)
    refine step_append_first _ (by rfl) (.const (.slice none 0 0)) (.tmp 30) 22 (by rfl) w1.heap.size 38 i0 _ 3 48 Try.underlying22 hi hz0 hz1 hz2 rfl (by decide) (by rfl) _ Ad r (c - k) (flsC (fs.drop k)) (by rfl) (HRd.out.at hHeld) (one_flsC _) h63.out hby.out hHeld.size ?_
    intro A6 c6 y6 ho6 hb
    have HO6 := Lib.hid ho6
    clear ho6
    refine hK.out _ _ ?_ (fun hHeld2 => ?_)
    · (try dsimp only); first | exact Below.trans hHeld (Below.mono hb hHeld.size) | exact hHeld | exact Below.drew hHeld | exact (by repeat (first | exact Below.refl _ _ | assumption | refine Below.alloc ?_ (by first | omega | (simp <;> omega)) _ | refine Below.setCell ?_ (by first | omega | (simp <;> omega)) _ | refine Below.drew ?_))
    clear hK K hHeld; have hHeld := hHeld2; clear hHeld2; (try simp only [Act.put, zn1, zn2, zn3])
    refine ready_one (i := 7) rfl (by kernel_rfl) (fun K hK => ?_)
    refine step_append_rd _ (by rfl) (.tmp 31) (.tmp 34) 22 (by rfl) w1.heap.size 38 i0 _ 3 48 Try.underlying22 hi hz0 hz1 hz2 rfl (by decide) (.slice A6 r c6) r (flsC (fs.drop k)) (by rfl) HO6.out _ At k c (flsC (fs.take k)) (by rfl) (HRt.out.at hHeld) (one_flsC _) h63b.out hbyb.out hHeld.size ?_
    intro A7 c7 w7 ho7 hg7 hat7
    have hb7 := hHeld.grown hg7 hHeld.size (fun g hg => (HO6.out.lt g hg).1)
    have HO7 := Lib.hid (own_rd' ho7)
    clear ho7 hat7 hg7 hb
    refine hK.out _ _ ?_ (fun hHeld2 => ?_)
    · (try dsimp only); first | exact Below.trans hHeld (Below.mono hb hHeld.size) | exact hHeld | exact Below.drew hHeld | exact (by repeat (first | exact Below.refl _ _ | assumption | refine Below.alloc ?_ (by first | omega | (simp <;> omega)) _ | refine Below.setCell ?_ (by first | omega | (simp <;> omega)) _ | refine Below.drew ?_))
    clear hK K hHeld; have hHeld := hHeld2; clear hHeld2; (try simp only [Act.put, zn1, zn2, zn3])
    refine tY (i := 8) (v := ?_) rfl ?_ hHeld ?_; rotate_left 1; focus (intro w' hSw; clear hSw; go_simp; try with_reducible rfl)
    (try simp only [Act.put, zn1, zn2, zn3])
    refine wpAnyH_done (by kernel_rfl) ?_ _
    have hk2 : (kk == kk) = true := by simp
    have hmm : (mayFs fs == mayFs fs) = true := by simp
    generalize mayFs fs = mf at *
    have HGi := Lib.hid (show FlIn w7 A7 gs from ⟨by rw [HGl.out, HG.out, flsC_app]; exact HO7.out, hokg⟩)
    replace HF := Lib.hid (HF.out.at hHeld)
    replace HB := Lib.hid (lift HB.out hHeld)
    clear hHeld hb7 HO6 HO7 HRd HRt hokg
    go_wp2_with fail
    refine (HX.out w7 HF.out).mono ?_
    rintro e w8 ⟨A8, c8, rfl, hr, hb⟩
    simp only at hr ⊢
    have HR8 := Lib.hid hr
    replace HF := Lib.hid (HF.out.at hb)
    replace HB := Lib.hid (lift HB.out hb)
    replace HGi := Lib.hid (HGi.out.at hb)
    clear hb hr
    go_wp2_with fail
    first | (refine wp_named ?_; intro W9 hW) | (refine calls_named ?_; intro W9 hW) | (refine exit_named ?_; intro W9 hW)
    have B9 : Below w8.heap.size w8 W9 := by rw [hW]; exact (by repeat (first | exact Below.refl _ _ | assumption | refine Below.alloc ?_ (by first | omega | (simp <;> omega)) _ | refine Below.setCell ?_ (by first | omega | (simp <;> omega)) _ | refine Below.drew ?_))
    replace HF := Lib.hid (HF.out.at B9)
    replace HB := Lib.hid (lift HB.out B9)
    replace HGi := Lib.hid (HGi.out.at B9)
    replace HR8 := Lib.hid (HR8.out.at B9)
    have n9 : w8.heap.size < W9.heap.size := by rw [hW]; simp <;> omega
    have x0 : W9.cell? ⟨w8.heap.size, 0, none⟩ = some (sv n) := by rw [hW]; go_simp
    have x1 : W9.cell? ⟨w8.heap.size, 1, none⟩ = some (sv p) := by rw [hW]; go_simp
    have x2 : W9.cell? ⟨w8.heap.size, 2, none⟩ = some (.bool m) := by rw [hW]; go_simp
    have x3 : W9.cell? ⟨w8.heap.size, 3, none⟩ = some (.slice A8 ds.length c8) := by rw [hW]; go_simp
    clear hW
    clear B9
    refine (HY.out A7 c7 W9 HGi.out).mono ?_
    rintro e w10 ⟨A10, c10, rfl, hr, hb⟩
    simp only at hr ⊢
    have HR10 := Lib.hid hr
    replace x0 := cellAt x0 hb (by omega)
    replace x1 := cellAt x1 hb (by omega)
    replace x2 := cellAt x2 hb (by omega)
    replace x3 := cellAt x3 hb (by omega)
    replace HF := Lib.hid (HF.out.at hb)
    replace HB := Lib.hid (lift HB.out hb)
    replace HGi := Lib.hid (HGi.out.at hb)
    replace HR8 := Lib.hid (HR8.out.at hb)
    replace n9 : w8.heap.size < w10.heap.size := ltAt n9 hb
    clear hb hr
    go_wp2_with fail
    first | (refine wp_named ?_; intro W11 hW) | (refine calls_named ?_; intro W11 hW) | (refine exit_named ?_; intro W11 hW)
    have B11 : Below w10.heap.size w10 W11 := by rw [hW]; exact (by repeat (first | exact Below.refl _ _ | assumption | refine Below.alloc ?_ (by first | omega | (simp <;> omega)) _ | refine Below.setCell ?_ (by first | omega | (simp <;> omega)) _ | refine Below.drew ?_))
    replace x0 := cellAt x0 B11 (by omega)
    replace x1 := cellAt x1 B11 (by omega)
    replace x2 := cellAt x2 B11 (by omega)
    replace x3 := cellAt x3 B11 (by omega)
    replace HF := Lib.hid (HF.out.at B11)
    replace HB := Lib.hid (lift HB.out B11)
    replace HGi := Lib.hid (HGi.out.at B11)
    replace HR8 := Lib.hid (HR8.out.at B11)
    replace n9 : w8.heap.size < W11.heap.size := ltAt n9 B11
    replace HR10 := Lib.hid (HR10.out.at B11)
    have n11 : w10.heap.size < W11.heap.size := by rw [hW]; simp <;> omega
    have y0 : W11.cell? ⟨w10.heap.size, 0, none⟩ = some (sv n) := by rw [hW]; go_simp
    have y1 : W11.cell? ⟨w10.heap.size, 1, none⟩ = some (sv p) := by rw [hW]; go_simp
    have y2 : W11.cell? ⟨w10.heap.size, 2, none⟩ = some (.bool m) := by rw [hW]; go_simp
    have y3 : W11.cell? ⟨w10.heap.size, 3, none⟩ = some (.slice A10 ds.length c10) := by rw [hW]; go_simp
    clear hW
    clear B11
    refine (HL.out W11 HF.out).mono ?_
    rintro e w12 ⟨A2, c2, A3, c3, rfl, hr2, hr3, hb⟩
    have HR2 := Lib.hid hr2
    have HR3 := Lib.hid hr3
    replace x0 := cellAt x0 hb (by omega)
    replace x1 := cellAt x1 hb (by omega)
    replace x2 := cellAt x2 hb (by omega)
    replace x3 := cellAt x3 hb (by omega)
    replace y0 := cellAt y0 hb (by omega)
    replace y1 := cellAt y1 hb (by omega)
    replace y2 := cellAt y2 hb (by omega)
    replace y3 := cellAt y3 hb (by omega)
    replace HF := Lib.hid (HF.out.at hb)
    replace HB := Lib.hid (lift HB.out hb)
    replace HGi := Lib.hid (HGi.out.at hb)
    replace HR8 := Lib.hid (HR8.out.at hb)
    replace n9 : w8.heap.size < w12.heap.size := ltAt n9 hb
    replace HR10 := Lib.hid (HR10.out.at hb)
    replace n11 : w10.heap.size < w12.heap.size := ltAt n11 hb
    clear hb hr2 hr3
    go_wp2_with fail
    refine (HM.out A7 c7 w12 HGi.out).mono ?_
    rintro e w13 ⟨A4, c4, A5, c5, rfl, hr2, hr3, hb⟩
    have HR4 := Lib.hid hr2
    have HR5 := Lib.hid hr3
    replace x0 := cellAt x0 hb (by omega)
    replace x1 := cellAt x1 hb (by omega)
    replace x2 := cellAt x2 hb (by omega)
    replace x3 := cellAt x3 hb (by omega)
    replace y0 := cellAt y0 hb (by omega)
    replace y1 := cellAt y1 hb (by omega)
    replace y2 := cellAt y2 hb (by omega)
    replace y3 := cellAt y3 hb (by omega)
    replace HF := Lib.hid (HF.out.at hb)
    replace HB := Lib.hid (lift HB.out hb)
    replace HGi := Lib.hid (HGi.out.at hb)
    replace HR8 := Lib.hid (HR8.out.at hb)
    replace n9 : w8.heap.size < w13.heap.size := ltAt n9 hb
    replace HR10 := Lib.hid (HR10.out.at hb)
    replace n11 : w10.heap.size < w13.heap.size := ltAt n11 hb
    replace HR2 := Lib.hid (HR2.out.at hb)
    replace HR3 := Lib.hid (HR3.out.at hb)
    clear hb hr2 hr3
    go_wp2_with fail
    refine (same12_any (n, p, m, ds) A8 A10 c8 c10 w13 HR8.out HR10.out (by simp only; omega)).mono ?_
    rintro e w14 ⟨rfl, hb⟩
    replace x0 := cellAt x0 hb (by omega)
    replace x1 := cellAt x1 hb (by omega)
    replace x2 := cellAt x2 hb (by omega)
    replace x3 := cellAt x3 hb (by omega)
    replace y0 := cellAt y0 hb (by omega)
    replace y1 := cellAt y1 hb (by omega)
    replace y2 := cellAt y2 hb (by omega)
    replace y3 := cellAt y3 hb (by omega)
    replace HF := Lib.hid (HF.out.at hb)
    replace HB := Lib.hid (lift HB.out hb)
    replace HGi := Lib.hid (HGi.out.at hb)
    replace HR8 := Lib.hid (HR8.out.at hb)
    replace n9 : w8.heap.size < w14.heap.size := ltAt n9 hb
    replace HR10 := Lib.hid (HR10.out.at hb)
    replace n11 : w10.heap.size < w14.heap.size := ltAt n11 hb
    replace HR2 := Lib.hid (HR2.out.at hb)
    replace HR3 := Lib.hid (HR3.out.at hb)
    replace HR4 := Lib.hid (HR4.out.at hb)
    replace HR5 := Lib.hid (HR5.out.at hb)
    clear hb
    go_wp2_with fail
    refine (Same_any A2 A4 c2 c4 L3 L3 w14 HR2.out HR4.out (by omega)).mono ?_
    rintro e w15 ⟨rfl, hb⟩
    rw [show decide (L3 = L3) = true by simp]
    replace x0 := cellAt x0 hb (by omega)
    replace x1 := cellAt x1 hb (by omega)
    replace x2 := cellAt x2 hb (by omega)
    replace x3 := cellAt x3 hb (by omega)
    replace y0 := cellAt y0 hb (by omega)
    replace y1 := cellAt y1 hb (by omega)
    replace y2 := cellAt y2 hb (by omega)
    replace y3 := cellAt y3 hb (by omega)
    replace HF := Lib.hid (HF.out.at hb)
    replace HB := Lib.hid (lift HB.out hb)
    replace HGi := Lib.hid (HGi.out.at hb)
    replace HR8 := Lib.hid (HR8.out.at hb)
    replace n9 : w8.heap.size < w15.heap.size := ltAt n9 hb
    replace HR10 := Lib.hid (HR10.out.at hb)
    replace n11 : w10.heap.size < w15.heap.size := ltAt n11 hb
    replace HR2 := Lib.hid (HR2.out.at hb)
    replace HR3 := Lib.hid (HR3.out.at hb)
    replace HR4 := Lib.hid (HR4.out.at hb)
    replace HR5 := Lib.hid (HR5.out.at hb)
    clear hb
    go_wp2_with fail
    refine (Same_any A3 A5 c3 c5 L4 L4 w15 HR3.out HR5.out (by omega)).mono ?_
    rintro e w16 ⟨rfl, hb⟩
    rw [show decide (L4 = L4) = true by simp]
    replace x0 := cellAt x0 hb (by omega)
    replace x1 := cellAt x1 hb (by omega)
    replace x2 := cellAt x2 hb (by omega)
    replace x3 := cellAt x3 hb (by omega)
    replace y0 := cellAt y0 hb (by omega)
    replace y1 := cellAt y1 hb (by omega)
    replace y2 := cellAt y2 hb (by omega)
    replace y3 := cellAt y3 hb (by omega)
    replace HF := Lib.hid (HF.out.at hb)
    replace HB := Lib.hid (lift HB.out hb)
    replace HGi := Lib.hid (HGi.out.at hb)
    replace HR8 := Lib.hid (HR8.out.at hb)
    replace n9 : w8.heap.size < w16.heap.size := ltAt n9 hb
    replace HR10 := Lib.hid (HR10.out.at hb)
    replace n11 : w10.heap.size < w16.heap.size := ltAt n11 hb
    replace HR2 := Lib.hid (HR2.out.at hb)
    replace HR3 := Lib.hid (HR3.out.at hb)
    replace HR4 := Lib.hid (HR4.out.at hb)
    replace HR5 := Lib.hid (HR5.out.at hb)
    clear hb
    go_wp2_with fail
    refine (HMy.out w16 HF.out).mono ?_
    rintro e w17 ⟨rfl, hb⟩
    replace x0 := cellAt x0 hb (by omega)
    replace x1 := cellAt x1 hb (by omega)
    replace x2 := cellAt x2 hb (by omega)
    replace x3 := cellAt x3 hb (by omega)
    replace y0 := cellAt y0 hb (by omega)
    replace y1 := cellAt y1 hb (by omega)
    replace y2 := cellAt y2 hb (by omega)
    replace y3 := cellAt y3 hb (by omega)
    replace HF := Lib.hid (HF.out.at hb)
    replace HB := Lib.hid (lift HB.out hb)
    replace HGi := Lib.hid (HGi.out.at hb)
    replace HR8 := Lib.hid (HR8.out.at hb)
    replace n9 : w8.heap.size < w17.heap.size := ltAt n9 hb
    replace HR10 := Lib.hid (HR10.out.at hb)
    replace n11 : w10.heap.size < w17.heap.size := ltAt n11 hb
    replace HR2 := Lib.hid (HR2.out.at hb)
    replace HR3 := Lib.hid (HR3.out.at hb)
    replace HR4 := Lib.hid (HR4.out.at hb)
    replace HR5 := Lib.hid (HR5.out.at hb)
    clear hb
    go_wp2_with fail
    refine (HN.out A7 c7 w17 HGi.out).mono ?_
    rintro e w18 ⟨rfl, hb⟩
    replace x0 := cellAt x0 hb (by omega)
    replace x1 := cellAt x1 hb (by omega)
    replace x2 := cellAt x2 hb (by omega)
    replace x3 := cellAt x3 hb (by omega)
    replace y0 := cellAt y0 hb (by omega)
    replace y1 := cellAt y1 hb (by omega)
    replace y2 := cellAt y2 hb (by omega)
    replace y3 := cellAt y3 hb (by omega)
    replace HF := Lib.hid (HF.out.at hb)
    replace HB := Lib.hid (lift HB.out hb)
    replace HGi := Lib.hid (HGi.out.at hb)
    replace HR8 := Lib.hid (HR8.out.at hb)
    replace n9 : w8.heap.size < w18.heap.size := ltAt n9 hb
    replace HR10 := Lib.hid (HR10.out.at hb)
    replace n11 : w10.heap.size < w18.heap.size := ltAt n11 hb
    replace HR2 := Lib.hid (HR2.out.at hb)
    replace HR3 := Lib.hid (HR3.out.at hb)
    replace HR4 := Lib.hid (HR4.out.at hb)
    replace HR5 := Lib.hid (HR5.out.at hb)
    clear hb
    go_wp2_with fail
    go_ret
    exact ⟨rfl, HB.out⟩
end Od
end Go.Proofs.Ytgfdcmlmgeoimaa
end
