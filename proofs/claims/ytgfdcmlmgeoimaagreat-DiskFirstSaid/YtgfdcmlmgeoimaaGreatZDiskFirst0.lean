/- My texts, joined for the claim: LdC. -/
import Derived.Test.YtgfdcmlmgeoimaaGreatZB12
import Derived.Test.YtgfdcmlmgeoimaaGreatZB11
import Derived.Test.YtgfdcmlmgeoimaaGreatZB13

section
/- The walk of the law DiskFirst. (bel2) -/
namespace Go.Proofs.YtgfdcmlmgeoimaaGreat
open Go.RowKit Go.Sort
set_option linter.unusedSimpArgs false
namespace Od

theorem may_own {u t : Str} (hu : kindS u ≠ 0) (ht : t.length ≤ 300) : mayF (pathU etcS u, t, []) = true := by
  unfold mayF mayW
  simp only
  rw [way_pathU (by decide) hu]
  have : decide (20000 < t.length) = false := by rw [decide_eq_false_iff_not]; omega
  simp [this]
theorem may_null {u : Str} (hu : kindS u ≠ 0) : mayF (pathU etcS u, [], nullS) = true := by
  unfold mayF mayW
  simp only
  rw [way_pathU (by decide) hu]
  simp
theorem find_first {L : List Fl} {u o : Str} {f : Fl} (hu : kindS u ≠ 0) (hf : f.1 = pathU etcS u) (hn : atF L f.1 = none) (hl : f.2.2 = []) (hm : mayFs L = true) (hm2 : mayFs (L ++ [f]) = true) (he : (findF L o).2 = 0) :
    (findF L o).1.1 = u ∨ (findF (L ++ [f]) o).1.2.1 = f.1 ∨ findF (L ++ [f]) o = findF L o := by
  by_cases ho : kindS o = 0
  · rw [find_name hm ho] at he; exact absurd he (by decide)
  · rw [find_go hm ho] at he ⊢
    rw [find_go hm2 ho]
    rcases go_etc hu hf hn hl 9 [o] o (goF L 9 [o] o).1 (Prod.ext rfl he) with h | h | h
    · exact .inl h
    · exact .inr (.inl h)
    · exact .inr (.inr (h.trans (Prod.ext rfl he.symm)))
/-- What the law asks of the files that are left. -/
theorem first_facts {L : List Fl} {u o x : Str} (hm : mayFs L = true) (hl : L.length < 120) (hu : kindS u ≠ 0) (hx : x.length ≤ 300) (hn : ∀ f ∈ L, f.1 ≠ pathU etcS u) :
    findF (L ++ [(pathU etcS u, x, [])]) u = ((u, pathU etcS u, false, dropsF (L ++ [(pathU etcS u, x, [])]) u), 0) ∧ findF (L ++ [(pathU etcS u, [], nullS)]) u = ((u, pathU etcS u, true, []), 0) ∧
      ((findF L o).2 = 0 → (findF L o).1.1 = u ∨ (findF (L ++ [(pathU etcS u, x, [])]) o).1.2.1 = pathU etcS u ∨ findF (L ++ [(pathU etcS u, x, [])]) o = findF L o) := by
  have hat : atF L (pathU etcS u) = none := at_none.2 hn
  have h1 := mayFs_snoc (f := (pathU etcS u, x, [])) hm hl (may_own hu hx) hat
  have h2 := mayFs_snoc (f := (pathU etcS u, [], nullS)) hm hl (may_null hu) hat
  exact ⟨(find_etc hu rfl hat h1).1 rfl, (find_etc hu rfl hat h2).2 rfl, fun he => find_first hu rfl hat rfl hm h1 he⟩
theorem find_nm {L : List Fl} {o : Str} (he : (findF L o).2 = 0) : (findF L o).1.1.length ≤ 60 := kind_len (find_kind (x := (findF L o).1) (Prod.ext rfl he)).2.1
set_option maxRecDepth 100000 in
set_option maxHeartbeats 16000000 in
theorem diskFirst_any (A : Option Addr) (c : Nat) (fs : List Fl) (u o x : Str) (w : World) (h : FlIn w A fs) (hl : fs.length * 48 ≤ 140737488351232) (hu : u.length ≤ 140737488351232) (ho : o.length ≤ 140737488351232) (hx : x.length ≤ 140737488351232) :
    Calls Tryz.prog 5 #[.slice A fs.length c, sv u, sv o, sv x] w fun e w' => e = .returned (.bool true) ∧ Below w.heap.size w w' := by
  obtain ⟨i0, hi, hz0, hz1, hz2⟩ := info_parts infoFl
  have HF := Lib.hid h
  clear h
  obtain ⟨m, hm0⟩ : ∃ m, m = min x.length 300 := ⟨_, rfl⟩
  have hmin : min (x.length : Int) 300 = (m : Int) := by omega
  have k1 : (0 : Int) ≤ (m : Int) := by omega
  have k2 : (m : Int) ≤ (x.length : Int) := by omega
  have hex := extract_str x 0 m
  rw [List.drop_zero] at hex
  have htx : (x.take m).length ≤ 300 := by rw [List.length_take]; omega
  generalize x.take m = tx at *
  clear hm0
  obtain ⟨q, hq⟩ : ∃ q, q = pathU etcS u := ⟨_, rfl⟩
  have e0 : ((⟨#[101, 116, 99, 47]⟩ : ByteArray) ++ ⟨u.toArray⟩) = ⟨q.toArray⟩ := by rw [hq]; exact str_add [101, 116, 99, 47] u
  have n0 : ¬ 9223372036854775807 < 4 + u.length := by omega
  have hfm := fun (L : List Fl) (h1 : mayFs L = true) (h2 : L.length < 120) (h3 : kindS u ≠ 0) (h4 : ∀ f ∈ L, f.1 ≠ pathU etcS u) => first_facts (o := o) h1 h2 h3 htx h4
  rw [← hq] at hfm
  have hql : q.length ≤ u.length + 4 := by rw [hq]; unfold pathU etcS; simp
  have HFm := Lib.hid hfm
  clear hfm hq
  go_enter Tryz.func5, Tryz.ntmps5
  go_wp2_with fail
  refine (shown12_any w).mono ?_
  rintro e w1 ⟨rfl, hb⟩
  replace HF := Lib.hid (HF.out.at hb)
  have HB := Lib.hid hb
  clear hb
  go_wp2_with fail
  clear hmin k1 k2 hex
  have hov : ∀ f : Fl, (fun f : Fl => !(f.1 == q)) f = !(f.1 == q) := fun _ => rfl
  generalize hFd : (fun f : Fl => !(f.1 == q)) = F at *
  go_loopw [9, 31] (fun v i wr => ∃ (k : Nat) (Ao : Option Addr) (co : Nat), k ≤ fs.length ∧ v = .slice Ao ((fs.take k).filter F).length co ∧ i = .int .i64 k ∧ Hid (wr.ownsRow w1.heap.size 37 3 (.slice Ao ((fs.take k).filter F).length co) ((fs.take k).filter F).length (flsC ((fs.take k).filter F))) ∧ Hid (Below w1.heap.size w1 wr)) (fun _ i _ => fs.length - (intOf i).toNat)
  case atStart => exact ⟨0, none, 0, Nat.zero_le _, rfl, rfl, World.ownsRow_nil _ _ _ _, Below.refl _ _⟩
  case round =>
    obtain ⟨k, Ao, co, hk, rfl, rfl, HO, HBk⟩ := hrel
    obtain ⟨w6, rfl⟩ : ∃ wo : World, wo = wr := ⟨_, rfl⟩
    have hz6 := HBk.out.size
    have hol : ((fs.take k).filter F).length ≤ k := Nat.le_trans (List.length_filter_le _ _) (by rw [List.length_take]; omega)
    by_cases hlt : k < fs.length
    · obtain ⟨b2, o2, hA, hB2, x0, x1, x2⟩ := (HF.out.at HBk.out).rd.fl hlt
      have ht3 := filterD_take (F := F) hlt
      have hq3 := hov fs[k]
      subst hA
      generalize fs[k] = p at x0 x1 x2 ht3 hq3
      obtain ⟨fp, ft, fl⟩ := p
      simp only at x0 x1 x2 hq3
      generalize (fs.take k).filter F = O at *
      generalize hfb : F (fp, ft, fl) = fb at ht3 hq3
      have HT3 := Lib.hid ht3
      have HQ3 := Lib.hid hq3
      have i1 : (0 : Int) ≤ (k : Int) := by omega
      have i2 : (k : Int) < (fs.length : Int) := by omega
      clear ht3 hq3 hfb
      go_upto_region 8 with fail
      first | (refine wp_named ?_; intro W9 hW) | (refine calls_named ?_; intro W9 hW) | (refine exit_named ?_; intro W9 hW)
      have B9 : Below w6.heap.size w6 W9 := by rw [hW]; exact (by repeat (first | exact Below.refl _ _ | assumption | refine Below.alloc ?_ (by first | omega | (simp <;> omega)) _ | refine Below.setCell ?_ (by first | omega | (simp <;> omega)) _ | refine Below.drew ?_))
      replace HO := Lib.hid (own_on HO.out B9)
      have m7 : w6.heap.size < W9.heap.size := by rw [hW]; simp <;> omega
      have c0 : W9.cell? ⟨w6.heap.size, 0, none⟩ = some (sv fp) := by rw [hW]; go_simp
      have c1 : W9.cell? ⟨w6.heap.size, 1, none⟩ = some (sv ft) := by rw [hW]; go_simp
      have c2 : W9.cell? ⟨w6.heap.size, 2, none⟩ = some (sv fl) := by rw [hW]; go_simp
      clear hW
      have HB9 := Lib.hid (lift HBk.out B9)
      have hz9 := HB9.out.size
      clear B9 x0 x1 x2
      cases hs : (fp == q)
      · have HNx := Lib.hid (show (fs.take (k + 1)).filter F = O ++ [(fp, ft, fl)] by rw [HT3.out, HQ3.out, hs]; rfl)
        have h63 := Lib.hid (show O.length + 1 ≤ maxLen by unfold maxLen; omega)
        have hby := Lib.hid (show (O.length + 1) * 48 ≤ 140737488355328 by omega)
        clear HT3 HQ3
        go_wp2_with (first | (at_builtin; refine wpList_pushm W9 W9 (by rfl) (.tmp 40) (.tmp 42) 22 (by rfl) w1.heap.size 37 i0 _ 3 48 Tryz.underlying22 hi hz0 hz1 hz2 rfl (by decide) _ _ _ (by rfl) HO.out [sv fp, sv ft, sv fl] W9.heap.size rfl (by rfl) rfl (one_flC (fp, ft, fl)) h63.out hby.out hz9 (Below.refl _ _) ?_; intro A10 c10 w10 hown hbel hg hat; have HO10 := Lib.hid hown; have HBa := Lib.hid hbel; clear hown hbel hg hat) | fail)
        go_roundw
        case rel => exact ⟨k + 1, A10, c10, by omega, by rw [HNx.out, List.length_append]; rfl, by go_num, by rw [HNx.out, List.length_append, flsC_app, flsC_one]; exact HO10.out, HB9.out.trans HBa.out⟩
        case measure => simp [intOf]; omega
      · have HNx := Lib.hid (show (fs.take (k + 1)).filter F = O by rw [HT3.out, HQ3.out, hs]; simp)
        clear HT3 HQ3
        go_wp2_with fail
        go_roundw
        case rel => exact ⟨k + 1, Ao, co, by omega, by rw [HNx.out], by go_num, by rw [HNx.out]; exact HO.out, HB9.out⟩
        case measure => simp [intOf]; omega
    · obtain rfl : k = fs.length := by omega
      rw [List.take_length] at HO hol ⊢
      have hLk : ∀ f ∈ fs.filter F, f ∈ fs ∧ F f = true := fun f hf => List.mem_filter.1 hf
      generalize fs.filter F = L at *
      have HLi := Lib.hid (show FlIn w6 Ao L from ⟨own_rd' HO.out, fun f hf => HF.out.ok f (hLk f hf).1⟩)
      have HLn := Lib.hid (show ∀ f ∈ L, f.1 ≠ q from fun f hf e => by
        have h2 := (hLk f hf).2
        rw [hov f, e] at h2
        simp at h2)
      have HBz := Lib.hid (lift HB.out HBk.out)
      clear hLk HO HB HBk hov hFd
      go_wp2_with fail
      refine (MayD_any Ao co L w6 HLi.out (by omega)).mono ?_
      rintro e w7 ⟨rfl, hb⟩
      replace HLi := Lib.hid (HLi.out.at hb)
      replace HBz := Lib.hid (lift HBz.out hb)
      clear hb
      cases hm : mayFs L
      · skip
        go_wp2_with fail
        go_ret
        exact ⟨rfl, HBz.out⟩
      · by_cases h120 : 120 ≤ L.length
        · have d120 : decide (120 ≤ L.length) = true := by simpa using h120
          go_wp2_with fail
          go_ret
          exact ⟨rfl, HBz.out⟩
        · have d120 : decide (120 ≤ L.length) = false := by simpa using h120
          go_wp2_with fail
          refine (May1_any u w7 (by omega)).mono ?_
          rintro e w8 ⟨rfl, hb⟩
          replace HLi := Lib.hid (HLi.out.at hb)
          replace HBz := Lib.hid (lift HBz.out hb)
          clear hb
          cases hk : (kindS u != 0)
          · skip
            go_wp2_with fail
            go_ret
            exact ⟨rfl, HBz.out⟩
          · obtain ⟨f1, f2, f3⟩ := HFm.out L hm (by omega) (by simpa using hk) HLn.out
            have hul := kind_len (show kindS u ≠ 0 by simpa using hk)
            have hnm := find_nm (L := L) (o := o)
            have hd1 := find_len L o
            have HX := Lib.hid (fun W (h : FlIn W Ao L) => Find_any Ao co L o W h (by omega) (by omega))
            have HY : Hid (∀ A5 c5 W, FlIn W A5 (L ++ [(q, tx, [])]) → Calls Tryz.prog 9 #[.slice A5 (L.length + 1) c5, sv u] W (FindR (findF (L ++ [(q, tx, [])]) u) W)) := Lib.hid (fun A5 c5 W h => by
              have := Find_any A5 c5 (L ++ [(q, tx, [])]) u W h (by simp; omega) (by omega)
              rwa [List.length_append] at this)
            have HY2 : Hid (∀ A5 c5 W, FlIn W A5 (L ++ [(q, tx, [])]) → Calls Tryz.prog 9 #[.slice A5 (L.length + 1) c5, sv o] W (FindR (findF (L ++ [(q, tx, [])]) o) W)) := Lib.hid (fun A5 c5 W h => by
              have := Find_any A5 c5 (L ++ [(q, tx, [])]) o W h (by simp; omega) (by omega)
              rwa [List.length_append] at this)
            have HM : Hid (∀ A5 c5 W, FlIn W A5 (L ++ [(q, [], nullS)]) → Calls Tryz.prog 9 #[.slice A5 (L.length + 1) c5, sv u] W (FindR (findF (L ++ [(q, [], nullS)]) u) W)) := Lib.hid (fun A5 c5 W h => by
              have := Find_any A5 c5 (L ++ [(q, [], nullS)]) u W h (by simp; omega) (by omega)
              rwa [List.length_append] at this)
            have hok := HLi.out.ok
            have hok1 : okFl (q, tx, ([] : Str)) := ⟨by simp only; omega, by simp only; omega, by simp⟩
            have hok2 : okFl (q, ([] : Str), nullS) := ⟨by simp only; omega, by simp, by show nullS.length ≤ _; decide⟩
            rw [f1] at HY
            rw [f2] at HM
            generalize findF (L ++ [(q, tx, [])]) o = R2 at *
            generalize findF L o = R1 at *
            generalize dropsF (L ++ [(q, tx, [])]) u = Dr at *
            obtain ⟨⟨n1, p1, m1, d1⟩, k1⟩ := R1
            obtain ⟨⟨n2, p2, m2, d2⟩, k2⟩ := R2
            simp only at f3 hnm hd1
            have HF3 := Lib.hid f3
            have h63 := Lib.hid (show L.length ≤ maxLen by unfold maxLen; omega)
            have hby := Lib.hid (show L.length * 48 ≤ 140737488355328 by omega)
            have h63b := Lib.hid (show L.length + 1 ≤ maxLen by unfold maxLen; omega)
            have hbyb := Lib.hid (show (L.length + 1) * 48 ≤ 140737488355328 by omega)
            clear f1 f2 f3 HFm HLn
            go_wp2_with fail
            refine (HX.out w8 HLi.out).mono ?_
            rintro e w9 ⟨A9, c9, rfl, hr9, hb⟩
            simp only at hr9 ⊢
            have HR9 := Lib.hid hr9
            replace HLi := Lib.hid (HLi.out.at hb)
            replace HBz := Lib.hid (lift HBz.out hb)
            clear hb HX hr9
            go_upto_region 14 with fail
            first | (refine wp_named ?_; intro W10 hW) | (refine calls_named ?_; intro W10 hW) | (refine exit_named ?_; intro W10 hW)
            have B10 : Below w9.heap.size w9 W10 := by rw [hW]; exact (by repeat (first | exact Below.refl _ _ | assumption | refine Below.alloc ?_ (by first | omega | (simp <;> omega)) _ | refine Below.setCell ?_ (by first | omega | (simp <;> omega)) _ | refine Below.drew ?_))
            replace HLi := Lib.hid (HLi.out.at B10)
            replace HBz := Lib.hid (lift HBz.out B10)
            replace HR9 := Lib.hid (HR9.out.at B10)
            have n9 : w9.heap.size < W10.heap.size := by rw [hW]; simp <;> omega
            have a0 : W10.cell? ⟨w9.heap.size, 0, none⟩ = some (sv n1) := by rw [hW]; go_simp
            have a1 : W10.cell? ⟨w9.heap.size, 1, none⟩ = some (sv p1) := by rw [hW]; go_simp
            have a2 : W10.cell? ⟨w9.heap.size, 2, none⟩ = some (.bool m1) := by rw [hW]; go_simp
            have a3 : W10.cell? ⟨w9.heap.size, 3, none⟩ = some (.slice A9 d1.length c9) := by rw [hW]; go_simp
            clear hW
            clear B10
            go_upto_region 15 with (first | (at_builtin; refine wpList_append_first W10 (by rfl) (.const (.slice none 0 0)) (.tmp 64) 22 (by rfl) W10.heap.size 37 i0 _ 3 48 Tryz.underlying22 hi hz0 hz1 hz2 rfl (by decide) (by rfl) W10.heap.size Ao L.length co (flsC L) (by rfl) HLi.out.rd (one_flsC L) h63.out hby.out (Nat.le_refl _) ?_; intro A10 c10 w10 hown hbel; have HO10 := Lib.hid hown; have HBa := Lib.hid hbel; have hz10 := hbel.size; clear hown hbel) | (at_builtin; refine wpList_pushm w10 w10 (by rfl) (.tmp 65) (.tmp 70) 22 (by rfl) W10.heap.size 37 i0 _ 3 48 Tryz.underlying22 hi hz0 hz1 hz2 rfl (by decide) _ _ _ (by rfl) HO10.out [sv q, sv tx, sv []] w10.heap.size rfl (by rfl) rfl (one_flC (q, tx, [])) h63b.out hbyb.out hz10 (Below.refl _ _) ?_; intro A11 c11 w11 hown hbel hg hat; have HO11 := Lib.hid hown; have HBb := Lib.hid hbel; clear hown hbel hg hat) | fail)
            have HW := Lib.hid (FlIn.snoc hok HO11.out hok1)
            have hb := HBa.out.trans HBb.out
            clear HO10 HO11 HBa HBb hz10
            replace a0 := cellAt a0 hb (by omega)
            replace a1 := cellAt a1 hb (by omega)
            replace a2 := cellAt a2 hb (by omega)
            replace a3 := cellAt a3 hb (by omega)
            replace HLi := Lib.hid (HLi.out.at hb)
            replace HBz := Lib.hid (lift HBz.out hb)
            replace HR9 := Lib.hid (HR9.out.at hb)
            replace n9 : w9.heap.size < w11.heap.size := ltAt n9 hb
            clear hb
            go_upto_region 16 with (first | (at_builtin; refine wpList_append_first w11 (by rfl) (.const (.slice none 0 0)) (.tmp 72) 22 (by rfl) w11.heap.size 37 i0 _ 3 48 Tryz.underlying22 hi hz0 hz1 hz2 rfl (by decide) (by rfl) w11.heap.size Ao L.length co (flsC L) (by rfl) HLi.out.rd (one_flsC L) h63.out hby.out (Nat.le_refl _) ?_; intro A12 c12 w12 hown hbel; have HO12 := Lib.hid hown; have HBa := Lib.hid hbel; have hz12 := hbel.size; clear hown hbel) | (at_builtin; refine wpList_pushm w12 w12 (by rfl) (.tmp 73) (.tmp 77) 22 (by rfl) w11.heap.size 37 i0 _ 3 48 Tryz.underlying22 hi hz0 hz1 hz2 rfl (by decide) _ _ _ (by rfl) HO12.out [sv q, sv [], sv nullS] w12.heap.size rfl (by rfl) rfl (one_flC (q, [], nullS)) h63b.out hbyb.out hz12 (Below.refl _ _) ?_; intro A13 c13 w13 hown hbel hg hat; have HO13 := Lib.hid hown; have HBb := Lib.hid hbel; clear hown hbel hg hat) | fail)
            have HK := Lib.hid (FlIn.snoc hok HO13.out hok2)
            have hb := HBa.out.trans HBb.out
            clear HO12 HO13 HBa HBb hz12
            replace a0 := cellAt a0 hb (by omega)
            replace a1 := cellAt a1 hb (by omega)
            replace a2 := cellAt a2 hb (by omega)
            replace a3 := cellAt a3 hb (by omega)
            replace HLi := Lib.hid (HLi.out.at hb)
            replace HBz := Lib.hid (lift HBz.out hb)
            replace HR9 := Lib.hid (HR9.out.at hb)
            replace n9 : w9.heap.size < w13.heap.size := ltAt n9 hb
            replace HW := Lib.hid (HW.out.at hb)
            clear hb
            go_wp2_with fail
            refine (HY.out A11 c11 w13 HW.out).mono ?_
            rintro e w14 ⟨A14, c14, rfl, _, hb⟩
            simp only
            replace a0 := cellAt a0 hb (by omega)
            replace a1 := cellAt a1 hb (by omega)
            replace a2 := cellAt a2 hb (by omega)
            replace a3 := cellAt a3 hb (by omega)
            replace HLi := Lib.hid (HLi.out.at hb)
            replace HBz := Lib.hid (lift HBz.out hb)
            replace HR9 := Lib.hid (HR9.out.at hb)
            replace n9 : w9.heap.size < w14.heap.size := ltAt n9 hb
            replace HW := Lib.hid (HW.out.at hb)
            replace HK := Lib.hid (HK.out.at hb)
            clear hb HY
            go_upto_region 17 with fail
            first | (refine wp_named ?_; intro W15 hW) | (refine calls_named ?_; intro W15 hW) | (refine exit_named ?_; intro W15 hW)
            have B15 : Below w14.heap.size w14 W15 := by rw [hW]; exact (by repeat (first | exact Below.refl _ _ | assumption | refine Below.alloc ?_ (by first | omega | (simp <;> omega)) _ | refine Below.setCell ?_ (by first | omega | (simp <;> omega)) _ | refine Below.drew ?_))
            replace a0 := cellAt a0 B15 (by omega)
            replace a1 := cellAt a1 B15 (by omega)
            replace a2 := cellAt a2 B15 (by omega)
            replace a3 := cellAt a3 B15 (by omega)
            replace HLi := Lib.hid (HLi.out.at B15)
            replace HBz := Lib.hid (lift HBz.out B15)
            replace HR9 := Lib.hid (HR9.out.at B15)
            replace n9 : w9.heap.size < W15.heap.size := ltAt n9 B15
            replace HW := Lib.hid (HW.out.at B15)
            replace HK := Lib.hid (HK.out.at B15)
            have n14 : w14.heap.size < W15.heap.size := by rw [hW]; simp <;> omega
            have b0 : W15.cell? ⟨w14.heap.size, 0, none⟩ = some (sv u) := by rw [hW]; go_simp
            have b1 : W15.cell? ⟨w14.heap.size, 1, none⟩ = some (sv q) := by rw [hW]; go_simp
            have b2 : W15.cell? ⟨w14.heap.size, 2, none⟩ = some (.bool false) := by rw [hW]; go_simp
            clear hW
            clear B15
            go_wp2_with fail
            refine (HM.out A13 c13 W15 HK.out).mono ?_
            rintro e w16 ⟨A16, c16, rfl, _, hb⟩
            simp only
            replace a0 := cellAt a0 hb (by omega)
            replace a1 := cellAt a1 hb (by omega)
            replace a2 := cellAt a2 hb (by omega)
            replace a3 := cellAt a3 hb (by omega)
            replace b0 := cellAt b0 hb (by omega)
            replace b1 := cellAt b1 hb (by omega)
            replace b2 := cellAt b2 hb (by omega)
            replace HLi := Lib.hid (HLi.out.at hb)
            replace HBz := Lib.hid (lift HBz.out hb)
            replace HR9 := Lib.hid (HR9.out.at hb)
            replace n9 : w9.heap.size < w16.heap.size := ltAt n9 hb
            replace HW := Lib.hid (HW.out.at hb)
            replace HK := Lib.hid (HK.out.at hb)
            replace n14 : w14.heap.size < w16.heap.size := ltAt n14 hb
            clear hb HM
            go_upto_region 18 with fail
            first | (refine wp_named ?_; intro W17 hW) | (refine calls_named ?_; intro W17 hW) | (refine exit_named ?_; intro W17 hW)
            have B17 : Below w16.heap.size w16 W17 := by rw [hW]; exact (by repeat (first | exact Below.refl _ _ | assumption | refine Below.alloc ?_ (by first | omega | (simp <;> omega)) _ | refine Below.setCell ?_ (by first | omega | (simp <;> omega)) _ | refine Below.drew ?_))
            replace a0 := cellAt a0 B17 (by omega)
            replace a1 := cellAt a1 B17 (by omega)
            replace a2 := cellAt a2 B17 (by omega)
            replace a3 := cellAt a3 B17 (by omega)
            replace b0 := cellAt b0 B17 (by omega)
            replace b1 := cellAt b1 B17 (by omega)
            replace b2 := cellAt b2 B17 (by omega)
            replace HLi := Lib.hid (HLi.out.at B17)
            replace HBz := Lib.hid (lift HBz.out B17)
            replace HR9 := Lib.hid (HR9.out.at B17)
            replace n9 : w9.heap.size < W17.heap.size := ltAt n9 B17
            replace HW := Lib.hid (HW.out.at B17)
            replace HK := Lib.hid (HK.out.at B17)
            replace n14 : w14.heap.size < W17.heap.size := ltAt n14 B17
            have n16 : w16.heap.size < W17.heap.size := by rw [hW]; simp <;> omega
            have y0 : W17.cell? ⟨w16.heap.size, 0, none⟩ = some (sv u) := by rw [hW]; go_simp
            have y2 : W17.cell? ⟨w16.heap.size, 2, none⟩ = some (.bool true) := by rw [hW]; go_simp
            have y3 : W17.cell? ⟨w16.heap.size, 3, none⟩ = some (.slice A16 0 c16) := by rw [hW]; go_simp
            clear hW
            clear B17
            go_wp2_with fail
            refine (HY2.out A11 c11 W17 HW.out).mono ?_
            rintro e w18 ⟨A18, c18, rfl, hr18, hb⟩
            simp only at hr18 ⊢
            have HR18 := Lib.hid hr18
            replace a0 := cellAt a0 hb (by omega)
            replace a1 := cellAt a1 hb (by omega)
            replace a2 := cellAt a2 hb (by omega)
            replace a3 := cellAt a3 hb (by omega)
            replace b0 := cellAt b0 hb (by omega)
            replace b1 := cellAt b1 hb (by omega)
            replace b2 := cellAt b2 hb (by omega)
            replace y0 := cellAt y0 hb (by omega)
            replace y2 := cellAt y2 hb (by omega)
            replace y3 := cellAt y3 hb (by omega)
            replace HLi := Lib.hid (HLi.out.at hb)
            replace HBz := Lib.hid (lift HBz.out hb)
            replace HR9 := Lib.hid (HR9.out.at hb)
            replace n9 : w9.heap.size < w18.heap.size := ltAt n9 hb
            replace HW := Lib.hid (HW.out.at hb)
            replace HK := Lib.hid (HK.out.at hb)
            replace n14 : w14.heap.size < w18.heap.size := ltAt n14 hb
            replace n16 : w16.heap.size < w18.heap.size := ltAt n16 hb
            clear hb HY2 hr18
            go_upto_region 19 with fail
            first | (refine wp_named ?_; intro W19 hW) | (refine calls_named ?_; intro W19 hW) | (refine exit_named ?_; intro W19 hW)
            have B19 : Below w18.heap.size w18 W19 := by rw [hW]; exact (by repeat (first | exact Below.refl _ _ | assumption | refine Below.alloc ?_ (by first | omega | (simp <;> omega)) _ | refine Below.setCell ?_ (by first | omega | (simp <;> omega)) _ | refine Below.drew ?_))
            replace a0 := cellAt a0 B19 (by omega)
            replace a1 := cellAt a1 B19 (by omega)
            replace a2 := cellAt a2 B19 (by omega)
            replace a3 := cellAt a3 B19 (by omega)
            replace b0 := cellAt b0 B19 (by omega)
            replace b1 := cellAt b1 B19 (by omega)
            replace b2 := cellAt b2 B19 (by omega)
            replace y0 := cellAt y0 B19 (by omega)
            replace y2 := cellAt y2 B19 (by omega)
            replace y3 := cellAt y3 B19 (by omega)
            replace HLi := Lib.hid (HLi.out.at B19)
            replace HBz := Lib.hid (lift HBz.out B19)
            replace HR9 := Lib.hid (HR9.out.at B19)
            replace n9 : w9.heap.size < W19.heap.size := ltAt n9 B19
            replace HW := Lib.hid (HW.out.at B19)
            replace HK := Lib.hid (HK.out.at B19)
            replace n14 : w14.heap.size < W19.heap.size := ltAt n14 B19
            replace n16 : w16.heap.size < W19.heap.size := ltAt n16 B19
            replace HR18 := Lib.hid (HR18.out.at B19)
            have n18 : w18.heap.size < W19.heap.size := by rw [hW]; simp <;> omega
            have z0 : W19.cell? ⟨w18.heap.size, 0, none⟩ = some (sv n2) := by rw [hW]; go_simp
            have z1 : W19.cell? ⟨w18.heap.size, 1, none⟩ = some (sv p2) := by rw [hW]; go_simp
            have z2 : W19.cell? ⟨w18.heap.size, 2, none⟩ = some (.bool m2) := by rw [hW]; go_simp
            have z3 : W19.cell? ⟨w18.heap.size, 3, none⟩ = some (.slice A18 d2.length c18) := by rw [hW]; go_simp
            clear hW
            clear B19
            have eu : (u == u) = true := by simp
            have eq : (q == q) = true := by simp
            go_upto_region 21 with fail
            by_cases he : k1 = 0
            · have hek : (k1 == (0 : Int)) = true := by simpa using he
              have hnl := hnm he
              have H3 := HF3.out he
              clear HF3 hnm
              cases e1 : (n1 == u)
              · cases e2 : (n2 == u)
                · go_wp2_with fail
                  refine (Template1_any n1 W19 (by omega)).mono ?_
                  rintro e w20 ⟨rfl, hb⟩
                  replace a0 := cellAt a0 hb (by omega)
                  replace a1 := cellAt a1 hb (by omega)
                  replace a2 := cellAt a2 hb (by omega)
                  replace a3 := cellAt a3 hb (by omega)
                  replace b0 := cellAt b0 hb (by omega)
                  replace b1 := cellAt b1 hb (by omega)
                  replace b2 := cellAt b2 hb (by omega)
                  replace y0 := cellAt y0 hb (by omega)
                  replace y2 := cellAt y2 hb (by omega)
                  replace y3 := cellAt y3 hb (by omega)
                  replace z0 := cellAt z0 hb (by omega)
                  replace z1 := cellAt z1 hb (by omega)
                  replace z2 := cellAt z2 hb (by omega)
                  replace z3 := cellAt z3 hb (by omega)
                  replace HLi := Lib.hid (HLi.out.at hb)
                  replace HBz := Lib.hid (lift HBz.out hb)
                  replace HR9 := Lib.hid (HR9.out.at hb)
                  replace n9 : w9.heap.size < w20.heap.size := ltAt n9 hb
                  replace HW := Lib.hid (HW.out.at hb)
                  replace HK := Lib.hid (HK.out.at hb)
                  replace n14 : w14.heap.size < w20.heap.size := ltAt n14 hb
                  replace n16 : w16.heap.size < w20.heap.size := ltAt n16 hb
                  replace HR18 := Lib.hid (HR18.out.at hb)
                  replace n18 : w18.heap.size < w20.heap.size := ltAt n18 hb
                  clear hb
                  cases e3 : (templS n1 == u)
                  · cases e4 : (p2 == q)
                    · rcases H3 with h | h | h
                      · rw [h] at e1; simp at e1
                      · rw [h] at e4; simp at e4
                      · simp only [Prod.mk.injEq] at h
                        obtain ⟨⟨h5, h6, h7, h8⟩, h9⟩ := h
                        subst h5 h6 h7 h8 h9
                        have ek : (k2 == k2) = true := by simp
                        go_wp2_with fail
                        refine (same12_any (n2, p2, m2, d2) A9 A18 c9 c18 w20 HR9.out HR18.out (by simp only; omega)).mono ?_
                        rintro e w21 ⟨rfl, hb⟩
                        replace a0 := cellAt a0 hb (by omega)
                        replace a1 := cellAt a1 hb (by omega)
                        replace a2 := cellAt a2 hb (by omega)
                        replace a3 := cellAt a3 hb (by omega)
                        replace b0 := cellAt b0 hb (by omega)
                        replace b1 := cellAt b1 hb (by omega)
                        replace b2 := cellAt b2 hb (by omega)
                        replace y0 := cellAt y0 hb (by omega)
                        replace y2 := cellAt y2 hb (by omega)
                        replace y3 := cellAt y3 hb (by omega)
                        replace z0 := cellAt z0 hb (by omega)
                        replace z1 := cellAt z1 hb (by omega)
                        replace z2 := cellAt z2 hb (by omega)
                        replace z3 := cellAt z3 hb (by omega)
                        replace HLi := Lib.hid (HLi.out.at hb)
                        replace HBz := Lib.hid (lift HBz.out hb)
                        replace HR9 := Lib.hid (HR9.out.at hb)
                        replace n9 : w9.heap.size < w21.heap.size := ltAt n9 hb
                        replace HW := Lib.hid (HW.out.at hb)
                        replace HK := Lib.hid (HK.out.at hb)
                        replace n14 : w14.heap.size < w21.heap.size := ltAt n14 hb
                        replace n16 : w16.heap.size < w21.heap.size := ltAt n16 hb
                        replace HR18 := Lib.hid (HR18.out.at hb)
                        replace n18 : w18.heap.size < w21.heap.size := ltAt n18 hb
                        clear hb
                        go_wp2_with fail
                        go_ret
                        exact ⟨rfl, HBz.out⟩
                    · skip
                      go_wp2_with fail
                      go_ret
                      exact ⟨rfl, HBz.out⟩
                  · skip
                    go_wp2_with fail
                    go_ret
                    exact ⟨rfl, HBz.out⟩
                · skip
                  go_wp2_with fail
                  go_ret
                  exact ⟨rfl, HBz.out⟩
              · skip
                go_wp2_with fail
                go_ret
                exact ⟨rfl, HBz.out⟩
            · have hek : (k1 == (0 : Int)) = false := by simpa using he
              go_wp2_with fail
              go_ret
              exact ⟨rfl, HBz.out⟩
end Od
end Go.Proofs.YtgfdcmlmgeoimaaGreat
end
