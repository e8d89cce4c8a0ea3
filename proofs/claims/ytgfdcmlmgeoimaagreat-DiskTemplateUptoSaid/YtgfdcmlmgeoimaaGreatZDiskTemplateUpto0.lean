/- My texts, joined for the claim: LdE. -/
import Derived.Test.YtgfdcmlmgeoimaaGreatZB12
import Derived.Test.YtgfdcmlmgeoimaaGreatZB11
import Derived.Test.YtgfdcmlmgeoimaaGreatZB13

section
/- The walk of the law DiskTemplate. (bel2) -/
namespace Go.Proofs.YtgfdcmlmgeoimaaGreat
open Go.RowKit Go.Sort
set_option linter.unusedSimpArgs false
namespace Od

def keepT (s t : Str) (f : Fl) : Bool := !(decide ((wayS f.1).1 = 1) && ((wayS f.1).2.2.1 == s || (wayS f.1).2.2.1 == t))
theorem keepT_iff {s t : Str} {f : Fl} (h : keepT s t f = true) : (wayS f.1).1 ≠ 1 ∨ (wayS f.1).2.2.1 ≠ s ∧ (wayS f.1).2.2.1 ≠ t := by
  unfold keepT at h
  by_cases h1 : (wayS f.1).1 = 1
  · right
    simp only [h1, decide_true, Bool.true_and, Bool.not_eq_true', Bool.or_eq_false_iff, beq_eq_false_iff_ne] at h
    exact h
  · exact .inl h1
set_option maxRecDepth 100000 in
set_option maxHeartbeats 8000000 in
theorem diskTemplate_any (A : Option Addr) (c : Nat) (fs : List Fl) (t ins x : Str) (w : World) (h : FlIn w A fs) (hs : Short fs) (hl : fs.length * 48 ≤ 140737488351232) (ht : t.length ≤ 140737488355328) (hin : ins.length ≤ 140737488351232) (hx : x.length ≤ 140737488351232) :
    Calls Tryz.prog 7 #[.slice A fs.length c, sv t, sv ins, sv x] w fun e w' => e = .returned (.bool true) ∧ Below w.heap.size w w' := by
  obtain ⟨i0, hi, hz0, hz1, hz2⟩ := info_parts infoFl
  have HF := Lib.hid h
  have HS := Lib.hid hs
  have HIn := Lib.hid (fun W => Instance1_any t ins W ht hin)
  clear h hs
  rcases hio : instOf t ins with ⟨s, ok⟩
  rw [hio] at HIn
  unfold pairV at HIn
  simp only at HIn
  go_enter Tryz.func7, Tryz.ntmps7
  go_wp2_with fail
  refine (shown12_any w).mono ?_
  rintro e w1 ⟨rfl, hb⟩
  replace HF := Lib.hid (HF.out.at hb)
  have HB := Lib.hid hb
  clear hb
  go_wp2_with fail
  refine (HIn.out w1).mono ?_
  rintro e w2 ⟨rfl, hb⟩
  replace HF := Lib.hid (HF.out.at hb)
  replace HB := Lib.hid (lift HB.out hb)
  clear hb HIn
  cases ok
  · go_wp2_with fail
    go_ret
    exact ⟨rfl, HB.out⟩
  · obtain ⟨htm, _, hks, _, _, _⟩ := inst_parts hio
    have htl := kind_len (tmpl_kind htm)
    have hsl := kind_len hks
    have hfm := fun (L : List Fl) (h1 : mayFs L = true) (h2 : ∀ f ∈ L, (wayS f.1).1 ≠ 1 ∨ (wayS f.1).2.2.1 ≠ s ∧ (wayS f.1).2.2.1 ≠ t) (h3 : L.length < 120) (h4 : x.length ≤ 300) => find_tmpl h1 hio h2 h3 h4
    have HFm := Lib.hid hfm
    clear hfm hio htm
    have hov : ∀ f : Fl, keepT s t f = !(decide ((wayS f.1).1 = 1) && ((wayS f.1).2.2.1 == s || (wayS f.1).2.2.1 == t)) := fun _ => rfl
    have HKi := Lib.hid (fun f (h : keepT s t f = true) => keepT_iff h)
    generalize keepT s t = F at *
    go_wp2_with fail
    go_loopw [11, 31] (fun v i wr => ∃ (k : Nat) (Ao : Option Addr) (co : Nat), k ≤ fs.length ∧ v = .slice Ao ((fs.take k).filter F).length co ∧ i = .int .i64 k ∧ Hid (wr.ownsRow w2.heap.size 37 3 (.slice Ao ((fs.take k).filter F).length co) ((fs.take k).filter F).length (flsC ((fs.take k).filter F))) ∧ Hid (Below w2.heap.size w2 wr)) (fun _ i _ => fs.length - (intOf i).toNat)
    case atStart => exact ⟨0, none, 0, Nat.zero_le _, rfl, rfl, World.ownsRow_nil _ _ _ _, Below.refl _ _⟩
    case round =>
      obtain ⟨k, Ao, co, hk, rfl, rfl, HO, HBk⟩ := hrel
      obtain ⟨w6, rfl⟩ : ∃ wo : World, wo = wr := ⟨_, rfl⟩
      have hz6 := HBk.out.size
      have hol : ((fs.take k).filter F).length ≤ k := Nat.le_trans (List.length_filter_le _ _) (by rw [List.length_take]; omega)
      by_cases hlt : k < fs.length
      · obtain ⟨b2, o2, hA, hB2, x0, x1, x2⟩ := (HF.out.at HBk.out).rd.fl hlt
        have ht3 := filterD_take (F := F) hlt
        have hsh := HS.out _ (List.getElem_mem hlt)
        have hq3 := hov fs[k]
        subst hA
        generalize fs[k] = p at x0 x1 x2 ht3 hsh hq3
        obtain ⟨fp, ft, fl⟩ := p
        simp only at x0 x1 x2 hsh hq3
        have hpa := fun W => Path_any fp W hsh
        rcases hxw : wayS fp with ⟨kd, pl, un, ot⟩
        rw [hxw] at hpa hq3
        simp only at hq3
        generalize (fs.take k).filter F = O at *
        generalize hfb : F (fp, ft, fl) = fb at ht3 hq3
        have HT3 := Lib.hid ht3
        have HQ3 := Lib.hid hq3
        have i1 : (0 : Int) ≤ (k : Int) := by omega
        have i2 : (k : Int) < (fs.length : Int) := by omega
        clear hxw ht3 hq3 hfb
        go_wp2_with fail
        first | (refine wp_named ?_; intro W7 hW) | (refine calls_named ?_; intro W7 hW) | (refine exit_named ?_; intro W7 hW)
        have B7 : Below w6.heap.size w6 W7 := by rw [hW]; exact (by repeat (first | exact Below.refl _ _ | assumption | refine Below.alloc ?_ (by first | omega | (simp <;> omega)) _ | refine Below.setCell ?_ (by first | omega | (simp <;> omega)) _ | refine Below.drew ?_))
        replace HO := Lib.hid (own_on HO.out B7)
        have m7 : w6.heap.size < W7.heap.size := by rw [hW]; simp <;> omega
        have c0 : W7.cell? ⟨w6.heap.size, 0, none⟩ = some (sv fp) := by rw [hW]; go_simp
        have c1 : W7.cell? ⟨w6.heap.size, 1, none⟩ = some (sv ft) := by rw [hW]; go_simp
        have c2 : W7.cell? ⟨w6.heap.size, 2, none⟩ = some (sv fl) := by rw [hW]; go_simp
        clear hW
        have HB7 := Lib.hid (lift HBk.out B7)
        clear B7 x0 x1 x2
        refine (hpa W7).mono ?_
        rintro e w8 ⟨rfl, hb⟩
        replace c0 := cellAt c0 hb (by omega)
        replace c1 := cellAt c1 hb (by omega)
        replace c2 := cellAt c2 hb (by omega)
        replace HO := Lib.hid (own_on HO.out hb)
        replace m7 : w6.heap.size < w8.heap.size := ltAt m7 hb
        have HB8 := Lib.hid (lift HB7.out hb)
        clear hb hpa
        go_upto_region 11 with fail
        first | (refine wp_named ?_; intro W9 hW) | (refine calls_named ?_; intro W9 hW) | (refine exit_named ?_; intro W9 hW)
        have B9 : Below w8.heap.size w8 W9 := by rw [hW]; exact (by repeat (first | exact Below.refl _ _ | assumption | refine Below.alloc ?_ (by first | omega | (simp <;> omega)) _ | refine Below.setCell ?_ (by first | omega | (simp <;> omega)) _ | refine Below.drew ?_))
        replace c0 := cellAt c0 B9 (by omega)
        replace c1 := cellAt c1 B9 (by omega)
        replace c2 := cellAt c2 B9 (by omega)
        replace HO := Lib.hid (own_on HO.out B9)
        replace m7 : w6.heap.size < W9.heap.size := ltAt m7 B9
        have m9 : w8.heap.size < W9.heap.size := by rw [hW]; simp <;> omega
        have y0 : W9.cell? ⟨w8.heap.size, 0, none⟩ = some (.int .i64 kd) := by rw [hW]; go_simp
        have y2 : W9.cell? ⟨w8.heap.size, 2, none⟩ = some (sv un) := by rw [hW]; go_simp
        clear hW
        have HB9 := Lib.hid (lift HB8.out B9)
        have hz9 := HB9.out.size
        clear B9
        by_cases h1 : kd = 1
        · have b1 : ((kd : Int) == 1) = true := by rw [beq_iff_eq]; omega
          have d1 : decide (kd = 1) = true := by simpa using h1
          cases hs : (un == s)
          · cases ht2 : (un == t)
            · skip
              have HNx := Lib.hid (show (fs.take (k + 1)).filter F = O ++ [(fp, ft, fl)] by rw [HT3.out, HQ3.out, d1, hs, ht2]; rfl)
              have h63 := Lib.hid (show O.length + 1 ≤ maxLen by unfold maxLen; omega)
              have hby := Lib.hid (show (O.length + 1) * 48 ≤ 140737488355328 by omega)
              clear HT3 HQ3
              go_wp2_with (first | (at_builtin; refine wpList_pushm W9 W9 (by rfl) (.tmp 53) (.tmp 55) 22 (by rfl) w2.heap.size 37 i0 _ 3 48 Tryz.underlying22 hi hz0 hz1 hz2 rfl (by decide) _ _ _ (by rfl) HO.out [sv fp, sv ft, sv fl] W9.heap.size rfl (by rfl) rfl (one_flC (fp, ft, fl)) h63.out hby.out hz9 (Below.refl _ _) ?_; intro A10 c10 w10 hown hbel hg hat; have HO10 := Lib.hid hown; have HBa := Lib.hid hbel; clear hown hbel hg hat) | fail)
              go_roundw
              case rel => exact ⟨k + 1, A10, c10, by omega, by rw [HNx.out, List.length_append]; rfl, by go_num, by rw [HNx.out, List.length_append, flsC_app, flsC_one]; exact HO10.out, HB9.out.trans HBa.out⟩
              case measure => simp [intOf]; omega
            · skip
              have HNx := Lib.hid (show (fs.take (k + 1)).filter F = O by rw [HT3.out, HQ3.out, d1, hs, ht2]; simp)
              clear HT3 HQ3
              go_wp2_with fail
              go_roundw
              case rel => exact ⟨k + 1, Ao, co, by omega, by rw [HNx.out], by go_num, by rw [HNx.out]; exact HO.out, HB9.out⟩
              case measure => simp [intOf]; omega
          · skip
            have HNx := Lib.hid (show (fs.take (k + 1)).filter F = O by rw [HT3.out, HQ3.out, d1, hs]; simp)
            clear HT3 HQ3
            go_wp2_with fail
            go_roundw
            case rel => exact ⟨k + 1, Ao, co, by omega, by rw [HNx.out], by go_num, by rw [HNx.out]; exact HO.out, HB9.out⟩
            case measure => simp [intOf]; omega
        · have b1 : ((kd : Int) == 1) = false := by rw [beq_eq_false_iff_ne]; omega
          have d1 : decide (kd = 1) = false := by simpa using h1
          have HNx := Lib.hid (show (fs.take (k + 1)).filter F = O ++ [(fp, ft, fl)] by rw [HT3.out, HQ3.out, d1]; rfl)
          have h63 := Lib.hid (show O.length + 1 ≤ maxLen by unfold maxLen; omega)
          have hby := Lib.hid (show (O.length + 1) * 48 ≤ 140737488355328 by omega)
          clear HT3 HQ3
          go_wp2_with (first | (at_builtin; refine wpList_pushm W9 W9 (by rfl) (.tmp 53) (.tmp 55) 22 (by rfl) w2.heap.size 37 i0 _ 3 48 Tryz.underlying22 hi hz0 hz1 hz2 rfl (by decide) _ _ _ (by rfl) HO.out [sv fp, sv ft, sv fl] W9.heap.size rfl (by rfl) rfl (one_flC (fp, ft, fl)) h63.out hby.out hz9 (Below.refl _ _) ?_; intro A10 c10 w10 hown hbel hg hat; have HO10 := Lib.hid hown; have HBa := Lib.hid hbel; clear hown hbel hg hat) | fail)
          go_roundw
          case rel => exact ⟨k + 1, A10, c10, by omega, by rw [HNx.out, List.length_append]; rfl, by go_num, by rw [HNx.out, List.length_append, flsC_app, flsC_one]; exact HO10.out, HB9.out.trans HBa.out⟩
          case measure => simp [intOf]; omega
      · obtain rfl : k = fs.length := by omega
        rw [List.take_length] at HO hol ⊢
        have hLk : ∀ f ∈ fs.filter F, f ∈ fs ∧ F f = true := fun f hf => List.mem_filter.1 hf
        generalize fs.filter F = L at *
        have HLi := Lib.hid (show FlIn w6 Ao L from ⟨own_rd' HO.out, fun f hf => HF.out.ok f (hLk f hf).1⟩)
        have HLn := Lib.hid (show ∀ f ∈ L, (wayS f.1).1 ≠ 1 ∨ (wayS f.1).2.2.1 ≠ s ∧ (wayS f.1).2.2.1 ≠ t from fun f hf => HKi.out f (hLk f hf).2)
        have HBz := Lib.hid (lift HB.out HBk.out)
        clear hLk HKi HO HB HBk
        go_wp2_with fail
        refine (MayD_any Ao co L w6 HLi.out (by omega)).mono ?_
        rintro e w7 ⟨rfl, hb⟩
        replace HLi := Lib.hid (HLi.out.at hb)
        replace HBz := Lib.hid (lift HBz.out hb)
        clear hb
        cases hm : mayFs L
        · skip
          go_wp2_with fail
          go_ret
          exact ⟨rfl, HBz.out⟩
        · by_cases h120 : 120 ≤ L.length
          · have d120 : decide (120 ≤ L.length) = true := by simpa using h120
            go_wp2_with fail
            go_ret
            exact ⟨rfl, HBz.out⟩
          · have d120 : decide (120 ≤ L.length) = false := by simpa using h120
            by_cases h300 : 300 < x.length
            · have d300 : decide (300 < x.length) = true := by simpa using h300
              go_wp2_with fail
              go_ret
              exact ⟨rfl, HBz.out⟩
            · have d300 : decide (300 < x.length) = false := by simpa using h300
              obtain ⟨f1, f2⟩ := HFm.out L hm HLn.out (by omega) (by omega)
              have HX := Lib.hid (fun W (h : FlIn W Ao L) => Find_any Ao co L s W h (by omega) (by omega))
              rw [f1] at HX
              obtain ⟨q, hq⟩ : ∃ q, q = pathU libS t := ⟨_, rfl⟩
              rw [← hq] at f2
              have e1 : ((⟨#[108, 105, 98, 47]⟩ : ByteArray) ++ ⟨t.toArray⟩) = ⟨q.toArray⟩ := by rw [hq]; exact str_add [108, 105, 98, 47] t
              have n1 : ¬ 9223372036854775807 < 4 + t.length := by omega
              have hql : q.length ≤ 64 := by rw [hq]; unfold pathU libS; simp; omega
              have HY : Hid (∀ A5 c5 W, FlIn W A5 (L ++ [(q, x, [])]) → Calls Tryz.prog 9 #[.slice A5 (L.length + 1) c5, sv s] W (FindR (findF (L ++ [(q, x, [])]) s) W)) := Lib.hid (fun A5 c5 W h => by
                have := Find_any A5 c5 (L ++ [(q, x, [])]) s W h (by simp; omega) (by omega)
                rwa [List.length_append] at this)
              have hok := HLi.out.ok
              have hokn : okFl (q, x, ([] : Str)) := ⟨by simp only; omega, by simp only; omega, by simp⟩
              rw [f2] at HY
              clear hq f1 f2
              generalize dropsF (L ++ [(q, x, [])]) s = Dr at *
              have h63 := Lib.hid (show L.length ≤ maxLen by unfold maxLen; omega)
              have hby := Lib.hid (show L.length * 48 ≤ 140737488355328 by omega)
              have h63b := Lib.hid (show L.length + 1 ≤ maxLen by unfold maxLen; omega)
              have hbyb := Lib.hid (show (L.length + 1) * 48 ≤ 140737488355328 by omega)
              go_wp2_with fail
              refine (HX.out w7 HLi.out).mono ?_
              rintro e w8 ⟨A8, c8, rfl, _, hb⟩
              replace HLi := Lib.hid (HLi.out.at hb)
              replace HBz := Lib.hid (lift HBz.out hb)
              clear hb HX
              go_upto_region 17 with fail
              first | (refine wp_named ?_; intro W9 hW) | (refine calls_named ?_; intro W9 hW) | (refine exit_named ?_; intro W9 hW)
              have B9 : Below w8.heap.size w8 W9 := by rw [hW]; exact (by repeat (first | exact Below.refl _ _ | assumption | refine Below.alloc ?_ (by first | omega | (simp <;> omega)) _ | refine Below.setCell ?_ (by first | omega | (simp <;> omega)) _ | refine Below.drew ?_))
              replace HLi := Lib.hid (HLi.out.at B9)
              replace HBz := Lib.hid (lift HBz.out B9)
              clear hW
              clear B9
              go_wp2_with (first | (at_builtin; refine wpList_append_first W9 (by rfl) (.const (.slice none 0 0)) (.tmp 78) 22 (by rfl) W9.heap.size 37 i0 _ 3 48 Tryz.underlying22 hi hz0 hz1 hz2 rfl (by decide) (by rfl) W9.heap.size Ao L.length co (flsC L) (by rfl) HLi.out.rd (one_flsC L) h63.out hby.out (Nat.le_refl _) ?_; intro A10 c10 w10 hown hbel; have HO10 := Lib.hid hown; have HBa := Lib.hid hbel; have hz10 := hbel.size; clear hown hbel) | (at_builtin; refine wpList_pushm w10 w10 (by rfl) (.tmp 79) (.tmp 84) 22 (by rfl) W9.heap.size 37 i0 _ 3 48 Tryz.underlying22 hi hz0 hz1 hz2 rfl (by decide) _ _ _ (by rfl) HO10.out [sv q, sv x, sv []] w10.heap.size rfl (by rfl) rfl (one_flC (q, x, [])) h63b.out hbyb.out hz10 (Below.refl _ _) ?_; intro A11 c11 w11 hown hbel hg hat; have HO11 := Lib.hid hown; have HBb := Lib.hid hbel; clear hown hbel hg hat) | fail)
              have HF11 := Lib.hid (FlIn.snoc hok HO11.out hokn)
              have HB11 := Lib.hid (lift HBz.out (HBa.out.trans HBb.out))
              clear HO10 HO11 HBa HBb
              refine (HY.out A11 c11 w11 HF11.out).mono ?_
              rintro e w12 ⟨A12, c12, rfl, _, hb⟩
              have HB12 := Lib.hid (lift HB11.out hb)
              clear hb HY
              have es : (s == s) = true := by simp
              have eq : (q == q) = true := by simp
              go_wp2_with fail
              go_ret
              exact ⟨rfl, by repeat (first | (with_reducible exact HB12.out) | (with_reducible refine Below.alloc ?_ HB12.out.size _) | (with_reducible refine Below.setCell ?_ HB12.out.size _))⟩
end Od
end Go.Proofs.YtgfdcmlmgeoimaaGreat
end
