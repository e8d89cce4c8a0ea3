/- My texts, joined for the claim: DFind12 DApp Frame. -/
import Derived.Test.YtgfdcmlmgeoimaaGreatZB0
import Derived.Test.YtgfdcmlmgeoimaaGreatZB11
import Derived.Test.YtgfdcmlmgeoimaaGreatZB12
import Derived.Test.YtgfdcmlmgeoimaaGreatZB5
import Derived.Test.YtgfdcmlmgeoimaaGreatZB1
import Derived.Test.YtgfdcmlmgeoimaaGreatRows
import Derived.ProofKit
import Derived.OpenShut

section
/- matinsref12.Find. (bel2) -/
namespace Go.Proofs.YtgfdcmlmgeoimaaGreat
open Go.RowKit Go.Sort
set_option linter.unusedSimpArgs false
namespace Od
theorem own_first {fs : List Fl} {n : Str} {f : Fl} (h : firstF fs n = some f) : ownedF fs n = some (f, true) := by unfold ownedF; rw [h]
theorem own_tmpl {fs : List Fl} {n : Str} {f : Fl} (h : firstF fs n = none) (hi : instS n = true) (h2 : firstF fs (templS n) = some f) : ownedF fs n = some (f, false) := by unfold ownedF; rw [h]; simp only; rw [if_pos hi, h2]; rfl
theorem own_no {fs : List Fl} {n : Str} (h : firstF fs n = none) (hi : instS n = false) : ownedF fs n = none := by unfold ownedF; rw [h]; simp only; rw [if_neg (by rw [hi]; simp)]
theorem own_no2 {fs : List Fl} {n : Str} (h : firstF fs n = none) (hi : instS n = true) (h2 : firstF fs (templS n) = none) : ownedF fs n = none := by unfold ownedF; rw [h]; simp only; rw [if_pos hi, h2]; rfl
set_option maxRecDepth 100000 in
set_option maxHeartbeats 8000000 in
theorem Find12_any (A : Option Addr) (c : Nat) (fs : List Fl) (u : Str) (w : World) (h : FlIn w A fs) (hs : Short fs) (hu : u.length ≤ 140737488355328) : Calls Tryz.prog 10 #[.slice A fs.length c, sv u] w (FindR (findF fs u) w) := by
  obtain ⟨i0, hi, hz0, hz1, hz2⟩ := info_parts infoS
  have HF := Lib.hid h
  have HSh := Lib.hid hs
  have hdf : ∀ x w e w', FindR x w e w' = ∃ A c, e = .returned (.tuple #[.agg #[sv x.1.1, sv x.1.2.1, .bool x.1.2.2.1, .slice A x.1.2.2.2.length c], .int .i64 x.2]) ∧ Rd w' w'.heap.size 1 A x.1.2.2.2.length (svs x.1.2.2.2) ∧ Below w.heap.size w w' := fun _ _ _ _ => rfl
  have HD := Lib.hid hdf
  clear h hdf hs
  cases hm : mayFs fs
  · have HR := Lib.hid (find_form (u := u) hm)
    go_enter Tryz.func10, Tryz.ntmps10
    go_wp2_with fail
    first | (refine wp_named ?_; intro W1 hW) | (refine calls_named ?_; intro W1 hW) | (refine exit_named ?_; intro W1 hW)
    have B1 : Below w.heap.size w W1 := by rw [hW]; exact (by repeat (first | exact Below.refl _ _ | assumption | refine Below.alloc ?_ (by first | omega | (simp <;> omega)) _ | refine Below.setCell ?_ (by first | omega | (simp <;> omega)) _ | refine Below.drew ?_))
    replace HF := Lib.hid (HF.out.at B1)
    have n0 : w.heap.size < W1.heap.size := by rw [hW]; simp <;> omega
    have r0 : W1.cell? ⟨w.heap.size, 0, none⟩ = some (.string ⟨#[]⟩) := by rw [hW]; go_simp
    have r1 : W1.cell? ⟨w.heap.size, 1, none⟩ = some (.string ⟨#[]⟩) := by rw [hW]; go_simp
    have r2 : W1.cell? ⟨w.heap.size, 2, none⟩ = some (.bool false) := by rw [hW]; go_simp
    have r3 : W1.cell? ⟨w.heap.size, 3, none⟩ = some (.slice none 0 0) := by rw [hW]; go_simp
    have z0 : W1.frozen? ⟨w.heap.size, 0, none⟩ = false := by rw [hW]; go_simp
    have z1 : W1.frozen? ⟨w.heap.size, 1, none⟩ = false := by rw [hW]; go_simp
    have z2 : W1.frozen? ⟨w.heap.size, 2, none⟩ = false := by rw [hW]; go_simp
    have z3 : W1.frozen? ⟨w.heap.size, 3, none⟩ = false := by rw [hW]; go_simp
    clear hW
    have HB1 := Lib.hid B1
    have HZ1 := Lib.hid (show FdZ W1 w.heap.size from ⟨r0, r1, r2, r3, z0, z1, z2, z3⟩)
    clear B1 r0 r1 r2 r3 z0 z1 z2 z3
    refine (May12_any A c fs W1 HF.out HSh.out).mono ?_
    rintro e w2 ⟨rfl, hb⟩
    rw [hm]
    replace HF := Lib.hid (HF.out.at hb)
    replace n0 : w.heap.size < w2.heap.size := ltAt n0 hb
    have HB2 := Lib.hid (lift HB1.out hb)
    have HZ2 := Lib.hid (HZ1.out.on hb)
    clear hb HZ1
    have r0 := HZ2.out.c0
    have r1 := HZ2.out.c1
    have r2 := HZ2.out.c2
    have r3 := HZ2.out.c3
    have z0 := HZ2.out.f0
    have z1 := HZ2.out.f1
    have z2 := HZ2.out.f2
    have z3 := HZ2.out.f3
    go_wp2_with fail
    have hB0 := HB2.out
    refine bodyPost_ret (v := .tuple #[.agg #[sv [], sv [], .bool false, .slice none 0 0], .int .i64 1]) (by simp only [results, Tryz.results10]; go_simp) rfl ?_
    rw [HR.out, HD.out]
    refine ⟨none, 0, rfl, Rd.none_, ?_⟩
    repeat (first | (with_reducible exact hB0) | (with_reducible refine Below.drew ?_) | (with_reducible refine Below.alloc ?_ ?zs _; case zs => first | omega | (simp <;> omega)) | (with_reducible refine Below.setCell ?_ ?zs _; case zs => first | omega | (simp <;> omega)))
  · have hlen := (mayFs_iff.1 hm).1
    cases hk : (kindS u != 0)
    · have HR := Lib.hid (find_name hm (u := u) (by simpa using hk))
      go_enter Tryz.func10, Tryz.ntmps10
      go_wp2_with fail
      first | (refine wp_named ?_; intro W1 hW) | (refine calls_named ?_; intro W1 hW) | (refine exit_named ?_; intro W1 hW)
      have B1 : Below w.heap.size w W1 := by rw [hW]; exact (by repeat (first | exact Below.refl _ _ | assumption | refine Below.alloc ?_ (by first | omega | (simp <;> omega)) _ | refine Below.setCell ?_ (by first | omega | (simp <;> omega)) _ | refine Below.drew ?_))
      replace HF := Lib.hid (HF.out.at B1)
      have n0 : w.heap.size < W1.heap.size := by rw [hW]; simp <;> omega
      have r0 : W1.cell? ⟨w.heap.size, 0, none⟩ = some (.string ⟨#[]⟩) := by rw [hW]; go_simp
      have r1 : W1.cell? ⟨w.heap.size, 1, none⟩ = some (.string ⟨#[]⟩) := by rw [hW]; go_simp
      have r2 : W1.cell? ⟨w.heap.size, 2, none⟩ = some (.bool false) := by rw [hW]; go_simp
      have r3 : W1.cell? ⟨w.heap.size, 3, none⟩ = some (.slice none 0 0) := by rw [hW]; go_simp
      have z0 : W1.frozen? ⟨w.heap.size, 0, none⟩ = false := by rw [hW]; go_simp
      have z1 : W1.frozen? ⟨w.heap.size, 1, none⟩ = false := by rw [hW]; go_simp
      have z2 : W1.frozen? ⟨w.heap.size, 2, none⟩ = false := by rw [hW]; go_simp
      have z3 : W1.frozen? ⟨w.heap.size, 3, none⟩ = false := by rw [hW]; go_simp
      clear hW
      have HB1 := Lib.hid B1
      have HZ1 := Lib.hid (show FdZ W1 w.heap.size from ⟨r0, r1, r2, r3, z0, z1, z2, z3⟩)
      clear B1 r0 r1 r2 r3 z0 z1 z2 z3
      refine (May12_any A c fs W1 HF.out HSh.out).mono ?_
      rintro e w2 ⟨rfl, hb⟩
      rw [hm]
      replace HF := Lib.hid (HF.out.at hb)
      replace n0 : w.heap.size < w2.heap.size := ltAt n0 hb
      have HB2 := Lib.hid (lift HB1.out hb)
      have HZ2 := Lib.hid (HZ1.out.on hb)
      clear hb HZ1
      go_wp2_with fail
      refine (May1_any u w2 hu).mono ?_
      rintro e w3 ⟨rfl, hb⟩
      replace HF := Lib.hid (HF.out.at hb)
      replace n0 : w.heap.size < w3.heap.size := ltAt n0 hb
      have HB3 := Lib.hid (lift HB2.out hb)
      have HZ3 := Lib.hid (HZ2.out.on hb)
      clear hb HZ2
      rw [hk]
      have r0 := HZ3.out.c0
      have r1 := HZ3.out.c1
      have r2 := HZ3.out.c2
      have r3 := HZ3.out.c3
      have z0 := HZ3.out.f0
      have z1 := HZ3.out.f1
      have z2 := HZ3.out.f2
      have z3 := HZ3.out.f3
      go_wp2_with fail
      have hB0 := HB3.out
      refine bodyPost_ret (v := .tuple #[.agg #[sv [], sv [], .bool false, .slice none 0 0], .int .i64 5]) (by simp only [results, Tryz.results10]; go_simp) rfl ?_
      rw [HR.out, HD.out]
      refine ⟨none, 0, rfl, Rd.none_, ?_⟩
      repeat (first | (with_reducible exact hB0) | (with_reducible refine Below.drew ?_) | (with_reducible refine Below.alloc ?_ ?zs _; case zs => first | omega | (simp <;> omega)) | (with_reducible refine Below.setCell ?_ ?zs _; case zs => first | omega | (simp <;> omega)))
    · have HS0 := Lib.hid (HopS.start hm (u := u) (by simpa using hk))
      go_enter Tryz.func10, Tryz.ntmps10
      go_wp2_with fail
      first | (refine wp_named ?_; intro W1 hW) | (refine calls_named ?_; intro W1 hW) | (refine exit_named ?_; intro W1 hW)
      have B1 : Below w.heap.size w W1 := by rw [hW]; exact (by repeat (first | exact Below.refl _ _ | assumption | refine Below.alloc ?_ (by first | omega | (simp <;> omega)) _ | refine Below.setCell ?_ (by first | omega | (simp <;> omega)) _ | refine Below.drew ?_))
      replace HF := Lib.hid (HF.out.at B1)
      have n0 : w.heap.size < W1.heap.size := by rw [hW]; simp <;> omega
      have r0 : W1.cell? ⟨w.heap.size, 0, none⟩ = some (.string ⟨#[]⟩) := by rw [hW]; go_simp
      have r1 : W1.cell? ⟨w.heap.size, 1, none⟩ = some (.string ⟨#[]⟩) := by rw [hW]; go_simp
      have r2 : W1.cell? ⟨w.heap.size, 2, none⟩ = some (.bool false) := by rw [hW]; go_simp
      have r3 : W1.cell? ⟨w.heap.size, 3, none⟩ = some (.slice none 0 0) := by rw [hW]; go_simp
      have z0 : W1.frozen? ⟨w.heap.size, 0, none⟩ = false := by rw [hW]; go_simp
      have z1 : W1.frozen? ⟨w.heap.size, 1, none⟩ = false := by rw [hW]; go_simp
      have z2 : W1.frozen? ⟨w.heap.size, 2, none⟩ = false := by rw [hW]; go_simp
      have z3 : W1.frozen? ⟨w.heap.size, 3, none⟩ = false := by rw [hW]; go_simp
      clear hW
      have HB1 := Lib.hid B1
      have HZ1 := Lib.hid (show FdZ W1 w.heap.size from ⟨r0, r1, r2, r3, z0, z1, z2, z3⟩)
      clear B1 r0 r1 r2 r3 z0 z1 z2 z3
      refine (May12_any A c fs W1 HF.out HSh.out).mono ?_
      rintro e w2 ⟨rfl, hb⟩
      rw [hm]
      replace HF := Lib.hid (HF.out.at hb)
      replace n0 : w.heap.size < w2.heap.size := ltAt n0 hb
      have HB2 := Lib.hid (lift HB1.out hb)
      have HZ2 := Lib.hid (HZ1.out.on hb)
      clear hb HZ1
      go_wp2_with fail
      refine (May1_any u w2 hu).mono ?_
      rintro e w3 ⟨rfl, hb⟩
      replace HF := Lib.hid (HF.out.at hb)
      replace n0 : w.heap.size < w3.heap.size := ltAt n0 hb
      have HB3 := Lib.hid (lift HB2.out hb)
      have HZ3 := Lib.hid (HZ2.out.on hb)
      clear hb HZ2
      rw [hk]
      generalize findF fs u = R at *
      have hn3 : w.heap.size < w3.heap.size := n0
      have HG3 := Lib.hid (World.ownsRow_lit (base := w3.heap.size) (e := 9) (size := 1) w3 #[sv u] 1 (Nat.le_refl _) (by unfold maxLen; decide) rfl)
      go_wp2_with fail
      go_loopw [6] (fun v6 wr => ∃ (n : Str) (asked : List Str) (Ag : Option Addr) (cg : Nat), v6 = .slice Ag asked.length cg ∧ asked.length ≤ 9 ∧ Hid (HopS fs R asked n) ∧ Hid (wr.ownsRow w3.heap.size 9 1 (.slice Ag asked.length cg) asked.length (svs asked)) ∧ Hid (Below w3.heap.size w3 wr)) (fun v _ => 10 - lenV v)
      case atStart => exact ⟨u, [u], some ⟨w3.heap.size, 0, none⟩, 1, rfl, by simp, HS0, HG3, (Below.refl _ _).alloc (Nat.le_refl _) _⟩
      case round =>
        obtain ⟨n, asked, Ag, cg, rfl, hle, HS, HG, HB⟩ := hrel
        obtain ⟨w6, rfl⟩ : ∃ wo : World, wo = wr := ⟨_, rfl⟩
        have HF6 := Lib.hid (HF.out.at HB.out)
        have HZ6 := Lib.hid (HZ3.out.on HB.out)
        have HB6 := Lib.hid (lift HB3.out HB.out)
        have hn6 : w.heap.size < w6.heap.size := Nat.lt_of_lt_of_le hn3 HB.out.size
        have hnl := kind_len HS.out.kind
        have hpos := HS.out.pos
        have hlq := HS.out.last
        obtain ⟨b2, o2, hA, hB2, x0⟩ := (own_rd' HG.out).str (i := asked.length - 1) (by omega)
        rw [List.getElem?_eq_getElem (by omega)] at hlq
        injection hlq with hlq
        rw [hlq] at x0
        clear hlq
        obtain ⟨q, hq⟩ : ∃ q, q = asked.length - 1 := ⟨_, rfl⟩
        rw [← hq] at x0
        have hq1 : IntKind.i64.wrap ((asked.length : Int) - 1) = (q : Int) := by unfold IntKind.wrap; simp [IntKind.signed, IntKind.bits]; omega
        have i1 : (0 : Int) ≤ (q : Int) := by omega
        have i2 : (q : Int) < (asked.length : Int) := by omega
        subst hA
        clear hq
        go_wp2_with fail
        refine (first12_any A c fs n w6 HF6.out (by omega) (by omega)).mono ?_
        rintro e w7 ⟨rfl, hb⟩
        replace HF6 := Lib.hid (HF6.out.at hb)
        replace HZ6 := Lib.hid (HZ6.out.on hb)
        replace HG := Lib.hid (own_on HG.out hb)
        replace HB := Lib.hid (lift HB.out hb)
        replace HB6 := Lib.hid (lift HB6.out hb)
        replace hn6 : w.heap.size < w7.heap.size := ltAt hn6 hb
        clear hb hq1 x0 i1 i2 hB2
        have hw7 : w.heap.size < w7.heap.size := hn6
        have hqw : ¬ w7.heap.size = w.heap.size := by omega
        have hwq : ¬ w.heap.size = w7.heap.size := by omega
        generalize hAg : (some ⟨b2, o2, none⟩ : Option Addr) = Ag at *
        clear hAg
        cases hf1 : firstF fs n with
        | some f =>
          obtain ⟨s, t, l⟩ := f
          have ho := own_first hf1
          unfold optV
          simp only
          go_upto_region 15 with fail
          first | (refine wp_named ?_; intro W8 hW) | (refine calls_named ?_; intro W8 hW) | (refine exit_named ?_; intro W8 hW)
          have B8 : Below w7.heap.size w7 W8 := by rw [hW]; exact (by repeat (first | exact Below.refl _ _ | assumption | refine Below.alloc ?_ (by first | omega | (simp <;> omega)) _ | refine Below.setCell ?_ (by first | omega | (simp <;> omega)) _ | refine Below.drew ?_))
          replace HF6 := Lib.hid (HF6.out.at B8)
          replace HZ6 := Lib.hid (HZ6.out.on B8)
          replace HG := Lib.hid (own_on HG.out B8)
          replace HB := Lib.hid (lift HB.out B8)
          replace HB6 := Lib.hid (lift HB6.out B8)
          replace hn6 : w.heap.size < W8.heap.size := ltAt hn6 B8
          have m8 : w7.heap.size < W8.heap.size := by rw [hW]; simp <;> omega
          have f0 : W8.cell? ⟨w7.heap.size, 0, none⟩ = some (sv s) := by rw [hW]; go_simp
          have f2 : W8.cell? ⟨w7.heap.size, 2, none⟩ = some (sv l) := by rw [hW]; go_simp
          clear hW
          clear B8 hf1
          cases d1 : (l == ([] : Str))
          · have h0 : l ≠ [] := by simpa using d1
            cases d0 : (l == ([110, 117, 108, 108] : Str))
            · have h1 : l ≠ nullS := by unfold nullS; simpa using d0
              have ht : nextF n (s, t, l) true = (l, true) := rfl
              go_wp2_with fail
              refine (HasS_any Ag cg asked l W8 (own_rd' HG.out) (by omega)).mono ?_
              rintro e wz ⟨rfl, rfl⟩
              cases hc : hasB asked l
              · have hci : l ∉ asked := fun h => by rw [(hasB_iff _ _).2 h] at hc; cases hc
                by_cases h8 : 8 < asked.length
                · have HR := Lib.hid (HS.out.stop ho h0 h1 (.inr (.inr h8)))
                  have h8b : decide (8 < asked.length) = true := by simpa using h8
                  have r0 := HZ6.out.c0
                  have r1 := HZ6.out.c1
                  have r2 := HZ6.out.c2
                  have r3 := HZ6.out.c3
                  have z0 := HZ6.out.f0
                  have z1 := HZ6.out.f1
                  have z2 := HZ6.out.f2
                  have z3 := HZ6.out.f3
                  go_wp2_with fail
                  have hB0 := HB6.out
                  refine bodyPost_ret (v := .tuple #[.agg #[sv [], sv [], .bool false, .slice none 0 0], .int .i64 17]) (by simp only [results, Tryz.results10]; go_simp) rfl ?_
                  rw [HR.out, HD.out]
                  refine ⟨none, 0, rfl, Rd.none_, ?_⟩
                  repeat (first | (with_reducible exact hB0) | (with_reducible refine Below.drew ?_) | (with_reducible refine Below.alloc ?_ ?zs _; case zs => first | omega | (simp <;> omega)) | (with_reducible refine Below.setCell ?_ ?zs _; case zs => first | omega | (simp <;> omega)))
                · have h8b : decide (8 < asked.length) = false := by simpa using h8
                  have HSn := Lib.hid (HS.out.next hm ho h0 h1 rfl (by first | exact hci | (rw [ht]; exact hci)) (by omega))
                  rw [ht] at HSn
                  have h63 := Lib.hid (show asked.length + 1 ≤ maxLen by unfold maxLen; omega)
                  have hby := Lib.hid (show (asked.length + 1) * 16 ≤ 140737488355328 by omega)
                  have hz6 := HB.out.size
                  clear hci
                  go_wp2_with (first | (at_builtin; refine wpList_pushm W8 W8 (by rfl) (.tmp 102) (.tmp 104) 24 (by rfl) w3.heap.size 9 i0 _ 1 16 Tryz.underlying24 hi hz0 hz1 hz2 rfl (by decide) _ _ _ (by rfl) HG.out [sv l] W8.heap.size rfl (by rfl) rfl (one_sv l) h63.out hby.out hz6 (Below.refl _ _) ?_; intro A20 c20 w20 hown hbel hg hat; have HO20 := Lib.hid hown; have HBa := Lib.hid hbel; clear hown hbel hg hat) | fail)
                  go_roundw
                  case rel => exact ⟨l, asked ++ [l], A20, c20, by rw [List.length_append]; rfl, by simp; omega, HSn, by rw [List.length_append, svs_app]; exact HO20.out, HB.out.trans HBa.out⟩
                  case measure => simp [lenV]; omega
              · have HR := Lib.hid (HS.out.stop ho h0 h1 (.inr (.inl (by first | exact (hasB_iff _ _).1 hc | (rw [ht]; exact (hasB_iff _ _).1 hc)))))
                have r0 := HZ6.out.c0
                have r1 := HZ6.out.c1
                have r2 := HZ6.out.c2
                have r3 := HZ6.out.c3
                have z0 := HZ6.out.f0
                have z1 := HZ6.out.f1
                have z2 := HZ6.out.f2
                have z3 := HZ6.out.f3
                go_wp2_with fail
                have hB0 := HB6.out
                refine bodyPost_ret (v := .tuple #[.agg #[sv [], sv [], .bool false, .slice none 0 0], .int .i64 17]) (by simp only [results, Tryz.results10]; go_simp) rfl ?_
                rw [HR.out, HD.out]
                refine ⟨none, 0, rfl, Rd.none_, ?_⟩
                repeat (first | (with_reducible exact hB0) | (with_reducible refine Below.drew ?_) | (with_reducible refine Below.alloc ?_ ?zs _; case zs => first | omega | (simp <;> omega)) | (with_reducible refine Below.setCell ?_ ?zs _; case zs => first | omega | (simp <;> omega)))
            · have h1 : l = nullS := by unfold nullS; simpa using d0
              have HR := Lib.hid (HS.out.null ho h1)
              have r0 := HZ6.out.c0
              have r1 := HZ6.out.c1
              have r2 := HZ6.out.c2
              have r3 := HZ6.out.c3
              have z0 := HZ6.out.f0
              have z1 := HZ6.out.f1
              have z2 := HZ6.out.f2
              have z3 := HZ6.out.f3
              go_wp2_with fail
              have hB0 := HB6.out
              refine bodyPost_ret (v := .tuple #[.agg #[sv n, sv s, .bool true, .slice none 0 0], .int .i64 0]) (by simp only [results, Tryz.results10]; go_simp) rfl ?_
              rw [HR.out, HD.out]
              refine ⟨none, 0, rfl, Rd.none_, ?_⟩
              repeat (first | (with_reducible exact hB0) | (with_reducible refine Below.drew ?_) | (with_reducible refine Below.alloc ?_ ?zs _; case zs => first | omega | (simp <;> omega)) | (with_reducible refine Below.setCell ?_ ?zs _; case zs => first | omega | (simp <;> omega)))
          · have h0 : l = [] := by simpa using d1
            subst h0
            have HR := Lib.hid (HS.out.end_ ho rfl)
            have hkn := HS.out.kind
            have HLd := Lib.hid (fun W (h : FlIn W A fs) => Drops12_any A c fs n W h hm HSh.out (by omega))
            generalize dropsF fs n = Dr at *
            go_upto_region 16 with fail
            have r0 := HZ6.out.c0
            have r1 := HZ6.out.c1
            have r2 := HZ6.out.c2
            have r3 := HZ6.out.c3
            have z0 := HZ6.out.f0
            have z1 := HZ6.out.f1
            have z2 := HZ6.out.f2
            have z3 := HZ6.out.f3
            try go_wp2_with fail
            refine wp_region_held_drew (S := fun w' => Keeps (But W8 w.heap.size) W8 w') (by kernel_rfl) (But.below (Below.drew (Below.refl _ _))) (fun hHeld => ?_)
            have r0 : (W8.drew).cell? ⟨w.heap.size, 0, none⟩ = _ := r0
            have r1 : (W8.drew).cell? ⟨w.heap.size, 1, none⟩ = _ := r1
            have r2 : (W8.drew).cell? ⟨w.heap.size, 2, none⟩ = _ := r2
            have r3 : (W8.drew).cell? ⟨w.heap.size, 3, none⟩ = _ := r3
            have z0 : (W8.drew).frozen? ⟨w.heap.size, 0, none⟩ = _ := z0
            have z1 : (W8.drew).frozen? ⟨w.heap.size, 1, none⟩ = _ := z1
            have z2 : (W8.drew).frozen? ⟨w.heap.size, 2, none⟩ = _ := z2
            have z3 : (W8.drew).frozen? ⟨w.heap.size, 3, none⟩ = _ := z3
            have nv : w.heap.size < (W8.drew).heap.size := hn6
            have HBv : Below w.heap.size w (W8.drew) := Below.drew HB6.out
            have HFv : FlIn (W8.drew) A fs := HF6.out.at (Below.drew (Below.refl _ _))
            generalize W8.drew = v0 at *
            refine tY (i := 0) (v := ?_) rfl ?_ hHeld ?_; rotate_left 1; focus (intro w' hSw; clear hSw; go_simp; try with_reducible rfl)
            (try simp only [Act.put, zn1, zn2, zn3])
            refine tY (i := 1) (v := ?_) rfl ?_ hHeld ?_; rotate_left 1; focus (intro w' hSw; clear hSw; go_simp; try with_reducible rfl)
            (try simp only [Act.put, zn1, zn2, zn3])
            refine tY (i := 2) (v := ?_) rfl ?_ hHeld ?_; rotate_left 1; focus (intro w' hSw; have hCell := fun (b o : Nat) (h : b < W8.heap.size) (h2 : ¬ b = w.heap.size) => World.cell?_of_block (a := ⟨b, o, none⟩) (hSw.block b ⟨h, h2⟩); clear hSw; go_simp; try with_reducible rfl)
            (try simp only [Act.put, zn1, zn2, zn3])
            refine tY (i := 3) (v := ?_) rfl ?_ hHeld ?_; rotate_left 1; focus (intro w' hSw; clear hSw; go_simp; try with_reducible rfl)
            (try simp only [Act.put, zn1, zn2, zn3])
            refine tY (i := 4) (v := ?_) rfl ?_ hHeld ?_; rotate_left 1; focus (intro w' hSw; clear hSw; go_simp; try with_reducible rfl)
            (try simp only [Act.put, zn1, zn2, zn3])
            refine ready_one (i := 5) rfl (by kernel_rfl) (fun K hK => ?_)
            go_simp
            refine (HLd.out _ HFv).mono ?_
            rintro e y5 ⟨A5, c5, rfl, ho5, hb⟩
            replace r0 := cellAt r0 hb nv
            replace r1 := cellAt r1 hb nv
            replace r2 := cellAt r2 hb nv
            replace r3 := cellAt r3 hb nv
            replace z0 := froAt z0 hb nv
            replace z1 := froAt z1 hb nv
            replace z2 := froAt z2 hb nv
            replace z3 := froAt z3 hb nv
            have HO5 := Lib.hid ho5
            have hv5 := nv
            replace nv := Nat.lt_of_lt_of_le nv hb.size
            replace HBv := lift HBv hb
            clear ho5 HFv
            refine hK.out _ _ ?_ (fun hHeld2 => ?_)
            · (try dsimp only); exact But.two hHeld hb
            clear hK K hHeld hb; have hHeld := hHeld2; clear hHeld2; (try simp only [Act.put, zn1, zn2, zn3])
            refine ready_one (i := 6) rfl (by kernel_rfl) (fun K hK => ?_)
            go_simp
            refine hK.out _ _ ?_ (fun hHeld2 => ?_)
            · (try dsimp only); repeat (first | (with_reducible exact hHeld) | (with_reducible refine But.trans ?_ (But.set _ _ _ _)) | (with_reducible refine But.two ?_ (below_new _ _)))
            clear hK K hHeld; have hHeld := hHeld2; clear hHeld2; (try simp only [Act.put, zn1, zn2, zn3])
            refine ready_one (i := 7) rfl (by kernel_rfl) (fun K hK => ?_)
            go_simp
            refine hK.out _ _ ?_ (fun hHeld2 => ?_)
            · (try dsimp only); repeat (first | (with_reducible exact hHeld) | (with_reducible refine But.trans ?_ (But.set _ _ _ _)) | (with_reducible refine But.two ?_ (below_new _ _)))
            clear hK K hHeld; have hHeld := hHeld2; clear hHeld2; (try simp only [Act.put, zn1, zn2, zn3])
            refine tY (i := 8) (v := ?_) rfl ?_ hHeld ?_; rotate_left 1; focus (intro w' hSw; clear hSw; go_simp; try with_reducible rfl)
            (try simp only [Act.put, zn1, zn2, zn3])
            refine wpAnyH_done (by kernel_rfl) ?_ _
            go_wp2_with fail
            have hB0 := HBv
            refine bodyPost_ret (v := .tuple #[.agg #[sv n, sv s, .bool false, .slice A5 Dr.length c5], .int .i64 0]) (by simp only [results, Tryz.results10]; go_simp) rfl ?_
            rw [HR.out, HD.out]
            refine ⟨A5, c5, rfl, own_rd' (e := 9) (base := v0.heap.size) (by repeat (first | (with_reducible exact HO5.out) | (with_reducible refine ownsRow_setCell_below ?_ hv5 _))), ?_⟩
            repeat (first | (with_reducible exact hB0) | (with_reducible refine Below.drew ?_) | (with_reducible refine Below.alloc ?_ ?zs _; case zs => first | omega | (simp <;> omega)) | (with_reducible refine Below.setCell ?_ ?zs _; case zs => first | omega | (simp <;> omega)))
        | none =>
          unfold optV
          simp only
          have HF7 := HF6
          have HZ7 := HZ6
          have HG7 := HG
          have HB7 := HB
          have HB67 := HB6
          go_wp2_with fail
          first | (refine wp_named ?_; intro W8 hW) | (refine calls_named ?_; intro W8 hW) | (refine exit_named ?_; intro W8 hW)
          have B8 : Below w7.heap.size w7 W8 := by rw [hW]; exact (by repeat (first | exact Below.refl _ _ | assumption | refine Below.alloc ?_ (by first | omega | (simp <;> omega)) _ | refine Below.setCell ?_ (by first | omega | (simp <;> omega)) _ | refine Below.drew ?_))
          replace HF6 := Lib.hid (HF6.out.at B8)
          replace HZ6 := Lib.hid (HZ6.out.on B8)
          replace HG := Lib.hid (own_on HG.out B8)
          replace HB := Lib.hid (lift HB.out B8)
          replace HB6 := Lib.hid (lift HB6.out B8)
          replace hn6 : w.heap.size < W8.heap.size := ltAt hn6 B8
          have m8 : w7.heap.size < W8.heap.size := by rw [hW]; simp <;> omega
          have f0 : W8.cell? ⟨w7.heap.size, 0, none⟩ = some (.string ⟨#[]⟩) := by rw [hW]; go_simp
          have f1 : W8.cell? ⟨w7.heap.size, 1, none⟩ = some (.string ⟨#[]⟩) := by rw [hW]; go_simp
          have f2 : W8.cell? ⟨w7.heap.size, 2, none⟩ = some (.string ⟨#[]⟩) := by rw [hW]; go_simp
          have g0 : W8.frozen? ⟨w7.heap.size, 0, none⟩ = false := by rw [hW]; go_simp
          have g1 : W8.frozen? ⟨w7.heap.size, 1, none⟩ = false := by rw [hW]; go_simp
          have g2 : W8.frozen? ⟨w7.heap.size, 2, none⟩ = false := by rw [hW]; go_simp
          clear hW
          have HBt := Lib.hid B8
          clear B8
          refine (IsInstance_any n W8 (by omega)).mono ?_
          rintro e w9 ⟨rfl, hb⟩
          replace f0 := cellAt f0 hb (by omega)
          replace f1 := cellAt f1 hb (by omega)
          replace f2 := cellAt f2 hb (by omega)
          replace g0 := froAt g0 hb (by omega)
          replace g1 := froAt g1 hb (by omega)
          replace g2 := froAt g2 hb (by omega)
          replace HF6 := Lib.hid (HF6.out.at hb)
          replace HZ6 := Lib.hid (HZ6.out.on hb)
          replace HG := Lib.hid (own_on HG.out hb)
          replace HB := Lib.hid (lift HB.out hb)
          replace HB6 := Lib.hid (lift HB6.out hb)
          replace hn6 : w.heap.size < w9.heap.size := ltAt hn6 hb
          replace m8 : w7.heap.size < w9.heap.size := ltAt m8 hb
          replace HBt := Lib.hid (lift HBt.out hb)
          clear hb
          cases hI : instS n
          · have HN := Lib.hid (HS.out.none (own_no hf1 hI))
            clear HF7 HZ7 HG7 HB7 HB67
            by_cases h1 : asked.length = 1
            · have HR := Lib.hid (show R = (found0, 6) by rw [HN.out, if_pos h1])
              have h1b : ((asked.length : Int) == 1) = true := by rw [beq_iff_eq]; omega
              clear HN
              have r0 := HZ6.out.c0
              have r1 := HZ6.out.c1
              have r2 := HZ6.out.c2
              have r3 := HZ6.out.c3
              have z0 := HZ6.out.f0
              have z1 := HZ6.out.f1
              have z2 := HZ6.out.f2
              have z3 := HZ6.out.f3
              go_wp2_with fail
              have hB0 := HB6.out
              refine bodyPost_ret (v := .tuple #[.agg #[sv [], sv [], .bool false, .slice none 0 0], .int .i64 6]) (by simp only [results, Tryz.results10]; go_simp) rfl ?_
              rw [HR.out, HD.out]
              refine ⟨none, 0, rfl, Rd.none_, ?_⟩
              repeat (first | (with_reducible exact hB0) | (with_reducible refine Below.drew ?_) | (with_reducible refine Below.alloc ?_ ?zs _; case zs => first | omega | (simp <;> omega)) | (with_reducible refine Below.setCell ?_ ?zs _; case zs => first | omega | (simp <;> omega)))
            · have HR := Lib.hid (show R = (found0, 17) by rw [HN.out, if_neg h1])
              have h1b : ((asked.length : Int) == 1) = false := by rw [beq_eq_false_iff_ne]; omega
              clear HN
              have r0 := HZ6.out.c0
              have r1 := HZ6.out.c1
              have r2 := HZ6.out.c2
              have r3 := HZ6.out.c3
              have z0 := HZ6.out.f0
              have z1 := HZ6.out.f1
              have z2 := HZ6.out.f2
              have z3 := HZ6.out.f3
              go_wp2_with fail
              have hB0 := HB6.out
              refine bodyPost_ret (v := .tuple #[.agg #[sv [], sv [], .bool false, .slice none 0 0], .int .i64 17]) (by simp only [results, Tryz.results10]; go_simp) rfl ?_
              rw [HR.out, HD.out]
              refine ⟨none, 0, rfl, Rd.none_, ?_⟩
              repeat (first | (with_reducible exact hB0) | (with_reducible refine Below.drew ?_) | (with_reducible refine Below.alloc ?_ ?zs _; case zs => first | omega | (simp <;> omega)) | (with_reducible refine Below.setCell ?_ ?zs _; case zs => first | omega | (simp <;> omega)))
          · have htl := templ_le n
            have htn : ∀ f, firstF fs (templS n) = some f → ownedF fs n = some (f, false) := fun f h => own_tmpl hf1 hI h
            have htn0 : firstF fs (templS n) = none → ownedF fs n = none := fun h => own_no2 hf1 hI h
            have HTm := Lib.hid (fun W => Template1_any n W (by omega))
            generalize templS n = tn at *
            go_wp2_with fail
            refine (HTm.out w9).mono ?_
            rintro e w10 ⟨rfl, hb⟩
            replace f0 := cellAt f0 hb (by omega)
            replace f1 := cellAt f1 hb (by omega)
            replace f2 := cellAt f2 hb (by omega)
            replace g0 := froAt g0 hb (by omega)
            replace g1 := froAt g1 hb (by omega)
            replace g2 := froAt g2 hb (by omega)
            replace HF6 := Lib.hid (HF6.out.at hb)
            replace HZ6 := Lib.hid (HZ6.out.on hb)
            replace HG := Lib.hid (own_on HG.out hb)
            replace HB := Lib.hid (lift HB.out hb)
            replace HB6 := Lib.hid (lift HB6.out hb)
            replace hn6 : w.heap.size < w10.heap.size := ltAt hn6 hb
            replace m8 : w7.heap.size < w10.heap.size := ltAt m8 hb
            replace HBt := Lib.hid (lift HBt.out hb)
            clear hb HTm
            go_wp2_with fail
            refine (first12_any A c fs tn w10 HF6.out (by omega) (by omega)).mono ?_
            rintro e w11 ⟨rfl, hb⟩
            replace f0 := cellAt f0 hb (by omega)
            replace f1 := cellAt f1 hb (by omega)
            replace f2 := cellAt f2 hb (by omega)
            replace g0 := froAt g0 hb (by omega)
            replace g1 := froAt g1 hb (by omega)
            replace g2 := froAt g2 hb (by omega)
            replace HF6 := Lib.hid (HF6.out.at hb)
            replace HZ6 := Lib.hid (HZ6.out.on hb)
            replace HG := Lib.hid (own_on HG.out hb)
            replace HB := Lib.hid (lift HB.out hb)
            replace HB6 := Lib.hid (lift HB6.out hb)
            replace hn6 : w.heap.size < w11.heap.size := ltAt hn6 hb
            replace m8 : w7.heap.size < w11.heap.size := ltAt m8 hb
            replace HBt := Lib.hid (lift HBt.out hb)
            clear hb
            cases hf2 : firstF fs tn with
            | none =>
              have HN := Lib.hid (HS.out.none (htn0 hf2))
              clear HF7 HZ7 HG7 HB7 HB67 htn htn0
              unfold optV
              simp only
              by_cases h1 : asked.length = 1
              · have HR := Lib.hid (show R = (found0, 6) by rw [HN.out, if_pos h1])
                have h1b : ((asked.length : Int) == 1) = true := by rw [beq_iff_eq]; omega
                clear HN
                have r0 := HZ6.out.c0
                have r1 := HZ6.out.c1
                have r2 := HZ6.out.c2
                have r3 := HZ6.out.c3
                have z0 := HZ6.out.f0
                have z1 := HZ6.out.f1
                have z2 := HZ6.out.f2
                have z3 := HZ6.out.f3
                go_wp2_with fail
                have hB0 := HB6.out
                refine bodyPost_ret (v := .tuple #[.agg #[sv [], sv [], .bool false, .slice none 0 0], .int .i64 6]) (by simp only [results, Tryz.results10]; go_simp) rfl ?_
                rw [HR.out, HD.out]
                refine ⟨none, 0, rfl, Rd.none_, ?_⟩
                repeat (first | (with_reducible exact hB0) | (with_reducible refine Below.drew ?_) | (with_reducible refine Below.alloc ?_ ?zs _; case zs => first | omega | (simp <;> omega)) | (with_reducible refine Below.setCell ?_ ?zs _; case zs => first | omega | (simp <;> omega)))
              · have HR := Lib.hid (show R = (found0, 17) by rw [HN.out, if_neg h1])
                have h1b : ((asked.length : Int) == 1) = false := by rw [beq_eq_false_iff_ne]; omega
                clear HN
                have r0 := HZ6.out.c0
                have r1 := HZ6.out.c1
                have r2 := HZ6.out.c2
                have r3 := HZ6.out.c3
                have z0 := HZ6.out.f0
                have z1 := HZ6.out.f1
                have z2 := HZ6.out.f2
                have z3 := HZ6.out.f3
                go_wp2_with fail
                have hB0 := HB6.out
                refine bodyPost_ret (v := .tuple #[.agg #[sv [], sv [], .bool false, .slice none 0 0], .int .i64 17]) (by simp only [results, Tryz.results10]; go_simp) rfl ?_
                rw [HR.out, HD.out]
                refine ⟨none, 0, rfl, Rd.none_, ?_⟩
                repeat (first | (with_reducible exact hB0) | (with_reducible refine Below.drew ?_) | (with_reducible refine Below.alloc ?_ ?zs _; case zs => first | omega | (simp <;> omega)) | (with_reducible refine Below.setCell ?_ ?zs _; case zs => first | omega | (simp <;> omega)))
            | some f =>
              obtain ⟨s, t, l⟩ := f
              have ho := htn _ hf2
              clear htn htn0
              unfold optV
              simp only
              go_upto_region 15 with fail
              obtain ⟨w12, hw12⟩ : ∃ x, x = ((w11.setCell ⟨w7.heap.size, 0, none⟩ (sv s)).setCell ⟨w7.heap.size, 1, none⟩ (sv t)).setCell ⟨w7.heap.size, 2, none⟩ (sv l) := ⟨_, rfl⟩
              rw [← hw12]
              have k0 : w12.cell? ⟨w7.heap.size, 0, none⟩ = some (sv s) := by rw [hw12]; go_simp
              have k2 : w12.cell? ⟨w7.heap.size, 2, none⟩ = some (sv l) := by rw [hw12]; go_simp
              have B12 : Below w7.heap.size w7 w12 := by rw [hw12]; exact ((HBt.out.setCell (Nat.le_refl _) _).setCell (Nat.le_refl _) _).setCell (Nat.le_refl _) _
              have m12 : w7.heap.size < w12.heap.size := by rw [hw12]; simp only [World.size_setCell]; exact m8
              have n12 : w.heap.size < w12.heap.size := by rw [hw12]; simp only [World.size_setCell]; exact hn6
              clear hw12 HF6 HZ6 HG HB HB6 f0 f1 f2 g0 g1 g2 HBt m8 hn6 hf1 hf2
              have HF6 := Lib.hid (HF7.out.at B12)
              have HZ6 := Lib.hid (HZ7.out.on B12)
              have HG := Lib.hid (own_on HG7.out B12)
              have HB := Lib.hid (lift HB7.out B12)
              have HB6 := Lib.hid (lift HB67.out B12)
              have f0 := k0
              have f2 := k2
              have m8 := m12
              have hn6 := n12
              clear k0 k2 m12 n12 B12 HF7 HZ7 HG7 HB7 HB67
              cases d1 : (l == ([] : Str))
              · have h0 : l ≠ [] := by simpa using d1
                cases d0 : (l == ([110, 117, 108, 108] : Str))
                · have h1 : l ≠ nullS := by unfold nullS; simpa using d0
                  rcases ht : instOf l (ofS n).2.2.1 with ⟨m, okk⟩
                  have ht2 : nextF n (s, t, l) false = (m, okk) := ht
                  have hio := ofS_inst_le n
                  have hll : l.length ≤ 140737488355328 := by
                    obtain ⟨hfm, _⟩ := owned_mem hm HS.out.kind ho
                    exact Nat.le_trans (HF6.out.ok _ hfm).2.2 (by decide)
                  have HOf := Lib.hid (fun W => Of_any n W (by omega))
                  have HIn := Lib.hid (fun W => Instance1_any l (ofS n).2.2.1 W hll (by omega))
                  rw [ht] at HIn
                  clear ht hll hio
                  rcases hof : ofS n with ⟨ok1, op1, oi1, oa1⟩
                  rw [hof] at HOf HIn
                  unfold pairV at HIn
                  simp only at HIn
                  clear hof
                  have hfd : ∀ v : World, (Instr.field 57 (cutC (ok1, op1, oi1, oa1)) 2).run Tryz.prog v = .ok (sv oi1) v := fun _ => by kernel_rfl
                  try go_wp2_with fail
                  refine wp_region_held_drew (S := fun w' => Below w12.heap.size w12 w') (by kernel_rfl) (Below.drew (Below.refl _ _)) (fun hHeld => ?_)
                  refine tY (i := 0) (v := ?_) rfl ?_ hHeld ?_; rotate_left 1; focus (intro w' hSw; clear hSw; go_simp; try with_reducible rfl)
                  (try simp only [Act.put, zn1, zn2, zn3])
                  refine tY (i := 1) (v := ?_) rfl ?_ hHeld ?_; rotate_left 1; focus (intro w' hSw; have hCell := fun (b o : Nat) (h : b < w12.heap.size) => hSw.cell (p := ⟨b, o, none⟩) h; clear hSw; go_simp; try with_reducible rfl)
                  (try simp only [Act.put, zn1, zn2, zn3])
                  refine tY (i := 2) (v := ?_) rfl ?_ hHeld ?_; rotate_left 1; focus (intro w' hSw; clear hSw; go_simp; try with_reducible rfl)
                  (try simp only [Act.put, zn1, zn2, zn3])
                  refine ready_one (i := 3) rfl (by kernel_rfl) (fun K hK => ?_)
                  go_simp
                  refine (HOf.out _).mono ?_
                  rintro e y1 ⟨rfl, hb⟩
                  refine hK.out _ _ ?_ (fun hHeld2 => ?_)
                  · (try dsimp only); first | exact Below.trans hHeld (Below.mono hb hHeld.size) | exact hHeld | exact Below.drew hHeld | exact (by repeat (first | exact Below.refl _ _ | assumption | refine Below.alloc ?_ (by first | omega | (simp <;> omega)) _ | refine Below.setCell ?_ (by first | omega | (simp <;> omega)) _ | refine Below.drew ?_))
                  clear hK K hHeld; have hHeld := hHeld2; clear hHeld2; (try simp only [Act.put, zn1, zn2, zn3])
                  refine tY (i := 4) (v := ?_) rfl ?_ hHeld ?_; rotate_left 1; focus (intro w' hSw; clear hSw; go_simp; try with_reducible rfl)
                  (try simp only [Act.put, zn1, zn2, zn3])
                  refine ready_one (i := 5) rfl (by kernel_rfl) (fun K hK => ?_)
                  go_simp
                  refine (HIn.out _).mono ?_
                  rintro e y2 ⟨rfl, hb⟩
                  refine hK.out _ _ ?_ (fun hHeld2 => ?_)
                  · (try dsimp only); first | exact Below.trans hHeld (Below.mono hb hHeld.size) | exact hHeld | exact Below.drew hHeld | exact (by repeat (first | exact Below.refl _ _ | assumption | refine Below.alloc ?_ (by first | omega | (simp <;> omega)) _ | refine Below.setCell ?_ (by first | omega | (simp <;> omega)) _ | refine Below.drew ?_))
                  clear hK K hHeld; have hHeld := hHeld2; clear hHeld2; (try simp only [Act.put, zn1, zn2, zn3])
                  refine tY (i := 6) (v := ?_) rfl ?_ hHeld ?_; rotate_left 1; focus (intro w' hSw; clear hSw; go_simp; try with_reducible rfl)
                  (try simp only [Act.put, zn1, zn2, zn3])
                  refine tY (i := 7) (v := ?_) rfl ?_ hHeld ?_; rotate_left 1; focus (intro w' hSw; clear hSw; go_simp; try with_reducible rfl)
                  (try simp only [Act.put, zn1, zn2, zn3])
                  refine tY (i := 8) (v := ?_) rfl ?_ hHeld ?_; rotate_left 1; focus (intro w' hSw; clear hSw; go_simp; try with_reducible rfl)
                  (try simp only [Act.put, zn1, zn2, zn3])
                  refine tY (i := 9) (v := ?_) rfl ?_ hHeld ?_; rotate_left 1; focus (intro w' hSw; clear hSw; go_simp; try with_reducible rfl)
                  (try simp only [Act.put, zn1, zn2, zn3])
                  refine tY (i := 10) (v := ?_) rfl ?_ hHeld ?_; rotate_left 1; focus (intro w' hSw; clear hSw; go_simp; try with_reducible rfl)
                  (try simp only [Act.put, zn1, zn2, zn3])
                  refine wpAnyH_done (by kernel_rfl) ?_ _
                  replace f0 := cellAt f0 hHeld (by omega)
                  replace f2 := cellAt f2 hHeld (by omega)
                  replace HF6 := Lib.hid (HF6.out.at hHeld)
                  replace HZ6 := Lib.hid (HZ6.out.on hHeld)
                  replace HG := Lib.hid (own_on HG.out hHeld)
                  replace HB := Lib.hid (lift HB.out hHeld)
                  replace HB6 := Lib.hid (lift HB6.out hHeld)
                  replace hn6 : w.heap.size < y2.heap.size := ltAt hn6 hHeld
                  replace m8 : w7.heap.size < y2.heap.size := ltAt m8 hHeld
                  clear hHeld
                  cases okk
                  · have HR := Lib.hid (HS.out.stop ho h0 h1 (.inl (by rw [ht2])))
                    have r0 := HZ6.out.c0
                    have r1 := HZ6.out.c1
                    have r2 := HZ6.out.c2
                    have r3 := HZ6.out.c3
                    have z0 := HZ6.out.f0
                    have z1 := HZ6.out.f1
                    have z2 := HZ6.out.f2
                    have z3 := HZ6.out.f3
                    go_wp2_with fail
                    have hB0 := HB6.out
                    refine bodyPost_ret (v := .tuple #[.agg #[sv [], sv [], .bool false, .slice none 0 0], .int .i64 17]) (by simp only [results, Tryz.results10]; go_simp) rfl ?_
                    rw [HR.out, HD.out]
                    refine ⟨none, 0, rfl, Rd.none_, ?_⟩
                    repeat (first | (with_reducible exact hB0) | (with_reducible refine Below.drew ?_) | (with_reducible refine Below.alloc ?_ ?zs _; case zs => first | omega | (simp <;> omega)) | (with_reducible refine Below.setCell ?_ ?zs _; case zs => first | omega | (simp <;> omega)))
                  · skip
                    go_wp2_with fail
                    refine (HasS_any Ag cg asked m y2 (own_rd' HG.out) (by omega)).mono ?_
                    rintro e wz ⟨rfl, rfl⟩
                    cases hc : hasB asked m
                    · have hci : m ∉ asked := fun h => by rw [(hasB_iff _ _).2 h] at hc; cases hc
                      by_cases h8 : 8 < asked.length
                      · have HR := Lib.hid (HS.out.stop ho h0 h1 (.inr (.inr h8)))
                        have h8b : decide (8 < asked.length) = true := by simpa using h8
                        have r0 := HZ6.out.c0
                        have r1 := HZ6.out.c1
                        have r2 := HZ6.out.c2
                        have r3 := HZ6.out.c3
                        have z0 := HZ6.out.f0
                        have z1 := HZ6.out.f1
                        have z2 := HZ6.out.f2
                        have z3 := HZ6.out.f3
                        go_wp2_with fail
                        have hB0 := HB6.out
                        refine bodyPost_ret (v := .tuple #[.agg #[sv [], sv [], .bool false, .slice none 0 0], .int .i64 17]) (by simp only [results, Tryz.results10]; go_simp) rfl ?_
                        rw [HR.out, HD.out]
                        refine ⟨none, 0, rfl, Rd.none_, ?_⟩
                        repeat (first | (with_reducible exact hB0) | (with_reducible refine Below.drew ?_) | (with_reducible refine Below.alloc ?_ ?zs _; case zs => first | omega | (simp <;> omega)) | (with_reducible refine Below.setCell ?_ ?zs _; case zs => first | omega | (simp <;> omega)))
                      · have h8b : decide (8 < asked.length) = false := by simpa using h8
                        have HSn := Lib.hid (HS.out.next hm ho h0 h1 (by rw [ht2]) (by first | exact hci | (rw [ht2]; exact hci)) (by omega))
                        rw [ht2] at HSn
                        have h63 := Lib.hid (show asked.length + 1 ≤ maxLen by unfold maxLen; omega)
                        have hby := Lib.hid (show (asked.length + 1) * 16 ≤ 140737488355328 by omega)
                        have hz6 := HB.out.size
                        clear hci
                        go_wp2_with (first | (at_builtin; refine wpList_pushm y2 y2 (by rfl) (.tmp 102) (.tmp 104) 24 (by rfl) w3.heap.size 9 i0 _ 1 16 Tryz.underlying24 hi hz0 hz1 hz2 rfl (by decide) _ _ _ (by rfl) HG.out [sv m] y2.heap.size rfl (by rfl) rfl (one_sv m) h63.out hby.out hz6 (Below.refl _ _) ?_; intro A20 c20 w20 hown hbel hg hat; have HO20 := Lib.hid hown; have HBa := Lib.hid hbel; clear hown hbel hg hat) | fail)
                        go_roundw
                        case rel => exact ⟨m, asked ++ [m], A20, c20, by rw [List.length_append]; rfl, by simp; omega, HSn, by rw [List.length_append, svs_app]; exact HO20.out, HB.out.trans HBa.out⟩
                        case measure => simp [lenV]; omega
                    · have HR := Lib.hid (HS.out.stop ho h0 h1 (.inr (.inl (by first | exact (hasB_iff _ _).1 hc | (rw [ht2]; exact (hasB_iff _ _).1 hc)))))
                      have r0 := HZ6.out.c0
                      have r1 := HZ6.out.c1
                      have r2 := HZ6.out.c2
                      have r3 := HZ6.out.c3
                      have z0 := HZ6.out.f0
                      have z1 := HZ6.out.f1
                      have z2 := HZ6.out.f2
                      have z3 := HZ6.out.f3
                      go_wp2_with fail
                      have hB0 := HB6.out
                      refine bodyPost_ret (v := .tuple #[.agg #[sv [], sv [], .bool false, .slice none 0 0], .int .i64 17]) (by simp only [results, Tryz.results10]; go_simp) rfl ?_
                      rw [HR.out, HD.out]
                      refine ⟨none, 0, rfl, Rd.none_, ?_⟩
                      repeat (first | (with_reducible exact hB0) | (with_reducible refine Below.drew ?_) | (with_reducible refine Below.alloc ?_ ?zs _; case zs => first | omega | (simp <;> omega)) | (with_reducible refine Below.setCell ?_ ?zs _; case zs => first | omega | (simp <;> omega)))
                · have h1 : l = nullS := by unfold nullS; simpa using d0
                  have HR := Lib.hid (HS.out.null ho h1)
                  have r0 := HZ6.out.c0
                  have r1 := HZ6.out.c1
                  have r2 := HZ6.out.c2
                  have r3 := HZ6.out.c3
                  have z0 := HZ6.out.f0
                  have z1 := HZ6.out.f1
                  have z2 := HZ6.out.f2
                  have z3 := HZ6.out.f3
                  go_wp2_with fail
                  have hB0 := HB6.out
                  refine bodyPost_ret (v := .tuple #[.agg #[sv n, sv s, .bool true, .slice none 0 0], .int .i64 0]) (by simp only [results, Tryz.results10]; go_simp) rfl ?_
                  rw [HR.out, HD.out]
                  refine ⟨none, 0, rfl, Rd.none_, ?_⟩
                  repeat (first | (with_reducible exact hB0) | (with_reducible refine Below.drew ?_) | (with_reducible refine Below.alloc ?_ ?zs _; case zs => first | omega | (simp <;> omega)) | (with_reducible refine Below.setCell ?_ ?zs _; case zs => first | omega | (simp <;> omega)))
              · have h0 : l = [] := by simpa using d1
                subst h0
                have HR := Lib.hid (HS.out.end_ ho rfl)
                have hkn := HS.out.kind
                have HLd := Lib.hid (fun W (h : FlIn W A fs) => Drops12_any A c fs n W h hm HSh.out (by omega))
                generalize dropsF fs n = Dr at *
                go_upto_region 16 with fail
                have r0 := HZ6.out.c0
                have r1 := HZ6.out.c1
                have r2 := HZ6.out.c2
                have r3 := HZ6.out.c3
                have z0 := HZ6.out.f0
                have z1 := HZ6.out.f1
                have z2 := HZ6.out.f2
                have z3 := HZ6.out.f3
                try go_wp2_with fail
                refine wp_region_held_drew (S := fun w' => Keeps (But w12 w.heap.size) w12 w') (by kernel_rfl) (But.below (Below.drew (Below.refl _ _))) (fun hHeld => ?_)
                have r0 : (w12.drew).cell? ⟨w.heap.size, 0, none⟩ = _ := r0
                have r1 : (w12.drew).cell? ⟨w.heap.size, 1, none⟩ = _ := r1
                have r2 : (w12.drew).cell? ⟨w.heap.size, 2, none⟩ = _ := r2
                have r3 : (w12.drew).cell? ⟨w.heap.size, 3, none⟩ = _ := r3
                have z0 : (w12.drew).frozen? ⟨w.heap.size, 0, none⟩ = _ := z0
                have z1 : (w12.drew).frozen? ⟨w.heap.size, 1, none⟩ = _ := z1
                have z2 : (w12.drew).frozen? ⟨w.heap.size, 2, none⟩ = _ := z2
                have z3 : (w12.drew).frozen? ⟨w.heap.size, 3, none⟩ = _ := z3
                have nv : w.heap.size < (w12.drew).heap.size := hn6
                have HBv : Below w.heap.size w (w12.drew) := Below.drew HB6.out
                have HFv : FlIn (w12.drew) A fs := HF6.out.at (Below.drew (Below.refl _ _))
                generalize w12.drew = v0 at *
                refine tY (i := 0) (v := ?_) rfl ?_ hHeld ?_; rotate_left 1; focus (intro w' hSw; clear hSw; go_simp; try with_reducible rfl)
                (try simp only [Act.put, zn1, zn2, zn3])
                refine tY (i := 1) (v := ?_) rfl ?_ hHeld ?_; rotate_left 1; focus (intro w' hSw; clear hSw; go_simp; try with_reducible rfl)
                (try simp only [Act.put, zn1, zn2, zn3])
                refine tY (i := 2) (v := ?_) rfl ?_ hHeld ?_; rotate_left 1; focus (intro w' hSw; have hCell := fun (b o : Nat) (h : b < w12.heap.size) (h2 : ¬ b = w.heap.size) => World.cell?_of_block (a := ⟨b, o, none⟩) (hSw.block b ⟨h, h2⟩); clear hSw; go_simp; try with_reducible rfl)
                (try simp only [Act.put, zn1, zn2, zn3])
                refine tY (i := 3) (v := ?_) rfl ?_ hHeld ?_; rotate_left 1; focus (intro w' hSw; clear hSw; go_simp; try with_reducible rfl)
                (try simp only [Act.put, zn1, zn2, zn3])
                refine tY (i := 4) (v := ?_) rfl ?_ hHeld ?_; rotate_left 1; focus (intro w' hSw; clear hSw; go_simp; try with_reducible rfl)
                (try simp only [Act.put, zn1, zn2, zn3])
                refine ready_one (i := 5) rfl (by kernel_rfl) (fun K hK => ?_)
                go_simp
                refine (HLd.out _ HFv).mono ?_
                rintro e y5 ⟨A5, c5, rfl, ho5, hb⟩
                replace r0 := cellAt r0 hb nv
                replace r1 := cellAt r1 hb nv
                replace r2 := cellAt r2 hb nv
                replace r3 := cellAt r3 hb nv
                replace z0 := froAt z0 hb nv
                replace z1 := froAt z1 hb nv
                replace z2 := froAt z2 hb nv
                replace z3 := froAt z3 hb nv
                have HO5 := Lib.hid ho5
                have hv5 := nv
                replace nv := Nat.lt_of_lt_of_le nv hb.size
                replace HBv := lift HBv hb
                clear ho5 HFv
                refine hK.out _ _ ?_ (fun hHeld2 => ?_)
                · (try dsimp only); exact But.two hHeld hb
                clear hK K hHeld hb; have hHeld := hHeld2; clear hHeld2; (try simp only [Act.put, zn1, zn2, zn3])
                refine ready_one (i := 6) rfl (by kernel_rfl) (fun K hK => ?_)
                go_simp
                refine hK.out _ _ ?_ (fun hHeld2 => ?_)
                · (try dsimp only); repeat (first | (with_reducible exact hHeld) | (with_reducible refine But.trans ?_ (But.set _ _ _ _)) | (with_reducible refine But.two ?_ (below_new _ _)))
                clear hK K hHeld; have hHeld := hHeld2; clear hHeld2; (try simp only [Act.put, zn1, zn2, zn3])
                refine ready_one (i := 7) rfl (by kernel_rfl) (fun K hK => ?_)
                go_simp
                refine hK.out _ _ ?_ (fun hHeld2 => ?_)
                · (try dsimp only); repeat (first | (with_reducible exact hHeld) | (with_reducible refine But.trans ?_ (But.set _ _ _ _)) | (with_reducible refine But.two ?_ (below_new _ _)))
                clear hK K hHeld; have hHeld := hHeld2; clear hHeld2; (try simp only [Act.put, zn1, zn2, zn3])
                refine tY (i := 8) (v := ?_) rfl ?_ hHeld ?_; rotate_left 1; focus (intro w' hSw; clear hSw; go_simp; try with_reducible rfl)
                (try simp only [Act.put, zn1, zn2, zn3])
                refine wpAnyH_done (by kernel_rfl) ?_ _
                go_wp2_with fail
                have hB0 := HBv
                refine bodyPost_ret (v := .tuple #[.agg #[sv n, sv s, .bool false, .slice A5 Dr.length c5], .int .i64 0]) (by simp only [results, Tryz.results10]; go_simp) rfl ?_
                rw [HR.out, HD.out]
                refine ⟨A5, c5, rfl, own_rd' (e := 9) (base := v0.heap.size) (by repeat (first | (with_reducible exact HO5.out) | (with_reducible refine ownsRow_setCell_below ?_ hv5 _))), ?_⟩
                repeat (first | (with_reducible exact hB0) | (with_reducible refine Below.drew ?_) | (with_reducible refine Below.alloc ?_ ?zs _; case zs => first | omega | (simp <;> omega)) | (with_reducible refine Below.setCell ?_ ?zs _; case zs => first | omega | (simp <;> omega)))
end Od
end Go.Proofs.YtgfdcmlmgeoimaaGreat
end

section
/- Rows of files of the call's own: appended to, filtered. (bel2) -/
namespace Go.Proofs.YtgfdcmlmgeoimaaGreat
open Go.RowKit Go.Sort
set_option linter.unusedSimpArgs false
/-- 'append([]T(nil), xs...)'. -/
theorem wpList_append_first {P : Program} (w : World) {ops : Array Oper} {rest : List Oper} {o : Oper} {a : Act} {Q : Exit → Act → World → Prop} (hgd : o.guard = none) (s x : Operand) (t : TypeId)
    (ho : o.op = .call { callee := .builtin .append, args := #[s, x], argTypes := #[t, t] })
    (base : Nat) (e : TypeId) (i : TypeInfo) (z : Value) (size bytes : Nat) (ht : P.underlying t = some (.slice e)) (hi : P.info? e = some i) (hz : i.zero = some z)
    (hsize : i.size = size) (hby : i.bytes = bytes) (hzs : z.cells.size = size) (hsz : 0 < size) (hs : a.eval s = .slice none 0 0)
    (B : Nat) (A : Option Addr) (m c : Nat) (news : List Value) (hx : a.eval x = .slice A m c) (hr : Rd w B size A m news) (h1 : ∀ u ∈ news, u.oneCell' = true)
    (h63 : m ≤ maxLen) (hbytes : m * bytes ≤ 140737488355328) (hbase : base ≤ w.heap.size)
    (h : ∀ A' c' w', w'.ownsRow base e size (.slice A' m c') m news → Below w.heap.size w w' → wpList P ops Q rest (a.put o.dst (.slice A' m c')) w') : wpList P ops Q (o :: rest) a w := by
  refine wpList_append_rd w hgd s x t ho base e i z size bytes ht hi hz hsize hby hzs hsz (.slice none 0 0) 0 [] hs (World.ownsRow_nil _ _ _ _) B A m c news hx hr h1 (by omega) (by simpa using hbytes) hbase ?_
  intro A' c' w' h2 h3 _
  rw [Nat.zero_add, List.nil_append] at h2
  rw [Nat.zero_add]
  exact h A' c' w' h2 ((Below.refl _ _).grown h3 (Nat.le_refl _) (by simp [Value.ownBlock]))
namespace Od
theorem filterD_take {α : Type} {F : α → Bool} {l : List α} {k : Nat} (hk : k < l.length) : (l.take (k + 1)).filter F = (l.take k).filter F ++ (if F l[k] = true then [l[k]] else []) := by
  rw [List.take_succ_eq_append_getElem hk, List.filter_append]
  congr 1
  cases h : F l[k] <;> simp [h]
theorem one_flsC (l : List Fl) : ∀ u ∈ flsC l, u.oneCell' = true := fun u hu => by
  unfold flsC at hu
  obtain ⟨f, _, hf⟩ := List.mem_flatMap.1 hu
  exact one_flC f u hf
theorem FlIn.snoc {w' : World} {A : Option Addr} {c : Nat} {L : List Fl} {base : Nat} {s t l : Str} (h : ∀ f ∈ L, okFl f) (ho : w'.ownsRow base 37 3 (.slice A (L.length + 1) c) (L.length + 1) (flsC L ++ [sv s, sv t, sv l])) (hf : okFl (s, t, l)) : FlIn w' A (L ++ [(s, t, l)]) := by
  refine ⟨?_, fun f hm => ?_⟩
  · rw [List.length_append, flsC_app, flsC_one]
    exact own_rd' ho
  · rcases List.mem_append.1 hm with e | e
    · exact h f e
    · rw [List.mem_singleton.1 e]; exact hf
end Od
end Go.Proofs.YtgfdcmlmgeoimaaGreat
end

section
/- What every law's row asks behind the walk: the result is true, and each argument reads as it did, since nothing that was there has turned. -/
namespace Go.Proofs.YtgfdcmlmgeoimaaGreat
open Go.ChangeShapes Go.WideShapes Go.ChangeAt Go.RowKit

theorem own : ownKnob Tryz.prog.godebug = none := by kernel_rfl
theorem laid : laidOutB Tryz.prog = true := by kernel_rfl

section
variable {H : Type} {enc : TypeId × Value → H} {P : Program}

theorem trodAll_stays (hl : laidOutB P = true) {W W' : World} (hb : Below W.heap.size W W') :
    ∀ {ts : List TypeId} {vs : List Value} {ds : List (DataW H)} {p : List MemPlace}, (∀ t ∈ ts, P.readableRec t = true ∧ t < P.types.size) → (∀ x ∈ p, x.block < W.heap.size) →
      DataW.TrodAll enc P W 0 (fun _ => true) true ts vs ds p → DataW.TrodAll enc P W' 0 (fun b => decide (b < W.heap.size)) true ts vs ds p
  | [], _, _, _, _, _, h => by
    obtain ⟨rfl, rfl, rfl⟩ := trodAll_nil h
    exact trodAll_mk0
  | t :: _, _, _, _, hr, hlt, h => by
    obtain ⟨v, vs1, d, ds1, a, b, rfl, rfl, rfl, h1, h2⟩ := trodAll_cons h
    have ht := hr t List.mem_cons_self
    exact trodAll_cons_mk (Below.trod hl ht.1 ht.2 h1 hb (fun x hx => hlt x (List.mem_append.2 (.inl hx))))
      (trodAll_stays hl hb (fun u hu => hr u (List.mem_cons_of_mem _ hu)) (fun x hx => hlt x (List.mem_append.2 (.inr hx))) h2)

/-- The row's post, for a law: it returned true, and nothing that was there has turned. -/
theorem law_post (hl : laidOutB P = true) {f : Func} {s : ChangeSpec} {W W' : World} {args : Array Value} {ds gs : List (DataW H)} {before : List MemPlace} {tb : TypeId}
    (hr : ∀ t ∈ f.params.toList, P.readableRec t = true ∧ t < P.types.size) (hv : s.vars = []) (hres : f.resultTypes = #[tb]) (htb : P.underlying tb = some .bool)
    (hW : DataW.Whole enc P f.params.toList s.vars false W args.toList ds gs before) (hs : s.fn H (ds ++ gs) = { results := [.lit (.bool true)], args := ds }) (hb : Below W.heap.size W W') :
    s.post enc P f false true false false W args (.bool true) W' := by
  have hlt : ∀ p ∈ before, p.block < W.heap.size := fun p hp => hW.lt p hp
  have hW0 := hW
  obtain ⟨p, q, hA, hV, rfl, _, _⟩ := hW0
  rw [hv] at hV
  obtain ⟨rfl, rfl⟩ := trodVars_none hV
  rw [List.append_nil] at hlt
  refine ⟨ds, [], _, [], p, [], hW, ?_, ?_, ?_, hb.frame _, fun h => by cases h⟩
  · rw [hs, hres]
    exact trodAll_cons_mk (shut_bool htb true) trodAll_mk0
  · rw [hs]
    exact trodAll_stays hl hb hr hlt hA
  · rw [hs, hv]
    exact rfl

theorem cell_lt {w : World} {a : Addr} {v : Value} (h : w.cell? a = some v) : a.block < w.heap.size := by
  rcases Nat.lt_or_ge a.block w.heap.size with h1 | h1
  · exact h1
  · unfold World.cell? at h
    rw [Array.getElem?_eq_none h1] at h
    cases h

/-- An argument that is a slice of numbers. -/
theorem open_rd_ints {W : World} {base : Nat} {t e : TypeId} {v : Value} {d : DataW H} {p : List MemPlace} (ht : P.underlying t = some (.slice e)) (he : P.underlying e = some (.int .i64)) (hc : P.cellsOf e = 1)
    (hok : Value.okWide P W .any base t v) (h : DataW.Trod enc P W 0 (fun _ => true) true t v d p) : ∃ (A : Option Addr) (c : Nat) (xs : List Int), v = .slice A xs.length c ∧ Rd W W.heap.size 1 A xs.length (ints xs) ∧ ∀ x ∈ xs, (Lit.int .i64 x).wf = true := by
  obtain ⟨a0, len, cap, rfl⟩ := okWide_slice ht hok
  obtain ⟨fuel, hf⟩ := h
  rcases open_ints ht he hc hf with ⟨hcs, _⟩ | ⟨a, len', cap', zs, hcs, _, hl, hm, hz, hx, hcell, hwz⟩
  · simp only [Value.cells, List.cons.injEq, and_true] at hcs
    injection hcs with h1 h2 h3
    subst h1 h2 h3
    exact ⟨none, 0, [], rfl, Rd.none_, fun x hx => by cases hx⟩
  · simp only [Value.cells, List.cons.injEq, and_true] at hcs
    injection hcs with h1 h2 h3
    subst h1 h2 h3
    have hz' : zs.length = cap := hz
    have hlen : (zs.take len).length = len := by simp; omega
    refine ⟨some a, cap, zs.take len, by rw [hlen], ⟨by simp, fun hn => ?_⟩, fun x hx => hwz x (List.mem_of_mem_take hx)⟩
    rw [hlen] at hn
    have hc0 := hcell 0 (by omega)
    have hb : a.block < W.heap.size := by simpa [Addr.add] using cell_lt hc0
    have hsp : a.spot = none := by
      cases hs : a.spot with
      | none => rfl
      | some s =>
        exfalso
        simp only [Addr.add, if_pos, World.cell?, hs] at hc0
        revert hc0
        split <;> simp
    refine ⟨a, rfl, hb, hsp, fun j hj => ?_⟩
    have hj' : j < len := by rw [hlen] at hj; omega
    have := hcell j (by omega)
    have hadd : a.add j = ⟨a.block, a.off + j, none⟩ := by
      unfold Addr.add
      split
      · rename_i h0; subst h0; cases a; simp_all
      · rfl
    rw [hadd] at this
    rw [this]
    simp [ints, hj', List.getD, show j < zs.length from by omega]
end

end Go.Proofs.YtgfdcmlmgeoimaaGreat
end
