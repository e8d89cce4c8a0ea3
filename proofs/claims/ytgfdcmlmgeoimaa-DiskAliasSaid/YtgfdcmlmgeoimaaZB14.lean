/- My texts, joined for the claim: DFind. -/
import Derived.Test.YtgfdcmlmgeoimaaZB13

section
/- disk.Find: what files have for a name. (bel2) -/
namespace Go.Proofs.Ytgfdcmlmgeoimaa
open Go.RowKit Go.Sort
set_option linter.unusedSimpArgs false
namespace Od
theorem containsD_any (A : Option Addr) (c : Nat) (ss : List Str) (x : Str) (w : World) (hr : Rd w w.heap.size 1 A ss.length (svs ss)) (hl : ss.length ≤ 140737488355328) :
    Calls Try.prog 18 #[.slice A ss.length c, sv x] w fun e w' => e = .returned (.bool (hasB ss x)) ∧ w' = w := by
  have he : hasB ss x = decide (x ∈ ss) := by
    rw [Bool.eq_iff_iff, hasB_iff, decide_eq_true_eq]
  rw [he]
  rcases Nat.eq_zero_or_pos ss.length with h0 | h0
  · have hn := List.length_eq_zero_iff.1 h0
    subst hn
    refine (Try.slices_Contains_string_empty A c _ w).mono ?_
    rintro e w' ⟨rfl, rfl⟩
    exact ⟨by simp, rfl⟩
  · obtain ⟨b, o, rfl, hb, hc⟩ := hr.open h0
    refine (Try.slices_Contains_string b o ss.length c (ss.map fun s => ⟨s.toArray⟩) ⟨x.toArray⟩ w (by simp) (by omega) (fun j hj => ?_)).mono ?_
    · have hj' : j < ss.length := by simpa using hj
      rw [hc j (by omega)]
      simp [svs, hj']
    · rintro e w' ⟨rfl, rfl⟩
      exact ⟨by rw [List.take_of_length_le (by simp), idxOf_zs], rfl⟩
/-- The block of a result that is still nothing. -/
structure FdZ (w : World) (b : Nat) : Prop where
  c0 : w.cell? ⟨b, 0, none⟩ = some (.string ⟨#[]⟩)
  c1 : w.cell? ⟨b, 1, none⟩ = some (.string ⟨#[]⟩)
  c2 : w.cell? ⟨b, 2, none⟩ = some (.bool false)
  c3 : w.cell? ⟨b, 3, none⟩ = some (.slice none 0 0)
  f0 : w.frozen? ⟨b, 0, none⟩ = false
  f1 : w.frozen? ⟨b, 1, none⟩ = false
  f2 : w.frozen? ⟨b, 2, none⟩ = false
  f3 : w.frozen? ⟨b, 3, none⟩ = false
theorem FdZ.lt {w : World} {b : Nat} (h : FdZ w b) : b < w.heap.size := cell_blk h.c0
theorem FdZ.on {w w' : World} {b : Nat} (h : FdZ w b) (hb : Below w.heap.size w w') : FdZ w' b :=
  ⟨cellAt h.c0 hb h.lt, cellAt h.c1 hb h.lt, cellAt h.c2 hb h.lt, cellAt h.c3 hb h.lt, froAt h.f0 hb h.lt, froAt h.f1 hb h.lt, froAt h.f2 hb h.lt, froAt h.f3 hb h.lt⟩
def lenV : Value → Nat
  | .slice _ n _ => n
  | _ => 0
theorem ofS_inst_le (n : Str) : (ofS n).2.2.1.length ≤ 60 := (ofS_le n).2
set_option maxRecDepth 100000 in
set_option maxHeartbeats 8000000 in
theorem Find_any (A : Option Addr) (c : Nat) (fs : List Fl) (u : Str) (w : World) (h : FlIn w A fs) (hl : fs.length ≤ 10000000000000) (hu : u.length ≤ 140737488355328) : Calls Try.prog 6 #[.slice A fs.length c, sv u] w (FindR (findF fs u) w) := by
  obtain ⟨i0, hi, hz0, hz1, hz2⟩ := info_parts infoS
  have HF := Lib.hid h
  have hdf : ∀ x w e w', FindR x w e w' = ∃ A c, e = .returned (.tuple #[.agg #[sv x.1.1, sv x.1.2.1, .bool x.1.2.2.1, .slice A x.1.2.2.2.length c], .int .i64 x.2]) ∧ Rd w' w'.heap.size 1 A x.1.2.2.2.length (svs x.1.2.2.2) ∧ Below w.heap.size w w' := fun _ _ _ _ => rfl
  have HD := Lib.hid hdf
  clear h hdf
  cases hm : mayFs fs
  · have HR := Lib.hid (find_form (u := u) hm)
    go_enter Try.func6, Try.ntmps6
    go_wp2_with fail
    first | (refine wp_named ?_; intro W1 hW) | (refine calls_named ?_; intro W1 hW) | (refine exit_named ?_; intro W1 hW)
    have B1 : Below w.heap.size w W1 := by rw [hW]; exact (by repeat (first | exact Below.refl _ _ | assumption | refine Below.alloc ?_ (by first | omega | (simp <;> omega)) _ | refine Below.setCell ?_ (by first | omega | (simp <;> omega)) _ | refine Below.drew ?_))
    replace HF := Lib.hid (HF.out.at B1)
    have n0 : w.heap.size < W1.heap.size := by rw [hW]; simp <;> omega
    have r0 : W1.cell? ⟨w.heap.size, 0, none⟩ = some (.string ⟨#[]⟩) := by rw [hW]; go_simp
    have r1 : W1.cell? ⟨w.heap.size, 1, none⟩ = some (.string ⟨#[]⟩) := by rw [hW]; go_simp
    have r2 : W1.cell? ⟨w.heap.size, 2, none⟩ = some (.bool false) := by rw [hW]; go_simp
    have r3 : W1.cell? ⟨w.heap.size, 3, none⟩ = some (.slice none 0 0) := by rw [hW]; go_simp
    have z0 : W1.frozen? ⟨w.heap.size, 0, none⟩ = false := by rw [hW]; go_simp
    have z1 : W1.frozen? ⟨w.heap.size, 1, none⟩ = false := by rw [hW]; go_simp
    have z2 : W1.frozen? ⟨w.heap.size, 2, none⟩ = false := by rw [hW]; go_simp
    have z3 : W1.frozen? ⟨w.heap.size, 3, none⟩ = false := by rw [hW]; go_simp
    clear hW
    have HB1 := Lib.hid B1
    have HZ1 := Lib.hid (show FdZ W1 w.heap.size from ⟨r0, r1, r2, r3, z0, z1, z2, z3⟩)
    clear B1 r0 r1 r2 r3 z0 z1 z2 z3
    refine (MayD_any A c fs W1 HF.out hl).mono ?_
    rintro e w2 ⟨rfl, hb⟩
    rw [hm]
    replace HF := Lib.hid (HF.out.at hb)
    replace n0 : w.heap.size < w2.heap.size := ltAt n0 hb
    have HB2 := Lib.hid (lift HB1.out hb)
    have HZ2 := Lib.hid (HZ1.out.on hb)
    clear hb HZ1
    have r0 := HZ2.out.c0
    have r1 := HZ2.out.c1
    have r2 := HZ2.out.c2
    have r3 := HZ2.out.c3
    have z0 := HZ2.out.f0
    have z1 := HZ2.out.f1
    have z2 := HZ2.out.f2
    have z3 := HZ2.out.f3
    go_wp2_with fail
    have hB0 := HB2.out
    refine bodyPost_ret (v := .tuple #[.agg #[sv [], sv [], .bool false, .slice none 0 0], .int .i64 1]) (by simp only [results, Try.results6]; go_simp) rfl ?_
    rw [HR.out, HD.out]
    refine ⟨none, 0, rfl, Rd.none_, ?_⟩
    repeat (first | (with_reducible exact hB0) | (with_reducible refine Below.drew ?_) | (with_reducible refine Below.alloc ?_ ?zs _; case zs => first | omega | (simp <;> omega)) | (with_reducible refine Below.setCell ?_ ?zs _; case zs => first | omega | (simp <;> omega)))
  · cases hk : (kindS u != 0)
    · have HR := Lib.hid (find_name hm (u := u) (by simpa using hk))
      go_enter Try.func6, Try.ntmps6
      go_wp2_with fail
      first | (refine wp_named ?_; intro W1 hW) | (refine calls_named ?_; intro W1 hW) | (refine exit_named ?_; intro W1 hW)
      have B1 : Below w.heap.size w W1 := by rw [hW]; exact (by repeat (first | exact Below.refl _ _ | assumption | refine Below.alloc ?_ (by first | omega | (simp <;> omega)) _ | refine Below.setCell ?_ (by first | omega | (simp <;> omega)) _ | refine Below.drew ?_))
      replace HF := Lib.hid (HF.out.at B1)
      have n0 : w.heap.size < W1.heap.size := by rw [hW]; simp <;> omega
      have r0 : W1.cell? ⟨w.heap.size, 0, none⟩ = some (.string ⟨#[]⟩) := by rw [hW]; go_simp
      have r1 : W1.cell? ⟨w.heap.size, 1, none⟩ = some (.string ⟨#[]⟩) := by rw [hW]; go_simp
      have r2 : W1.cell? ⟨w.heap.size, 2, none⟩ = some (.bool false) := by rw [hW]; go_simp
      have r3 : W1.cell? ⟨w.heap.size, 3, none⟩ = some (.slice none 0 0) := by rw [hW]; go_simp
      have z0 : W1.frozen? ⟨w.heap.size, 0, none⟩ = false := by rw [hW]; go_simp
      have z1 : W1.frozen? ⟨w.heap.size, 1, none⟩ = false := by rw [hW]; go_simp
      have z2 : W1.frozen? ⟨w.heap.size, 2, none⟩ = false := by rw [hW]; go_simp
      have z3 : W1.frozen? ⟨w.heap.size, 3, none⟩ = false := by rw [hW]; go_simp
      clear hW
      have HB1 := Lib.hid B1
      have HZ1 := Lib.hid (show FdZ W1 w.heap.size from ⟨r0, r1, r2, r3, z0, z1, z2, z3⟩)
      clear B1 r0 r1 r2 r3 z0 z1 z2 z3
      refine (MayD_any A c fs W1 HF.out hl).mono ?_
      rintro e w2 ⟨rfl, hb⟩
      rw [hm]
      replace HF := Lib.hid (HF.out.at hb)
      replace n0 : w.heap.size < w2.heap.size := ltAt n0 hb
      have HB2 := Lib.hid (lift HB1.out hb)
      have HZ2 := Lib.hid (HZ1.out.on hb)
      clear hb HZ1
      go_wp2_with fail
      refine (May_any u w2 hu).mono ?_
      rintro e w3 ⟨rfl, hb⟩
      replace HF := Lib.hid (HF.out.at hb)
      replace n0 : w.heap.size < w3.heap.size := ltAt n0 hb
      have HB3 := Lib.hid (lift HB2.out hb)
      have HZ3 := Lib.hid (HZ2.out.on hb)
      clear hb HZ2
      rw [hk]
      have r0 := HZ3.out.c0
      have r1 := HZ3.out.c1
      have r2 := HZ3.out.c2
      have r3 := HZ3.out.c3
      have z0 := HZ3.out.f0
      have z1 := HZ3.out.f1
      have z2 := HZ3.out.f2
      have z3 := HZ3.out.f3
      go_wp2_with fail
      have hB0 := HB3.out
      refine bodyPost_ret (v := .tuple #[.agg #[sv [], sv [], .bool false, .slice none 0 0], .int .i64 5]) (by simp only [results, Try.results6]; go_simp) rfl ?_
      rw [HR.out, HD.out]
      refine ⟨none, 0, rfl, Rd.none_, ?_⟩
      repeat (first | (with_reducible exact hB0) | (with_reducible refine Below.drew ?_) | (with_reducible refine Below.alloc ?_ ?zs _; case zs => first | omega | (simp <;> omega)) | (with_reducible refine Below.setCell ?_ ?zs _; case zs => first | omega | (simp <;> omega)))
    · have HS0 := Lib.hid (HopS.start hm (u := u) (by simpa using hk))
      go_enter Try.func6, Try.ntmps6
      go_wp2_with fail
      first | (refine wp_named ?_; intro W1 hW) | (refine calls_named ?_; intro W1 hW) | (refine exit_named ?_; intro W1 hW)
      have B1 : Below w.heap.size w W1 := by rw [hW]; exact (by repeat (first | exact Below.refl _ _ | assumption | refine Below.alloc ?_ (by first | omega | (simp <;> omega)) _ | refine Below.setCell ?_ (by first | omega | (simp <;> omega)) _ | refine Below.drew ?_))
      replace HF := Lib.hid (HF.out.at B1)
      have n0 : w.heap.size < W1.heap.size := by rw [hW]; simp <;> omega
      have r0 : W1.cell? ⟨w.heap.size, 0, none⟩ = some (.string ⟨#[]⟩) := by rw [hW]; go_simp
      have r1 : W1.cell? ⟨w.heap.size, 1, none⟩ = some (.string ⟨#[]⟩) := by rw [hW]; go_simp
      have r2 : W1.cell? ⟨w.heap.size, 2, none⟩ = some (.bool false) := by rw [hW]; go_simp
      have r3 : W1.cell? ⟨w.heap.size, 3, none⟩ = some (.slice none 0 0) := by rw [hW]; go_simp
      have z0 : W1.frozen? ⟨w.heap.size, 0, none⟩ = false := by rw [hW]; go_simp
      have z1 : W1.frozen? ⟨w.heap.size, 1, none⟩ = false := by rw [hW]; go_simp
      have z2 : W1.frozen? ⟨w.heap.size, 2, none⟩ = false := by rw [hW]; go_simp
      have z3 : W1.frozen? ⟨w.heap.size, 3, none⟩ = false := by rw [hW]; go_simp
      clear hW
      have HB1 := Lib.hid B1
      have HZ1 := Lib.hid (show FdZ W1 w.heap.size from ⟨r0, r1, r2, r3, z0, z1, z2, z3⟩)
      clear B1 r0 r1 r2 r3 z0 z1 z2 z3
      refine (MayD_any A c fs W1 HF.out hl).mono ?_
      rintro e w2 ⟨rfl, hb⟩
      rw [hm]
      replace HF := Lib.hid (HF.out.at hb)
      replace n0 : w.heap.size < w2.heap.size := ltAt n0 hb
      have HB2 := Lib.hid (lift HB1.out hb)
      have HZ2 := Lib.hid (HZ1.out.on hb)
      clear hb HZ1
      go_wp2_with fail
      refine (May_any u w2 hu).mono ?_
      rintro e w3 ⟨rfl, hb⟩
      replace HF := Lib.hid (HF.out.at hb)
      replace n0 : w.heap.size < w3.heap.size := ltAt n0 hb
      have HB3 := Lib.hid (lift HB2.out hb)
      have HZ3 := Lib.hid (HZ2.out.on hb)
      clear hb HZ2
      rw [hk]
      generalize findF fs u = R at *
      have hn3 : w.heap.size < w3.heap.size := n0
      have HG3 := Lib.hid (World.ownsRow_lit (base := w3.heap.size) (e := 9) (size := 1) w3 #[sv u] 1 (Nat.le_refl _) (by unfold maxLen; decide) rfl)
      go_wp2_with fail
      go_loopw [1, 6] (fun v1 v6 wr => ∃ (n : Str) (asked : List Str) (Ag : Option Addr) (cg : Nat), v1 = sv n ∧ v6 = .slice Ag asked.length cg ∧ asked.length ≤ 9 ∧ Hid (HopS fs R asked n) ∧ Hid (wr.ownsRow w3.heap.size 9 1 (.slice Ag asked.length cg) asked.length (svs asked)) ∧ Hid (Below w3.heap.size w3 wr)) (fun _ v _ => 10 - lenV v)
      case atStart => exact ⟨u, [u], some ⟨w3.heap.size, 0, none⟩, 1, rfl, rfl, by simp, HS0, HG3, (Below.refl _ _).alloc (Nat.le_refl _) _⟩
      case round =>
        obtain ⟨n, asked, Ag, cg, rfl, rfl, hle, HS, HG, HB⟩ := hrel
        obtain ⟨w6, rfl⟩ : ∃ wo : World, wo = wr := ⟨_, rfl⟩
        have HF6 := Lib.hid (HF.out.at HB.out)
        have HZ6 := Lib.hid (HZ3.out.on HB.out)
        have HB6 := Lib.hid (lift HB3.out HB.out)
        have hn6 : w.heap.size < w6.heap.size := Nat.lt_of_lt_of_le hn3 HB.out.size
        have hnl := kind_len HS.out.kind
        have hpos := HS.out.pos
        have HOw := Lib.hid (fun W (h : FlIn W A fs) => owned_any A c fs n W h hl (by omega))
        rcases ho : ownR fs n with ⟨⟨s, t, l⟩, sh, is⟩
        rw [ho] at HOw
        go_wp2_with fail
        refine (HOw.out w6 HF6.out).mono ?_
        rintro e w7 ⟨rfl, hb⟩
        replace HF6 := Lib.hid (HF6.out.at hb)
        replace HZ6 := Lib.hid (HZ6.out.on hb)
        replace HG := Lib.hid (own_on HG.out hb)
        replace HB := Lib.hid (lift HB.out hb)
        replace HB6 := Lib.hid (lift HB6.out hb)
        replace hn6 : w.heap.size < w7.heap.size := ltAt hn6 hb
        clear hb HOw
        cases is
        · have HN := Lib.hid (HS.out.none (own_none.1 (by rw [ho])))
          have hqw : ¬ w7.heap.size = w.heap.size := by omega
          by_cases h1 : asked.length = 1
          · have HR := Lib.hid (show R = (found0, 6) by rw [HN.out, if_pos h1])
            have h1b : ((asked.length : Int) == 1) = true := by rw [beq_iff_eq]; omega
            clear HN
            have r0 := HZ6.out.c0
            have r1 := HZ6.out.c1
            have r2 := HZ6.out.c2
            have r3 := HZ6.out.c3
            have z0 := HZ6.out.f0
            have z1 := HZ6.out.f1
            have z2 := HZ6.out.f2
            have z3 := HZ6.out.f3
            go_wp2_with fail
            have hB0 := HB6.out
            refine bodyPost_ret (v := .tuple #[.agg #[sv [], sv [], .bool false, .slice none 0 0], .int .i64 6]) (by simp only [results, Try.results6]; go_simp) rfl ?_
            rw [HR.out, HD.out]
            refine ⟨none, 0, rfl, Rd.none_, ?_⟩
            repeat (first | (with_reducible exact hB0) | (with_reducible refine Below.drew ?_) | (with_reducible refine Below.alloc ?_ ?zs _; case zs => first | omega | (simp <;> omega)) | (with_reducible refine Below.setCell ?_ ?zs _; case zs => first | omega | (simp <;> omega)))
          · have HR := Lib.hid (show R = (found0, 17) by rw [HN.out, if_neg h1])
            have h1b : ((asked.length : Int) == 1) = false := by rw [beq_eq_false_iff_ne]; omega
            clear HN
            have r0 := HZ6.out.c0
            have r1 := HZ6.out.c1
            have r2 := HZ6.out.c2
            have r3 := HZ6.out.c3
            have z0 := HZ6.out.f0
            have z1 := HZ6.out.f1
            have z2 := HZ6.out.f2
            have z3 := HZ6.out.f3
            go_wp2_with fail
            have hB0 := HB6.out
            refine bodyPost_ret (v := .tuple #[.agg #[sv [], sv [], .bool false, .slice none 0 0], .int .i64 17]) (by simp only [results, Try.results6]; go_simp) rfl ?_
            rw [HR.out, HD.out]
            refine ⟨none, 0, rfl, Rd.none_, ?_⟩
            repeat (first | (with_reducible exact hB0) | (with_reducible refine Below.drew ?_) | (with_reducible refine Below.alloc ?_ ?zs _; case zs => first | omega | (simp <;> omega)) | (with_reducible refine Below.setCell ?_ ?zs _; case zs => first | omega | (simp <;> omega)))
        · have hqw : ¬ w7.heap.size = w.heap.size := by omega
          cases d0 : (l == ([110, 117, 108, 108] : Str))
          · cases d1 : (l == ([] : Str))
            · have h0 : l ≠ [] := by simpa using d1
              have h1 : l ≠ nullS := by unfold nullS; simpa using d0
              cases sh
              · have ht : nextF n (s, t, l) (!false) = (l, true) := rfl
                go_upto_region 15 with fail
                first | (refine wp_named ?_; intro W8 hW) | (refine calls_named ?_; intro W8 hW) | (refine exit_named ?_; intro W8 hW)
                have B8 : Below w7.heap.size w7 W8 := by rw [hW]; exact (by repeat (first | exact Below.refl _ _ | assumption | refine Below.alloc ?_ (by first | omega | (simp <;> omega)) _ | refine Below.setCell ?_ (by first | omega | (simp <;> omega)) _ | refine Below.drew ?_))
                replace HF6 := Lib.hid (HF6.out.at B8)
                replace HZ6 := Lib.hid (HZ6.out.on B8)
                replace HG := Lib.hid (own_on HG.out B8)
                replace HB := Lib.hid (lift HB.out B8)
                replace HB6 := Lib.hid (lift HB6.out B8)
                replace hn6 : w.heap.size < W8.heap.size := ltAt hn6 B8
                have m8 : w7.heap.size < W8.heap.size := by rw [hW]; simp <;> omega
                have f2 : W8.cell? ⟨w7.heap.size, 2, none⟩ = some (sv l) := by rw [hW]; go_simp
                clear hW
                clear B8
                go_wp2_with fail
                refine (containsD_any Ag cg asked l W8 (own_rd' HG.out) (by omega)).mono ?_
                rintro e wz ⟨rfl, hwz⟩
                replace hwz := hwz.symm
                subst hwz
                cases hc : hasB asked l
                · have hci : l ∉ asked := fun h => by rw [(hasB_iff _ _).2 h] at hc; cases hc
                  by_cases h8 : 8 < asked.length
                  · have HR := Lib.hid (HS.out.stop (own_back ho) h0 h1 (.inr (.inr h8)))
                    have h8b : decide (8 < asked.length) = true := by simpa using h8
                    have r0 := HZ6.out.c0
                    have r1 := HZ6.out.c1
                    have r2 := HZ6.out.c2
                    have r3 := HZ6.out.c3
                    have z0 := HZ6.out.f0
                    have z1 := HZ6.out.f1
                    have z2 := HZ6.out.f2
                    have z3 := HZ6.out.f3
                    go_wp2_with fail
                    have hB0 := HB6.out
                    refine bodyPost_ret (v := .tuple #[.agg #[sv [], sv [], .bool false, .slice none 0 0], .int .i64 17]) (by simp only [results, Try.results6]; go_simp) rfl ?_
                    rw [HR.out, HD.out]
                    refine ⟨none, 0, rfl, Rd.none_, ?_⟩
                    repeat (first | (with_reducible exact hB0) | (with_reducible refine Below.drew ?_) | (with_reducible refine Below.alloc ?_ ?zs _; case zs => first | omega | (simp <;> omega)) | (with_reducible refine Below.setCell ?_ ?zs _; case zs => first | omega | (simp <;> omega)))
                  · have h8b : decide (8 < asked.length) = false := by simpa using h8
                    have HSn := Lib.hid (HS.out.next hm (own_back ho) h0 h1 rfl (by first | exact hci | (rw [ht]; exact hci)) (by omega))
                    rw [ht] at HSn
                    have h63 := Lib.hid (show asked.length + 1 ≤ maxLen by unfold maxLen; omega)
                    have hby := Lib.hid (show (asked.length + 1) * 16 ≤ 140737488355328 by omega)
                    have hz6 := HB.out.size
                    clear hci
                    go_wp2_with (first | (at_builtin; refine wpList_pushm W8 W8 (by rfl) (.tmp 94) (.tmp 96) 24 (by rfl) w3.heap.size 9 i0 _ 1 16 Try.underlying24 hi hz0 hz1 hz2 rfl (by decide) _ _ _ (by rfl) HG.out [sv l] W8.heap.size rfl (by rfl) rfl (one_sv l) h63.out hby.out hz6 (Below.refl _ _) ?_; intro A20 c20 w20 hown hbel hg hat; have HO20 := Lib.hid hown; have HBa := Lib.hid hbel; clear hown hbel hg hat) | fail)
                    go_roundw
                    case rel => exact ⟨l, asked ++ [l], A20, c20, rfl, by rw [List.length_append]; rfl, by simp; omega, HSn, by rw [List.length_append, svs_app]; exact HO20.out, HB.out.trans HBa.out⟩
                    case measure => simp [lenV]; omega
                · have HR := Lib.hid (HS.out.stop (own_back ho) h0 h1 (.inr (.inl (by first | exact (hasB_iff _ _).1 hc | (rw [ht]; exact (hasB_iff _ _).1 hc)))))
                  have r0 := HZ6.out.c0
                  have r1 := HZ6.out.c1
                  have r2 := HZ6.out.c2
                  have r3 := HZ6.out.c3
                  have z0 := HZ6.out.f0
                  have z1 := HZ6.out.f1
                  have z2 := HZ6.out.f2
                  have z3 := HZ6.out.f3
                  go_wp2_with fail
                  have hB0 := HB6.out
                  refine bodyPost_ret (v := .tuple #[.agg #[sv [], sv [], .bool false, .slice none 0 0], .int .i64 17]) (by simp only [results, Try.results6]; go_simp) rfl ?_
                  rw [HR.out, HD.out]
                  refine ⟨none, 0, rfl, Rd.none_, ?_⟩
                  repeat (first | (with_reducible exact hB0) | (with_reducible refine Below.drew ?_) | (with_reducible refine Below.alloc ?_ ?zs _; case zs => first | omega | (simp <;> omega)) | (with_reducible refine Below.setCell ?_ ?zs _; case zs => first | omega | (simp <;> omega)))
              · rcases ht : instOf l (ofS n).2.2.1 with ⟨m, okk⟩
                have ht2 : nextF n (s, t, l) (!true) = (m, okk) := ht
                have hio := ofS_inst_le n
                have HPa := Lib.hid (fun W => Parts_any n W (by omega))
                have hll : l.length ≤ 140737488355328 := by
                  obtain ⟨hfm, _⟩ := owned_mem hm HS.out.kind (own_back ho)
                  exact Nat.le_trans (HF6.out.ok _ hfm).2.2 (by decide)
                have HIn := Lib.hid (fun W => Instance_any l (ofS n).2.2.1 W hll (by omega))
                rw [ht] at HIn
                unfold partsV at HPa
                unfold pairV at HIn
                simp only at HIn
                clear ht hll
                generalize (ofS n).2.2.1 = ii at *
                generalize (ofS n).2.1 = ip at *
                generalize (ofS n).2.2.2 = ib at *
                go_upto_region 15 with fail
                first | (refine wp_named ?_; intro W8 hW) | (refine calls_named ?_; intro W8 hW) | (refine exit_named ?_; intro W8 hW)
                have B8 : Below w7.heap.size w7 W8 := by rw [hW]; exact (by repeat (first | exact Below.refl _ _ | assumption | refine Below.alloc ?_ (by first | omega | (simp <;> omega)) _ | refine Below.setCell ?_ (by first | omega | (simp <;> omega)) _ | refine Below.drew ?_))
                replace HF6 := Lib.hid (HF6.out.at B8)
                replace HZ6 := Lib.hid (HZ6.out.on B8)
                replace HG := Lib.hid (own_on HG.out B8)
                replace HB := Lib.hid (lift HB.out B8)
                replace HB6 := Lib.hid (lift HB6.out B8)
                replace hn6 : w.heap.size < W8.heap.size := ltAt hn6 B8
                have m8 : w7.heap.size < W8.heap.size := by rw [hW]; simp <;> omega
                have f2 : W8.cell? ⟨w7.heap.size, 2, none⟩ = some (sv l) := by rw [hW]; go_simp
                clear hW
                clear B8
                go_wp2_with fail
                refine (HPa.out W8).mono ?_
                rintro e w9 ⟨rfl, hb⟩
                replace f2 := cellAt f2 hb (by omega)
                replace HF6 := Lib.hid (HF6.out.at hb)
                replace HZ6 := Lib.hid (HZ6.out.on hb)
                replace HG := Lib.hid (own_on HG.out hb)
                replace HB := Lib.hid (lift HB.out hb)
                replace HB6 := Lib.hid (lift HB6.out hb)
                replace hn6 : w.heap.size < w9.heap.size := ltAt hn6 hb
                replace m8 : w7.heap.size < w9.heap.size := ltAt m8 hb
                clear hb HPa
                go_wp2_with fail
                refine (HIn.out w9).mono ?_
                rintro e w10 ⟨rfl, hb⟩
                replace f2 := cellAt f2 hb (by omega)
                replace HF6 := Lib.hid (HF6.out.at hb)
                replace HZ6 := Lib.hid (HZ6.out.on hb)
                replace HG := Lib.hid (own_on HG.out hb)
                replace HB := Lib.hid (lift HB.out hb)
                replace HB6 := Lib.hid (lift HB6.out hb)
                replace hn6 : w.heap.size < w10.heap.size := ltAt hn6 hb
                replace m8 : w7.heap.size < w10.heap.size := ltAt m8 hb
                clear hb HIn
                cases okk
                · have HR := Lib.hid (HS.out.stop (own_back ho) h0 h1 (.inl (by rw [ht2])))
                  have r0 := HZ6.out.c0
                  have r1 := HZ6.out.c1
                  have r2 := HZ6.out.c2
                  have r3 := HZ6.out.c3
                  have z0 := HZ6.out.f0
                  have z1 := HZ6.out.f1
                  have z2 := HZ6.out.f2
                  have z3 := HZ6.out.f3
                  go_wp2_with fail
                  have hB0 := HB6.out
                  refine bodyPost_ret (v := .tuple #[.agg #[sv [], sv [], .bool false, .slice none 0 0], .int .i64 17]) (by simp only [results, Try.results6]; go_simp) rfl ?_
                  rw [HR.out, HD.out]
                  refine ⟨none, 0, rfl, Rd.none_, ?_⟩
                  repeat (first | (with_reducible exact hB0) | (with_reducible refine Below.drew ?_) | (with_reducible refine Below.alloc ?_ ?zs _; case zs => first | omega | (simp <;> omega)) | (with_reducible refine Below.setCell ?_ ?zs _; case zs => first | omega | (simp <;> omega)))
                · skip
                  go_wp2_with fail
                  refine (containsD_any Ag cg asked m w10 (own_rd' HG.out) (by omega)).mono ?_
                  rintro e wz ⟨rfl, hwz⟩
                  replace hwz := hwz.symm
                  subst hwz
                  cases hc : hasB asked m
                  · have hci : m ∉ asked := fun h => by rw [(hasB_iff _ _).2 h] at hc; cases hc
                    by_cases h8 : 8 < asked.length
                    · have HR := Lib.hid (HS.out.stop (own_back ho) h0 h1 (.inr (.inr h8)))
                      have h8b : decide (8 < asked.length) = true := by simpa using h8
                      have r0 := HZ6.out.c0
                      have r1 := HZ6.out.c1
                      have r2 := HZ6.out.c2
                      have r3 := HZ6.out.c3
                      have z0 := HZ6.out.f0
                      have z1 := HZ6.out.f1
                      have z2 := HZ6.out.f2
                      have z3 := HZ6.out.f3
                      go_wp2_with fail
                      have hB0 := HB6.out
                      refine bodyPost_ret (v := .tuple #[.agg #[sv [], sv [], .bool false, .slice none 0 0], .int .i64 17]) (by simp only [results, Try.results6]; go_simp) rfl ?_
                      rw [HR.out, HD.out]
                      refine ⟨none, 0, rfl, Rd.none_, ?_⟩
                      repeat (first | (with_reducible exact hB0) | (with_reducible refine Below.drew ?_) | (with_reducible refine Below.alloc ?_ ?zs _; case zs => first | omega | (simp <;> omega)) | (with_reducible refine Below.setCell ?_ ?zs _; case zs => first | omega | (simp <;> omega)))
                    · have h8b : decide (8 < asked.length) = false := by simpa using h8
                      have HSn := Lib.hid (HS.out.next hm (own_back ho) h0 h1 (by rw [ht2]) (by first | exact hci | (rw [ht2]; exact hci)) (by omega))
                      rw [ht2] at HSn
                      have h63 := Lib.hid (show asked.length + 1 ≤ maxLen by unfold maxLen; omega)
                      have hby := Lib.hid (show (asked.length + 1) * 16 ≤ 140737488355328 by omega)
                      have hz6 := HB.out.size
                      clear hci
                      go_wp2_with (first | (at_builtin; refine wpList_pushm w10 w10 (by rfl) (.tmp 94) (.tmp 96) 24 (by rfl) w3.heap.size 9 i0 _ 1 16 Try.underlying24 hi hz0 hz1 hz2 rfl (by decide) _ _ _ (by rfl) HG.out [sv m] w10.heap.size rfl (by rfl) rfl (one_sv m) h63.out hby.out hz6 (Below.refl _ _) ?_; intro A20 c20 w20 hown hbel hg hat; have HO20 := Lib.hid hown; have HBa := Lib.hid hbel; clear hown hbel hg hat) | fail)
                      go_roundw
                      case rel => exact ⟨m, asked ++ [m], A20, c20, rfl, by rw [List.length_append]; rfl, by simp; omega, HSn, by rw [List.length_append, svs_app]; exact HO20.out, HB.out.trans HBa.out⟩
                      case measure => simp [lenV]; omega
                  · have HR := Lib.hid (HS.out.stop (own_back ho) h0 h1 (.inr (.inl (by first | exact (hasB_iff _ _).1 hc | (rw [ht2]; exact (hasB_iff _ _).1 hc)))))
                    have r0 := HZ6.out.c0
                    have r1 := HZ6.out.c1
                    have r2 := HZ6.out.c2
                    have r3 := HZ6.out.c3
                    have z0 := HZ6.out.f0
                    have z1 := HZ6.out.f1
                    have z2 := HZ6.out.f2
                    have z3 := HZ6.out.f3
                    go_wp2_with fail
                    have hB0 := HB6.out
                    refine bodyPost_ret (v := .tuple #[.agg #[sv [], sv [], .bool false, .slice none 0 0], .int .i64 17]) (by simp only [results, Try.results6]; go_simp) rfl ?_
                    rw [HR.out, HD.out]
                    refine ⟨none, 0, rfl, Rd.none_, ?_⟩
                    repeat (first | (with_reducible exact hB0) | (with_reducible refine Below.drew ?_) | (with_reducible refine Below.alloc ?_ ?zs _; case zs => first | omega | (simp <;> omega)) | (with_reducible refine Below.setCell ?_ ?zs _; case zs => first | omega | (simp <;> omega)))
            · have h0 : l = [] := by simpa using d1
              subst h0
              have HR := Lib.hid (HS.out.end_ (own_back ho) rfl)
              have hkn := HS.out.kind
              have HLd := Lib.hid (fun W (h : FlIn W A fs) => laid_any A c fs n W h hm hkn (by omega))
              generalize dropsF fs n = Dr at *
              go_upto_region 14 with fail
              first | (refine wp_named ?_; intro W8 hW) | (refine calls_named ?_; intro W8 hW) | (refine exit_named ?_; intro W8 hW)
              have B8 : Below w7.heap.size w7 W8 := by rw [hW]; exact (by repeat (first | exact Below.refl _ _ | assumption | refine Below.alloc ?_ (by first | omega | (simp <;> omega)) _ | refine Below.setCell ?_ (by first | omega | (simp <;> omega)) _ | refine Below.drew ?_))
              replace HF6 := Lib.hid (HF6.out.at B8)
              replace HZ6 := Lib.hid (HZ6.out.on B8)
              replace HG := Lib.hid (own_on HG.out B8)
              replace HB := Lib.hid (lift HB.out B8)
              replace HB6 := Lib.hid (lift HB6.out B8)
              replace hn6 : w.heap.size < W8.heap.size := ltAt hn6 B8
              have m8 : w7.heap.size < W8.heap.size := by rw [hW]; simp <;> omega
              have f0 : W8.cell? ⟨w7.heap.size, 0, none⟩ = some (sv s) := by rw [hW]; go_simp
              clear hW
              clear B8
              have r0 := HZ6.out.c0
              have r1 := HZ6.out.c1
              have r2 := HZ6.out.c2
              have r3 := HZ6.out.c3
              have z0 := HZ6.out.f0
              have z1 := HZ6.out.f1
              have z2 := HZ6.out.f2
              have z3 := HZ6.out.f3
              try go_wp2_with fail
              refine wp_region_held_drew (S := fun w' => Keeps (But W8 w.heap.size) W8 w') (by kernel_rfl) (But.below (Below.drew (Below.refl _ _))) (fun hHeld => ?_)
              have r0 : (W8.drew).cell? ⟨w.heap.size, 0, none⟩ = _ := r0
              have r1 : (W8.drew).cell? ⟨w.heap.size, 1, none⟩ = _ := r1
              have r2 : (W8.drew).cell? ⟨w.heap.size, 2, none⟩ = _ := r2
              have r3 : (W8.drew).cell? ⟨w.heap.size, 3, none⟩ = _ := r3
              have z0 : (W8.drew).frozen? ⟨w.heap.size, 0, none⟩ = _ := z0
              have z1 : (W8.drew).frozen? ⟨w.heap.size, 1, none⟩ = _ := z1
              have z2 : (W8.drew).frozen? ⟨w.heap.size, 2, none⟩ = _ := z2
              have z3 : (W8.drew).frozen? ⟨w.heap.size, 3, none⟩ = _ := z3
              have nv : w.heap.size < (W8.drew).heap.size := hn6
              have HBv : Below w.heap.size w (W8.drew) := Below.drew HB6.out
              have HFv : FlIn (W8.drew) A fs := HF6.out.at (Below.drew (Below.refl _ _))
              generalize W8.drew = v0 at *
              refine tY (i := 0) (v := ?_) rfl ?_ hHeld ?_; rotate_left 1; focus (intro w' hSw; clear hSw; go_simp; try with_reducible rfl)
              (try simp only [Act.put, zn1, zn2, zn3])
              refine tY (i := 1) (v := ?_) rfl ?_ hHeld ?_; rotate_left 1; focus (intro w' hSw; clear hSw; go_simp; try with_reducible rfl)
              (try simp only [Act.put, zn1, zn2, zn3])
              refine tY (i := 2) (v := ?_) rfl ?_ hHeld ?_; rotate_left 1; focus (intro w' hSw; have hCell := fun (b o : Nat) (h : b < W8.heap.size) (h2 : ¬ b = w.heap.size) => World.cell?_of_block (a := ⟨b, o, none⟩) (hSw.block b ⟨h, h2⟩); clear hSw; go_simp; try with_reducible rfl)
              (try simp only [Act.put, zn1, zn2, zn3])
              refine tY (i := 3) (v := ?_) rfl ?_ hHeld ?_; rotate_left 1; focus (intro w' hSw; clear hSw; go_simp; try with_reducible rfl)
              (try simp only [Act.put, zn1, zn2, zn3])
              refine tY (i := 4) (v := ?_) rfl ?_ hHeld ?_; rotate_left 1; focus (intro w' hSw; clear hSw; go_simp; try with_reducible rfl)
              (try simp only [Act.put, zn1, zn2, zn3])
              refine ready_one (i := 5) rfl (by kernel_rfl) (fun K hK => ?_)
              go_simp
              refine (HLd.out _ HFv).mono ?_
              rintro e y5 ⟨A5, c5, rfl, ho5, hb⟩
              replace r0 := cellAt r0 hb nv
              replace r1 := cellAt r1 hb nv
              replace r2 := cellAt r2 hb nv
              replace r3 := cellAt r3 hb nv
              replace z0 := froAt z0 hb nv
              replace z1 := froAt z1 hb nv
              replace z2 := froAt z2 hb nv
              replace z3 := froAt z3 hb nv
              have HO5 := Lib.hid ho5
              have hv5 := nv
              replace nv := Nat.lt_of_lt_of_le nv hb.size
              replace HBv := lift HBv hb
              clear ho5 HFv
              refine hK.out _ _ ?_ (fun hHeld2 => ?_)
              · (try dsimp only); exact But.two hHeld hb
              clear hK K hHeld hb; have hHeld := hHeld2; clear hHeld2; (try simp only [Act.put, zn1, zn2, zn3])
              refine ready_one (i := 6) rfl (by kernel_rfl) (fun K hK => ?_)
              go_simp
              refine hK.out _ _ ?_ (fun hHeld2 => ?_)
              · (try dsimp only); repeat (first | (with_reducible exact hHeld) | (with_reducible refine But.trans ?_ (But.set _ _ _ _)) | (with_reducible refine But.two ?_ (below_new _ _)))
              clear hK K hHeld; have hHeld := hHeld2; clear hHeld2; (try simp only [Act.put, zn1, zn2, zn3])
              refine ready_one (i := 7) rfl (by kernel_rfl) (fun K hK => ?_)
              go_simp
              refine hK.out _ _ ?_ (fun hHeld2 => ?_)
              · (try dsimp only); repeat (first | (with_reducible exact hHeld) | (with_reducible refine But.trans ?_ (But.set _ _ _ _)) | (with_reducible refine But.two ?_ (below_new _ _)))
              clear hK K hHeld; have hHeld := hHeld2; clear hHeld2; (try simp only [Act.put, zn1, zn2, zn3])
              refine tY (i := 8) (v := ?_) rfl ?_ hHeld ?_; rotate_left 1; focus (intro w' hSw; clear hSw; go_simp; try with_reducible rfl)
              (try simp only [Act.put, zn1, zn2, zn3])
              refine wpAnyH_done (by kernel_rfl) ?_ _
              go_wp2_with fail
              have hB0 := HBv
              refine bodyPost_ret (v := .tuple #[.agg #[sv n, sv s, .bool false, .slice A5 Dr.length c5], .int .i64 0]) (by simp only [results, Try.results6]; go_simp) rfl ?_
              rw [HR.out, HD.out]
              refine ⟨A5, c5, rfl, own_rd' (e := 9) (base := v0.heap.size) (by repeat (first | (with_reducible exact HO5.out) | (with_reducible refine ownsRow_setCell_below ?_ hv5 _))), ?_⟩
              repeat (first | (with_reducible exact hB0) | (with_reducible refine Below.drew ?_) | (with_reducible refine Below.alloc ?_ ?zs _; case zs => first | omega | (simp <;> omega)) | (with_reducible refine Below.setCell ?_ ?zs _; case zs => first | omega | (simp <;> omega)))
          · have h1 : l = nullS := by unfold nullS; simpa using d0
            have HR := Lib.hid (HS.out.null (own_back ho) h1)
            have r0 := HZ6.out.c0
            have r1 := HZ6.out.c1
            have r2 := HZ6.out.c2
            have r3 := HZ6.out.c3
            have z0 := HZ6.out.f0
            have z1 := HZ6.out.f1
            have z2 := HZ6.out.f2
            have z3 := HZ6.out.f3
            go_wp2_with fail
            have hB0 := HB6.out
            refine bodyPost_ret (v := .tuple #[.agg #[sv n, sv s, .bool true, .slice none 0 0], .int .i64 0]) (by simp only [results, Try.results6]; go_simp) rfl ?_
            rw [HR.out, HD.out]
            refine ⟨none, 0, rfl, Rd.none_, ?_⟩
            repeat (first | (with_reducible exact hB0) | (with_reducible refine Below.drew ?_) | (with_reducible refine Below.alloc ?_ ?zs _; case zs => first | omega | (simp <;> omega)) | (with_reducible refine Below.setCell ?_ ?zs _; case zs => first | omega | (simp <;> omega)))
end Od
end Go.Proofs.Ytgfdcmlmgeoimaa
end
