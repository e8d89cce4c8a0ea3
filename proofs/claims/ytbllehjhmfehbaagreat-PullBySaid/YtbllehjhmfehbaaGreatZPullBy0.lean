/- My texts, joined for the claim: LpA. -/
import Derived.Test.YtbllehjhmfehbaaGreatZB0
import Derived.Test.YtbllehjhmfehbaaGreatZB15

section
/- The walk of the law PullBy. (bel2) -/
namespace Go.Proofs.YtbllehjhmfehbaaGreat
open Go.RowKit Go.Sort Go.Maps
set_option linter.unusedSimpArgs false
namespace Od

theorem count_succ {L : List Pl} {k : Nat} (h : k < L.length) : (L.take (k + 1)).countP byNone = (L.take k).countP byNone + (if byNone L[k] = true then 1 else 0) := by
  rw [List.take_succ_eq_append_getElem h, List.countP_append, List.countP_singleton]
set_option maxRecDepth 100000 in
set_option maxHeartbeats 16000000 in
theorem pullBy_any (An Ae Au Ah : Option Addr) (cn ce cu ch : Nat) (ns : List Nd) (es : List Ed) (up half : List Str) (u : Str) (t : Int) (w : World) (hg : GIw w An Ae ns es) (hn : NIn w Au Ah up half) (hof : okJ (u, t)) :
    Calls Tryz.prog 4 #[gV An ns.length cn Ae es.length ce, nowV Au up.length cu Ah half.length ch, sv u, .int .i64 t] w fun e w' => e = .returned (.bool true) ∧ Below w.heap.size w w' := by
  have hmm : ∀ (t : TypeId) (w : World), (Instr.makeMap t none).run Tryz.prog w = .ok (.map (some w.heap.size)) (w.alloc (.map #[] 0)) := fun _ _ => rfl
  have HG := Lib.hid hg
  have HN := Lib.hid hn
  clear hg hn
  go_enter Tryz.func4, Tryz.ntmps4
  go_wp2_with fail
  first | (refine wp_named ?_; intro W1 hW) | (refine calls_named ?_; intro W1 hW)
  have B1 : Below w.heap.size w W1 := by rw [hW]; exact (by repeat (first | exact Below.refl _ _ | assumption | refine Below.alloc ?_ (by first | omega | (simp <;> omega)) _ | refine Below.setCell ?_ (by first | omega | (simp <;> omega)) _ | refine Below.drew ?_))
  replace HG := Lib.hid (HG.out.at B1)
  replace HN := Lib.hid (HN.out.at B1)
  have n1 : w.heap.size < W1.heap.size := by rw [hW]; simp <;> omega
  have n2 : (w.heap.size + 1) < W1.heap.size := by rw [hW]; simp <;> omega
  have c0 : W1.cell? ⟨w.heap.size, 0, none⟩ = some (.slice An ns.length cn) := by rw [hW]; go_simp
  have c1 : W1.cell? ⟨w.heap.size, 1, none⟩ = some (.slice Ae es.length ce) := by rw [hW]; go_simp
  have c2 : W1.cell? ⟨(w.heap.size + 1), 0, none⟩ = some (.slice Au up.length cu) := by rw [hW]; go_simp
  have c3 : W1.cell? ⟨(w.heap.size + 1), 1, none⟩ = some (.slice Ah half.length ch) := by rw [hW]; go_simp
  clear hW
  have HB := Lib.hid B1
  clear B1
  refine (shown17_any W1).mono ?_
  rintro e w2 ⟨rfl, hb⟩
  replace c0 := cellAt c0 hb (by omega)
  replace c1 := cellAt c1 hb (by omega)
  replace c2 := cellAt c2 hb (by omega)
  replace c3 := cellAt c3 hb (by omega)
  replace HG := Lib.hid (HG.out.at hb)
  replace HN := Lib.hid (HN.out.at hb)
  replace n1 : w.heap.size < w2.heap.size := ltAt n1 hb
  replace n2 : (w.heap.size + 1) < w2.heap.size := ltAt n2 hb
  replace HB := Lib.hid (lift HB.out hb)
  clear hb
  go_wp2_with fail
  refine (small17_any An Ae cn ce ns es w2 HG.out).mono ?_
  rintro e w3 ⟨rfl, hb⟩
  replace c0 := cellAt c0 hb (by omega)
  replace c1 := cellAt c1 hb (by omega)
  replace c2 := cellAt c2 hb (by omega)
  replace c3 := cellAt c3 hb (by omega)
  replace HG := Lib.hid (HG.out.at hb)
  replace HN := Lib.hid (HN.out.at hb)
  replace n1 : w.heap.size < w3.heap.size := ltAt n1 hb
  replace n2 : (w.heap.size + 1) < w3.heap.size := ltAt n2 hb
  replace HB := Lib.hid (lift HB.out hb)
  clear hb
  cases hsm : small17 ns es
  · skip
    go_wp2_with fail
    go_ret
    exact ⟨rfl, HB.out⟩
  · obtain ⟨hl, hmay⟩ := small17_iff.1 hsm
    have hnl := may_len hmay
    have HMay := Lib.hid hmay
    clear hmay hsm
    go_wp2_with fail
    refine (PAll_any An Ae Au Ah none cn ce cu ch 0 ns es up half [] u t w3 HG.out.rn (by omega) HG.out.re (by omega) HN.out.u HN.out.h Rd.none_ (by simp) HG.out.oke hof (fun _ h => by cases h)).mono ?_
    rintro e w4 ⟨A, c, rfl, ho, hb⟩
    have HR := Lib.hid (own_rd' ho)
    replace c0 := cellAt c0 hb (by omega)
    replace c1 := cellAt c1 hb (by omega)
    replace c2 := cellAt c2 hb (by omega)
    replace c3 := cellAt c3 hb (by omega)
    replace HG := Lib.hid (HG.out.at hb)
    replace HN := Lib.hid (HN.out.at hb)
    replace n1 : w.heap.size < w4.heap.size := ltAt n1 hb
    replace n2 : (w.heap.size + 1) < w4.heap.size := ltAt n2 hb
    replace HB := Lib.hid (lift HB.out hb)
    have HBy := Lib.hid (fun p (hp : p ∈ pullQ ns es up half (u, t) []) => pull_by HMay.out hp)
    have HOk := Lib.hid (fun p (hp : p ∈ pullQ ns es up half (u, t) []) => pull_ok HG.out.oke hof hp)
    have HSs := Lib.hid (pullQ_ss ns es up half (u, t) [])
    have hlen := pullQ_len ns es up half (u, t) []
    have HOne := Lib.hid (fun h : asksB ns (u, t) = true => pull_one (es := es) (up := up) (half := half) (wo := []) HMay.out h)
    have HNone := Lib.hid (fun h : asksB ns (u, t) = false => pull_asks (es := es) (up := up) (half := half) (wo := []) h)
    clear hb ho
    generalize pullQ ns es up half (u, t) [] = L at *
    have HB0 := Lib.hid HB.out
    go_wp2_with fail
    have hmp : MapIs strK (w4.alloc (.map #[] 0)) w4.heap.size 0 (setF []) := by
      have h := MapIs.made strK w4
      rwa [show (fun _ => none : Str → Option Value) = setF [] from by funext s; simp [setF]] at h
    have HM0 := Lib.hid hmp
    clear hmp
    have hL1 : L.length < maxLen := by unfold maxLen; omega
    have HLm := Lib.hid hL1
    clear hL1
    go_loopw [32] (fun i wr => ∃ k : Nat, k ≤ L.length ∧ i = .int .i64 k ∧ Hid (MapIs strK wr w4.heap.size k (setF ((L.take k).map (·.1)))) ∧ Hid (Below w4.heap.size w4 wr)) (fun i _ => L.length - (intOf i).toNat)
    case atStart => exact ⟨0, Nat.zero_le _, rfl, HM0, (Below.refl _ _).alloc (Nat.le_refl _) _⟩
    case round =>
      obtain ⟨k, hk, rfl, HMk, HBk⟩ := hrel
      have hz5 := HBk.out.size
      have hmlt := HMk.out.lt
      by_cases hlt : k < L.length
      · obtain ⟨b2, o2, hA, hB2, x0, x1, x2, x3⟩ := (HR.out.at HBk.out).pl hlt
        subst hA
        have htk : (L.take (k + 1)).map (·.1) = (L.take k).map (·.1) ++ [L[k].1] := by rw [List.take_succ_eq_append_getElem hlt, List.map_append]; rfl
        have hok := (HOk.out _ (List.getElem_mem hlt)).1.1
        have hkm : k < maxLen := by have := HLm.out; omega
        generalize L[k] = p at x0 x1 x2 x3 htk hok
        obtain ⟨s, t', n', b'⟩ := p
        simp only at x0 x1 x2 x3 htk hok
        have HTk := Lib.hid htk
        have HKm := Lib.hid hkm
        have i1 : (0 : Int) ≤ (k : Int) := by omega
        have i2 : (k : Int) < (L.length : Int) := by omega
        clear htk hkm
        go_wp2_with (first
          | (at_mapUpdate; refine wpList_update_is _ (by rfl) (.tmp 36) (.tmp 38) (.const (.bool true)) 35 (by rfl) 4 Tryz.underlying35 w4.heap.size _ _ (by rfl) (HMk.out.alloc _) HKm.out s (.bool true) (by rfl) (by rfl) hok ?_; intro w6 hm6 hg6; have HM6 := Lib.hid (setS_if hm6); have HB6 := Lib.hid ((HBk.out.alloc hz5 _).grown hg6 (by simp; omega) (fun g hg => by cases hg; exact Nat.le_refl _)); clear hm6 hg6)
          | fail)
        go_roundw
        case rel =>
          have h6 := HM6.out
          rw [setF_put, ← HTk.out] at h6
          exact ⟨k + 1, by omega, by go_num, h6, HB6⟩
        case measure => simp [intOf]; omega
      · obtain rfl : k = L.length := by omega
        obtain ⟨w9, rfl⟩ : ∃ wo : World, wo = wr := ⟨_, rfl⟩
        rw [List.take_length] at HMk
        replace c0 := cellAt c0 HBk.out (by omega)
        replace c1 := cellAt c1 HBk.out (by omega)
        replace c2 := cellAt c2 HBk.out (by omega)
        replace c3 := cellAt c3 HBk.out (by omega)
        replace HG := Lib.hid (HG.out.at HBk.out)
        replace HN := Lib.hid (HN.out.at HBk.out)
        replace n1 : w.heap.size < w9.heap.size := ltAt n1 HBk.out
        replace n2 : (w.heap.size + 1) < w9.heap.size := ltAt n2 HBk.out
        replace HB := Lib.hid (lift HB.out HBk.out)
        replace HR := Lib.hid (HR.out.at HBk.out)
        go_wp2_with fail
        go_loopw [13, 42] (fun v i wr => ∃ k : Nat, k ≤ L.length ∧ i = .int .i64 k ∧ v = .int .i64 ((L.take k).countP byNone : Nat) ∧ Hid (Below w9.heap.size w9 wr)) (fun _ i _ => L.length - (intOf i).toNat)
        case atStart => exact ⟨0, Nat.zero_le _, rfl, rfl, Below.refl _ _⟩
        case round =>
          obtain ⟨k, hk, rfl, rfl, HB2⟩ := hrel
          have hz9 := HB2.out.size
          by_cases hlt : k < L.length
          · obtain ⟨b2, o2, hA, hB2, x0, x1, x2, x3⟩ := (HR.out.at HB2.out).pl hlt
            subst hA
            have hpw := fun (j : Nat) (hj : j + 1 = k) => List.pairwise_iff_getElem.1 HSs.out j k (by omega) hlt (by omega)
            have hcs := count_succ hlt
            have hby := HBy.out _ (List.getElem_mem hlt)
            have hokb := (HOk.out _ (List.getElem_mem hlt)).2
            have HPw := Lib.hid hpw
            clear hpw
            generalize hLk : L[k] = p at x0 x1 x2 x3 hcs hby hokb HPw
            obtain ⟨s, t', n', b'⟩ := p
            simp only at x0 x1 x2 x3 hby hokb
            have HCs := Lib.hid hcs
            have HLk0 := Lib.hid hLk
            have i1 : (0 : Int) ≤ (k : Int) := by omega
            have i2 : (k : Int) < (L.length : Int) := by omega
            clear hcs hLk
            by_cases hk0 : k = 0
            · have hd0 : decide (0 < k) = false := by rw [decide_eq_false_iff_not]; omega
              clear hk0
              go_wp2_with fail
              first | (refine wp_named ?_; intro W6 hW) | (refine calls_named ?_; intro W6 hW)
              have B6 : Below wr.heap.size wr W6 := by rw [hW]; exact (by repeat (first | exact Below.refl _ _ | assumption | refine Below.alloc ?_ (by first | omega | (simp <;> omega)) _ | refine Below.setCell ?_ (by first | omega | (simp <;> omega)) _ | refine Below.drew ?_))
              replace hB2 : b2 < W6.heap.size := ltAt hB2 B6
              have m6 : wr.heap.size < W6.heap.size := by rw [hW]; simp <;> omega
              have y0 : W6.cell? ⟨wr.heap.size, 0, none⟩ = some (sv s) := by rw [hW]; go_simp
              have y1 : W6.cell? ⟨wr.heap.size, 1, none⟩ = some (.int .i64 t') := by rw [hW]; go_simp
              have y2 : W6.cell? ⟨wr.heap.size, 2, none⟩ = some (.bool n') := by rw [hW]; go_simp
              have y3 : W6.cell? ⟨wr.heap.size, 3, none⟩ = some (sv b') := by rw [hW]; go_simp
              clear hW
              have HB6 := Lib.hid (lift HB2.out B6)
              clear x0 x1 x2 x3
              clear B6
              try go_wp2_with fail
              refine wp_region_held_drew (S := fun w' => Below W6.heap.size W6 w') (by kernel_rfl) (Below.drew (Below.refl _ _)) (fun hHeld => ?_)
              refine tY (i := 0) (v := ?_) rfl ?_ hHeld ?_; rotate_left 1; focus (intro w' hSw; clear hSw; go_simp; try with_reducible rfl)
              (try simp only [Act.put, zn1, zn2, zn3])
              refine tY (i := 1) (v := ?_) rfl ?_ hHeld ?_; rotate_left 1; focus (intro w' hSw; clear hSw; go_simp; try with_reducible rfl)
              (try simp only [Act.put, zn1, zn2, zn3])
              refine tY (i := 2) (v := ?_) rfl ?_ hHeld ?_; rotate_left 1; focus (intro w' hSw; clear hSw; go_simp; try with_reducible rfl)
              (try simp only [Act.put, zn1, zn2, zn3])
              refine tS (i := 3) rfl hHeld ?_; (try simp only [Act.put, zn1, zn2, zn3])
              refine tS (i := 4) rfl hHeld ?_; (try simp only [Act.put, zn1, zn2, zn3])
              refine tS (i := 5) rfl hHeld ?_; (try simp only [Act.put, zn1, zn2, zn3])
              refine tS (i := 6) rfl hHeld ?_; (try simp only [Act.put, zn1, zn2, zn3])
              refine tS (i := 7) rfl hHeld ?_; (try simp only [Act.put, zn1, zn2, zn3])
              refine tS (i := 8) rfl hHeld ?_; (try simp only [Act.put, zn1, zn2, zn3])
              refine tS (i := 9) rfl hHeld ?_; (try simp only [Act.put, zn1, zn2, zn3])
              refine tS (i := 10) rfl hHeld ?_; (try simp only [Act.put, zn1, zn2, zn3])
              refine tS (i := 11) rfl hHeld ?_; (try simp only [Act.put, zn1, zn2, zn3])
              refine tS (i := 12) rfl hHeld ?_; (try simp only [Act.put, zn1, zn2, zn3])
              refine tS (i := 13) rfl hHeld ?_; (try simp only [Act.put, zn1, zn2, zn3])
              refine tS (i := 14) rfl hHeld ?_; (try simp only [Act.put, zn1, zn2, zn3])
              refine tS (i := 15) rfl hHeld ?_; (try simp only [Act.put, zn1, zn2, zn3])
              refine tS (i := 16) rfl hHeld ?_; (try simp only [Act.put, zn1, zn2, zn3])
              refine tS (i := 17) rfl hHeld ?_; (try simp only [Act.put, zn1, zn2, zn3])
              refine tS (i := 18) rfl hHeld ?_; (try simp only [Act.put, zn1, zn2, zn3])
              refine tS (i := 19) rfl hHeld ?_; (try simp only [Act.put, zn1, zn2, zn3])
              refine tS (i := 20) rfl hHeld ?_; (try simp only [Act.put, zn1, zn2, zn3])
              refine tS (i := 21) rfl hHeld ?_; (try simp only [Act.put, zn1, zn2, zn3])
              refine tS (i := 22) rfl hHeld ?_; (try simp only [Act.put, zn1, zn2, zn3])
              refine tS (i := 23) rfl hHeld ?_; (try simp only [Act.put, zn1, zn2, zn3])
              refine tS (i := 24) rfl hHeld ?_; (try simp only [Act.put, zn1, zn2, zn3])
              refine tS (i := 25) rfl hHeld ?_; (try simp only [Act.put, zn1, zn2, zn3])
              refine tS (i := 26) rfl hHeld ?_; (try simp only [Act.put, zn1, zn2, zn3])
              refine tS (i := 27) rfl hHeld ?_; (try simp only [Act.put, zn1, zn2, zn3])
              refine tS (i := 28) rfl hHeld ?_; (try simp only [Act.put, zn1, zn2, zn3])
              refine tS (i := 29) rfl hHeld ?_; (try simp only [Act.put, zn1, zn2, zn3])
              refine tS (i := 30) rfl hHeld ?_; (try simp only [Act.put, zn1, zn2, zn3])
              refine tS (i := 31) rfl hHeld ?_; (try simp only [Act.put, zn1, zn2, zn3])
              refine tS (i := 32) rfl hHeld ?_; (try simp only [Act.put, zn1, zn2, zn3])
              refine tS (i := 33) rfl hHeld ?_; (try simp only [Act.put, zn1, zn2, zn3])
              refine tY (i := 34) (v := ?_) rfl ?_ hHeld ?_; rotate_left 1; focus (intro w' hSw; clear hSw; go_simp; try with_reducible rfl)
              (try simp only [Act.put, zn1, zn2, zn3])
              refine wpAnyH_done (by kernel_rfl) ?_ _
              have HB7 := Lib.hid (lift HB6.out hHeld)
              clear hHeld
              cases b' with
              | nil =>
                have hkey := hby.1.1 rfl
                have hneed := hby.2.1 hkey
                simp only [keyP, Prod.mk.injEq] at hkey hneed
                obtain ⟨e1, e2⟩ := hkey
                subst e1 e2 hneed
                have HC := Lib.hid (show (L.take (k + 1)).countP byNone = (L.take k).countP byNone + 1 by rw [HCs.out]; rfl)
                have hww : IntKind.i64.wrap (((L.take k).countP byNone : Nat) + 1 : Int) = ((L.take k).countP byNone : Nat) + 1 := IntWalk.i64_in _ (by have := List.countP_le_length (p := byNone) (l := L.take k); have := List.length_take_le k L; omega)
                go_wp2_with fail
                go_roundw
                case rel => exact ⟨k + 1, by omega, by go_num, by rw [HC.out]; go_num, HB7.out⟩
                case measure => simp [intOf]; omega
              | cons b0 br =>
                have HC := Lib.hid (show (L.take (k + 1)).countP byNone = (L.take k).countP byNone by rw [HCs.out]; rfl)
                obtain ⟨q, hq, hqe⟩ := hby.2.2 (by simp)
                have hmem : b0 :: br ∈ L.map (·.1) := List.mem_map.2 ⟨q, hq, hqe⟩
                have hlk : (setF (L.map (·.1)) (b0 :: br)).getD (.bool false) = .bool true := by rw [setF_has]; simp only [hmem, decide_true]
                have HLk := Lib.hid hlk
                clear hq hqe hmem hlk
                go_wp2_with (first
                  | (at_lookup; refine wpList_lookup_is _ (by rfl) (.tmp 102) (.tmp 104) 35 (by rfl) 4 Tryz.underlying35 (.bool false) (zeroB _) w4.heap.size _ _ (by rfl) (HMk.out.on HB7.out) (b0 :: br) (by rfl) hokb ?_; rw [HLk.out])
                  | fail)
                go_roundw
                case rel => exact ⟨k + 1, by omega, by go_num, by rw [HC.out], HB7.out⟩
                case measure => simp [intOf]; omega
            · obtain ⟨j, hj⟩ : ∃ j, j + 1 = k := ⟨k - 1, by omega⟩
              have hjl : j < L.length := by omega
              have hp := HPw.out j hj
              obtain ⟨b3, o3, hA3, hB3, u0, u1, u2, u3⟩ := (HR.out.at HB2.out).pl hjl
              injection hA3 with hA3
              injection hA3 with e1 e2
              subst e1 e2
              generalize L[j] = pp at u0 u1 u2 u3 hp
              obtain ⟨sp, tp, np, bp⟩ := pp
              simp only [keyP] at u0 u1 u2 u3 hp
              have hd0 : decide (0 < k) = true := by rw [decide_eq_true_eq]; omega
              have hw1 : IntKind.i64.wrap ((k : Int) - 1) = (j : Int) := by rw [← hj]; rw [IntWalk.i64_in _ (by omega)]; omega
              have j1 : (0 : Int) ≤ (j : Int) := by omega
              have j2 : (j : Int) < (L.length : Int) := by omega
              have HPp := Lib.hid hp
              clear hk0 hj hp
              by_cases hse : sp = s
              · have hse2 := hse.symm
                subst hse2
                have hlt2 : tp < t' := by
                  have h := HPp.out
                  unfold ltJ at h
                  simp only [toS.irrefl, beq_self_eq_true, Bool.true_and, Bool.false_or, decide_eq_true_eq] at h
                  exact h
                have hge : decide (t' ≤ tp) = false := by rw [decide_eq_false_iff_not]; omega
                have hbl : Op.bytesLess s s = false := toS.irrefl s
                clear hlt2
                go_wp2_with fail
                first | (refine wp_named ?_; intro W6 hW) | (refine calls_named ?_; intro W6 hW)
                have B6 : Below wr.heap.size wr W6 := by rw [hW]; exact (by repeat (first | exact Below.refl _ _ | assumption | refine Below.alloc ?_ (by first | omega | (simp <;> omega)) _ | refine Below.setCell ?_ (by first | omega | (simp <;> omega)) _ | refine Below.drew ?_))
                replace hB2 : b2 < W6.heap.size := ltAt hB2 B6
                have m6 : wr.heap.size < W6.heap.size := by rw [hW]; simp <;> omega
                have y0 : W6.cell? ⟨wr.heap.size, 0, none⟩ = some (sv s) := by rw [hW]; go_simp
                have y1 : W6.cell? ⟨wr.heap.size, 1, none⟩ = some (.int .i64 t') := by rw [hW]; go_simp
                have y2 : W6.cell? ⟨wr.heap.size, 2, none⟩ = some (.bool n') := by rw [hW]; go_simp
                have y3 : W6.cell? ⟨wr.heap.size, 3, none⟩ = some (sv b') := by rw [hW]; go_simp
                clear hW
                have HB6 := Lib.hid (lift HB2.out B6)
                clear x0 x1 x2 x3
                replace u0 := cellAt u0 B6 hB3
                replace u1 := cellAt u1 B6 hB3
                clear B6
                try go_wp2_with fail
                refine wp_region_held_drew (S := fun w' => Below W6.heap.size W6 w') (by kernel_rfl) (Below.drew (Below.refl _ _)) (fun hHeld => ?_)
                refine tY (i := 0) (v := ?_) rfl ?_ hHeld ?_; rotate_left 1; focus (intro w' hSw; clear hSw; go_simp; try with_reducible rfl)
                (try simp only [Act.put, zn1, zn2, zn3])
                refine tY (i := 1) (v := ?_) rfl ?_ hHeld ?_; rotate_left 1; focus (intro w' hSw; clear hSw; go_simp; try with_reducible rfl)
                (try simp only [Act.put, zn1, zn2, zn3])
                refine tY (i := 2) (v := ?_) rfl ?_ hHeld ?_; rotate_left 1; focus (intro w' hSw; clear hSw; go_simp; try with_reducible rfl)
                (try simp only [Act.put, zn1, zn2, zn3])
                refine tY (i := 3) (v := ?_) rfl ?_ hHeld ?_; rotate_left 1; focus (intro w' hSw; clear hSw; go_simp; try with_reducible rfl)
                (try simp only [Act.put, zn1, zn2, zn3])
                refine tY (i := 4) (v := ?_) rfl ?_ hHeld ?_; rotate_left 1; focus (intro w' hSw; clear hSw; go_simp; try with_reducible rfl)
                (try simp only [Act.put, zn1, zn2, zn3])
                refine tY (i := 5) (v := ?_) rfl ?_ hHeld ?_; rotate_left 1; focus (intro w' hSw; clear hSw; go_simp; try with_reducible rfl)
                (try simp only [Act.put, zn1, zn2, zn3])
                refine tY (i := 6) (v := ?_) rfl ?_ hHeld ?_; rotate_left 1; focus (intro w' hSw; clear hSw; go_simp; try with_reducible rfl)
                (try simp only [Act.put, zn1, zn2, zn3])
                refine tY (i := 7) (v := ?_) rfl ?_ hHeld ?_; rotate_left 1; focus (intro w' hSw; clear hSw; go_simp; try with_reducible rfl)
                (try simp only [Act.put, zn1, zn2, zn3])
                refine tY (i := 8) (v := ?_) rfl ?_ hHeld ?_; rotate_left 1; focus (intro w' hSw; have hCell := fun (b o : Nat) (h : b < W6.heap.size) => hSw.cell (p := ⟨b, o, none⟩) h; clear hSw; go_simp; try with_reducible rfl)
                (try simp only [Act.put, zn1, zn2, zn3])
                refine tY (i := 9) (v := ?_) rfl ?_ hHeld ?_; rotate_left 1; focus (intro w' hSw; clear hSw; go_simp; try with_reducible rfl)
                (try simp only [Act.put, zn1, zn2, zn3])
                refine tY (i := 10) (v := ?_) rfl ?_ hHeld ?_; rotate_left 1; focus (intro w' hSw; have hCell := fun (b o : Nat) (h : b < W6.heap.size) => hSw.cell (p := ⟨b, o, none⟩) h; clear hSw; go_simp; try with_reducible rfl)
                (try simp only [Act.put, zn1, zn2, zn3])
                refine tY (i := 11) (v := ?_) rfl ?_ hHeld ?_; rotate_left 1; focus (intro w' hSw; clear hSw; go_simp; try with_reducible rfl)
                (try simp only [Act.put, zn1, zn2, zn3])
                refine tY (i := 12) (v := ?_) rfl ?_ hHeld ?_; rotate_left 1; focus (intro w' hSw; clear hSw; go_simp; try with_reducible rfl)
                (try simp only [Act.put, zn1, zn2, zn3])
                refine tY (i := 13) (v := ?_) rfl ?_ hHeld ?_; rotate_left 1; focus (intro w' hSw; clear hSw; go_simp; try with_reducible rfl)
                (try simp only [Act.put, zn1, zn2, zn3])
                refine tY (i := 14) (v := ?_) rfl ?_ hHeld ?_; rotate_left 1; focus (intro w' hSw; clear hSw; go_simp; try with_reducible rfl)
                (try simp only [Act.put, zn1, zn2, zn3])
                refine tY (i := 15) (v := ?_) rfl ?_ hHeld ?_; rotate_left 1; focus (intro w' hSw; clear hSw; go_simp; try with_reducible rfl)
                (try simp only [Act.put, zn1, zn2, zn3])
                refine tY (i := 16) (v := ?_) rfl ?_ hHeld ?_; rotate_left 1; focus (intro w' hSw; clear hSw; go_simp; try with_reducible rfl)
                (try simp only [Act.put, zn1, zn2, zn3])
                refine tY (i := 17) (v := ?_) rfl ?_ hHeld ?_; rotate_left 1; focus (intro w' hSw; clear hSw; go_simp; try with_reducible rfl)
                (try simp only [Act.put, zn1, zn2, zn3])
                refine tY (i := 18) (v := ?_) rfl ?_ hHeld ?_; rotate_left 1; focus (intro w' hSw; have hCell := fun (b o : Nat) (h : b < W6.heap.size) => hSw.cell (p := ⟨b, o, none⟩) h; clear hSw; go_simp; try with_reducible rfl)
                (try simp only [Act.put, zn1, zn2, zn3])
                refine tY (i := 19) (v := ?_) rfl ?_ hHeld ?_; rotate_left 1; focus (intro w' hSw; clear hSw; go_simp; try with_reducible rfl)
                (try simp only [Act.put, zn1, zn2, zn3])
                refine tY (i := 20) (v := ?_) rfl ?_ hHeld ?_; rotate_left 1; focus (intro w' hSw; have hCell := fun (b o : Nat) (h : b < W6.heap.size) => hSw.cell (p := ⟨b, o, none⟩) h; clear hSw; go_simp; try with_reducible rfl)
                (try simp only [Act.put, zn1, zn2, zn3])
                refine tY (i := 21) (v := ?_) rfl ?_ hHeld ?_; rotate_left 1; focus (intro w' hSw; clear hSw; go_simp; try with_reducible rfl)
                (try simp only [Act.put, zn1, zn2, zn3])
                refine tY (i := 22) (v := ?_) rfl ?_ hHeld ?_; rotate_left 1; focus (intro w' hSw; clear hSw; go_simp; try with_reducible rfl)
                (try simp only [Act.put, zn1, zn2, zn3])
                refine tY (i := 23) (v := ?_) rfl ?_ hHeld ?_; rotate_left 1; focus (intro w' hSw; clear hSw; go_simp; try with_reducible rfl)
                (try simp only [Act.put, zn1, zn2, zn3])
                refine tY (i := 24) (v := ?_) rfl ?_ hHeld ?_; rotate_left 1; focus (intro w' hSw; clear hSw; go_simp; try with_reducible rfl)
                (try simp only [Act.put, zn1, zn2, zn3])
                refine tY (i := 25) (v := ?_) rfl ?_ hHeld ?_; rotate_left 1; focus (intro w' hSw; clear hSw; go_simp; try with_reducible rfl)
                (try simp only [Act.put, zn1, zn2, zn3])
                refine tY (i := 26) (v := ?_) rfl ?_ hHeld ?_; rotate_left 1; focus (intro w' hSw; clear hSw; go_simp; try with_reducible rfl)
                (try simp only [Act.put, zn1, zn2, zn3])
                refine tY (i := 27) (v := ?_) rfl ?_ hHeld ?_; rotate_left 1; focus (intro w' hSw; clear hSw; go_simp; try with_reducible rfl)
                (try simp only [Act.put, zn1, zn2, zn3])
                refine tY (i := 28) (v := ?_) rfl ?_ hHeld ?_; rotate_left 1; focus (intro w' hSw; have hCell := fun (b o : Nat) (h : b < W6.heap.size) => hSw.cell (p := ⟨b, o, none⟩) h; clear hSw; go_simp; try with_reducible rfl)
                (try simp only [Act.put, zn1, zn2, zn3])
                refine tY (i := 29) (v := ?_) rfl ?_ hHeld ?_; rotate_left 1; focus (intro w' hSw; clear hSw; go_simp; try with_reducible rfl)
                (try simp only [Act.put, zn1, zn2, zn3])
                refine tY (i := 30) (v := ?_) rfl ?_ hHeld ?_; rotate_left 1; focus (intro w' hSw; have hCell := fun (b o : Nat) (h : b < W6.heap.size) => hSw.cell (p := ⟨b, o, none⟩) h; clear hSw; go_simp; try with_reducible rfl)
                (try simp only [Act.put, zn1, zn2, zn3])
                refine tY (i := 31) (v := ?_) rfl ?_ hHeld ?_; rotate_left 1; focus (intro w' hSw; clear hSw; go_simp; try with_reducible rfl)
                (try simp only [Act.put, zn1, zn2, zn3])
                refine tY (i := 32) (v := ?_) rfl ?_ hHeld ?_; rotate_left 1; focus (intro w' hSw; clear hSw; go_simp; try with_reducible rfl)
                (try simp only [Act.put, zn1, zn2, zn3])
                refine tY (i := 33) (v := ?_) rfl ?_ hHeld ?_; rotate_left 1; focus (intro w' hSw; clear hSw; go_simp; try with_reducible rfl)
                (try simp only [Act.put, zn1, zn2, zn3])
                refine tY (i := 34) (v := ?_) rfl ?_ hHeld ?_; rotate_left 1; focus (intro w' hSw; clear hSw; go_simp; try with_reducible rfl)
                (try simp only [Act.put, zn1, zn2, zn3])
                refine wpAnyH_done (by kernel_rfl) ?_ _
                have HB7 := Lib.hid (lift HB6.out hHeld)
                clear hHeld
                cases b' with
                | nil =>
                  have hkey := hby.1.1 rfl
                  have hneed := hby.2.1 hkey
                  simp only [keyP, Prod.mk.injEq] at hkey hneed
                  obtain ⟨e1, e2⟩ := hkey
                  subst e1 e2 hneed
                  have HC := Lib.hid (show (L.take (k + 1)).countP byNone = (L.take k).countP byNone + 1 by rw [HCs.out]; rfl)
                  have hww : IntKind.i64.wrap (((L.take k).countP byNone : Nat) + 1 : Int) = ((L.take k).countP byNone : Nat) + 1 := IntWalk.i64_in _ (by have := List.countP_le_length (p := byNone) (l := L.take k); have := List.length_take_le k L; omega)
                  go_wp2_with fail
                  go_roundw
                  case rel => exact ⟨k + 1, by omega, by go_num, by rw [HC.out]; go_num, HB7.out⟩
                  case measure => simp [intOf]; omega
                | cons b0 br =>
                  have HC := Lib.hid (show (L.take (k + 1)).countP byNone = (L.take k).countP byNone by rw [HCs.out]; rfl)
                  obtain ⟨q, hq, hqe⟩ := hby.2.2 (by simp)
                  have hmem : b0 :: br ∈ L.map (·.1) := List.mem_map.2 ⟨q, hq, hqe⟩
                  have hlk : (setF (L.map (·.1)) (b0 :: br)).getD (.bool false) = .bool true := by rw [setF_has]; simp only [hmem, decide_true]
                  have HLk := Lib.hid hlk
                  clear hq hqe hmem hlk
                  go_wp2_with (first
                    | (at_lookup; refine wpList_lookup_is _ (by rfl) (.tmp 102) (.tmp 104) 35 (by rfl) 4 Tryz.underlying35 (.bool false) (zeroB _) w4.heap.size _ _ (by rfl) (HMk.out.on HB7.out) (b0 :: br) (by rfl) hokb ?_; rw [HLk.out])
                    | fail)
                  go_roundw
                  case rel => exact ⟨k + 1, by omega, by go_num, by rw [HC.out], HB7.out⟩
                  case measure => simp [intOf]; omega
              · have hbl : Op.bytesLess sp s = true := by
                  have h := HPp.out
                  unfold ltJ at h
                  have hs : (sp == s) = false := by simpa using hse
                  simp only [hs, Bool.false_and, Bool.or_false] at h
                  exact h
                have hs : (sp == s) = false := by simpa using hse
                clear hse
                go_wp2_with fail
                first | (refine wp_named ?_; intro W6 hW) | (refine calls_named ?_; intro W6 hW)
                have B6 : Below wr.heap.size wr W6 := by rw [hW]; exact (by repeat (first | exact Below.refl _ _ | assumption | refine Below.alloc ?_ (by first | omega | (simp <;> omega)) _ | refine Below.setCell ?_ (by first | omega | (simp <;> omega)) _ | refine Below.drew ?_))
                replace hB2 : b2 < W6.heap.size := ltAt hB2 B6
                have m6 : wr.heap.size < W6.heap.size := by rw [hW]; simp <;> omega
                have y0 : W6.cell? ⟨wr.heap.size, 0, none⟩ = some (sv s) := by rw [hW]; go_simp
                have y1 : W6.cell? ⟨wr.heap.size, 1, none⟩ = some (.int .i64 t') := by rw [hW]; go_simp
                have y2 : W6.cell? ⟨wr.heap.size, 2, none⟩ = some (.bool n') := by rw [hW]; go_simp
                have y3 : W6.cell? ⟨wr.heap.size, 3, none⟩ = some (sv b') := by rw [hW]; go_simp
                clear hW
                have HB6 := Lib.hid (lift HB2.out B6)
                clear x0 x1 x2 x3
                replace u0 := cellAt u0 B6 hB3
                replace u1 := cellAt u1 B6 hB3
                clear B6
                try go_wp2_with fail
                refine wp_region_held_drew (S := fun w' => Below W6.heap.size W6 w') (by kernel_rfl) (Below.drew (Below.refl _ _)) (fun hHeld => ?_)
                refine tY (i := 0) (v := ?_) rfl ?_ hHeld ?_; rotate_left 1; focus (intro w' hSw; clear hSw; go_simp; try with_reducible rfl)
                (try simp only [Act.put, zn1, zn2, zn3])
                refine tY (i := 1) (v := ?_) rfl ?_ hHeld ?_; rotate_left 1; focus (intro w' hSw; clear hSw; go_simp; try with_reducible rfl)
                (try simp only [Act.put, zn1, zn2, zn3])
                refine tY (i := 2) (v := ?_) rfl ?_ hHeld ?_; rotate_left 1; focus (intro w' hSw; clear hSw; go_simp; try with_reducible rfl)
                (try simp only [Act.put, zn1, zn2, zn3])
                refine tY (i := 3) (v := ?_) rfl ?_ hHeld ?_; rotate_left 1; focus (intro w' hSw; clear hSw; go_simp; try with_reducible rfl)
                (try simp only [Act.put, zn1, zn2, zn3])
                refine tY (i := 4) (v := ?_) rfl ?_ hHeld ?_; rotate_left 1; focus (intro w' hSw; clear hSw; go_simp; try with_reducible rfl)
                (try simp only [Act.put, zn1, zn2, zn3])
                refine tY (i := 5) (v := ?_) rfl ?_ hHeld ?_; rotate_left 1; focus (intro w' hSw; clear hSw; go_simp; try with_reducible rfl)
                (try simp only [Act.put, zn1, zn2, zn3])
                refine tY (i := 6) (v := ?_) rfl ?_ hHeld ?_; rotate_left 1; focus (intro w' hSw; clear hSw; go_simp; try with_reducible rfl)
                (try simp only [Act.put, zn1, zn2, zn3])
                refine tY (i := 7) (v := ?_) rfl ?_ hHeld ?_; rotate_left 1; focus (intro w' hSw; clear hSw; go_simp; try with_reducible rfl)
                (try simp only [Act.put, zn1, zn2, zn3])
                refine tY (i := 8) (v := ?_) rfl ?_ hHeld ?_; rotate_left 1; focus (intro w' hSw; have hCell := fun (b o : Nat) (h : b < W6.heap.size) => hSw.cell (p := ⟨b, o, none⟩) h; clear hSw; go_simp; try with_reducible rfl)
                (try simp only [Act.put, zn1, zn2, zn3])
                refine tY (i := 9) (v := ?_) rfl ?_ hHeld ?_; rotate_left 1; focus (intro w' hSw; clear hSw; go_simp; try with_reducible rfl)
                (try simp only [Act.put, zn1, zn2, zn3])
                refine tY (i := 10) (v := ?_) rfl ?_ hHeld ?_; rotate_left 1; focus (intro w' hSw; have hCell := fun (b o : Nat) (h : b < W6.heap.size) => hSw.cell (p := ⟨b, o, none⟩) h; clear hSw; go_simp; try with_reducible rfl)
                (try simp only [Act.put, zn1, zn2, zn3])
                refine tY (i := 11) (v := ?_) rfl ?_ hHeld ?_; rotate_left 1; focus (intro w' hSw; clear hSw; go_simp; try with_reducible rfl)
                (try simp only [Act.put, zn1, zn2, zn3])
                refine tY (i := 12) (v := ?_) rfl ?_ hHeld ?_; rotate_left 1; focus (intro w' hSw; clear hSw; go_simp; try with_reducible rfl)
                (try simp only [Act.put, zn1, zn2, zn3])
                refine tY (i := 13) (v := ?_) rfl ?_ hHeld ?_; rotate_left 1; focus (intro w' hSw; clear hSw; go_simp; try with_reducible rfl)
                (try simp only [Act.put, zn1, zn2, zn3])
                refine tY (i := 14) (v := ?_) rfl ?_ hHeld ?_; rotate_left 1; focus (intro w' hSw; clear hSw; go_simp; try with_reducible rfl)
                (try simp only [Act.put, zn1, zn2, zn3])
                refine tY (i := 15) (v := ?_) rfl ?_ hHeld ?_; rotate_left 1; focus (intro w' hSw; clear hSw; go_simp; try with_reducible rfl)
                (try simp only [Act.put, zn1, zn2, zn3])
                refine tY (i := 16) (v := ?_) rfl ?_ hHeld ?_; rotate_left 1; focus (intro w' hSw; clear hSw; go_simp; try with_reducible rfl)
                (try simp only [Act.put, zn1, zn2, zn3])
                refine tY (i := 17) (v := ?_) rfl ?_ hHeld ?_; rotate_left 1; focus (intro w' hSw; clear hSw; go_simp; try with_reducible rfl)
                (try simp only [Act.put, zn1, zn2, zn3])
                refine tY (i := 18) (v := ?_) rfl ?_ hHeld ?_; rotate_left 1; focus (intro w' hSw; have hCell := fun (b o : Nat) (h : b < W6.heap.size) => hSw.cell (p := ⟨b, o, none⟩) h; clear hSw; go_simp; try with_reducible rfl)
                (try simp only [Act.put, zn1, zn2, zn3])
                refine tY (i := 19) (v := ?_) rfl ?_ hHeld ?_; rotate_left 1; focus (intro w' hSw; clear hSw; go_simp; try with_reducible rfl)
                (try simp only [Act.put, zn1, zn2, zn3])
                refine tY (i := 20) (v := ?_) rfl ?_ hHeld ?_; rotate_left 1; focus (intro w' hSw; have hCell := fun (b o : Nat) (h : b < W6.heap.size) => hSw.cell (p := ⟨b, o, none⟩) h; clear hSw; go_simp; try with_reducible rfl)
                (try simp only [Act.put, zn1, zn2, zn3])
                refine tY (i := 21) (v := ?_) rfl ?_ hHeld ?_; rotate_left 1; focus (intro w' hSw; clear hSw; go_simp; try with_reducible rfl)
                (try simp only [Act.put, zn1, zn2, zn3])
                refine tY (i := 22) (v := ?_) rfl ?_ hHeld ?_; rotate_left 1; focus (intro w' hSw; clear hSw; go_simp; try with_reducible rfl)
                (try simp only [Act.put, zn1, zn2, zn3])
                refine tS (i := 23) rfl hHeld ?_; (try simp only [Act.put, zn1, zn2, zn3])
                refine tS (i := 24) rfl hHeld ?_; (try simp only [Act.put, zn1, zn2, zn3])
                refine tS (i := 25) rfl hHeld ?_; (try simp only [Act.put, zn1, zn2, zn3])
                refine tS (i := 26) rfl hHeld ?_; (try simp only [Act.put, zn1, zn2, zn3])
                refine tS (i := 27) rfl hHeld ?_; (try simp only [Act.put, zn1, zn2, zn3])
                refine tS (i := 28) rfl hHeld ?_; (try simp only [Act.put, zn1, zn2, zn3])
                refine tS (i := 29) rfl hHeld ?_; (try simp only [Act.put, zn1, zn2, zn3])
                refine tS (i := 30) rfl hHeld ?_; (try simp only [Act.put, zn1, zn2, zn3])
                refine tS (i := 31) rfl hHeld ?_; (try simp only [Act.put, zn1, zn2, zn3])
                refine tY (i := 32) (v := ?_) rfl ?_ hHeld ?_; rotate_left 1; focus (intro w' hSw; clear hSw; go_simp; try with_reducible rfl)
                (try simp only [Act.put, zn1, zn2, zn3])
                refine tY (i := 33) (v := ?_) rfl ?_ hHeld ?_; rotate_left 1; focus (intro w' hSw; clear hSw; go_simp; try with_reducible rfl)
                (try simp only [Act.put, zn1, zn2, zn3])
                refine tY (i := 34) (v := ?_) rfl ?_ hHeld ?_; rotate_left 1; focus (intro w' hSw; clear hSw; go_simp; try with_reducible rfl)
                (try simp only [Act.put, zn1, zn2, zn3])
                refine wpAnyH_done (by kernel_rfl) ?_ _
                have HB7 := Lib.hid (lift HB6.out hHeld)
                clear hHeld
                cases b' with
                | nil =>
                  have hkey := hby.1.1 rfl
                  have hneed := hby.2.1 hkey
                  simp only [keyP, Prod.mk.injEq] at hkey hneed
                  obtain ⟨e1, e2⟩ := hkey
                  subst e1 e2 hneed
                  have HC := Lib.hid (show (L.take (k + 1)).countP byNone = (L.take k).countP byNone + 1 by rw [HCs.out]; rfl)
                  have hww : IntKind.i64.wrap (((L.take k).countP byNone : Nat) + 1 : Int) = ((L.take k).countP byNone : Nat) + 1 := IntWalk.i64_in _ (by have := List.countP_le_length (p := byNone) (l := L.take k); have := List.length_take_le k L; omega)
                  go_wp2_with fail
                  go_roundw
                  case rel => exact ⟨k + 1, by omega, by go_num, by rw [HC.out]; go_num, HB7.out⟩
                  case measure => simp [intOf]; omega
                | cons b0 br =>
                  have HC := Lib.hid (show (L.take (k + 1)).countP byNone = (L.take k).countP byNone by rw [HCs.out]; rfl)
                  obtain ⟨q, hq, hqe⟩ := hby.2.2 (by simp)
                  have hmem : b0 :: br ∈ L.map (·.1) := List.mem_map.2 ⟨q, hq, hqe⟩
                  have hlk : (setF (L.map (·.1)) (b0 :: br)).getD (.bool false) = .bool true := by rw [setF_has]; simp only [hmem, decide_true]
                  have HLk := Lib.hid hlk
                  clear hq hqe hmem hlk
                  go_wp2_with (first
                    | (at_lookup; refine wpList_lookup_is _ (by rfl) (.tmp 102) (.tmp 104) 35 (by rfl) 4 Tryz.underlying35 (.bool false) (zeroB _) w4.heap.size _ _ (by rfl) (HMk.out.on HB7.out) (b0 :: br) (by rfl) hokb ?_; rw [HLk.out])
                    | fail)
                  go_roundw
                  case rel => exact ⟨k + 1, by omega, by go_num, by rw [HC.out], HB7.out⟩
                  case measure => simp [intOf]; omega
          · obtain rfl : k = L.length := by omega
            rw [List.take_length]
            have hbr := HB2.out
            replace c0 := cellAt c0 hbr (by omega)
            replace c1 := cellAt c1 hbr (by omega)
            replace c2 := cellAt c2 hbr (by omega)
            replace c3 := cellAt c3 hbr (by omega)
            replace HG := Lib.hid (HG.out.at hbr)
            replace HN := Lib.hid (HN.out.at hbr)
            replace n1 : w.heap.size < wr.heap.size := ltAt n1 hbr
            replace n2 : (w.heap.size + 1) < wr.heap.size := ltAt n2 hbr
            replace HB := Lib.hid (lift HB.out hbr)
            replace HR := Lib.hid (HR.out.at hbr)
            clear hbr HB2
            go_wp2_with fail
            refine (Node_any An Ae es.length cn ce ns u wr HG.out.rn (by omega)).mono ?_
            rintro e v2 ⟨rfl, hb⟩
            replace c0 := cellAt c0 hb (by omega)
            replace c1 := cellAt c1 hb (by omega)
            replace c2 := cellAt c2 hb (by omega)
            replace c3 := cellAt c3 hb (by omega)
            replace HG := Lib.hid (HG.out.at hb)
            replace HN := Lib.hid (HN.out.at hb)
            replace n1 : w.heap.size < v2.heap.size := ltAt n1 hb
            replace n2 : (w.heap.size + 1) < v2.heap.size := ltAt n2 hb
            replace HB := Lib.hid (lift HB.out hb)
            replace HR := Lib.hid (HR.out.at hb)
            clear hb
            have hz8 := HB.out.size
            cases hno : nodeOf ns u with
            | none =>
              have hL := HNone.out (by unfold asksB; rw [hno]; rfl)
              subst hL
              unfold nodeV
              go_wp2_with fail
              go_ret
              exact ⟨rfl, HB.out.alloc hz8 _⟩
            | some nd =>
              obtain ⟨s1, k1, r1⟩ := nd
              by_cases ht1 : 1 ≤ t
              · by_cases ht4 : t ≤ 4
                · have hc := HOne.out (by unfold asksB; rw [hno]; simp; omega)
                  have hc1 : (((L.countP byNone : Nat) : Int) == 1) = true := by rw [hc]; rfl
                  have d1 : decide (1 ≤ t) = true := by simpa using ht1
                  have d4 : decide (t ≤ 4) = true := by simpa using ht4
                  clear hc ht1 ht4
                  unfold nodeV
                  go_wp2_with fail
                  go_ret
                  exact ⟨rfl, HB.out.alloc hz8 _⟩
                · have hL := HNone.out (by unfold asksB; rw [hno]; simp; omega)
                  subst hL
                  have d1 : decide (1 ≤ t) = true := by simpa using ht1
                  have d4 : decide (t ≤ 4) = false := by simpa using ht4
                  unfold nodeV
                  go_wp2_with fail
                  go_ret
                  exact ⟨rfl, HB.out.alloc hz8 _⟩
              · have hL := HNone.out (by unfold asksB; rw [hno]; simp; omega)
                subst hL
                have d1 : decide (1 ≤ t) = false := by simpa using ht1
                unfold nodeV
                go_wp2_with fail
                go_ret
                exact ⟨rfl, HB.out.alloc hz8 _⟩
end Od
end Go.Proofs.YtbllehjhmfehbaaGreat
end
