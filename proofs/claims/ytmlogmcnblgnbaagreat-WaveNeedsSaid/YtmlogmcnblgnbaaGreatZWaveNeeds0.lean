/- My texts, joined for the claim: LvD LvE. -/
import Derived.Test.YtmlogmcnblgnbaaGreatZB15
import Derived.Deep.DeepCutAuto

section
/- The walk of the law WaveAhead, and of its helper runs. (bel2) -/
namespace Go.Proofs.YtmlogmcnblgnbaaGreat
open Go.RowKit Go.Sort
set_option linter.unusedSimpArgs false

namespace Od

theorem trR_pw {ns : List Nd} {es : List Ed} {fails : List Str} {picks : List Int} {q : List Jb} (hs : soundQ ns es q = true) : (trR es fails picks q).Pairwise (fun d e => clashD es d e = true → runsB q d.1 = true) := by
  unfold trR; rw [if_pos (sound_ends hs).1]; exact trace_pw hs
theorem pw_drop {α : Type} {R : α → α → Prop} {l : List α} (h : l.Pairwise R) {m : Nat} (hm : m < l.length) : ∀ e ∈ l.drop (m + 1), R l[m] e := by
  have h2 : (l.drop m).Pairwise R := List.Pairwise.sublist (List.drop_sublist _ _) h
  rw [List.drop_eq_getElem_cons hm] at h2
  exact (List.pairwise_cons.1 h2).1
theorem ndsC_drop (l : List Nd) (m : Nat) : (ndsC l).drop (m * 3) = ndsC (l.drop m) := by
  induction m generalizing l with
  | zero => simp
  | succ m ih =>
    cases l with
    | nil => simp [ndsC]
    | cons a l =>
      rw [show (m + 1) * 3 = m * 3 + 3 from by omega, ← List.drop_drop]
      rw [List.drop_succ_cons, ← ih l]
      rw [List.drop_drop, Nat.add_comm (m * 3) 3, ← List.drop_drop]
      rfl
set_option maxRecDepth 100000 in
set_option maxHeartbeats 4000000 in
theorem runs_any (A : Option Addr) (c : Nat) (q : List Jb) (u : Str) (w : World) (hq : Rd w w.heap.size 4 A q.length (jbsC q)) (hd : DQ q) (hl : q.length ≤ 1000000) :
    Calls Tryz.prog 31 #[.slice A q.length c, sv u] w fun e w' => e = .returned (.bool (runsB q u)) ∧ Below w.heap.size w w' := by
  have Hq := Lib.hid hq
  have HD := Lib.hid hd
  clear hq hd
  go_enter Tryz.func31, Tryz.ntmps31
  go_wp2_with fail
  go_loopw [9] (fun i wr => ∃ m : Nat, m ≤ q.length ∧ i = .int .i64 m ∧ Hid (∀ j ∈ q.take m, j.1 ≠ u) ∧ Below w.heap.size w wr) (fun i _ => q.length - (intOf i).toNat)
  case atStart => exact ⟨0, Nat.zero_le _, rfl, by simp [Hid], Below.refl _ _⟩
  case round =>
    obtain ⟨m, hmq, rfl, HAll, hb⟩ := hrel
    have HB := Lib.hid hb
    replace Hq := Lib.hid (Hq.out.at hb)
    clear hb
    by_cases hlt : m < q.length
    · obtain ⟨b2, o2, hA, hB2, x0, x1, x2, x3⟩ := Hq.out.job hlt
      have hin := List.getElem_mem hlt
      have htk := List.take_succ_eq_append_getElem hlt
      subst hA
      generalize q[m] = j at x0 x1 x2 x3 hin htk
      obtain ⟨s, t, r, d⟩ := j
      simp only at x0 x1 x2 x3
      have HIn := Lib.hid hin
      have HTk := Lib.hid htk
      have m1 : (0 : Int) ≤ (m : Int) := by omega
      have m2 : (m : Int) < (q.length : Int) := by omega
      clear hin htk
      cases e1 : (s == u)
      · have HA2 := Lib.hid (show ∀ j ∈ q.take (m + 1), j.1 ≠ u from fun j hj => by
          rw [HTk.out, List.mem_append, List.mem_singleton] at hj
          rcases hj with h | h
          · exact HAll.out j h
          · subst h; simpa using e1)
        go_wp2_with fail
        go_roundw
        case rel => exact ⟨m + 1, by omega, by go_num, HA2, HB.out.alloc (by have := HB.out.size; omega) _⟩
        case measure => simp [intOf]; omega
      · have hsu : s = u := by simpa using e1
        subst hsu
        have HR := Lib.hid (show runsB q s = (r == 2) from runsB_at HD.out HIn.out)
        go_wp2_with fail
        go_ret
        exact ⟨ret_bool (by rw [HR.out]), HB.out.alloc (by have := HB.out.size; omega) _⟩
    · have ha := HAll.out
      rw [List.take_of_length_le (by omega)] at ha
      have HR := Lib.hid (show runsB q u = false by
        cases hr : runsB q u
        · rfl
        · obtain ⟨j, hj, e, _⟩ := runsB_iff.1 hr
          exact absurd e (ha j hj))
      clear ha
      go_wp2_with fail
      go_ret
      exact ⟨ret_bool (by rw [HR.out]), HB.out⟩
set_option maxRecDepth 100000 in
set_option maxHeartbeats 16000000 in
theorem waveAhead_any (An Ae : Option Addr) (cn ce : Nat) (ns : List Nd) (es : List Ed) (A : Option Addr) (c : Nat) (q : List Jb) (Af : Option Addr) (cf : Nat) (fails : List Str) (Ap : Option Addr) (cp : Nat) (picks : List Int) (w : World) (hg : GIw w An Ae ns es) (hq : QIn w A c q) (hf : Rd w w.heap.size 1 Af fails.length (svs fails)) (hp : Rd w w.heap.size 1 Ap picks.length (ints picks)) (hlf : fails.length ≤ 140737488351232) :
    Calls Tryz.prog 8 #[gV An ns.length cn Ae es.length ce, .slice A q.length c, .slice Af fails.length cf, .slice Ap picks.length cp] w fun e w' => e = .returned (.bool true) ∧ Below w.heap.size w w' := by
  obtain ⟨i0, hi, hz0, hz1, hz2⟩ := info_parts infoDn
  have HG := Lib.hid hg
  have HQ := Lib.hid hq
  have HFl := Lib.hid hf
  have HP := Lib.hid hp
  clear hg hq hf hp
  cases d30 : decide ((30 : Int) < (q.length : Int))
  · cases d300 : decide ((300 : Int) < (picks.length : Int))
    · have h30 : ¬ (30 : Int) < (q.length : Int) := by simpa using d30
      go_enter Tryz.func8, Tryz.ntmps8
      go_wp2_with fail
      first | (refine wp_named ?_; intro W1 hW) | (refine calls_named ?_; intro W1 hW)
      have B1 : Below w.heap.size w W1 := by rw [hW]; exact (by repeat (first | exact Below.refl _ _ | assumption | refine Below.alloc ?_ (by first | omega | (simp <;> omega)) _ | refine Below.setCell ?_ (by first | omega | (simp <;> omega)) _ | refine Below.drew ?_))
      replace HG := Lib.hid (HG.out.at B1)
      replace HQ := Lib.hid (HQ.out.at B1)
      replace HFl := Lib.hid (HFl.out.at B1)
      replace HP := Lib.hid (HP.out.at B1)
      have nw1 : w.heap.size < W1.heap.size := by rw [hW]; simp <;> omega
      have c0 : W1.cell? ⟨w.heap.size, 0, none⟩ = some (.slice An ns.length cn) := by rw [hW]; go_simp
      have c1 : W1.cell? ⟨w.heap.size, 1, none⟩ = some (.slice Ae es.length ce) := by rw [hW]; go_simp
      clear hW
      have HB := Lib.hid B1
      clear B1
      refine (shown_any W1).mono ?_
      rintro e w2 ⟨rfl, hb⟩
      replace c0 := cellAt c0 hb (by omega)
      replace c1 := cellAt c1 hb (by omega)
      replace HG := Lib.hid (HG.out.at hb)
      replace HQ := Lib.hid (HQ.out.at hb)
      replace HFl := Lib.hid (HFl.out.at hb)
      replace HP := Lib.hid (HP.out.at hb)
      replace nw1 : w.heap.size < w2.heap.size := ltAt nw1 hb
      replace HB := Lib.hid (lift HB.out hb)
      clear hb
      go_wp2_with fail
      refine (small_any An Ae cn ce ns es w2).mono ?_
      rintro e w3 ⟨rfl, hb⟩
      replace c0 := cellAt c0 hb (by omega)
      replace c1 := cellAt c1 hb (by omega)
      replace HG := Lib.hid (HG.out.at hb)
      replace HQ := Lib.hid (HQ.out.at hb)
      replace HFl := Lib.hid (HFl.out.at hb)
      replace HP := Lib.hid (HP.out.at hb)
      replace nw1 : w.heap.size < w3.heap.size := ltAt nw1 hb
      replace HB := Lib.hid (lift HB.out hb)
      clear hb
      cases hsm : smallB ns es
      · go_wp2_with fail
        go_ret
        exact ⟨rfl, HB.out⟩
      · have hs2 := smallB_iff.1 hsm
        have hl1 := hs2.1
        have hl2 := hs2.2
        clear hs2
        go_wp2_with fail
        refine (SoundQ_any An Ae cn ce ns es A c q w3 (HG.out.q (by omega) (by omega)) HQ.out (by omega)).mono ?_
        rintro e w4 ⟨rfl, hb⟩
        replace c0 := cellAt c0 hb (by omega)
        replace c1 := cellAt c1 hb (by omega)
        replace HG := Lib.hid (HG.out.at hb)
        replace HQ := Lib.hid (HQ.out.at hb)
        replace HFl := Lib.hid (HFl.out.at hb)
        replace HP := Lib.hid (HP.out.at hb)
        replace nw1 : w.heap.size < w4.heap.size := ltAt nw1 hb
        replace HB := Lib.hid (lift HB.out hb)
        clear hb
        cases hsd : soundQ ns es q
        · go_wp2_with fail
          go_ret
          exact ⟨rfl, HB.out⟩
        · have hta := trR_len es fails picks q
          have hpw := trR_pw (fails := fails) (picks := picks) hsd
          have HD := Lib.hid (mayQ.dq (sound_ends hsd).1)
          generalize hx1 : trR es fails picks q = x at *
          have HX1 := Lib.hid hx1
          have HPw := Lib.hid hpw
          clear hx1 hpw
          go_wp2_with fail
          refine (TraceW_any An Ae ns.length cn ce es A c q Af cf fails Ap cp picks w4 HG.out.re HQ.out HFl.out HP.out (by omega) (by omega) (by omega)).mono ?_
          rw [HX1.out]
          rintro e x5 ⟨A7, c7, rfl, hc7, hr7, hb⟩
          have HR7 := Lib.hid hr7
          replace c0 := cellAt c0 hb (by omega)
          replace c1 := cellAt c1 hb (by omega)
          replace HG := Lib.hid (HG.out.at hb)
          replace HQ := Lib.hid (HQ.out.at hb)
          replace HFl := Lib.hid (HFl.out.at hb)
          replace HP := Lib.hid (HP.out.at hb)
          replace nw1 : w.heap.size < x5.heap.size := ltAt nw1 hb
          replace HB := Lib.hid (lift HB.out hb)
          clear hb hr7
          go_wp2_with fail
          go_loopw [44] (fun i wr => ∃ m : Nat, m ≤ x.length ∧ i = .int .i64 m ∧ Below x5.heap.size x5 wr) (fun i _ => x.length - (intOf i).toNat)
          case atStart => exact ⟨0, Nat.zero_le _, rfl, Below.refl _ _⟩
          case round =>
            obtain ⟨m, hmq, rfl, hb⟩ := hrel
            have HBl := Lib.hid hb
            replace c0 := cellAt c0 hb (by omega)
            replace c1 := cellAt c1 hb (by omega)
            replace HG := Lib.hid (HG.out.at hb)
            replace HQ := Lib.hid (HQ.out.at hb)
            replace HFl := Lib.hid (HFl.out.at hb)
            replace HP := Lib.hid (HP.out.at hb)
            replace nw1 : w.heap.size < wr.heap.size := ltAt nw1 hb
            replace HB := Lib.hid (lift HB.out hb)
            replace HR7 := Lib.hid (HR7.out.at hb)
            clear hb
            by_cases hlt : m < x.length
            · obtain ⟨b2, o2, hA, hB2, x0, x1, x2⟩ := HR7.out.node hlt
              have hrd := HR7.out.dropA (m := m + 1) hlt hc7
              have hml : (x.drop (m + 1)).length = x.length - (m + 1) := List.length_drop
              have hs2 := run_slice_tail (P := Tryz.prog) Tryz.underlying37 hi A7 x.length c7 (m + 1) hlt
              rw [hz1] at hs2
              rw [show (((m + 1 : Nat)) : Int) = (m : Int) + 1 from by omega, ← hml] at hs2
              rw [← hml, ndsC_drop] at hrd
              have kw : IntKind.i64.wrap ((m : Int) + 1) = (m : Int) + 1 := IntWalk.i64_in _ (by omega)
              have hml2 : (x.drop (m + 1)).length ≤ 30 := by omega
              have hcl := pw_drop HPw.out hlt
              generalize x[m] = z at x0 x1 x2 hcl
              obtain ⟨s, t, d⟩ := z
              simp only at x0 x1 x2 hcl
              generalize hAd : dropA A7 c7 (m + 1) 3 = Ad at hs2 hrd
              generalize hMd : x.drop (m + 1) = M at hs2 hrd hml2 hcl
              have HCl0 := Lib.hid hcl
              have HRd := Lib.hid hrd
              clear hml hAd hMd hcl hrd
              have m1 : (0 : Int) ≤ (m : Int) := by omega
              have m2 : (m : Int) < (x.length : Int) := by omega
              subst hA
              obtain ⟨w9, rfl⟩ : ∃ wo : World, wo = wr := ⟨_, rfl⟩
              go_wp2_with fail
              first | (refine wp_named ?_; intro W4 hW) | (refine calls_named ?_; intro W4 hW)
              have B4 : Below w9.heap.size w9 W4 := by rw [hW]; exact (by repeat (first | exact Below.refl _ _ | assumption | refine Below.alloc ?_ (by first | omega | (simp <;> omega)) _ | refine Below.setCell ?_ (by first | omega | (simp <;> omega)) _ | refine Below.drew ?_))
              replace c0 := cellAt c0 B4 (by omega)
              replace c1 := cellAt c1 B4 (by omega)
              replace HG := Lib.hid (HG.out.at B4)
              replace HQ := Lib.hid (HQ.out.at B4)
              replace HFl := Lib.hid (HFl.out.at B4)
              replace HP := Lib.hid (HP.out.at B4)
              replace nw1 : w.heap.size < W4.heap.size := ltAt nw1 B4
              replace HB := Lib.hid (lift HB.out B4)
              replace HR7 := Lib.hid (HR7.out.at B4)
              replace HBl := Lib.hid (lift HBl.out B4)
              replace HRd := Lib.hid (HRd.out.at B4)
              have nl4 : w9.heap.size < W4.heap.size := by rw [hW]; simp <;> omega
              have k0 : W4.cell? ⟨w9.heap.size, 0, none⟩ = some (sv s) := by rw [hW]; go_simp
              have k1 : W4.cell? ⟨w9.heap.size, 1, none⟩ = some (.int .i64 t) := by rw [hW]; go_simp
              have k2 : W4.cell? ⟨w9.heap.size, 2, none⟩ = some (.int .i64 d) := by rw [hW]; go_simp
              clear hW
              clear B4 x0 x1 x2
              go_wp2_with fail
              go_loopw [54] (fun i wr => ∃ j : Nat, j ≤ M.length ∧ i = .int .i64 j ∧ Below W4.heap.size W4 wr) (fun i _ => M.length - (intOf i).toNat)
              case atStart => exact ⟨0, Nat.zero_le _, rfl, Below.refl _ _⟩
              case round =>
                obtain ⟨j, hjM, rfl, hb⟩ := hrel
                have HB7 := Lib.hid hb
                replace c0 := cellAt c0 hb (by omega)
                replace c1 := cellAt c1 hb (by omega)
                replace k0 := cellAt k0 hb (by omega)
                replace k1 := cellAt k1 hb (by omega)
                replace k2 := cellAt k2 hb (by omega)
                replace HG := Lib.hid (HG.out.at hb)
                replace HQ := Lib.hid (HQ.out.at hb)
                replace HFl := Lib.hid (HFl.out.at hb)
                replace HP := Lib.hid (HP.out.at hb)
                replace nw1 : w.heap.size < wr.heap.size := ltAt nw1 hb
                replace HB := Lib.hid (lift HB.out hb)
                replace HR7 := Lib.hid (HR7.out.at hb)
                replace HBl := Lib.hid (lift HBl.out hb)
                replace HRd := Lib.hid (HRd.out.at hb)
                replace nl4 : w9.heap.size < wr.heap.size := ltAt nl4 hb
                clear hb
                by_cases hlt2 : j < M.length
                · obtain ⟨b3, o3, hA3, hB3, y0, y1, y2⟩ := HRd.out.node hlt2
                  have hc2 := HCl0.out _ (List.getElem_mem hlt2)
                  generalize M[j] = z at y0 y1 y2 hc2
                  obtain ⟨s', t', d'⟩ := z
                  simp only at y0 y1 y2 hc2
                  have HC := Lib.hid hc2
                  have HCl1 := Lib.hid (show clashD es (s, t, d) (s', t', d') = (((t == 1 && t' == 1) && Ah es s' s) || ((t == 2 && t' == 2) && Ah es s s')) from rfl)
                  clear hc2
                  have j1 : (0 : Int) ≤ (j : Int) := by omega
                  have j2 : (j : Int) < (M.length : Int) := by omega
                  subst hA3
                  by_cases t1 : t = 1
                  · subst t1
                    by_cases t2 : t' = 1
                    · subst t2
                      have HCl := Lib.hid (show clashD es (s, 1, d) (s', 1, d') = (Ah es s' s || false) from HCl1.out.trans (by simp))
                      go_wp2_with fail
                      first | (refine wp_named ?_; intro W5 hW) | (refine calls_named ?_; intro W5 hW)
                      have B5 : Below wr.heap.size wr W5 := by rw [hW]; exact (by repeat (first | exact Below.refl _ _ | assumption | refine Below.alloc ?_ (by first | omega | (simp <;> omega)) _ | refine Below.setCell ?_ (by first | omega | (simp <;> omega)) _ | refine Below.drew ?_))
                      replace c0 := cellAt c0 B5 (by omega)
                      replace c1 := cellAt c1 B5 (by omega)
                      replace k0 := cellAt k0 B5 (by omega)
                      replace k1 := cellAt k1 B5 (by omega)
                      replace k2 := cellAt k2 B5 (by omega)
                      replace HG := Lib.hid (HG.out.at B5)
                      replace HQ := Lib.hid (HQ.out.at B5)
                      replace HFl := Lib.hid (HFl.out.at B5)
                      replace HP := Lib.hid (HP.out.at B5)
                      replace nw1 : w.heap.size < W5.heap.size := ltAt nw1 B5
                      replace HB := Lib.hid (lift HB.out B5)
                      replace HR7 := Lib.hid (HR7.out.at B5)
                      replace HBl := Lib.hid (lift HBl.out B5)
                      replace HRd := Lib.hid (HRd.out.at B5)
                      replace nl4 : w9.heap.size < W5.heap.size := ltAt nl4 B5
                      replace HB7 := Lib.hid (lift HB7.out B5)
                      have nl5 : wr.heap.size < W5.heap.size := by rw [hW]; simp <;> omega
                      have f0 : W5.cell? ⟨wr.heap.size, 0, none⟩ = some (sv s') := by rw [hW]; go_simp
                      have f1 : W5.cell? ⟨wr.heap.size, 1, none⟩ = some (.int .i64 1) := by rw [hW]; go_simp
                      have f2 : W5.cell? ⟨wr.heap.size, 2, none⟩ = some (.int .i64 d') := by rw [hW]; go_simp
                      clear hW
                      clear B5 y0 y1 y2
                      refine (Ahead_any An Ae ns.length cn ce es s' s W5 HG.out.re (by omega)).mono ?_
                      rintro e v6 ⟨rfl, hb⟩
                      replace c0 := cellAt c0 hb (by omega)
                      replace c1 := cellAt c1 hb (by omega)
                      replace k0 := cellAt k0 hb (by omega)
                      replace k1 := cellAt k1 hb (by omega)
                      replace k2 := cellAt k2 hb (by omega)
                      replace f0 := cellAt f0 hb (by omega)
                      replace f1 := cellAt f1 hb (by omega)
                      replace f2 := cellAt f2 hb (by omega)
                      replace HG := Lib.hid (HG.out.at hb)
                      replace HQ := Lib.hid (HQ.out.at hb)
                      replace HFl := Lib.hid (HFl.out.at hb)
                      replace HP := Lib.hid (HP.out.at hb)
                      replace nw1 : w.heap.size < v6.heap.size := ltAt nw1 hb
                      replace HB := Lib.hid (lift HB.out hb)
                      replace HR7 := Lib.hid (HR7.out.at hb)
                      replace HBl := Lib.hid (lift HBl.out hb)
                      replace HRd := Lib.hid (HRd.out.at hb)
                      replace nl4 : w9.heap.size < v6.heap.size := ltAt nl4 hb
                      replace HB7 := Lib.hid (lift HB7.out hb)
                      replace nl5 : wr.heap.size < v6.heap.size := ltAt nl5 hb
                      clear hb
                      cases ha : es.any (aheadB s' s)
                      · go_wp2_with fail
                        go_roundw
                        case rel => exact ⟨j + 1, by omega, by go_num, HB7.out⟩
                        case measure => simp [intOf]; omega
                      · have hra : runsB q s = true := HC.out (by rw [HCl.out]; rw [show Ah es s' s = true from ha]; rfl)
                        have HRa := Lib.hid hra
                        go_wp2_with fail
                        refine (runs_any A c q s v6 HQ.out.rq HD.out (by omega)).mono ?_
                        rw [HRa.out]
                        rintro e v7 ⟨rfl, hb⟩
                        replace c0 := cellAt c0 hb (by omega)
                        replace c1 := cellAt c1 hb (by omega)
                        replace k0 := cellAt k0 hb (by omega)
                        replace k1 := cellAt k1 hb (by omega)
                        replace k2 := cellAt k2 hb (by omega)
                        replace f0 := cellAt f0 hb (by omega)
                        replace f1 := cellAt f1 hb (by omega)
                        replace f2 := cellAt f2 hb (by omega)
                        replace HG := Lib.hid (HG.out.at hb)
                        replace HQ := Lib.hid (HQ.out.at hb)
                        replace HFl := Lib.hid (HFl.out.at hb)
                        replace HP := Lib.hid (HP.out.at hb)
                        replace nw1 : w.heap.size < v7.heap.size := ltAt nw1 hb
                        replace HB := Lib.hid (lift HB.out hb)
                        replace HR7 := Lib.hid (HR7.out.at hb)
                        replace HBl := Lib.hid (lift HBl.out hb)
                        replace HRd := Lib.hid (HRd.out.at hb)
                        replace nl4 : w9.heap.size < v7.heap.size := ltAt nl4 hb
                        replace HB7 := Lib.hid (lift HB7.out hb)
                        replace nl5 : wr.heap.size < v7.heap.size := ltAt nl5 hb
                        clear hb
                        go_wp2_with fail
                        go_roundw
                        case rel => exact ⟨j + 1, by omega, by go_num, HB7.out⟩
                        case measure => simp [intOf]; omega
                    · have t2b : (t' == 1) = false := by simpa using t2
                      go_wp2_with fail
                      go_roundw
                      case rel => exact ⟨j + 1, by omega, by go_num, HB7.out.alloc (by have := HB7.out.size; omega) _⟩
                      case measure => simp [intOf]; omega
                  · have t1b : (t == 1) = false := by simpa using t1
                    by_cases t3 : t = 2
                    · subst t3
                      by_cases t4 : t' = 2
                      · subst t4
                        have HCl := Lib.hid (show clashD es (s, 2, d) (s', 2, d') = (Ah es s s' || false) from HCl1.out.trans (by simp))
                        go_wp2_with fail
                        first | (refine wp_named ?_; intro W5 hW) | (refine calls_named ?_; intro W5 hW)
                        have B5 : Below wr.heap.size wr W5 := by rw [hW]; exact (by repeat (first | exact Below.refl _ _ | assumption | refine Below.alloc ?_ (by first | omega | (simp <;> omega)) _ | refine Below.setCell ?_ (by first | omega | (simp <;> omega)) _ | refine Below.drew ?_))
                        replace c0 := cellAt c0 B5 (by omega)
                        replace c1 := cellAt c1 B5 (by omega)
                        replace k0 := cellAt k0 B5 (by omega)
                        replace k1 := cellAt k1 B5 (by omega)
                        replace k2 := cellAt k2 B5 (by omega)
                        replace HG := Lib.hid (HG.out.at B5)
                        replace HQ := Lib.hid (HQ.out.at B5)
                        replace HFl := Lib.hid (HFl.out.at B5)
                        replace HP := Lib.hid (HP.out.at B5)
                        replace nw1 : w.heap.size < W5.heap.size := ltAt nw1 B5
                        replace HB := Lib.hid (lift HB.out B5)
                        replace HR7 := Lib.hid (HR7.out.at B5)
                        replace HBl := Lib.hid (lift HBl.out B5)
                        replace HRd := Lib.hid (HRd.out.at B5)
                        replace nl4 : w9.heap.size < W5.heap.size := ltAt nl4 B5
                        replace HB7 := Lib.hid (lift HB7.out B5)
                        have nl5 : wr.heap.size < W5.heap.size := by rw [hW]; simp <;> omega
                        have f0 : W5.cell? ⟨wr.heap.size, 0, none⟩ = some (sv s') := by rw [hW]; go_simp
                        have f1 : W5.cell? ⟨wr.heap.size, 1, none⟩ = some (.int .i64 2) := by rw [hW]; go_simp
                        have f2 : W5.cell? ⟨wr.heap.size, 2, none⟩ = some (.int .i64 d') := by rw [hW]; go_simp
                        clear hW
                        clear B5 y0 y1 y2
                        refine (Ahead_any An Ae ns.length cn ce es s s' W5 HG.out.re (by omega)).mono ?_
                        rintro e v6 ⟨rfl, hb⟩
                        replace c0 := cellAt c0 hb (by omega)
                        replace c1 := cellAt c1 hb (by omega)
                        replace k0 := cellAt k0 hb (by omega)
                        replace k1 := cellAt k1 hb (by omega)
                        replace k2 := cellAt k2 hb (by omega)
                        replace f0 := cellAt f0 hb (by omega)
                        replace f1 := cellAt f1 hb (by omega)
                        replace f2 := cellAt f2 hb (by omega)
                        replace HG := Lib.hid (HG.out.at hb)
                        replace HQ := Lib.hid (HQ.out.at hb)
                        replace HFl := Lib.hid (HFl.out.at hb)
                        replace HP := Lib.hid (HP.out.at hb)
                        replace nw1 : w.heap.size < v6.heap.size := ltAt nw1 hb
                        replace HB := Lib.hid (lift HB.out hb)
                        replace HR7 := Lib.hid (HR7.out.at hb)
                        replace HBl := Lib.hid (lift HBl.out hb)
                        replace HRd := Lib.hid (HRd.out.at hb)
                        replace nl4 : w9.heap.size < v6.heap.size := ltAt nl4 hb
                        replace HB7 := Lib.hid (lift HB7.out hb)
                        replace nl5 : wr.heap.size < v6.heap.size := ltAt nl5 hb
                        clear hb
                        cases ha : es.any (aheadB s s')
                        · go_wp2_with fail
                          go_roundw
                          case rel => exact ⟨j + 1, by omega, by go_num, HB7.out⟩
                          case measure => simp [intOf]; omega
                        · have hra : runsB q s = true := HC.out (by rw [HCl.out]; rw [show Ah es s s' = true from ha]; rfl)
                          have HRa := Lib.hid hra
                          go_wp2_with fail
                          refine (runs_any A c q s v6 HQ.out.rq HD.out (by omega)).mono ?_
                          rw [HRa.out]
                          rintro e v7 ⟨rfl, hb⟩
                          replace c0 := cellAt c0 hb (by omega)
                          replace c1 := cellAt c1 hb (by omega)
                          replace k0 := cellAt k0 hb (by omega)
                          replace k1 := cellAt k1 hb (by omega)
                          replace k2 := cellAt k2 hb (by omega)
                          replace f0 := cellAt f0 hb (by omega)
                          replace f1 := cellAt f1 hb (by omega)
                          replace f2 := cellAt f2 hb (by omega)
                          replace HG := Lib.hid (HG.out.at hb)
                          replace HQ := Lib.hid (HQ.out.at hb)
                          replace HFl := Lib.hid (HFl.out.at hb)
                          replace HP := Lib.hid (HP.out.at hb)
                          replace nw1 : w.heap.size < v7.heap.size := ltAt nw1 hb
                          replace HB := Lib.hid (lift HB.out hb)
                          replace HR7 := Lib.hid (HR7.out.at hb)
                          replace HBl := Lib.hid (lift HBl.out hb)
                          replace HRd := Lib.hid (HRd.out.at hb)
                          replace nl4 : w9.heap.size < v7.heap.size := ltAt nl4 hb
                          replace HB7 := Lib.hid (lift HB7.out hb)
                          replace nl5 : wr.heap.size < v7.heap.size := ltAt nl5 hb
                          clear hb
                          go_wp2_with fail
                          go_roundw
                          case rel => exact ⟨j + 1, by omega, by go_num, HB7.out⟩
                          case measure => simp [intOf]; omega
                      · have t4b : (t' == 2) = false := by simpa using t4
                        go_wp2_with fail
                        go_roundw
                        case rel => exact ⟨j + 1, by omega, by go_num, HB7.out.alloc (by have := HB7.out.size; omega) _⟩
                        case measure => simp [intOf]; omega
                    · have t3b : (t == 2) = false := by simpa using t3
                      go_wp2_with fail
                      go_roundw
                      case rel => exact ⟨j + 1, by omega, by go_num, HB7.out.alloc (by have := HB7.out.size; omega) _⟩
                      case measure => simp [intOf]; omega
                · go_wp2_with fail
                  go_roundw
                  case rel => exact ⟨m + 1, by omega, by go_num, HBl.out⟩
                  case measure => simp [intOf]; omega
            · go_wp2_with fail
              go_ret
              exact ⟨rfl, HB.out⟩
    · go_enter Tryz.func8, Tryz.ntmps8
      go_wp2_with fail
      first | (refine wp_named ?_; intro W1 hW) | (refine calls_named ?_; intro W1 hW)
      have B1 : Below w.heap.size w W1 := by rw [hW]; exact (by repeat (first | exact Below.refl _ _ | assumption | refine Below.alloc ?_ (by first | omega | (simp <;> omega)) _ | refine Below.setCell ?_ (by first | omega | (simp <;> omega)) _ | refine Below.drew ?_))
      replace HG := Lib.hid (HG.out.at B1)
      replace HQ := Lib.hid (HQ.out.at B1)
      replace HFl := Lib.hid (HFl.out.at B1)
      replace HP := Lib.hid (HP.out.at B1)
      have nw1 : w.heap.size < W1.heap.size := by rw [hW]; simp <;> omega
      have c0 : W1.cell? ⟨w.heap.size, 0, none⟩ = some (.slice An ns.length cn) := by rw [hW]; go_simp
      have c1 : W1.cell? ⟨w.heap.size, 1, none⟩ = some (.slice Ae es.length ce) := by rw [hW]; go_simp
      clear hW
      have HB := Lib.hid B1
      clear B1
      refine (shown_any W1).mono ?_
      rintro e w2 ⟨rfl, hb⟩
      replace c0 := cellAt c0 hb (by omega)
      replace c1 := cellAt c1 hb (by omega)
      replace HG := Lib.hid (HG.out.at hb)
      replace HQ := Lib.hid (HQ.out.at hb)
      replace HFl := Lib.hid (HFl.out.at hb)
      replace HP := Lib.hid (HP.out.at hb)
      replace nw1 : w.heap.size < w2.heap.size := ltAt nw1 hb
      replace HB := Lib.hid (lift HB.out hb)
      clear hb
      go_wp2_with fail
      refine (small_any An Ae cn ce ns es w2).mono ?_
      rintro e w3 ⟨rfl, hb⟩
      replace c0 := cellAt c0 hb (by omega)
      replace c1 := cellAt c1 hb (by omega)
      replace HG := Lib.hid (HG.out.at hb)
      replace HQ := Lib.hid (HQ.out.at hb)
      replace HFl := Lib.hid (HFl.out.at hb)
      replace HP := Lib.hid (HP.out.at hb)
      replace nw1 : w.heap.size < w3.heap.size := ltAt nw1 hb
      replace HB := Lib.hid (lift HB.out hb)
      clear hb
      cases hsm : smallB ns es
      · go_wp2_with fail
        go_ret
        exact ⟨rfl, HB.out⟩
      · go_wp2_with fail
        go_ret
        exact ⟨rfl, HB.out⟩
  · go_enter Tryz.func8, Tryz.ntmps8
    go_wp2_with fail
    first | (refine wp_named ?_; intro W1 hW) | (refine calls_named ?_; intro W1 hW)
    have B1 : Below w.heap.size w W1 := by rw [hW]; exact (by repeat (first | exact Below.refl _ _ | assumption | refine Below.alloc ?_ (by first | omega | (simp <;> omega)) _ | refine Below.setCell ?_ (by first | omega | (simp <;> omega)) _ | refine Below.drew ?_))
    replace HG := Lib.hid (HG.out.at B1)
    replace HQ := Lib.hid (HQ.out.at B1)
    replace HFl := Lib.hid (HFl.out.at B1)
    replace HP := Lib.hid (HP.out.at B1)
    have nw1 : w.heap.size < W1.heap.size := by rw [hW]; simp <;> omega
    have c0 : W1.cell? ⟨w.heap.size, 0, none⟩ = some (.slice An ns.length cn) := by rw [hW]; go_simp
    have c1 : W1.cell? ⟨w.heap.size, 1, none⟩ = some (.slice Ae es.length ce) := by rw [hW]; go_simp
    clear hW
    have HB := Lib.hid B1
    clear B1
    refine (shown_any W1).mono ?_
    rintro e w2 ⟨rfl, hb⟩
    replace c0 := cellAt c0 hb (by omega)
    replace c1 := cellAt c1 hb (by omega)
    replace HG := Lib.hid (HG.out.at hb)
    replace HQ := Lib.hid (HQ.out.at hb)
    replace HFl := Lib.hid (HFl.out.at hb)
    replace HP := Lib.hid (HP.out.at hb)
    replace nw1 : w.heap.size < w2.heap.size := ltAt nw1 hb
    replace HB := Lib.hid (lift HB.out hb)
    clear hb
    go_wp2_with fail
    refine (small_any An Ae cn ce ns es w2).mono ?_
    rintro e w3 ⟨rfl, hb⟩
    replace c0 := cellAt c0 hb (by omega)
    replace c1 := cellAt c1 hb (by omega)
    replace HG := Lib.hid (HG.out.at hb)
    replace HQ := Lib.hid (HQ.out.at hb)
    replace HFl := Lib.hid (HFl.out.at hb)
    replace HP := Lib.hid (HP.out.at hb)
    replace nw1 : w.heap.size < w3.heap.size := ltAt nw1 hb
    replace HB := Lib.hid (lift HB.out hb)
    clear hb
    cases hsm : smallB ns es
    · go_wp2_with fail
      go_ret
      exact ⟨rfl, HB.out⟩
    · go_wp2_with fail
      go_ret
      exact ⟨rfl, HB.out⟩
end Od
end Go.Proofs.YtmlogmcnblgnbaaGreat
end

section
/- The walk of the law WaveNeeds. (bel2) -/
namespace Go.Proofs.YtmlogmcnblgnbaaGreat
open Go.RowKit Go.Sort
set_option linter.unusedSimpArgs false

namespace Od

set_option maxRecDepth 100000 in
set_option maxHeartbeats 16000000 in
theorem waveNeeds_any (An Ae : Option Addr) (cn ce : Nat) (ns : List Nd) (es : List Ed) (A : Option Addr) (c : Nat) (q : List Jb) (Af : Option Addr) (cf : Nat) (fails : List Str) (Ap : Option Addr) (cp : Nat) (picks : List Int) (w : World) (hg : GIw w An Ae ns es) (hq : QIn w A c q) (hf : Rd w w.heap.size 1 Af fails.length (svs fails)) (hp : Rd w w.heap.size 1 Ap picks.length (ints picks)) (hlf : fails.length ≤ 140737488351232) :
    Calls Tryz.prog 9 #[gV An ns.length cn Ae es.length ce, .slice A q.length c, .slice Af fails.length cf, .slice Ap picks.length cp] w fun e w' => e = .returned (.bool true) ∧ Below w.heap.size w w' := by
  have HG := Lib.hid hg
  have HQ := Lib.hid hq
  have HFl := Lib.hid hf
  have HP := Lib.hid hp
  clear hg hq hf hp
  cases d30 : decide ((30 : Int) < (q.length : Int))
  · cases d300 : decide ((300 : Int) < (picks.length : Int))
    · have h30 : ¬ (30 : Int) < (q.length : Int) := by simpa using d30
      go_enter Tryz.func9, Tryz.ntmps9
      go_wp2_with fail
      first | (refine wp_named ?_; intro W1 hW) | (refine calls_named ?_; intro W1 hW)
      have B1 : Below w.heap.size w W1 := by rw [hW]; exact (by repeat (first | exact Below.refl _ _ | assumption | refine Below.alloc ?_ (by first | omega | (simp <;> omega)) _ | refine Below.setCell ?_ (by first | omega | (simp <;> omega)) _ | refine Below.drew ?_))
      replace HG := Lib.hid (HG.out.at B1)
      replace HQ := Lib.hid (HQ.out.at B1)
      replace HFl := Lib.hid (HFl.out.at B1)
      replace HP := Lib.hid (HP.out.at B1)
      have nw1 : w.heap.size < W1.heap.size := by rw [hW]; simp <;> omega
      have c0 : W1.cell? ⟨w.heap.size, 0, none⟩ = some (.slice An ns.length cn) := by rw [hW]; go_simp
      have c1 : W1.cell? ⟨w.heap.size, 1, none⟩ = some (.slice Ae es.length ce) := by rw [hW]; go_simp
      clear hW
      have HB := Lib.hid B1
      clear B1
      refine (shown_any W1).mono ?_
      rintro e w2 ⟨rfl, hb⟩
      replace c0 := cellAt c0 hb (by omega)
      replace c1 := cellAt c1 hb (by omega)
      replace HG := Lib.hid (HG.out.at hb)
      replace HQ := Lib.hid (HQ.out.at hb)
      replace HFl := Lib.hid (HFl.out.at hb)
      replace HP := Lib.hid (HP.out.at hb)
      replace nw1 : w.heap.size < w2.heap.size := ltAt nw1 hb
      replace HB := Lib.hid (lift HB.out hb)
      clear hb
      go_wp2_with fail
      refine (small_any An Ae cn ce ns es w2).mono ?_
      rintro e w3 ⟨rfl, hb⟩
      replace c0 := cellAt c0 hb (by omega)
      replace c1 := cellAt c1 hb (by omega)
      replace HG := Lib.hid (HG.out.at hb)
      replace HQ := Lib.hid (HQ.out.at hb)
      replace HFl := Lib.hid (HFl.out.at hb)
      replace HP := Lib.hid (HP.out.at hb)
      replace nw1 : w.heap.size < w3.heap.size := ltAt nw1 hb
      replace HB := Lib.hid (lift HB.out hb)
      clear hb
      cases hsm : smallB ns es
      · go_wp2_with fail
        go_ret
        exact ⟨rfl, HB.out⟩
      · have hs2 := smallB_iff.1 hsm
        have hl1 := hs2.1
        have hl2 := hs2.2
        clear hs2
        go_wp2_with fail
        refine (SoundQ_any An Ae cn ce ns es A c q w3 (HG.out.q (by omega) (by omega)) HQ.out (by omega)).mono ?_
        rintro e w4 ⟨rfl, hb⟩
        replace c0 := cellAt c0 hb (by omega)
        replace c1 := cellAt c1 hb (by omega)
        replace HG := Lib.hid (HG.out.at hb)
        replace HQ := Lib.hid (HQ.out.at hb)
        replace HFl := Lib.hid (HFl.out.at hb)
        replace HP := Lib.hid (HP.out.at hb)
        replace nw1 : w.heap.size < w4.heap.size := ltAt nw1 hb
        replace HB := Lib.hid (lift HB.out hb)
        clear hb
        cases hsd : soundQ ns es q
        · go_wp2_with fail
          go_ret
          exact ⟨rfl, HB.out⟩
        · have hrx : runR es fails picks q = factQ es fails q := by rw [run_is_fact hsd]; unfold facR; rw [if_pos hsd]
          have HD := Lib.hid (mayQ.dq (sound_ends hsd).1)
          have hat : ∀ (m : Nat) (h : m < q.length), q[m].2.2.1 ≠ 3 → (factJ es fails q q[m]).2.1 = 1 → runsB q q[m].1 = false → (factQ es fails q).any (needB es q[m].1) = ((factJ es fails q q[m]).2.2.2 == 3) := fun m h h3 ht hr => fact_needs hsd (List.getElem_mem h) h3 ht hr
          have hxl : (factQ es fails q).length = q.length := fact_len _ _ _
          have hxa : ∀ (m : Nat) (h : m < q.length) (h2 : m < (factQ es fails q).length), (factQ es fails q)[m] = factJ es fails q q[m] := fun m h h2 => fact_at h
          have hxu : ∀ j, (factJ es fails q j).1 = j.1 := fun j => factJ_unit es fails q j
          generalize hx : factQ es fails q = x at hrx hat hxl hxa
          generalize hfj : factJ es fails q = F at hat hxa hxu
          have HX := Lib.hid hrx
          have HAt := Lib.hid hat
          have HXa := Lib.hid hxa
          have HXu := Lib.hid hxu
          have HXl := Lib.hid hxl
          have hx30 : x.length ≤ 30 := by omega
          clear hx hfj hrx hat hxa hxu hxl hsd
          go_wp2_with fail
          refine (RunW_any An Ae ns.length cn ce es A c q Af cf fails Ap cp picks w4 HG.out.re HQ.out HFl.out HP.out (by omega) (by omega) (by omega)).mono ?_
          rw [HX.out]
          rintro e x5 ⟨A7, c7, rfl, hc7, hr7, hb⟩
          have HR7 := Lib.hid hr7
          replace c0 := cellAt c0 hb (by omega)
          replace c1 := cellAt c1 hb (by omega)
          replace HG := Lib.hid (HG.out.at hb)
          replace HQ := Lib.hid (HQ.out.at hb)
          replace HFl := Lib.hid (HFl.out.at hb)
          replace HP := Lib.hid (HP.out.at hb)
          replace nw1 : w.heap.size < x5.heap.size := ltAt nw1 hb
          replace HB := Lib.hid (lift HB.out hb)
          clear hb hr7
          go_wp2_with fail
          go_loopw [44] (fun i wr => ∃ m : Nat, m ≤ x.length ∧ i = .int .i64 m ∧ Below x5.heap.size x5 wr) (fun i _ => x.length - (intOf i).toNat)
          case atStart => exact ⟨0, Nat.zero_le _, rfl, Below.refl _ _⟩
          case round =>
            obtain ⟨m, hmq, rfl, hb⟩ := hrel
            have HBl := Lib.hid hb
            replace c0 := cellAt c0 hb (by omega)
            replace c1 := cellAt c1 hb (by omega)
            replace HG := Lib.hid (HG.out.at hb)
            replace HQ := Lib.hid (HQ.out.at hb)
            replace HFl := Lib.hid (HFl.out.at hb)
            replace HP := Lib.hid (HP.out.at hb)
            replace nw1 : w.heap.size < wr.heap.size := ltAt nw1 hb
            replace HB := Lib.hid (lift HB.out hb)
            replace HR7 := Lib.hid (HR7.out.at hb)
            clear hb
            by_cases hlt : m < x.length
            · have hltq : m < q.length := by have := HXl.out; omega
              obtain ⟨b2, o2, hA, hB2, x0, x1, x2, x3⟩ := HR7.out.job hlt
              obtain ⟨bq, oq, hAq, hBq, q0, q1, q2, q3⟩ := HQ.out.rq.job hltq
              have hnd := HAt.out m hltq
              have hxm := HXa.out m hltq hlt
              have hxu := HXu.out q[m]
              rw [← hxm] at hnd hxu
              generalize q[m] = jq at q0 q1 q2 q3 hnd hxu
              generalize x[m] = j at x0 x1 x2 x3 hnd hxu
              obtain ⟨sq, tq, rq, dq⟩ := jq
              obtain ⟨s, t, r, d⟩ := j
              simp only at x0 x1 x2 x3 q0 q1 q2 q3 hnd hxu
              subst hxu
              have HNd := Lib.hid hnd
              clear hnd hxm q0 q1 q3
              have m1 : (0 : Int) ≤ (m : Int) := by omega
              have m2 : (m : Int) < (x.length : Int) := by omega
              have m3 : (m : Int) < (q.length : Int) := by omega
              have m4 : decide (q.length ≤ m) = false := by rw [decide_eq_false_iff_not]; omega
              subst hA hAq
              obtain ⟨w9, rfl⟩ : ∃ wo : World, wo = wr := ⟨_, rfl⟩
              by_cases r3 : rq = 3
              · subst r3
                go_wp2_with fail
                go_roundw
                case rel => exact ⟨m + 1, by omega, by go_num, HBl.out.alloc (by have := HBl.out.size; omega) _⟩
                case measure => simp [intOf]; omega
              · have r3b : (rq == 3) = false := by simpa using r3
                have HR3 := Lib.hid r3
                clear r3
                by_cases t1 : t = 1
                · subst t1
                  go_wp2_with fail
                  first | (refine wp_named ?_; intro W5 hW) | (refine calls_named ?_; intro W5 hW)
                  have B5 : Below w9.heap.size w9 W5 := by rw [hW]; exact (by repeat (first | exact Below.refl _ _ | assumption | refine Below.alloc ?_ (by first | omega | (simp <;> omega)) _ | refine Below.setCell ?_ (by first | omega | (simp <;> omega)) _ | refine Below.drew ?_))
                  replace c0 := cellAt c0 B5 (by omega)
                  replace c1 := cellAt c1 B5 (by omega)
                  replace HG := Lib.hid (HG.out.at B5)
                  replace HQ := Lib.hid (HQ.out.at B5)
                  replace HFl := Lib.hid (HFl.out.at B5)
                  replace HP := Lib.hid (HP.out.at B5)
                  replace nw1 : w.heap.size < W5.heap.size := ltAt nw1 B5
                  replace HB := Lib.hid (lift HB.out B5)
                  replace HR7 := Lib.hid (HR7.out.at B5)
                  replace HBl := Lib.hid (lift HBl.out B5)
                  have nl5 : w9.heap.size < W5.heap.size := by rw [hW]; simp <;> omega
                  have k0 : W5.cell? ⟨w9.heap.size, 0, none⟩ = some (sv s) := by rw [hW]; go_simp
                  have k1 : W5.cell? ⟨w9.heap.size, 1, none⟩ = some (.int .i64 1) := by rw [hW]; go_simp
                  have k2 : W5.cell? ⟨w9.heap.size, 2, none⟩ = some (.int .i64 r) := by rw [hW]; go_simp
                  have k3 : W5.cell? ⟨w9.heap.size, 3, none⟩ = some (.int .i64 d) := by rw [hW]; go_simp
                  clear hW
                  clear B5 x0 x1 x2 x3 q2
                  refine (runs_any _ c q s W5 HQ.out.rq HD.out (by omega)).mono ?_
                  rintro e v6 ⟨rfl, hb⟩
                  replace c0 := cellAt c0 hb (by omega)
                  replace c1 := cellAt c1 hb (by omega)
                  replace k0 := cellAt k0 hb (by omega)
                  replace k1 := cellAt k1 hb (by omega)
                  replace k2 := cellAt k2 hb (by omega)
                  replace k3 := cellAt k3 hb (by omega)
                  replace HG := Lib.hid (HG.out.at hb)
                  replace HQ := Lib.hid (HQ.out.at hb)
                  replace HFl := Lib.hid (HFl.out.at hb)
                  replace HP := Lib.hid (HP.out.at hb)
                  replace nw1 : w.heap.size < v6.heap.size := ltAt nw1 hb
                  replace HB := Lib.hid (lift HB.out hb)
                  replace HR7 := Lib.hid (HR7.out.at hb)
                  replace HBl := Lib.hid (lift HBl.out hb)
                  replace nl5 : w9.heap.size < v6.heap.size := ltAt nl5 hb
                  clear hb
                  cases hrn : runsB q s
                  · have HLo := Lib.hid (HNd.out HR3.out (by first | trivial | rfl) hrn)
                    go_wp2_with fail
                    go_loopw [12, 74] (fun v i wr => ∃ k : Nat, k ≤ x.length ∧ i = .int .i64 k ∧ v = .bool ((x.take k).any (needB es s)) ∧ Below v6.heap.size v6 wr) (fun _ i _ => x.length - (intOf i).toNat)
                    case atStart => exact ⟨0, Nat.zero_le _, rfl, rfl, Below.refl _ _⟩
                    case round =>
                      obtain ⟨k, hkx, rfl, rfl, hb⟩ := hrel
                      have HB7 := Lib.hid hb
                      replace c0 := cellAt c0 hb (by omega)
                      replace c1 := cellAt c1 hb (by omega)
                      replace k0 := cellAt k0 hb (by omega)
                      replace k1 := cellAt k1 hb (by omega)
                      replace k2 := cellAt k2 hb (by omega)
                      replace k3 := cellAt k3 hb (by omega)
                      replace HG := Lib.hid (HG.out.at hb)
                      replace HQ := Lib.hid (HQ.out.at hb)
                      replace HFl := Lib.hid (HFl.out.at hb)
                      replace HP := Lib.hid (HP.out.at hb)
                      replace nw1 : w.heap.size < wr.heap.size := ltAt nw1 hb
                      replace HB := Lib.hid (lift HB.out hb)
                      replace HR7 := Lib.hid (HR7.out.at hb)
                      replace HBl := Lib.hid (lift HBl.out hb)
                      replace nl5 : w9.heap.size < wr.heap.size := ltAt nl5 hb
                      clear hb
                      by_cases hlt2 : k < x.length
                      · obtain ⟨b3, o3, hA3, hB3, y0, y1, y2, y3⟩ := HR7.out.job hlt2
                        have hsu := any_take_succ (p := needB es s) hlt2
                        injection hA3 with hA3
                        injection hA3 with hA4 hA5
                        subst hA4 hA5
                        generalize x[k] = j at y0 y1 y2 y3 hsu
                        obtain ⟨s', t', r', d'⟩ := j
                        simp only at y0 y1 y2 y3
                        have HSu := Lib.hid hsu
                        clear hsu
                        have p1 : (0 : Int) ≤ (k : Int) := by omega
                        have p2 : (k : Int) < (x.length : Int) := by omega
                        go_upto_region 14 with fail
                        first | (refine wp_named ?_; intro W6 hW) | (refine calls_named ?_; intro W6 hW)
                        have B6 : Below wr.heap.size wr W6 := by rw [hW]; exact (by repeat (first | exact Below.refl _ _ | assumption | refine Below.alloc ?_ (by first | omega | (simp <;> omega)) _ | refine Below.setCell ?_ (by first | omega | (simp <;> omega)) _ | refine Below.drew ?_))
                        replace c0 := cellAt c0 B6 (by omega)
                        replace c1 := cellAt c1 B6 (by omega)
                        replace k0 := cellAt k0 B6 (by omega)
                        replace k1 := cellAt k1 B6 (by omega)
                        replace k2 := cellAt k2 B6 (by omega)
                        replace k3 := cellAt k3 B6 (by omega)
                        replace HG := Lib.hid (HG.out.at B6)
                        replace HQ := Lib.hid (HQ.out.at B6)
                        replace HFl := Lib.hid (HFl.out.at B6)
                        replace HP := Lib.hid (HP.out.at B6)
                        replace nw1 : w.heap.size < W6.heap.size := ltAt nw1 B6
                        replace HB := Lib.hid (lift HB.out B6)
                        replace HR7 := Lib.hid (HR7.out.at B6)
                        replace HBl := Lib.hid (lift HBl.out B6)
                        replace nl5 : w9.heap.size < W6.heap.size := ltAt nl5 B6
                        replace HB7 := Lib.hid (lift HB7.out B6)
                        have nl6 : wr.heap.size < W6.heap.size := by rw [hW]; simp <;> omega
                        have f0 : W6.cell? ⟨wr.heap.size, 0, none⟩ = some (sv s') := by rw [hW]; go_simp
                        have f1 : W6.cell? ⟨wr.heap.size, 1, none⟩ = some (.int .i64 t') := by rw [hW]; go_simp
                        have f2 : W6.cell? ⟨wr.heap.size, 2, none⟩ = some (.int .i64 r') := by rw [hW]; go_simp
                        have f3 : W6.cell? ⟨wr.heap.size, 3, none⟩ = some (.int .i64 d') := by rw [hW]; go_simp
                        clear hW
                        clear B6 y0 y1 y2 y3
                        go_cut [15] (fun nd wx => nd = .bool (hasE es s s' 1 || hasE es s s' 4) ∧ Below W6.heap.size W6 wx)
                        case first =>
                          have HBc : Hid (Below W6.heap.size W6 W6) := Below.refl _ _
                          go_wp2_with fail
                          refine (Has_any An Ae ns.length cn ce es s s' 1 _ HG.out.re (by omega)).mono ?_
                          rintro e v3 ⟨rfl, hb⟩
                          replace c0 := cellAt c0 hb (by omega)
                          replace c1 := cellAt c1 hb (by omega)
                          replace k0 := cellAt k0 hb (by omega)
                          replace k1 := cellAt k1 hb (by omega)
                          replace k2 := cellAt k2 hb (by omega)
                          replace k3 := cellAt k3 hb (by omega)
                          replace f0 := cellAt f0 hb (by omega)
                          replace f1 := cellAt f1 hb (by omega)
                          replace f2 := cellAt f2 hb (by omega)
                          replace f3 := cellAt f3 hb (by omega)
                          replace HG := Lib.hid (HG.out.at hb)
                          replace HQ := Lib.hid (HQ.out.at hb)
                          replace HFl := Lib.hid (HFl.out.at hb)
                          replace HP := Lib.hid (HP.out.at hb)
                          replace nw1 : w.heap.size < v3.heap.size := ltAt nw1 hb
                          replace HB := Lib.hid (lift HB.out hb)
                          replace HR7 := Lib.hid (HR7.out.at hb)
                          replace HBl := Lib.hid (lift HBl.out hb)
                          replace nl5 : w9.heap.size < v3.heap.size := ltAt nl5 hb
                          replace HB7 := Lib.hid (lift HB7.out hb)
                          replace nl6 : wr.heap.size < v3.heap.size := ltAt nl6 hb
                          replace HBc := Lib.hid (lift HBc.out hb)
                          clear hb
                          cases h1 : es.any (· == (s, s', 1))
                          · go_wp2_with fail
                            refine (Has_any An Ae ns.length cn ce es s s' 4 _ HG.out.re (by omega)).mono ?_
                            rintro e v4 ⟨rfl, hb⟩
                            replace c0 := cellAt c0 hb (by omega)
                            replace c1 := cellAt c1 hb (by omega)
                            replace k0 := cellAt k0 hb (by omega)
                            replace k1 := cellAt k1 hb (by omega)
                            replace k2 := cellAt k2 hb (by omega)
                            replace k3 := cellAt k3 hb (by omega)
                            replace f0 := cellAt f0 hb (by omega)
                            replace f1 := cellAt f1 hb (by omega)
                            replace f2 := cellAt f2 hb (by omega)
                            replace f3 := cellAt f3 hb (by omega)
                            replace HG := Lib.hid (HG.out.at hb)
                            replace HQ := Lib.hid (HQ.out.at hb)
                            replace HFl := Lib.hid (HFl.out.at hb)
                            replace HP := Lib.hid (HP.out.at hb)
                            replace nw1 : w.heap.size < v4.heap.size := ltAt nw1 hb
                            replace HB := Lib.hid (lift HB.out hb)
                            replace HR7 := Lib.hid (HR7.out.at hb)
                            replace HBl := Lib.hid (lift HBl.out hb)
                            replace nl5 : w9.heap.size < v4.heap.size := ltAt nl5 hb
                            replace HB7 := Lib.hid (lift HB7.out hb)
                            replace nl6 : wr.heap.size < v4.heap.size := ltAt nl6 hb
                            replace HBc := Lib.hid (lift HBc.out hb)
                            clear hb
                            go_wp2_with fail
                            go_meet
                            exact ⟨by rw [show hasE es s s' 1 = false from h1]; rfl, HBc.out⟩
                          · go_wp2_with fail
                            go_meet
                            exact ⟨by rw [show hasE es s s' 1 = true from h1]; rfl, HBc.out⟩
                        case rest =>
                          obtain ⟨rfl, hb⟩ := hcut
                          replace c0 := cellAt c0 hb (by omega)
                          replace c1 := cellAt c1 hb (by omega)
                          replace k0 := cellAt k0 hb (by omega)
                          replace k1 := cellAt k1 hb (by omega)
                          replace k2 := cellAt k2 hb (by omega)
                          replace k3 := cellAt k3 hb (by omega)
                          replace f0 := cellAt f0 hb (by omega)
                          replace f1 := cellAt f1 hb (by omega)
                          replace f2 := cellAt f2 hb (by omega)
                          replace f3 := cellAt f3 hb (by omega)
                          replace HG := Lib.hid (HG.out.at hb)
                          replace HQ := Lib.hid (HQ.out.at hb)
                          replace HFl := Lib.hid (HFl.out.at hb)
                          replace HP := Lib.hid (HP.out.at hb)
                          replace nw1 : w.heap.size < wc.heap.size := ltAt nw1 hb
                          replace HB := Lib.hid (lift HB.out hb)
                          replace HR7 := Lib.hid (HR7.out.at hb)
                          replace HBl := Lib.hid (lift HBl.out hb)
                          replace nl5 : w9.heap.size < wc.heap.size := ltAt nl5 hb
                          replace HB7 := Lib.hid (lift HB7.out hb)
                          replace nl6 : wr.heap.size < wc.heap.size := ltAt nl6 hb
                          clear hb
                          generalize hnd : (hasE es s s' 1 || hasE es s s' 4) = nd
                          have HNb := Lib.hid (show needB es s (s', t', r', d') = (nd && (Ah es s' s && ((t' == 1 || t' == 3) && (d' != 1)))) by rw [← hnd]; rfl)
                          clear hnd
                          cases hL : (x.take k).any (needB es s)
                          · cases nd
                            · have HF := Lib.hid (show needB es s (s', t', r', d') = false by rw [HNb.out]; simp only [Bool.false_and, Bool.true_and, Bool.and_true, Bool.false_and, Bool.and_false, Bool.true_or, Bool.or_true, Bool.false_or, Bool.or_false, Bool.or_self, Bool.and_self])
                              have HN := Lib.hid (show (x.take (k + 1)).any (needB es s) = false by rw [HSu.out, HF.out, hL]; rfl)
                              go_wp2_with fail
                              go_roundw
                              case rel => exact ⟨k + 1, by omega, by go_num, by rw [HN.out], HB7.out⟩
                              case measure => simp [intOf]; omega
                            · go_wp2_with fail
                              refine (Ahead_any An Ae ns.length cn ce es s' s _ HG.out.re (by omega)).mono ?_
                              rintro e v5 ⟨rfl, hb⟩
                              replace c0 := cellAt c0 hb (by omega)
                              replace c1 := cellAt c1 hb (by omega)
                              replace k0 := cellAt k0 hb (by omega)
                              replace k1 := cellAt k1 hb (by omega)
                              replace k2 := cellAt k2 hb (by omega)
                              replace k3 := cellAt k3 hb (by omega)
                              replace f0 := cellAt f0 hb (by omega)
                              replace f1 := cellAt f1 hb (by omega)
                              replace f2 := cellAt f2 hb (by omega)
                              replace f3 := cellAt f3 hb (by omega)
                              replace HG := Lib.hid (HG.out.at hb)
                              replace HQ := Lib.hid (HQ.out.at hb)
                              replace HFl := Lib.hid (HFl.out.at hb)
                              replace HP := Lib.hid (HP.out.at hb)
                              replace nw1 : w.heap.size < v5.heap.size := ltAt nw1 hb
                              replace HB := Lib.hid (lift HB.out hb)
                              replace HR7 := Lib.hid (HR7.out.at hb)
                              replace HBl := Lib.hid (lift HBl.out hb)
                              replace nl5 : w9.heap.size < v5.heap.size := ltAt nl5 hb
                              replace HB7 := Lib.hid (lift HB7.out hb)
                              replace nl6 : wr.heap.size < v5.heap.size := ltAt nl6 hb
                              clear hb
                              cases ha : es.any (aheadB s' s)
                              · have ha' : Ah es s' s = false := ha
                                have HF := Lib.hid (show needB es s (s', t', r', d') = false by rw [HNb.out]; simp only [ha', Bool.true_and, Bool.and_true, Bool.false_and, Bool.and_false, Bool.true_or, Bool.or_true, Bool.false_or, Bool.or_false, Bool.or_self, Bool.and_self])
                                have HN := Lib.hid (show (x.take (k + 1)).any (needB es s) = false by rw [HSu.out, HF.out, hL]; rfl)
                                go_wp2_with fail
                                go_roundw
                                case rel => exact ⟨k + 1, by omega, by go_num, by rw [HN.out], HB7.out⟩
                                case measure => simp [intOf]; omega
                              · have ha' : Ah es s' s = true := ha
                                cases tb : (t' == 1)
                                · cases tc : (t' == 3)
                                  · have HF := Lib.hid (show needB es s (s', t', r', d') = false by rw [HNb.out]; simp only [ha', tb, tc, Bool.true_and, Bool.and_true, Bool.false_and, Bool.and_false, Bool.true_or, Bool.or_true, Bool.false_or, Bool.or_false, Bool.or_self, Bool.and_self])
                                    have HN := Lib.hid (show (x.take (k + 1)).any (needB es s) = false by rw [HSu.out, HF.out, hL]; rfl)
                                    go_wp2_with fail
                                    go_roundw
                                    case rel => exact ⟨k + 1, by omega, by go_num, by rw [HN.out], HB7.out⟩
                                    case measure => simp [intOf]; omega
                                  · cases db : (d' != 1)
                                    · have HF := Lib.hid (show needB es s (s', t', r', d') = false by rw [HNb.out]; simp only [ha', tb, tc, db, Bool.true_and, Bool.and_true, Bool.false_and, Bool.and_false, Bool.true_or, Bool.or_true, Bool.false_or, Bool.or_false, Bool.or_self, Bool.and_self])
                                      have HN := Lib.hid (show (x.take (k + 1)).any (needB es s) = false by rw [HSu.out, HF.out, hL]; rfl)
                                      go_wp2_with fail
                                      go_roundw
                                      case rel => exact ⟨k + 1, by omega, by go_num, by rw [HN.out], HB7.out⟩
                                      case measure => simp [intOf]; omega
                                    · have HF := Lib.hid (show needB es s (s', t', r', d') = true by rw [HNb.out]; simp only [ha', tb, tc, db, Bool.true_and, Bool.and_true, Bool.false_and, Bool.and_false, Bool.true_or, Bool.or_true, Bool.false_or, Bool.or_false, Bool.or_self, Bool.and_self])
                                      have HN := Lib.hid (show (x.take (k + 1)).any (needB es s) = true by rw [HSu.out, HF.out, hL]; rfl)
                                      go_wp2_with fail
                                      go_roundw
                                      case rel => exact ⟨k + 1, by omega, by go_num, by rw [HN.out], HB7.out⟩
                                      case measure => simp [intOf]; omega
                                · cases db : (d' != 1)
                                  · have HF := Lib.hid (show needB es s (s', t', r', d') = false by rw [HNb.out]; simp only [ha', tb, db, Bool.true_and, Bool.and_true, Bool.false_and, Bool.and_false, Bool.true_or, Bool.or_true, Bool.false_or, Bool.or_false, Bool.or_self, Bool.and_self])
                                    have HN := Lib.hid (show (x.take (k + 1)).any (needB es s) = false by rw [HSu.out, HF.out, hL]; rfl)
                                    go_wp2_with fail
                                    go_roundw
                                    case rel => exact ⟨k + 1, by omega, by go_num, by rw [HN.out], HB7.out⟩
                                    case measure => simp [intOf]; omega
                                  · have HF := Lib.hid (show needB es s (s', t', r', d') = true by rw [HNb.out]; simp only [ha', tb, db, Bool.true_and, Bool.and_true, Bool.false_and, Bool.and_false, Bool.true_or, Bool.or_true, Bool.false_or, Bool.or_false, Bool.or_self, Bool.and_self])
                                    have HN := Lib.hid (show (x.take (k + 1)).any (needB es s) = true by rw [HSu.out, HF.out, hL]; rfl)
                                    go_wp2_with fail
                                    go_roundw
                                    case rel => exact ⟨k + 1, by omega, by go_num, by rw [HN.out], HB7.out⟩
                                    case measure => simp [intOf]; omega
                          · have HN := Lib.hid (show (x.take (k + 1)).any (needB es s) = true by rw [HSu.out, hL]; rfl)
                            go_wp2_with fail
                            go_roundw
                            case rel => exact ⟨k + 1, by omega, by go_num, by rw [HN.out], HB7.out⟩
                            case measure => simp [intOf]; omega
                      · have htk : x.take k = x := List.take_of_length_le (by omega)
                        rw [htk, HLo.out]
                        cases d3 : (d == 3)
                        · go_wp2_with fail
                          go_roundw
                          case rel => exact ⟨m + 1, by omega, by go_num, HBl.out⟩
                          case measure => simp [intOf]; omega
                        · go_wp2_with fail
                          go_roundw
                          case rel => exact ⟨m + 1, by omega, by go_num, HBl.out⟩
                          case measure => simp [intOf]; omega
                  · go_wp2_with fail
                    go_roundw
                    case rel => exact ⟨m + 1, by omega, by go_num, HBl.out⟩
                    case measure => simp [intOf]; omega
                · have t1b : (t != 1) = true := by simpa using t1
                  go_wp2_with fail
                  go_roundw
                  case rel => exact ⟨m + 1, by omega, by go_num, HBl.out.alloc (by have := HBl.out.size; omega) _⟩
                  case measure => simp [intOf]; omega
            · have e1 : ((x.length : Int) == (q.length : Int)) = true := by rw [HXl.out]; simp
              go_wp2_with fail
              go_ret
              exact ⟨rfl, HB.out⟩
    · go_enter Tryz.func9, Tryz.ntmps9
      go_wp2_with fail
      first | (refine wp_named ?_; intro W1 hW) | (refine calls_named ?_; intro W1 hW)
      have B1 : Below w.heap.size w W1 := by rw [hW]; exact (by repeat (first | exact Below.refl _ _ | assumption | refine Below.alloc ?_ (by first | omega | (simp <;> omega)) _ | refine Below.setCell ?_ (by first | omega | (simp <;> omega)) _ | refine Below.drew ?_))
      replace HG := Lib.hid (HG.out.at B1)
      replace HQ := Lib.hid (HQ.out.at B1)
      replace HFl := Lib.hid (HFl.out.at B1)
      replace HP := Lib.hid (HP.out.at B1)
      have nw1 : w.heap.size < W1.heap.size := by rw [hW]; simp <;> omega
      have c0 : W1.cell? ⟨w.heap.size, 0, none⟩ = some (.slice An ns.length cn) := by rw [hW]; go_simp
      have c1 : W1.cell? ⟨w.heap.size, 1, none⟩ = some (.slice Ae es.length ce) := by rw [hW]; go_simp
      clear hW
      have HB := Lib.hid B1
      clear B1
      refine (shown_any W1).mono ?_
      rintro e w2 ⟨rfl, hb⟩
      replace c0 := cellAt c0 hb (by omega)
      replace c1 := cellAt c1 hb (by omega)
      replace HG := Lib.hid (HG.out.at hb)
      replace HQ := Lib.hid (HQ.out.at hb)
      replace HFl := Lib.hid (HFl.out.at hb)
      replace HP := Lib.hid (HP.out.at hb)
      replace nw1 : w.heap.size < w2.heap.size := ltAt nw1 hb
      replace HB := Lib.hid (lift HB.out hb)
      clear hb
      go_wp2_with fail
      refine (small_any An Ae cn ce ns es w2).mono ?_
      rintro e w3 ⟨rfl, hb⟩
      replace c0 := cellAt c0 hb (by omega)
      replace c1 := cellAt c1 hb (by omega)
      replace HG := Lib.hid (HG.out.at hb)
      replace HQ := Lib.hid (HQ.out.at hb)
      replace HFl := Lib.hid (HFl.out.at hb)
      replace HP := Lib.hid (HP.out.at hb)
      replace nw1 : w.heap.size < w3.heap.size := ltAt nw1 hb
      replace HB := Lib.hid (lift HB.out hb)
      clear hb
      cases hsm : smallB ns es
      · go_wp2_with fail
        go_ret
        exact ⟨rfl, HB.out⟩
      · go_wp2_with fail
        go_ret
        exact ⟨rfl, HB.out⟩
  · go_enter Tryz.func9, Tryz.ntmps9
    go_wp2_with fail
    first | (refine wp_named ?_; intro W1 hW) | (refine calls_named ?_; intro W1 hW)
    have B1 : Below w.heap.size w W1 := by rw [hW]; exact (by repeat (first | exact Below.refl _ _ | assumption | refine Below.alloc ?_ (by first | omega | (simp <;> omega)) _ | refine Below.setCell ?_ (by first | omega | (simp <;> omega)) _ | refine Below.drew ?_))
    replace HG := Lib.hid (HG.out.at B1)
    replace HQ := Lib.hid (HQ.out.at B1)
    replace HFl := Lib.hid (HFl.out.at B1)
    replace HP := Lib.hid (HP.out.at B1)
    have nw1 : w.heap.size < W1.heap.size := by rw [hW]; simp <;> omega
    have c0 : W1.cell? ⟨w.heap.size, 0, none⟩ = some (.slice An ns.length cn) := by rw [hW]; go_simp
    have c1 : W1.cell? ⟨w.heap.size, 1, none⟩ = some (.slice Ae es.length ce) := by rw [hW]; go_simp
    clear hW
    have HB := Lib.hid B1
    clear B1
    refine (shown_any W1).mono ?_
    rintro e w2 ⟨rfl, hb⟩
    replace c0 := cellAt c0 hb (by omega)
    replace c1 := cellAt c1 hb (by omega)
    replace HG := Lib.hid (HG.out.at hb)
    replace HQ := Lib.hid (HQ.out.at hb)
    replace HFl := Lib.hid (HFl.out.at hb)
    replace HP := Lib.hid (HP.out.at hb)
    replace nw1 : w.heap.size < w2.heap.size := ltAt nw1 hb
    replace HB := Lib.hid (lift HB.out hb)
    clear hb
    go_wp2_with fail
    refine (small_any An Ae cn ce ns es w2).mono ?_
    rintro e w3 ⟨rfl, hb⟩
    replace c0 := cellAt c0 hb (by omega)
    replace c1 := cellAt c1 hb (by omega)
    replace HG := Lib.hid (HG.out.at hb)
    replace HQ := Lib.hid (HQ.out.at hb)
    replace HFl := Lib.hid (HFl.out.at hb)
    replace HP := Lib.hid (HP.out.at hb)
    replace nw1 : w.heap.size < w3.heap.size := ltAt nw1 hb
    replace HB := Lib.hid (lift HB.out hb)
    clear hb
    cases hsm : smallB ns es
    · go_wp2_with fail
      go_ret
      exact ⟨rfl, HB.out⟩
    · go_wp2_with fail
      go_ret
      exact ⟨rfl, HB.out⟩
end Od
end Go.Proofs.YtmlogmcnblgnbaaGreat
end
