/- My texts, joined for the claim: FrameX LvD LvJ. -/
import Derived.Test.YtmlogmcnblgnbaaGreatZB15
import Derived.Test.YtmlogmcnblgnbaaGreatZB0

section
/- How many bytes a row of jobs that came in takes. -/
namespace Go.Proofs.YtmlogmcnblgnbaaGreat
open Go.ChangeShapes Go.WideShapes Go.ChangeAt Go.RowKit Go.Deep
section
variable {H : Type} {enc : TypeId × Value → H} {P : Program}
theorem open_rd_bytes {W : World} {t e : TypeId} {fuel : Nat} {A : Option Addr} {len c : Nat} {y : DataW H × List MemPlace} (ht : P.underlying t = some (.slice e))
    (h : DataW.trod enc P W 0 (fun _ => true) true fuel t [.slice A len c] = some y) (hs : Light P t y.1) : len * P.bytesOf e ≤ reachBytes := by
  rcases open_slice ht h with ⟨hcs, _⟩ | ⟨a, len', cap, m, n, D, Pl, hcs, _, hl, hm, hmm, hx, hi⟩
  · simp only [List.cons.injEq, and_true, Value.slice.injEq] at hcs
    rw [hcs.2.1]; simp
  · simp only [List.cons.injEq, and_true, Value.slice.injEq] at hcs
    obtain ⟨_, rfl, _⟩ := hcs
    have h1 := hs _ (by rw [hx, DataW.weights, ht]; exact List.mem_cons_self)
    simp only [List.length_map, List.length_range] at h1
    refine Nat.le_trans ?_ h1
    exact Nat.mul_le_mul_right _ (Nat.le_add_right _ _)
theorem jobs_bytes {W : World} {A : Option Addr} {len c : Nat} {d : DataW H} {p : List MemPlace} (h : DataW.Trod enc Tryz.prog W 0 (fun _ => true) true 26 (.slice A len c) d p) (hs : Light Tryz.prog 26 d) : len * 40 ≤ 140737488351232 := by
  obtain ⟨fuel, hf⟩ := h
  have h1 := open_rd_bytes Tryz.underlying26 hf hs
  rw [show Tryz.prog.bytesOf 48 = 40 by decide +kernel] at h1
  exact Nat.le_trans h1 (by decide)
end
end Go.Proofs.YtmlogmcnblgnbaaGreat
end

section
/- The walk of the law WaveAhead, and of its helper runs. (bel2) -/
namespace Go.Proofs.YtmlogmcnblgnbaaGreat
open Go.RowKit Go.Sort
set_option linter.unusedSimpArgs false

namespace Od

theorem trR_pw {ns : List Nd} {es : List Ed} {fails : List Str} {picks : List Int} {q : List Jb} (hs : soundQ ns es q = true) : (trR es fails picks q).Pairwise (fun d e => clashD es d e = true → runsB q d.1 = true) := by
  unfold trR; rw [if_pos (sound_ends hs).1]; exact trace_pw hs
theorem pw_drop {α : Type} {R : α → α → Prop} {l : List α} (h : l.Pairwise R) {m : Nat} (hm : m < l.length) : ∀ e ∈ l.drop (m + 1), R l[m] e := by
  have h2 : (l.drop m).Pairwise R := List.Pairwise.sublist (List.drop_sublist _ _) h
  rw [List.drop_eq_getElem_cons hm] at h2
  exact (List.pairwise_cons.1 h2).1
theorem ndsC_drop (l : List Nd) (m : Nat) : (ndsC l).drop (m * 3) = ndsC (l.drop m) := by
  induction m generalizing l with
  | zero => simp
  | succ m ih =>
    cases l with
    | nil => simp [ndsC]
    | cons a l =>
      rw [show (m + 1) * 3 = m * 3 + 3 from by omega, ← List.drop_drop]
      rw [List.drop_succ_cons, ← ih l]
      rw [List.drop_drop, Nat.add_comm (m * 3) 3, ← List.drop_drop]
      rfl
set_option maxRecDepth 100000 in
set_option maxHeartbeats 4000000 in
theorem runs_any (A : Option Addr) (c : Nat) (q : List Jb) (u : Str) (w : World) (hq : Rd w w.heap.size 4 A q.length (jbsC q)) (hd : DQ q) (hl : q.length ≤ 1000000) :
    Calls Tryz.prog 31 #[.slice A q.length c, sv u] w fun e w' => e = .returned (.bool (runsB q u)) ∧ Below w.heap.size w w' := by
  have Hq := Lib.hid hq
  have HD := Lib.hid hd
  clear hq hd
  go_enter Tryz.func31, Tryz.ntmps31
  go_wp2_with fail
  go_loopw [9] (fun i wr => ∃ m : Nat, m ≤ q.length ∧ i = .int .i64 m ∧ Hid (∀ j ∈ q.take m, j.1 ≠ u) ∧ Below w.heap.size w wr) (fun i _ => q.length - (intOf i).toNat)
  case atStart => exact ⟨0, Nat.zero_le _, rfl, by simp [Hid], Below.refl _ _⟩
  case round =>
    obtain ⟨m, hmq, rfl, HAll, hb⟩ := hrel
    have HB := Lib.hid hb
    replace Hq := Lib.hid (Hq.out.at hb)
    clear hb
    by_cases hlt : m < q.length
    · obtain ⟨b2, o2, hA, hB2, x0, x1, x2, x3⟩ := Hq.out.job hlt
      have hin := List.getElem_mem hlt
      have htk := List.take_succ_eq_append_getElem hlt
      subst hA
      generalize q[m] = j at x0 x1 x2 x3 hin htk
      obtain ⟨s, t, r, d⟩ := j
      simp only at x0 x1 x2 x3
      have HIn := Lib.hid hin
      have HTk := Lib.hid htk
      have m1 : (0 : Int) ≤ (m : Int) := by omega
      have m2 : (m : Int) < (q.length : Int) := by omega
      clear hin htk
      cases e1 : (s == u)
      · have HA2 := Lib.hid (show ∀ j ∈ q.take (m + 1), j.1 ≠ u from fun j hj => by
          rw [HTk.out, List.mem_append, List.mem_singleton] at hj
          rcases hj with h | h
          · exact HAll.out j h
          · subst h; simpa using e1)
        go_wp2_with fail
        go_roundw
        case rel => exact ⟨m + 1, by omega, by go_num, HA2, HB.out.alloc (by have := HB.out.size; omega) _⟩
        case measure => simp [intOf]; omega
      · have hsu : s = u := by simpa using e1
        subst hsu
        have HR := Lib.hid (show runsB q s = (r == 2) from runsB_at HD.out HIn.out)
        go_wp2_with fail
        go_ret
        exact ⟨ret_bool (by rw [HR.out]), HB.out.alloc (by have := HB.out.size; omega) _⟩
    · have ha := HAll.out
      rw [List.take_of_length_le (by omega)] at ha
      have HR := Lib.hid (show runsB q u = false by
        cases hr : runsB q u
        · rfl
        · obtain ⟨j, hj, e, _⟩ := runsB_iff.1 hr
          exact absurd e (ha j hj))
      clear ha
      go_wp2_with fail
      go_ret
      exact ⟨ret_bool (by rw [HR.out]), HB.out⟩
set_option maxRecDepth 100000 in
set_option maxHeartbeats 16000000 in
theorem waveAhead_any (An Ae : Option Addr) (cn ce : Nat) (ns : List Nd) (es : List Ed) (A : Option Addr) (c : Nat) (q : List Jb) (Af : Option Addr) (cf : Nat) (fails : List Str) (Ap : Option Addr) (cp : Nat) (picks : List Int) (w : World) (hg : GIw w An Ae ns es) (hq : QIn w A c q) (hf : Rd w w.heap.size 1 Af fails.length (svs fails)) (hp : Rd w w.heap.size 1 Ap picks.length (ints picks)) (hlf : fails.length ≤ 140737488351232) :
    Calls Tryz.prog 8 #[gV An ns.length cn Ae es.length ce, .slice A q.length c, .slice Af fails.length cf, .slice Ap picks.length cp] w fun e w' => e = .returned (.bool true) ∧ Below w.heap.size w w' := by
  obtain ⟨i0, hi, hz0, hz1, hz2⟩ := info_parts infoDn
  have HG := Lib.hid hg
  have HQ := Lib.hid hq
  have HFl := Lib.hid hf
  have HP := Lib.hid hp
  clear hg hq hf hp
  cases d30 : decide ((30 : Int) < (q.length : Int))
  · cases d300 : decide ((300 : Int) < (picks.length : Int))
    · have h30 : ¬ (30 : Int) < (q.length : Int) := by simpa using d30
      go_enter Tryz.func8, Tryz.ntmps8
      go_wp2_with fail
      first | (refine wp_named ?_; intro W1 hW) | (refine calls_named ?_; intro W1 hW)
      have B1 : Below w.heap.size w W1 := by rw [hW]; exact (by repeat (first | exact Below.refl _ _ | assumption | refine Below.alloc ?_ (by first | omega | (simp <;> omega)) _ | refine Below.setCell ?_ (by first | omega | (simp <;> omega)) _ | refine Below.drew ?_))
      replace HG := Lib.hid (HG.out.at B1)
      replace HQ := Lib.hid (HQ.out.at B1)
      replace HFl := Lib.hid (HFl.out.at B1)
      replace HP := Lib.hid (HP.out.at B1)
      have nw1 : w.heap.size < W1.heap.size := by rw [hW]; simp <;> omega
      have c0 : W1.cell? ⟨w.heap.size, 0, none⟩ = some (.slice An ns.length cn) := by rw [hW]; go_simp
      have c1 : W1.cell? ⟨w.heap.size, 1, none⟩ = some (.slice Ae es.length ce) := by rw [hW]; go_simp
      clear hW
      have HB := Lib.hid B1
      clear B1
      refine (shown_any W1).mono ?_
      rintro e w2 ⟨rfl, hb⟩
      replace c0 := cellAt c0 hb (by omega)
      replace c1 := cellAt c1 hb (by omega)
      replace HG := Lib.hid (HG.out.at hb)
      replace HQ := Lib.hid (HQ.out.at hb)
      replace HFl := Lib.hid (HFl.out.at hb)
      replace HP := Lib.hid (HP.out.at hb)
      replace nw1 : w.heap.size < w2.heap.size := ltAt nw1 hb
      replace HB := Lib.hid (lift HB.out hb)
      clear hb
      go_wp2_with fail
      refine (small_any An Ae cn ce ns es w2).mono ?_
      rintro e w3 ⟨rfl, hb⟩
      replace c0 := cellAt c0 hb (by omega)
      replace c1 := cellAt c1 hb (by omega)
      replace HG := Lib.hid (HG.out.at hb)
      replace HQ := Lib.hid (HQ.out.at hb)
      replace HFl := Lib.hid (HFl.out.at hb)
      replace HP := Lib.hid (HP.out.at hb)
      replace nw1 : w.heap.size < w3.heap.size := ltAt nw1 hb
      replace HB := Lib.hid (lift HB.out hb)
      clear hb
      cases hsm : smallB ns es
      · go_wp2_with fail
        go_ret
        exact ⟨rfl, HB.out⟩
      · have hs2 := smallB_iff.1 hsm
        have hl1 := hs2.1
        have hl2 := hs2.2
        clear hs2
        go_wp2_with fail
        refine (SoundQ_any An Ae cn ce ns es A c q w3 (HG.out.q (by omega) (by omega)) HQ.out (by omega)).mono ?_
        rintro e w4 ⟨rfl, hb⟩
        replace c0 := cellAt c0 hb (by omega)
        replace c1 := cellAt c1 hb (by omega)
        replace HG := Lib.hid (HG.out.at hb)
        replace HQ := Lib.hid (HQ.out.at hb)
        replace HFl := Lib.hid (HFl.out.at hb)
        replace HP := Lib.hid (HP.out.at hb)
        replace nw1 : w.heap.size < w4.heap.size := ltAt nw1 hb
        replace HB := Lib.hid (lift HB.out hb)
        clear hb
        cases hsd : soundQ ns es q
        · go_wp2_with fail
          go_ret
          exact ⟨rfl, HB.out⟩
        · have hta := trR_len es fails picks q
          have hpw := trR_pw (fails := fails) (picks := picks) hsd
          have HD := Lib.hid (mayQ.dq (sound_ends hsd).1)
          generalize hx1 : trR es fails picks q = x at *
          have HX1 := Lib.hid hx1
          have HPw := Lib.hid hpw
          clear hx1 hpw
          go_wp2_with fail
          refine (TraceW_any An Ae ns.length cn ce es A c q Af cf fails Ap cp picks w4 HG.out.re HQ.out HFl.out HP.out (by omega) (by omega) (by omega)).mono ?_
          rw [HX1.out]
          rintro e x5 ⟨A7, c7, rfl, hc7, hr7, hb⟩
          have HR7 := Lib.hid hr7
          replace c0 := cellAt c0 hb (by omega)
          replace c1 := cellAt c1 hb (by omega)
          replace HG := Lib.hid (HG.out.at hb)
          replace HQ := Lib.hid (HQ.out.at hb)
          replace HFl := Lib.hid (HFl.out.at hb)
          replace HP := Lib.hid (HP.out.at hb)
          replace nw1 : w.heap.size < x5.heap.size := ltAt nw1 hb
          replace HB := Lib.hid (lift HB.out hb)
          clear hb hr7
          go_wp2_with fail
          go_loopw [44] (fun i wr => ∃ m : Nat, m ≤ x.length ∧ i = .int .i64 m ∧ Below x5.heap.size x5 wr) (fun i _ => x.length - (intOf i).toNat)
          case atStart => exact ⟨0, Nat.zero_le _, rfl, Below.refl _ _⟩
          case round =>
            obtain ⟨m, hmq, rfl, hb⟩ := hrel
            have HBl := Lib.hid hb
            replace c0 := cellAt c0 hb (by omega)
            replace c1 := cellAt c1 hb (by omega)
            replace HG := Lib.hid (HG.out.at hb)
            replace HQ := Lib.hid (HQ.out.at hb)
            replace HFl := Lib.hid (HFl.out.at hb)
            replace HP := Lib.hid (HP.out.at hb)
            replace nw1 : w.heap.size < wr.heap.size := ltAt nw1 hb
            replace HB := Lib.hid (lift HB.out hb)
            replace HR7 := Lib.hid (HR7.out.at hb)
            clear hb
            by_cases hlt : m < x.length
            · obtain ⟨b2, o2, hA, hB2, x0, x1, x2⟩ := HR7.out.node hlt
              have hrd := HR7.out.dropA (m := m + 1) hlt hc7
              have hml : (x.drop (m + 1)).length = x.length - (m + 1) := List.length_drop
              have hs2 := run_slice_tail (P := Tryz.prog) Tryz.underlying37 hi A7 x.length c7 (m + 1) hlt
              rw [hz1] at hs2
              rw [show (((m + 1 : Nat)) : Int) = (m : Int) + 1 from by omega, ← hml] at hs2
              rw [← hml, ndsC_drop] at hrd
              have kw : IntKind.i64.wrap ((m : Int) + 1) = (m : Int) + 1 := IntWalk.i64_in _ (by omega)
              have hml2 : (x.drop (m + 1)).length ≤ 30 := by omega
              have hcl := pw_drop HPw.out hlt
              generalize x[m] = z at x0 x1 x2 hcl
              obtain ⟨s, t, d⟩ := z
              simp only at x0 x1 x2 hcl
              generalize hAd : dropA A7 c7 (m + 1) 3 = Ad at hs2 hrd
              generalize hMd : x.drop (m + 1) = M at hs2 hrd hml2 hcl
              have HCl0 := Lib.hid hcl
              have HRd := Lib.hid hrd
              clear hml hAd hMd hcl hrd
              have m1 : (0 : Int) ≤ (m : Int) := by omega
              have m2 : (m : Int) < (x.length : Int) := by omega
              subst hA
              obtain ⟨w9, rfl⟩ : ∃ wo : World, wo = wr := ⟨_, rfl⟩
              go_wp2_with fail
              first | (refine wp_named ?_; intro W4 hW) | (refine calls_named ?_; intro W4 hW)
              have B4 : Below w9.heap.size w9 W4 := by rw [hW]; exact (by repeat (first | exact Below.refl _ _ | assumption | refine Below.alloc ?_ (by first | omega | (simp <;> omega)) _ | refine Below.setCell ?_ (by first | omega | (simp <;> omega)) _ | refine Below.drew ?_))
              replace c0 := cellAt c0 B4 (by omega)
              replace c1 := cellAt c1 B4 (by omega)
              replace HG := Lib.hid (HG.out.at B4)
              replace HQ := Lib.hid (HQ.out.at B4)
              replace HFl := Lib.hid (HFl.out.at B4)
              replace HP := Lib.hid (HP.out.at B4)
              replace nw1 : w.heap.size < W4.heap.size := ltAt nw1 B4
              replace HB := Lib.hid (lift HB.out B4)
              replace HR7 := Lib.hid (HR7.out.at B4)
              replace HBl := Lib.hid (lift HBl.out B4)
              replace HRd := Lib.hid (HRd.out.at B4)
              have nl4 : w9.heap.size < W4.heap.size := by rw [hW]; simp <;> omega
              have k0 : W4.cell? ⟨w9.heap.size, 0, none⟩ = some (sv s) := by rw [hW]; go_simp
              have k1 : W4.cell? ⟨w9.heap.size, 1, none⟩ = some (.int .i64 t) := by rw [hW]; go_simp
              have k2 : W4.cell? ⟨w9.heap.size, 2, none⟩ = some (.int .i64 d) := by rw [hW]; go_simp
              clear hW
              clear B4 x0 x1 x2
              go_wp2_with fail
              go_loopw [54] (fun i wr => ∃ j : Nat, j ≤ M.length ∧ i = .int .i64 j ∧ Below W4.heap.size W4 wr) (fun i _ => M.length - (intOf i).toNat)
              case atStart => exact ⟨0, Nat.zero_le _, rfl, Below.refl _ _⟩
              case round =>
                obtain ⟨j, hjM, rfl, hb⟩ := hrel
                have HB7 := Lib.hid hb
                replace c0 := cellAt c0 hb (by omega)
                replace c1 := cellAt c1 hb (by omega)
                replace k0 := cellAt k0 hb (by omega)
                replace k1 := cellAt k1 hb (by omega)
                replace k2 := cellAt k2 hb (by omega)
                replace HG := Lib.hid (HG.out.at hb)
                replace HQ := Lib.hid (HQ.out.at hb)
                replace HFl := Lib.hid (HFl.out.at hb)
                replace HP := Lib.hid (HP.out.at hb)
                replace nw1 : w.heap.size < wr.heap.size := ltAt nw1 hb
                replace HB := Lib.hid (lift HB.out hb)
                replace HR7 := Lib.hid (HR7.out.at hb)
                replace HBl := Lib.hid (lift HBl.out hb)
                replace HRd := Lib.hid (HRd.out.at hb)
                replace nl4 : w9.heap.size < wr.heap.size := ltAt nl4 hb
                clear hb
                by_cases hlt2 : j < M.length
                · obtain ⟨b3, o3, hA3, hB3, y0, y1, y2⟩ := HRd.out.node hlt2
                  have hc2 := HCl0.out _ (List.getElem_mem hlt2)
                  generalize M[j] = z at y0 y1 y2 hc2
                  obtain ⟨s', t', d'⟩ := z
                  simp only at y0 y1 y2 hc2
                  have HC := Lib.hid hc2
                  have HCl1 := Lib.hid (show clashD es (s, t, d) (s', t', d') = (((t == 1 && t' == 1) && Ah es s' s) || ((t == 2 && t' == 2) && Ah es s s')) from rfl)
                  clear hc2
                  have j1 : (0 : Int) ≤ (j : Int) := by omega
                  have j2 : (j : Int) < (M.length : Int) := by omega
                  subst hA3
                  by_cases t1 : t = 1
                  · subst t1
                    by_cases t2 : t' = 1
                    · subst t2
                      have HCl := Lib.hid (show clashD es (s, 1, d) (s', 1, d') = (Ah es s' s || false) from HCl1.out.trans (by simp))
                      go_wp2_with fail
                      first | (refine wp_named ?_; intro W5 hW) | (refine calls_named ?_; intro W5 hW)
                      have B5 : Below wr.heap.size wr W5 := by rw [hW]; exact (by repeat (first | exact Below.refl _ _ | assumption | refine Below.alloc ?_ (by first | omega | (simp <;> omega)) _ | refine Below.setCell ?_ (by first | omega | (simp <;> omega)) _ | refine Below.drew ?_))
                      replace c0 := cellAt c0 B5 (by omega)
                      replace c1 := cellAt c1 B5 (by omega)
                      replace k0 := cellAt k0 B5 (by omega)
                      replace k1 := cellAt k1 B5 (by omega)
                      replace k2 := cellAt k2 B5 (by omega)
                      replace HG := Lib.hid (HG.out.at B5)
                      replace HQ := Lib.hid (HQ.out.at B5)
                      replace HFl := Lib.hid (HFl.out.at B5)
                      replace HP := Lib.hid (HP.out.at B5)
                      replace nw1 : w.heap.size < W5.heap.size := ltAt nw1 B5
                      replace HB := Lib.hid (lift HB.out B5)
                      replace HR7 := Lib.hid (HR7.out.at B5)
                      replace HBl := Lib.hid (lift HBl.out B5)
                      replace HRd := Lib.hid (HRd.out.at B5)
                      replace nl4 : w9.heap.size < W5.heap.size := ltAt nl4 B5
                      replace HB7 := Lib.hid (lift HB7.out B5)
                      have nl5 : wr.heap.size < W5.heap.size := by rw [hW]; simp <;> omega
                      have f0 : W5.cell? ⟨wr.heap.size, 0, none⟩ = some (sv s') := by rw [hW]; go_simp
                      have f1 : W5.cell? ⟨wr.heap.size, 1, none⟩ = some (.int .i64 1) := by rw [hW]; go_simp
                      have f2 : W5.cell? ⟨wr.heap.size, 2, none⟩ = some (.int .i64 d') := by rw [hW]; go_simp
                      clear hW
                      clear B5 y0 y1 y2
                      refine (Ahead_any An Ae ns.length cn ce es s' s W5 HG.out.re (by omega)).mono ?_
                      rintro e v6 ⟨rfl, hb⟩
                      replace c0 := cellAt c0 hb (by omega)
                      replace c1 := cellAt c1 hb (by omega)
                      replace k0 := cellAt k0 hb (by omega)
                      replace k1 := cellAt k1 hb (by omega)
                      replace k2 := cellAt k2 hb (by omega)
                      replace f0 := cellAt f0 hb (by omega)
                      replace f1 := cellAt f1 hb (by omega)
                      replace f2 := cellAt f2 hb (by omega)
                      replace HG := Lib.hid (HG.out.at hb)
                      replace HQ := Lib.hid (HQ.out.at hb)
                      replace HFl := Lib.hid (HFl.out.at hb)
                      replace HP := Lib.hid (HP.out.at hb)
                      replace nw1 : w.heap.size < v6.heap.size := ltAt nw1 hb
                      replace HB := Lib.hid (lift HB.out hb)
                      replace HR7 := Lib.hid (HR7.out.at hb)
                      replace HBl := Lib.hid (lift HBl.out hb)
                      replace HRd := Lib.hid (HRd.out.at hb)
                      replace nl4 : w9.heap.size < v6.heap.size := ltAt nl4 hb
                      replace HB7 := Lib.hid (lift HB7.out hb)
                      replace nl5 : wr.heap.size < v6.heap.size := ltAt nl5 hb
                      clear hb
                      cases ha : es.any (aheadB s' s)
                      · go_wp2_with fail
                        go_roundw
                        case rel => exact ⟨j + 1, by omega, by go_num, HB7.out⟩
                        case measure => simp [intOf]; omega
                      · have hra : runsB q s = true := HC.out (by rw [HCl.out]; rw [show Ah es s' s = true from ha]; rfl)
                        have HRa := Lib.hid hra
                        go_wp2_with fail
                        refine (runs_any A c q s v6 HQ.out.rq HD.out (by omega)).mono ?_
                        rw [HRa.out]
                        rintro e v7 ⟨rfl, hb⟩
                        replace c0 := cellAt c0 hb (by omega)
                        replace c1 := cellAt c1 hb (by omega)
                        replace k0 := cellAt k0 hb (by omega)
                        replace k1 := cellAt k1 hb (by omega)
                        replace k2 := cellAt k2 hb (by omega)
                        replace f0 := cellAt f0 hb (by omega)
                        replace f1 := cellAt f1 hb (by omega)
                        replace f2 := cellAt f2 hb (by omega)
                        replace HG := Lib.hid (HG.out.at hb)
                        replace HQ := Lib.hid (HQ.out.at hb)
                        replace HFl := Lib.hid (HFl.out.at hb)
                        replace HP := Lib.hid (HP.out.at hb)
                        replace nw1 : w.heap.size < v7.heap.size := ltAt nw1 hb
                        replace HB := Lib.hid (lift HB.out hb)
                        replace HR7 := Lib.hid (HR7.out.at hb)
                        replace HBl := Lib.hid (lift HBl.out hb)
                        replace HRd := Lib.hid (HRd.out.at hb)
                        replace nl4 : w9.heap.size < v7.heap.size := ltAt nl4 hb
                        replace HB7 := Lib.hid (lift HB7.out hb)
                        replace nl5 : wr.heap.size < v7.heap.size := ltAt nl5 hb
                        clear hb
                        go_wp2_with fail
                        go_roundw
                        case rel => exact ⟨j + 1, by omega, by go_num, HB7.out⟩
                        case measure => simp [intOf]; omega
                    · have t2b : (t' == 1) = false := by simpa using t2
                      go_wp2_with fail
                      go_roundw
                      case rel => exact ⟨j + 1, by omega, by go_num, HB7.out.alloc (by have := HB7.out.size; omega) _⟩
                      case measure => simp [intOf]; omega
                  · have t1b : (t == 1) = false := by simpa using t1
                    by_cases t3 : t = 2
                    · subst t3
                      by_cases t4 : t' = 2
                      · subst t4
                        have HCl := Lib.hid (show clashD es (s, 2, d) (s', 2, d') = (Ah es s s' || false) from HCl1.out.trans (by simp))
                        go_wp2_with fail
                        first | (refine wp_named ?_; intro W5 hW) | (refine calls_named ?_; intro W5 hW)
                        have B5 : Below wr.heap.size wr W5 := by rw [hW]; exact (by repeat (first | exact Below.refl _ _ | assumption | refine Below.alloc ?_ (by first | omega | (simp <;> omega)) _ | refine Below.setCell ?_ (by first | omega | (simp <;> omega)) _ | refine Below.drew ?_))
                        replace c0 := cellAt c0 B5 (by omega)
                        replace c1 := cellAt c1 B5 (by omega)
                        replace k0 := cellAt k0 B5 (by omega)
                        replace k1 := cellAt k1 B5 (by omega)
                        replace k2 := cellAt k2 B5 (by omega)
                        replace HG := Lib.hid (HG.out.at B5)
                        replace HQ := Lib.hid (HQ.out.at B5)
                        replace HFl := Lib.hid (HFl.out.at B5)
                        replace HP := Lib.hid (HP.out.at B5)
                        replace nw1 : w.heap.size < W5.heap.size := ltAt nw1 B5
                        replace HB := Lib.hid (lift HB.out B5)
                        replace HR7 := Lib.hid (HR7.out.at B5)
                        replace HBl := Lib.hid (lift HBl.out B5)
                        replace HRd := Lib.hid (HRd.out.at B5)
                        replace nl4 : w9.heap.size < W5.heap.size := ltAt nl4 B5
                        replace HB7 := Lib.hid (lift HB7.out B5)
                        have nl5 : wr.heap.size < W5.heap.size := by rw [hW]; simp <;> omega
                        have f0 : W5.cell? ⟨wr.heap.size, 0, none⟩ = some (sv s') := by rw [hW]; go_simp
                        have f1 : W5.cell? ⟨wr.heap.size, 1, none⟩ = some (.int .i64 2) := by rw [hW]; go_simp
                        have f2 : W5.cell? ⟨wr.heap.size, 2, none⟩ = some (.int .i64 d') := by rw [hW]; go_simp
                        clear hW
                        clear B5 y0 y1 y2
                        refine (Ahead_any An Ae ns.length cn ce es s s' W5 HG.out.re (by omega)).mono ?_
                        rintro e v6 ⟨rfl, hb⟩
                        replace c0 := cellAt c0 hb (by omega)
                        replace c1 := cellAt c1 hb (by omega)
                        replace k0 := cellAt k0 hb (by omega)
                        replace k1 := cellAt k1 hb (by omega)
                        replace k2 := cellAt k2 hb (by omega)
                        replace f0 := cellAt f0 hb (by omega)
                        replace f1 := cellAt f1 hb (by omega)
                        replace f2 := cellAt f2 hb (by omega)
                        replace HG := Lib.hid (HG.out.at hb)
                        replace HQ := Lib.hid (HQ.out.at hb)
                        replace HFl := Lib.hid (HFl.out.at hb)
                        replace HP := Lib.hid (HP.out.at hb)
                        replace nw1 : w.heap.size < v6.heap.size := ltAt nw1 hb
                        replace HB := Lib.hid (lift HB.out hb)
                        replace HR7 := Lib.hid (HR7.out.at hb)
                        replace HBl := Lib.hid (lift HBl.out hb)
                        replace HRd := Lib.hid (HRd.out.at hb)
                        replace nl4 : w9.heap.size < v6.heap.size := ltAt nl4 hb
                        replace HB7 := Lib.hid (lift HB7.out hb)
                        replace nl5 : wr.heap.size < v6.heap.size := ltAt nl5 hb
                        clear hb
                        cases ha : es.any (aheadB s s')
                        · go_wp2_with fail
                          go_roundw
                          case rel => exact ⟨j + 1, by omega, by go_num, HB7.out⟩
                          case measure => simp [intOf]; omega
                        · have hra : runsB q s = true := HC.out (by rw [HCl.out]; rw [show Ah es s s' = true from ha]; rfl)
                          have HRa := Lib.hid hra
                          go_wp2_with fail
                          refine (runs_any A c q s v6 HQ.out.rq HD.out (by omega)).mono ?_
                          rw [HRa.out]
                          rintro e v7 ⟨rfl, hb⟩
                          replace c0 := cellAt c0 hb (by omega)
                          replace c1 := cellAt c1 hb (by omega)
                          replace k0 := cellAt k0 hb (by omega)
                          replace k1 := cellAt k1 hb (by omega)
                          replace k2 := cellAt k2 hb (by omega)
                          replace f0 := cellAt f0 hb (by omega)
                          replace f1 := cellAt f1 hb (by omega)
                          replace f2 := cellAt f2 hb (by omega)
                          replace HG := Lib.hid (HG.out.at hb)
                          replace HQ := Lib.hid (HQ.out.at hb)
                          replace HFl := Lib.hid (HFl.out.at hb)
                          replace HP := Lib.hid (HP.out.at hb)
                          replace nw1 : w.heap.size < v7.heap.size := ltAt nw1 hb
                          replace HB := Lib.hid (lift HB.out hb)
                          replace HR7 := Lib.hid (HR7.out.at hb)
                          replace HBl := Lib.hid (lift HBl.out hb)
                          replace HRd := Lib.hid (HRd.out.at hb)
                          replace nl4 : w9.heap.size < v7.heap.size := ltAt nl4 hb
                          replace HB7 := Lib.hid (lift HB7.out hb)
                          replace nl5 : wr.heap.size < v7.heap.size := ltAt nl5 hb
                          clear hb
                          go_wp2_with fail
                          go_roundw
                          case rel => exact ⟨j + 1, by omega, by go_num, HB7.out⟩
                          case measure => simp [intOf]; omega
                      · have t4b : (t' == 2) = false := by simpa using t4
                        go_wp2_with fail
                        go_roundw
                        case rel => exact ⟨j + 1, by omega, by go_num, HB7.out.alloc (by have := HB7.out.size; omega) _⟩
                        case measure => simp [intOf]; omega
                    · have t3b : (t == 2) = false := by simpa using t3
                      go_wp2_with fail
                      go_roundw
                      case rel => exact ⟨j + 1, by omega, by go_num, HB7.out.alloc (by have := HB7.out.size; omega) _⟩
                      case measure => simp [intOf]; omega
                · go_wp2_with fail
                  go_roundw
                  case rel => exact ⟨m + 1, by omega, by go_num, HBl.out⟩
                  case measure => simp [intOf]; omega
            · go_wp2_with fail
              go_ret
              exact ⟨rfl, HB.out⟩
    · go_enter Tryz.func8, Tryz.ntmps8
      go_wp2_with fail
      first | (refine wp_named ?_; intro W1 hW) | (refine calls_named ?_; intro W1 hW)
      have B1 : Below w.heap.size w W1 := by rw [hW]; exact (by repeat (first | exact Below.refl _ _ | assumption | refine Below.alloc ?_ (by first | omega | (simp <;> omega)) _ | refine Below.setCell ?_ (by first | omega | (simp <;> omega)) _ | refine Below.drew ?_))
      replace HG := Lib.hid (HG.out.at B1)
      replace HQ := Lib.hid (HQ.out.at B1)
      replace HFl := Lib.hid (HFl.out.at B1)
      replace HP := Lib.hid (HP.out.at B1)
      have nw1 : w.heap.size < W1.heap.size := by rw [hW]; simp <;> omega
      have c0 : W1.cell? ⟨w.heap.size, 0, none⟩ = some (.slice An ns.length cn) := by rw [hW]; go_simp
      have c1 : W1.cell? ⟨w.heap.size, 1, none⟩ = some (.slice Ae es.length ce) := by rw [hW]; go_simp
      clear hW
      have HB := Lib.hid B1
      clear B1
      refine (shown_any W1).mono ?_
      rintro e w2 ⟨rfl, hb⟩
      replace c0 := cellAt c0 hb (by omega)
      replace c1 := cellAt c1 hb (by omega)
      replace HG := Lib.hid (HG.out.at hb)
      replace HQ := Lib.hid (HQ.out.at hb)
      replace HFl := Lib.hid (HFl.out.at hb)
      replace HP := Lib.hid (HP.out.at hb)
      replace nw1 : w.heap.size < w2.heap.size := ltAt nw1 hb
      replace HB := Lib.hid (lift HB.out hb)
      clear hb
      go_wp2_with fail
      refine (small_any An Ae cn ce ns es w2).mono ?_
      rintro e w3 ⟨rfl, hb⟩
      replace c0 := cellAt c0 hb (by omega)
      replace c1 := cellAt c1 hb (by omega)
      replace HG := Lib.hid (HG.out.at hb)
      replace HQ := Lib.hid (HQ.out.at hb)
      replace HFl := Lib.hid (HFl.out.at hb)
      replace HP := Lib.hid (HP.out.at hb)
      replace nw1 : w.heap.size < w3.heap.size := ltAt nw1 hb
      replace HB := Lib.hid (lift HB.out hb)
      clear hb
      cases hsm : smallB ns es
      · go_wp2_with fail
        go_ret
        exact ⟨rfl, HB.out⟩
      · go_wp2_with fail
        go_ret
        exact ⟨rfl, HB.out⟩
  · go_enter Tryz.func8, Tryz.ntmps8
    go_wp2_with fail
    first | (refine wp_named ?_; intro W1 hW) | (refine calls_named ?_; intro W1 hW)
    have B1 : Below w.heap.size w W1 := by rw [hW]; exact (by repeat (first | exact Below.refl _ _ | assumption | refine Below.alloc ?_ (by first | omega | (simp <;> omega)) _ | refine Below.setCell ?_ (by first | omega | (simp <;> omega)) _ | refine Below.drew ?_))
    replace HG := Lib.hid (HG.out.at B1)
    replace HQ := Lib.hid (HQ.out.at B1)
    replace HFl := Lib.hid (HFl.out.at B1)
    replace HP := Lib.hid (HP.out.at B1)
    have nw1 : w.heap.size < W1.heap.size := by rw [hW]; simp <;> omega
    have c0 : W1.cell? ⟨w.heap.size, 0, none⟩ = some (.slice An ns.length cn) := by rw [hW]; go_simp
    have c1 : W1.cell? ⟨w.heap.size, 1, none⟩ = some (.slice Ae es.length ce) := by rw [hW]; go_simp
    clear hW
    have HB := Lib.hid B1
    clear B1
    refine (shown_any W1).mono ?_
    rintro e w2 ⟨rfl, hb⟩
    replace c0 := cellAt c0 hb (by omega)
    replace c1 := cellAt c1 hb (by omega)
    replace HG := Lib.hid (HG.out.at hb)
    replace HQ := Lib.hid (HQ.out.at hb)
    replace HFl := Lib.hid (HFl.out.at hb)
    replace HP := Lib.hid (HP.out.at hb)
    replace nw1 : w.heap.size < w2.heap.size := ltAt nw1 hb
    replace HB := Lib.hid (lift HB.out hb)
    clear hb
    go_wp2_with fail
    refine (small_any An Ae cn ce ns es w2).mono ?_
    rintro e w3 ⟨rfl, hb⟩
    replace c0 := cellAt c0 hb (by omega)
    replace c1 := cellAt c1 hb (by omega)
    replace HG := Lib.hid (HG.out.at hb)
    replace HQ := Lib.hid (HQ.out.at hb)
    replace HFl := Lib.hid (HFl.out.at hb)
    replace HP := Lib.hid (HP.out.at hb)
    replace nw1 : w.heap.size < w3.heap.size := ltAt nw1 hb
    replace HB := Lib.hid (lift HB.out hb)
    clear hb
    cases hsm : smallB ns es
    · go_wp2_with fail
      go_ret
      exact ⟨rfl, HB.out⟩
    · go_wp2_with fail
      go_ret
      exact ⟨rfl, HB.out⟩
end Od
end Go.Proofs.YtmlogmcnblgnbaaGreat
end

section
/- The walk of the law WaveStops. (bel2) -/
namespace Go.Proofs.YtmlogmcnblgnbaaGreat
open Go.RowKit Go.Sort
set_option linter.unusedSimpArgs false

namespace Od

theorem waitsQ_len (es : List Ed) (q : List Jb) (u : Str) : (waitsQ es q u).length ≤ q.length := by
  unfold waitsQ
  split
  · simp
  · split
    · unfold waitsJ; rw [List.length_map]; exact List.length_filter_le _ _
    · simp
theorem stops_succ {q : List Jb} {m : Nat} (h : m < q.length) : stopsQ (q.take (m + 1)) = stopsQ (q.take m) ++ (if (q[m].2.2.1 == 1) = true then [(q[m].1, 2, 1, 0)] else []) := by
  unfold stopsQ
  rw [List.take_succ_eq_append_getElem h, List.filter_append, List.map_append]
  congr 1
  rw [List.filter_cons, List.filter_nil]
  split <;> simp
theorem stops_len (q : List Jb) (m : Nat) : (stopsQ (q.take m)).length ≤ m := by
  unfold stopsQ
  rw [List.length_map]
  refine Nat.le_trans (List.length_filter_le _ _) ?_
  rw [List.length_take]; omega
theorem stops_okJs {q : List Jb} (h : OkJs q) : OkJs (stopsQ q) := fun j hj => by
  unfold stopsQ at hj
  obtain ⟨k, hk, rfl⟩ := List.mem_map.1 hj
  exact h k (List.mem_filter.1 hk).1
theorem one_stop (s : Str) : ∀ u ∈ jbC (s, 2, 1, 0), u.oneCell' = true := fun u hu => by
  simp only [jbC, List.mem_cons, List.not_mem_nil, or_false] at hu
  rcases hu with rfl | rfl | rfl | rfl <;> rfl
theorem below_is {w w' : World} (h : w = w') : Below w.heap.size w w' := by subst h; exact Below.refl _ _
set_option maxRecDepth 100000 in
set_option maxHeartbeats 16000000 in
theorem waveStops_any (An Ae : Option Addr) (cn ce : Nat) (ns : List Nd) (es : List Ed) (A : Option Addr) (c : Nat) (q : List Jb) (Af : Option Addr) (cf : Nat) (fails : List Str) (Ap : Option Addr) (cp : Nat) (picks : List Int) (w : World) (hg : GIw w An Ae ns es) (hq : QIn w A c q) (hf : Rd w w.heap.size 1 Af fails.length (svs fails)) (hp : Rd w w.heap.size 1 Ap picks.length (ints picks)) (hlf : fails.length ≤ 140737488351232) (hlq : q.length * 40 ≤ 140737488351232) :
    Calls Tryz.prog 14 #[gV An ns.length cn Ae es.length ce, .slice A q.length c, .slice Af fails.length cf, .slice Ap picks.length cp] w fun e w' => e = .returned (.bool true) ∧ Below w.heap.size w w' := by
  obtain ⟨i0, hi, hz0, hz1, hz2⟩ := info_parts infoDn
  obtain ⟨j0, ji, jz0, jz1, jz2⟩ := info_parts infoJb
  have HG := Lib.hid hg
  have HQ := Lib.hid hq
  have HFl := Lib.hid hf
  have HP := Lib.hid hp
  clear hg hq hf hp
  go_enter Tryz.func14, Tryz.ntmps14
  go_wp2_with fail
  first | (refine wp_named ?_; intro W1 hW) | (refine calls_named ?_; intro W1 hW)
  have B1 : Below w.heap.size w W1 := by rw [hW]; exact (by repeat (first | exact Below.refl _ _ | assumption | refine Below.alloc ?_ (by first | omega | (simp <;> omega)) _ | refine Below.setCell ?_ (by first | omega | (simp <;> omega)) _ | refine Below.drew ?_))
  replace HG := Lib.hid (HG.out.at B1)
  replace HQ := Lib.hid (HQ.out.at B1)
  replace HFl := Lib.hid (HFl.out.at B1)
  replace HP := Lib.hid (HP.out.at B1)
  have nw1 : w.heap.size < W1.heap.size := by rw [hW]; simp <;> omega
  have c0 : W1.cell? ⟨w.heap.size, 0, none⟩ = some (.slice An ns.length cn) := by rw [hW]; go_simp
  have c1 : W1.cell? ⟨w.heap.size, 1, none⟩ = some (.slice Ae es.length ce) := by rw [hW]; go_simp
  clear hW
  have HB := Lib.hid B1
  clear B1
  refine (shown_any W1).mono ?_
  rintro e w2 ⟨rfl, hb⟩
  replace c0 := cellAt c0 hb (by omega)
  replace c1 := cellAt c1 hb (by omega)
  replace HG := Lib.hid (HG.out.at hb)
  replace HQ := Lib.hid (HQ.out.at hb)
  replace HFl := Lib.hid (HFl.out.at hb)
  replace HP := Lib.hid (HP.out.at hb)
  replace nw1 : w.heap.size < w2.heap.size := ltAt nw1 hb
  replace HB := Lib.hid (lift HB.out hb)
  clear hb
  go_wp2_with fail
  go_loopw [9, 21] (fun v i wr => ∃ (m : Nat) (A9 : Option Addr) (c9 : Nat), m ≤ q.length ∧ i = .int .i64 m ∧ v = .slice A9 (stopsQ (q.take m)).length c9 ∧ Hid (wr.ownsRow w2.heap.size 48 4 (.slice A9 (stopsQ (q.take m)).length c9) (stopsQ (q.take m)).length (jbsC (stopsQ (q.take m)))) ∧ Below w2.heap.size w2 wr) (fun _ i _ => q.length - (intOf i).toNat)
  case atStart => exact ⟨0, none, 0, Nat.zero_le _, rfl, rfl, World.ownsRow_nil _ _ _ _, Below.refl _ _⟩
  case round =>
    obtain ⟨m, A9, c9, hmq, rfl, rfl, HO, hb⟩ := hrel
    have HBl := Lib.hid hb
    replace c0 := cellAt c0 hb (by omega)
    replace c1 := cellAt c1 hb (by omega)
    replace HG := Lib.hid (HG.out.at hb)
    replace HQ := Lib.hid (HQ.out.at hb)
    replace HFl := Lib.hid (HFl.out.at hb)
    replace HP := Lib.hid (HP.out.at hb)
    replace nw1 : w.heap.size < wr.heap.size := ltAt nw1 hb
    replace HB := Lib.hid (lift HB.out hb)
    clear hb
    have hzb : w2.heap.size ≤ wr.heap.size := HBl.out.size
    by_cases hlt : m < q.length
    · obtain ⟨b2, o2, hA, hB2, x0, x1, x2, x3⟩ := HQ.out.rq.job hlt
      have hsu := stops_succ hlt
      have hsl := stops_len q m
      subst hA
      generalize q[m] = j at x0 x1 x2 x3 hsu
      obtain ⟨s, t, r, d⟩ := j
      simp only at x0 x1 x2 x3 hsu
      generalize stopsQ (q.take m) = L at HO hsu hsl ⊢
      have HSu := Lib.hid hsu
      clear hsu
      have m1 : (0 : Int) ≤ (m : Int) := by omega
      have m2 : (m : Int) < (q.length : Int) := by omega
      by_cases r1 : r = 1
      · subst r1
        have HS2 := Lib.hid (show stopsQ (q.take (m + 1)) = L ++ [(s, 2, 1, 0)] from HSu.out)
        have h63 := Lib.hid (show L.length + 1 ≤ maxLen by unfold maxLen; omega)
        have hby := Lib.hid (show (L.length + 1) * 40 ≤ 140737488355328 by omega)
        have HOa := Lib.hid (own_alloc HO.out (.cells #[sv s, .int .i64 t, .int .i64 1, .int .i64 d] 48))
        have Hba := Lib.hid (HBl.out.alloc hzb (.cells #[sv s, .int .i64 t, .int .i64 1, .int .i64 d] 48))
        have hza := Lib.hid (show w2.heap.size ≤ (wr.alloc (.cells #[sv s, .int .i64 t, .int .i64 1, .int .i64 d] 48)).heap.size by simp; omega)
        go_wp2_with (first | (at_builtin; refine wpList_pushm w2 (wr.alloc (.cells #[sv s, .int .i64 t, .int .i64 1, .int .i64 d] 48)) (by rfl) (.tmp 28) (.tmp 32) 26 (by rfl) w2.heap.size 48 j0 _ 4 40 Tryz.underlying26 ji jz0 jz1 jz2 rfl (by decide) _ _ _ (by rfl) HOa.out (jbC (s, 2, 1, 0)) (wr.heap.size + 1) (by simp) (by rfl) rfl (one_stop s) h63.out hby.out hza.out Hba.out ?_; intro A8 c8 w4 hown4 hbel4 hg4 hat4) | fail)
        go_roundw
        case rel =>
          have hll : (stopsQ (q.take (m + 1))).length = L.length + 1 := by rw [HS2.out]; simp
          refine ⟨m + 1, A8, c8, by omega, by go_num, by rw [hll], ?_, hbel4⟩
          rw [hll, HS2.out, jbsC_app, jbsC_one]
          exact hown4
        case measure => simp [intOf]; omega
      · have rb : (r == 1) = false := by simpa using r1
        have HS2 := Lib.hid (show stopsQ (q.take (m + 1)) = L by rw [HSu.out, rb]; simp)
        clear r1
        go_wp2_with fail
        go_roundw
        case rel => exact ⟨m + 1, A9, c9, by omega, by go_num, by rw [HS2.out], by rw [HS2.out]; exact own_alloc HO.out _, HBl.out.alloc hzb _⟩
        case measure => simp [intOf]; omega
    · have hmq' : m = q.length := by omega
      have htk : stopsQ (q.take m) = stopsQ q := by rw [hmq', List.take_length]
      rw [htk] at HO ⊢
      have hall := stops_all q
      have hokl := stops_okJs HQ.out.ok
      generalize stopsQ q = l at HO hall hokl ⊢
      have HL : Hid (QIn wr A9 c9 l) := ⟨own_rd' HO.out, hokl, (own_cap HO.out).1⟩
      have HAll := Lib.hid hall
      clear HO hall hokl htk HBl
      clear HQ
      obtain ⟨w8, rfl⟩ : ∃ wo : World, wo = wr := ⟨_, rfl⟩
      cases d30 : decide ((30 : Int) < (l.length : Int))
      · cases d300 : decide ((300 : Int) < (picks.length : Int))
        · have h30 : ¬ (30 : Int) < (l.length : Int) := by simpa using d30
          go_wp2_with fail
          refine (small_any An Ae cn ce ns es w8).mono ?_
          rintro e w3 ⟨rfl, hb⟩
          replace c0 := cellAt c0 hb (by omega)
          replace c1 := cellAt c1 hb (by omega)
          replace HG := Lib.hid (HG.out.at hb)
          replace HFl := Lib.hid (HFl.out.at hb)
          replace HP := Lib.hid (HP.out.at hb)
          replace nw1 : w.heap.size < w3.heap.size := ltAt nw1 hb
          replace HB := Lib.hid (lift HB.out hb)
          replace HL := Lib.hid (HL.out.at hb)
          clear hb
          cases hsm : smallB ns es
          · go_wp2_with fail
            go_ret
            exact ⟨rfl, HB.out⟩
          · have hs2 := smallB_iff.1 hsm
            have hl1 := hs2.1
            have hl2 := hs2.2
            clear hs2
            go_wp2_with fail
            refine (SoundQ_any An Ae cn ce ns es A9 c9 l w3 (HG.out.q (by omega) (by omega)) HL.out (by omega)).mono ?_
            rintro e w4 ⟨rfl, hb⟩
            replace c0 := cellAt c0 hb (by omega)
            replace c1 := cellAt c1 hb (by omega)
            replace HG := Lib.hid (HG.out.at hb)
            replace HFl := Lib.hid (HFl.out.at hb)
            replace HP := Lib.hid (HP.out.at hb)
            replace nw1 : w.heap.size < w4.heap.size := ltAt nw1 hb
            replace HB := Lib.hid (lift HB.out hb)
            replace HL := Lib.hid (HL.out.at hb)
            clear hb
            cases hsd : soundQ ns es l
            · go_wp2_with fail
              go_ret
              exact ⟨rfl, HB.out⟩
            · obtain ⟨hs1, hs2, hs3⟩ := stops_trace (fails := fails) (picks := picks) hsd HAll.out
              generalize hx1 : trR es fails picks l = x at *
              have HX1 := Lib.hid hx1
              have HS1 := Lib.hid hs1
              have HS2 := Lib.hid hs2
              have HS3 := Lib.hid hs3
              have hxl : x.length ≤ 30 := by omega
              clear hx1 hs1 hs2 hs3
              go_wp2_with fail
              refine (TraceW_any An Ae ns.length cn ce es A9 c9 l Af cf fails Ap cp picks w4 HG.out.re HL.out HFl.out HP.out (by omega) (by omega) (by omega)).mono ?_
              rw [HX1.out]
              rintro e x5 ⟨A7, c7, rfl, hc7, hr7, hb⟩
              have HR7 := Lib.hid hr7
              replace c0 := cellAt c0 hb (by omega)
              replace c1 := cellAt c1 hb (by omega)
              replace HG := Lib.hid (HG.out.at hb)
              replace HFl := Lib.hid (HFl.out.at hb)
              replace HP := Lib.hid (HP.out.at hb)
              replace nw1 : w.heap.size < x5.heap.size := ltAt nw1 hb
              replace HB := Lib.hid (lift HB.out hb)
              replace HL := Lib.hid (HL.out.at hb)
              clear hb hr7
              go_wp2_with fail
              go_loopw [61] (fun i wr => ∃ m : Nat, m ≤ x.length ∧ i = .int .i64 m ∧ Below x5.heap.size x5 wr) (fun i _ => x.length - (intOf i).toNat)
              case atStart => exact ⟨0, Nat.zero_le _, rfl, Below.refl _ _⟩
              case round =>
                obtain ⟨m, hmq, rfl, hb⟩ := hrel
                have HBl := Lib.hid hb
                replace c0 := cellAt c0 hb (by omega)
                replace c1 := cellAt c1 hb (by omega)
                replace HG := Lib.hid (HG.out.at hb)
                replace HFl := Lib.hid (HFl.out.at hb)
                replace HP := Lib.hid (HP.out.at hb)
                replace nw1 : w.heap.size < wr.heap.size := ltAt nw1 hb
                replace HB := Lib.hid (lift HB.out hb)
                replace HL := Lib.hid (HL.out.at hb)
                replace HR7 := Lib.hid (HR7.out.at hb)
                clear hb
                by_cases hlt : m < x.length
                · obtain ⟨b2, o2, hA, hB2, x0, x1, x2⟩ := HR7.out.node hlt
                  have hrd := HR7.out.dropA (m := m + 1) hlt hc7
                  have hml : (x.drop (m + 1)).length = x.length - (m + 1) := List.length_drop
                  have hs2 := run_slice_tail (P := Tryz.prog) Tryz.underlying37 hi A7 x.length c7 (m + 1) hlt
                  rw [hz1] at hs2
                  rw [show (((m + 1 : Nat)) : Int) = (m : Int) + 1 from by omega, ← hml] at hs2
                  rw [← hml, ndsC_drop] at hrd
                  have kw : IntKind.i64.wrap ((m : Int) + 1) = (m : Int) + 1 := IntWalk.i64_in _ (by omega)
                  have hml2 : (x.drop (m + 1)).length ≤ 30 := by omega
                  have hcl := pw_drop HS3.out hlt
                  have hd1 := HS2.out _ (List.getElem_mem hlt)
                  generalize x[m] = z at x0 x1 x2 hcl hd1
                  obtain ⟨s, t, d⟩ := z
                  simp only at x0 x1 x2 hcl hd1
                  subst hd1
                  generalize hAd : dropA A7 c7 (m + 1) 3 = Ad at hs2 hrd
                  generalize hMd : x.drop (m + 1) = M at hs2 hrd hml2 hcl
                  have HCl := Lib.hid hcl
                  have HRd := Lib.hid hrd
                  clear hml hAd hMd hcl hrd
                  have m1 : (0 : Int) ≤ (m : Int) := by omega
                  have m2 : (m : Int) < (x.length : Int) := by omega
                  subst hA
                  obtain ⟨w9, rfl⟩ : ∃ wo : World, wo = wr := ⟨_, rfl⟩
                  go_wp2_with fail
                  first | (refine wp_named ?_; intro W4 hW) | (refine calls_named ?_; intro W4 hW)
                  have B4 : Below w9.heap.size w9 W4 := by rw [hW]; exact (by repeat (first | exact Below.refl _ _ | assumption | refine Below.alloc ?_ (by first | omega | (simp <;> omega)) _ | refine Below.setCell ?_ (by first | omega | (simp <;> omega)) _ | refine Below.drew ?_))
                  replace c0 := cellAt c0 B4 (by omega)
                  replace c1 := cellAt c1 B4 (by omega)
                  replace HG := Lib.hid (HG.out.at B4)
                  replace HFl := Lib.hid (HFl.out.at B4)
                  replace HP := Lib.hid (HP.out.at B4)
                  replace nw1 : w.heap.size < W4.heap.size := ltAt nw1 B4
                  replace HB := Lib.hid (lift HB.out B4)
                  replace HL := Lib.hid (HL.out.at B4)
                  replace HR7 := Lib.hid (HR7.out.at B4)
                  replace HBl := Lib.hid (lift HBl.out B4)
                  replace HRd := Lib.hid (HRd.out.at B4)
                  have nl4 : w9.heap.size < W4.heap.size := by rw [hW]; simp <;> omega
                  have k0 : W4.cell? ⟨w9.heap.size, 0, none⟩ = some (sv s) := by rw [hW]; go_simp
                  have k1 : W4.cell? ⟨w9.heap.size, 1, none⟩ = some (.int .i64 t) := by rw [hW]; go_simp
                  have k2 : W4.cell? ⟨w9.heap.size, 2, none⟩ = some (.int .i64 1) := by rw [hW]; go_simp
                  clear hW
                  clear B4 x0 x1 x2
                  go_wp2_with fail
                  go_loopw [74] (fun i wr => ∃ j : Nat, j ≤ M.length ∧ i = .int .i64 j ∧ Below W4.heap.size W4 wr) (fun i _ => M.length - (intOf i).toNat)
                  case atStart => exact ⟨0, Nat.zero_le _, rfl, Below.refl _ _⟩
                  case round =>
                    obtain ⟨j, hjM, rfl, hb⟩ := hrel
                    have HB7 := Lib.hid hb
                    replace c0 := cellAt c0 hb (by omega)
                    replace c1 := cellAt c1 hb (by omega)
                    replace k0 := cellAt k0 hb (by omega)
                    replace k1 := cellAt k1 hb (by omega)
                    replace k2 := cellAt k2 hb (by omega)
                    replace HG := Lib.hid (HG.out.at hb)
                    replace HFl := Lib.hid (HFl.out.at hb)
                    replace HP := Lib.hid (HP.out.at hb)
                    replace nw1 : w.heap.size < wr.heap.size := ltAt nw1 hb
                    replace HB := Lib.hid (lift HB.out hb)
                    replace HL := Lib.hid (HL.out.at hb)
                    replace HR7 := Lib.hid (HR7.out.at hb)
                    replace HBl := Lib.hid (lift HBl.out hb)
                    replace HRd := Lib.hid (HRd.out.at hb)
                    replace nl4 : w9.heap.size < wr.heap.size := ltAt nl4 hb
                    clear hb
                    by_cases hlt2 : j < M.length
                    · obtain ⟨b3, o3, hA3, hB3, y0, y1, y2⟩ := HRd.out.node hlt2
                      have hc2 := HCl.out _ (List.getElem_mem hlt2)
                      generalize M[j] = z at y0 y1 y2 hc2
                      obtain ⟨s', t', d'⟩ := z
                      simp only at y0 y1 y2 hc2
                      have HC := Lib.hid hc2
                      clear hc2
                      have j1 : (0 : Int) ≤ (j : Int) := by omega
                      have j2 : (j : Int) < (M.length : Int) := by omega
                      subst hA3
                      go_wp2_with fail
                      first | (refine wp_named ?_; intro W5 hW) | (refine calls_named ?_; intro W5 hW)
                      have B5 : Below wr.heap.size wr W5 := by rw [hW]; exact (by repeat (first | exact Below.refl _ _ | assumption | refine Below.alloc ?_ (by first | omega | (simp <;> omega)) _ | refine Below.setCell ?_ (by first | omega | (simp <;> omega)) _ | refine Below.drew ?_))
                      replace c0 := cellAt c0 B5 (by omega)
                      replace c1 := cellAt c1 B5 (by omega)
                      replace k0 := cellAt k0 B5 (by omega)
                      replace k1 := cellAt k1 B5 (by omega)
                      replace k2 := cellAt k2 B5 (by omega)
                      replace HG := Lib.hid (HG.out.at B5)
                      replace HFl := Lib.hid (HFl.out.at B5)
                      replace HP := Lib.hid (HP.out.at B5)
                      replace nw1 : w.heap.size < W5.heap.size := ltAt nw1 B5
                      replace HB := Lib.hid (lift HB.out B5)
                      replace HL := Lib.hid (HL.out.at B5)
                      replace HR7 := Lib.hid (HR7.out.at B5)
                      replace HBl := Lib.hid (lift HBl.out B5)
                      replace HRd := Lib.hid (HRd.out.at B5)
                      replace nl4 : w9.heap.size < W5.heap.size := ltAt nl4 B5
                      replace HB7 := Lib.hid (lift HB7.out B5)
                      have nl5 : wr.heap.size < W5.heap.size := by rw [hW]; simp <;> omega
                      have f0 : W5.cell? ⟨wr.heap.size, 0, none⟩ = some (sv s') := by rw [hW]; go_simp
                      clear hW
                      clear B5 y0 y1 y2
                      have hwl := waitsQ_len es l s
                      try go_wp2_with fail
                      refine wp_region_held_drew (S := fun w' => Below W5.heap.size W5 w') (by kernel_rfl) (Below.drew (Below.refl _ _)) (fun hHeld => ?_)
                      refine tY (i := 0) (v := ?_) rfl ?_ hHeld ?_; rotate_left 1; focus (intro w' hSw; have hCell := fun (b o : Nat) (h : b < W5.heap.size) => hSw.cell (p := ⟨b, o, none⟩) h; clear hSw; go_simp; try with_reducible rfl)
                      (try simp only [Act.put, zn1, zn2, zn3])
                      refine tY (i := 1) (v := ?_) rfl ?_ hHeld ?_; rotate_left 1; focus (intro w' hSw; clear hSw; go_simp; try with_reducible rfl)
                      (try simp only [Act.put, zn1, zn2, zn3])
                      refine tY (i := 2) (v := ?_) rfl ?_ hHeld ?_; rotate_left 1; focus (intro w' hSw; clear hSw; go_simp; try with_reducible rfl)
                      (try simp only [Act.put, zn1, zn2, zn3])
                      refine tY (i := 3) (v := ?_) rfl ?_ hHeld ?_; rotate_left 1; focus (intro w' hSw; have hCell := fun (b o : Nat) (h : b < W5.heap.size) => hSw.cell (p := ⟨b, o, none⟩) h; clear hSw; go_simp; try with_reducible rfl)
                      (try simp only [Act.put, zn1, zn2, zn3])
                      refine tY (i := 5) (v := ?_) rfl ?_ hHeld ?_; rotate_left 1; focus (intro w' hSw; clear hSw; go_simp; try with_reducible rfl)
                      (try simp only [Act.put, zn1, zn2, zn3])
                      refine tY (i := 6) (v := ?_) rfl ?_ hHeld ?_; rotate_left 1; focus (intro w' hSw; have hCell := fun (b o : Nat) (h : b < W5.heap.size) => hSw.cell (p := ⟨b, o, none⟩) h; clear hSw; go_simp; try with_reducible rfl)
                      (try simp only [Act.put, zn1, zn2, zn3])
                      refine ready_one (i := 4) rfl (by kernel_rfl) (fun K hK => ?_)
                      go_simp
                      refine (WaitsQ_any An Ae ns.length cn ce es A9 c9 l s _ (HG.out.at hHeld).re (HL.out.at hHeld).rq (by omega) (by omega) (HL.out.at hHeld).ok).mono ?_
                      rintro e v1 ⟨A5, c5, rfl, ho5, hb⟩
                      have HR5 := Lib.hid (own_rd' ho5)
                      clear ho5
                      refine hK.out _ _ ?_ (fun hHeld2 => ?_)
                      · (try dsimp only); first | exact Below.trans hHeld (Below.mono hb hHeld.size) | exact hHeld | exact Below.drew hHeld | exact (by repeat (first | exact Below.refl _ _ | assumption | refine Below.alloc ?_ (by first | omega | (simp <;> omega)) _ | refine Below.setCell ?_ (by first | omega | (simp <;> omega)) _ | refine Below.drew ?_))
                      clear hK K hHeld; have hHeld := hHeld2; clear hHeld2; (try simp only [Act.put, zn1, zn2, zn3])
                      refine ready_one (i := 7) rfl (by kernel_rfl) (fun K hK => ?_)
                      go_simp
                      refine (HasS_any A5 c5 (waitsQ es l s) s' _ HR5.out (by omega)).mono ?_
                      rw [HC.out]
                      rintro e v2 ⟨rfl, hw2⟩
                      have hb := below_is hw2
                      clear hw2
                      refine hK.out _ _ ?_ (fun hHeld2 => ?_)
                      · (try dsimp only); first | exact Below.trans hHeld (Below.mono hb hHeld.size) | exact hHeld | exact Below.drew hHeld | exact (by repeat (first | exact Below.refl _ _ | assumption | refine Below.alloc ?_ (by first | omega | (simp <;> omega)) _ | refine Below.setCell ?_ (by first | omega | (simp <;> omega)) _ | refine Below.drew ?_))
                      clear hK K hHeld; have hHeld := hHeld2; clear hHeld2; (try simp only [Act.put, zn1, zn2, zn3])
                      refine wpAnyH_done (by kernel_rfl) ?_ _
                      replace c0 := cellAt c0 hHeld (by omega)
                      replace c1 := cellAt c1 hHeld (by omega)
                      replace k0 := cellAt k0 hHeld (by omega)
                      replace k1 := cellAt k1 hHeld (by omega)
                      replace k2 := cellAt k2 hHeld (by omega)
                      replace f0 := cellAt f0 hHeld (by omega)
                      replace HG := Lib.hid (HG.out.at hHeld)
                      replace HFl := Lib.hid (HFl.out.at hHeld)
                      replace HP := Lib.hid (HP.out.at hHeld)
                      replace nw1 : w.heap.size < v2.heap.size := ltAt nw1 hHeld
                      replace HB := Lib.hid (lift HB.out hHeld)
                      replace HL := Lib.hid (HL.out.at hHeld)
                      replace HR7 := Lib.hid (HR7.out.at hHeld)
                      replace HBl := Lib.hid (lift HBl.out hHeld)
                      replace HRd := Lib.hid (HRd.out.at hHeld)
                      replace nl4 : w9.heap.size < v2.heap.size := ltAt nl4 hHeld
                      replace HB7 := Lib.hid (lift HB7.out hHeld)
                      replace nl5 : wr.heap.size < v2.heap.size := ltAt nl5 hHeld
                      clear hHeld
                      go_wp2_with fail
                      go_roundw
                      case rel => exact ⟨j + 1, by omega, by go_num, HB7.out⟩
                      case measure => simp [intOf]; omega
                    · go_wp2_with fail
                      go_roundw
                      case rel => exact ⟨m + 1, by omega, by go_num, HBl.out⟩
                      case measure => simp [intOf]; omega
                · have e1 : ((x.length : Int) == (l.length : Int)) = true := by rw [HS1.out]; simp
                  go_wp2_with fail
                  go_ret
                  exact ⟨rfl, HB.out⟩
        · go_wp2_with fail
          refine (small_any An Ae cn ce ns es w8).mono ?_
          rintro e w3 ⟨rfl, hb⟩
          replace c0 := cellAt c0 hb (by omega)
          replace c1 := cellAt c1 hb (by omega)
          replace HG := Lib.hid (HG.out.at hb)
          replace HFl := Lib.hid (HFl.out.at hb)
          replace HP := Lib.hid (HP.out.at hb)
          replace nw1 : w.heap.size < w3.heap.size := ltAt nw1 hb
          replace HB := Lib.hid (lift HB.out hb)
          replace HL := Lib.hid (HL.out.at hb)
          clear hb
          cases hsm : smallB ns es
          · go_wp2_with fail
            go_ret
            exact ⟨rfl, HB.out⟩
          · go_wp2_with fail
            go_ret
            exact ⟨rfl, HB.out⟩
      · go_wp2_with fail
        refine (small_any An Ae cn ce ns es w8).mono ?_
        rintro e w3 ⟨rfl, hb⟩
        replace c0 := cellAt c0 hb (by omega)
        replace c1 := cellAt c1 hb (by omega)
        replace HG := Lib.hid (HG.out.at hb)
        replace HFl := Lib.hid (HFl.out.at hb)
        replace HP := Lib.hid (HP.out.at hb)
        replace nw1 : w.heap.size < w3.heap.size := ltAt nw1 hb
        replace HB := Lib.hid (lift HB.out hb)
        replace HL := Lib.hid (HL.out.at hb)
        clear hb
        cases hsm : smallB ns es
        · go_wp2_with fail
          go_ret
          exact ⟨rfl, HB.out⟩
        · go_wp2_with fail
          go_ret
          exact ⟨rfl, HB.out⟩
end Od
end Go.Proofs.YtmlogmcnblgnbaaGreat
end
