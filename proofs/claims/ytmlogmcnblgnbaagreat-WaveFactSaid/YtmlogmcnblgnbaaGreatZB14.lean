/- My texts, joined for the claim: WAll WTell WAllT. -/
import Derived.Test.YtmlogmcnblgnbaaGreatZB0
import Derived.Test.YtmlogmcnblgnbaaGreatZB12
import Derived.Test.YtmlogmcnblgnbaaGreatZB11
import Derived.Test.YtmlogmcnblgnbaaGreatZB9

section
/- The walks of wave.all with Run's and with Trace's closure; wave.Run, wave.Trace. (bel2) -/
namespace Go.Proofs.YtmlogmcnblgnbaaGreat
open Go.RowKit Go.Sort
set_option linter.unusedSimpArgs false

namespace Od
theorem mayQ.okW {q : List Jb} (h : mayQ q = true) : OkJs q := fun j hj => by
  have h1 := (mayJ_iff.1 ((mayQ_iff.1 h).2.1 j hj)).1
  unfold kindS at h1
  split at h1
  · exact absurd rfl h1
  · rename_i hb
    unfold badName at hb
    simp only [Bool.or_eq_true, not_or, decide_eq_true_eq] at hb
    have := hb.1
    omega
theorem tellRun_any (u : Str) (v : Value) (w : World) : Calls Tryz.prog 55 #[sv u, v] w fun e w' => e = .returned (.tuple #[]) ∧ Below w.heap.size w w' := by
  go_enter Tryz.func55, Tryz.ntmps55
  go_wp2_with fail
  refine bodyPost_end (results_none rfl _ _ _) rfl ?_
  exact ⟨rfl, Below.refl _ _⟩
theorem tmod_in (p : Int) {n : Nat} (h : 0 < n) : -(n : Int) < p.tmod n ∧ p.tmod n < n := by
  have h1 := Int.emod_nonneg p (b := (n : Int)) (by omega)
  have h3 := Int.emod_lt_of_pos p (b := (n : Int)) (by omega)
  have h2 : p.tmod n = p % n ∨ p.tmod n = p % n - n := by
    rw [Int.tmod_eq_emod]
    split
    · left; omega
    · right
      simp only [Int.natAbs_natCast] at *
  rcases h2 with h2 | h2
  · rw [h2]; exact ⟨by omega, h3⟩
  · rw [h2]
    refine ⟨?_, by omega⟩
    rcases Int.lt_or_eq_of_le h1 with h | h
    · omega
    · exfalso
      have : p.tmod n = 0 := by
        have hd : (n : Int) ∣ p := Int.dvd_of_emod_eq_zero h.symm
        exact Int.tmod_eq_zero_of_dvd hd
      omega
set_option maxRecDepth 100000 in
set_option maxHeartbeats 16000000 in
theorem allRun_any (An Ae : Option Addr) (nn cn ce : Nat) (es : List Ed) (A : Option Addr) (c : Nat) (q : List Jb) (Af : Option Addr) (cf : Nat) (fails : List Str) (Ap : Option Addr) (cp : Nat) (picks : List Int) (w : World) (hr : Rd w w.heap.size 3 Ae es.length (edsC es)) (hq : QIn w A c q) (hf : Rd w w.heap.size 1 Af fails.length (svs fails)) (hp : Rd w w.heap.size 1 Ap picks.length (ints picks)) (hl : es.length ≤ 100000) (hlq : q.length ≤ 1000) (hlf : fails.length ≤ 140737488355328) :
    Calls Tryz.prog 54 #[gV An nn cn Ae es.length ce, .slice A q.length c, .slice Af fails.length cf, .slice Ap picks.length cp, .func (.func 55) #[] #[]] w (RdIs 4 (runR es fails picks q).length (jbsC (runR es fails picks q)) w) := by
  have Hr := Lib.hid hr
  have HQ := Lib.hid hq
  have HFl := Lib.hid hf
  have HP := Lib.hid hp
  have eg := (enters_of Tryz.func55 (by kernel_rfl) rfl : ∀ (args : Array Value) (W : World), (callFunc 55 args).run Tryz.prog W = .ok (.enter 55 args) W)
  clear hr hq hf hp
  go_enter Tryz.func54, Tryz.ntmps54
  go_wp2_with fail
  first | (refine wp_named ?_; intro W1 hW) | (refine calls_named ?_; intro W1 hW)
  have B1 : Below w.heap.size w W1 := by rw [hW]; exact (by repeat (first | exact Below.refl _ _ | assumption | refine Below.alloc ?_ (by first | omega | (simp <;> omega)) _ | refine Below.setCell ?_ (by first | omega | (simp <;> omega)) _ | refine Below.drew ?_))
  replace Hr := Lib.hid (Hr.out.at B1)
  replace HQ := Lib.hid (HQ.out.at B1)
  replace HFl := Lib.hid (HFl.out.at B1)
  replace HP := Lib.hid (HP.out.at B1)
  have n1 : w.heap.size < W1.heap.size := by rw [hW]; simp <;> omega
  have g0 : W1.cell? ⟨w.heap.size, 0, none⟩ = some (.slice An nn cn) := by rw [hW]; go_simp
  have g1 : W1.cell? ⟨w.heap.size, 1, none⟩ = some (.slice Ae es.length ce) := by rw [hW]; go_simp
  clear hW
  have HB := Lib.hid B1
  clear B1
  refine (MayQ_any A c q W1 HQ.out.rq (by omega) HQ.out.ok).mono ?_
  rintro e w2 ⟨rfl, hb⟩
  replace g0 := cellAt g0 hb (by omega)
  replace g1 := cellAt g1 hb (by omega)
  replace Hr := Lib.hid (Hr.out.at hb)
  replace HQ := Lib.hid (HQ.out.at hb)
  replace HFl := Lib.hid (HFl.out.at hb)
  replace HP := Lib.hid (HP.out.at hb)
  replace n1 : w.heap.size < w2.heap.size := ltAt n1 hb
  replace HB := Lib.hid (lift HB.out hb)
  clear hb
  cases hm : mayQ q
  · have HE := Lib.hid (show runR es fails picks q = [] by unfold runR; rw [hm]; rfl)
    go_wp2_with fail
    go_ret
    rw [HE.out]
    exact ⟨none, 0, rfl, Nat.le_refl _, Rd.none_, HB.out⟩
  · have HM := Lib.hid hm
    clear hm
    go_wp2_with fail
    refine (cloneJ_own A c q w2 HQ.out.rq (by omega)).mono ?_
    rintro e w3 ⟨A3, c3, rfl, ho3, hb⟩
    have HX0 : Hid (QIn w3 A3 c3 q) := ⟨own_rd' ho3, HQ.out.ok, (own_cap ho3).1⟩
    replace g0 := cellAt g0 hb (by omega)
    replace g1 := cellAt g1 hb (by omega)
    replace Hr := Lib.hid (Hr.out.at hb)
    replace HQ := Lib.hid (HQ.out.at hb)
    replace HFl := Lib.hid (HFl.out.at hb)
    replace HP := Lib.hid (HP.out.at hb)
    replace n1 : w.heap.size < w3.heap.size := ltAt n1 hb
    replace HB := Lib.hid (lift HB.out hb)
    clear hb ho3
    go_wp2_with fail
    go_loopw [1, 11] (fun v i wr => ∃ (m : Nat) (x : List Jb) (A1 : Option Addr) (c1 : Nat) (o : List Nd), v = .slice A1 x.length c1 ∧ i = .int .i64 m ∧ Hid (Far es fails picks q m x o) ∧ Hid (QIn wr A1 c1 x) ∧ Below w3.heap.size w3 wr) (fun _ i _ => 4 * q.length + 1 - (intOf i).toNat)
    case atStart => exact ⟨0, q, A3, c3, [], rfl, rfl, Far.zero HM.out, HX0, Below.refl _ _⟩
    case round =>
      obtain ⟨m, x, A1, c1, o, rfl, rfl, hfar, HX, hb⟩ := hrel
      have HBl := Lib.hid hb
      replace g0 := cellAt g0 hb (by omega)
      replace g1 := cellAt g1 hb (by omega)
      replace Hr := Lib.hid (Hr.out.at hb)
      replace HQ := Lib.hid (HQ.out.at hb)
      replace HFl := Lib.hid (HFl.out.at hb)
      replace HP := Lib.hid (HP.out.at hb)
      replace n1 : w.heap.size < wr.heap.size := ltAt n1 hb
      replace HB := Lib.hid (lift HB.out hb)
      clear hb HX0
      have hxl : x.length ≤ 1000 := by have := hfar.out.len; omega
      have hml := hfar.out.lt
      have hsl := stepsQ_len es x
      go_wp2_with fail
      refine (StepsW_any An Ae nn cn ce es A1 c1 x wr Hr.out HX.out (by omega) (by omega)).mono ?_
      rintro e w4 ⟨A4, c4, rfl, ho4, hb⟩
      have HR4 := Lib.hid (own_rd' ho4)
      replace g0 := cellAt g0 hb (by omega)
      replace g1 := cellAt g1 hb (by omega)
      replace Hr := Lib.hid (Hr.out.at hb)
      replace HQ := Lib.hid (HQ.out.at hb)
      replace HFl := Lib.hid (HFl.out.at hb)
      replace HP := Lib.hid (HP.out.at hb)
      replace n1 : w.heap.size < w4.heap.size := ltAt n1 hb
      replace HB := Lib.hid (lift HB.out hb)
      replace HBl := Lib.hid (lift HBl.out hb)
      replace HX := Lib.hid (HX.out.at hb)
      clear hb ho4
      by_cases hn : stepsQ es x = []
      · have HE := Lib.hid (show runR es fails picks q = x by unfold runR; rw [if_pos HM.out, hfar.out.end_ HM.out hn])
        rw [hn]
        simp only [List.length_nil]
        clear hn
        go_wp2_with fail
        go_ret
        rw [HE.out]
        exact ⟨A1, c1, rfl, HX.out.cap, HX.out.rq, HB.out⟩
      · obtain ⟨hk, y, hst, hfy, _⟩ := hfar.out.step hn
        generalize hL : stepsQ es x = L at *
        have hpos : 0 < L.length := List.length_pos_iff.2 hn
        have hne : ((L.length : Int) == 0) = false := by rw [beq_eq_false_iff_ne]; omega
        obtain ⟨b4, o4, hA4, hB4, z0⟩ := HR4.out.str hk
        have hpk : pickW picks m L.length = (match picks[m]? with | none => 0 | some p => (p % (L.length : Int)).toNat) := rfl
        generalize pickW picks m L.length = k at *
        generalize L[k] = u at *
        have HSt := Lib.hid hst
        have HFar := Lib.hid hfy
        have HPk := Lib.hid hpk
        have HL := Lib.hid hL
        clear hst hfy hpk hL hn hfar
        have k1 : (0 : Int) ≤ (k : Int) := by omega
        have k2 : (k : Int) < (L.length : Int) := by omega
        subst hA4
        by_cases hmp : m < picks.length
        · obtain ⟨b6, o6, hA6, hB6, hc6⟩ := HP.out.open (by omega)
          have p0 := (hc6 m (by omega)).trans (ints_at hmp)
          have hpk2 : k = (picks[m] % (L.length : Int)).toNat := by rw [HPk.out, List.getElem?_eq_getElem hmp]
          generalize picks[m] = p at p0 hpk2
          have hmod := go_mod p hpos
          rw [← hpk2] at hmod
          have HMod := Lib.hid hmod
          have m1 : (0 : Int) ≤ (m : Int) := by omega
          have m2 : (m : Int) < (picks.length : Int) := by omega
          clear hmod hpk2 hc6
          subst hA6
          have hw0 := tmod_in p hpos
          have hw1 : IntKind.i64.wrap (p.tmod (L.length : Int) + (L.length : Int)) = p.tmod (L.length : Int) + (L.length : Int) := IntWalk.i64_in _ (by omega)
          have hw2 : (p.tmod (L.length : Int) + (L.length : Int)).tmod (L.length : Int) = (k : Int) := HMod.out
          clear hw0
          go_wp2_with fail
          try go_wp2_with fail
          refine wp_region_held_drew (S := fun w' => Below w4.heap.size w4 w') (by kernel_rfl) (Below.drew (Below.refl _ _)) (fun hHeld => ?_)
          refine tY (i := 0) (v := ?_) rfl ?_ hHeld ?_; rotate_left 1; focus (intro w' hSw; have hCell := fun (b o : Nat) (h : b < w4.heap.size) => hSw.cell (p := ⟨b, o, none⟩) h; clear hSw; go_simp; try with_reducible rfl)
          (try simp only [Act.put, zn1, zn2, zn3])
          refine tY (i := 1) (v := ?_) rfl ?_ hHeld ?_; rotate_left 1; focus (intro w' hSw; clear hSw; go_simp; try with_reducible rfl)
          (try simp only [Act.put, zn1, zn2, zn3])
          refine tY (i := 2) (v := ?_) rfl ?_ hHeld ?_; rotate_left 1; focus (intro w' hSw; clear hSw; go_simp; try with_reducible rfl)
          (try simp only [Act.put, zn1, zn2, zn3])
          refine tY (i := 3) (v := ?_) rfl ?_ hHeld ?_; rotate_left 1; focus (intro w' hSw; clear hSw; go_simp; try with_reducible rfl)
          (try simp only [Act.put, zn1, zn2, zn3])
          refine tY (i := 4) (v := ?_) rfl ?_ hHeld ?_; rotate_left 1; focus (intro w' hSw; clear hSw; go_simp; try with_reducible rfl)
          (try simp only [Act.put, zn1, zn2, zn3])
          refine tY (i := 5) (v := ?_) rfl ?_ hHeld ?_; rotate_left 1; focus (intro w' hSw; clear hSw; go_simp; try with_reducible rfl)
          (try simp only [Act.put, zn1, zn2, zn3])
          refine tY (i := 6) (v := ?_) rfl ?_ hHeld ?_; rotate_left 1; focus (intro w' hSw; have hCell := fun (b o : Nat) (h : b < w4.heap.size) => hSw.cell (p := ⟨b, o, none⟩) h; clear hSw; go_simp; try with_reducible rfl)
          (try simp only [Act.put, zn1, zn2, zn3])
          refine ready_one (i := 7) rfl (by kernel_rfl) (fun K hK => ?_)
          go_simp
          refine (StepW_any An Ae nn cn ce es A1 c1 x Af cf fails u _ (Hr.out.at hHeld) (HX.out.at hHeld) (HFl.out.at hHeld) hl (by omega) hlf).mono ?_
          rw [HSt.out]
          rintro e w5 ⟨A5, c5, rfl, hc5, hr5, hf5, hb⟩
          have HY := Lib.hid (And.intro hc5 hr5)
          clear hc5 hr5 hf5
          refine hK.out _ _ ?_ (fun hHeld2 => ?_)
          · (try dsimp only); first | exact Below.trans hHeld (Below.mono hb hHeld.size) | exact hHeld | exact Below.drew hHeld | exact (by repeat (first | exact Below.refl _ _ | assumption | refine Below.alloc ?_ (by first | omega | (simp <;> omega)) _ | refine Below.setCell ?_ (by first | omega | (simp <;> omega)) _ | refine Below.drew ?_))
          clear hK K hHeld; have hHeld := hHeld2; clear hHeld2; (try simp only [Act.put, zn1, zn2, zn3])
          refine tY (i := 8) (v := ?_) rfl ?_ hHeld ?_; rotate_left 1; focus (intro w' hSw; clear hSw; go_simp; try with_reducible rfl)
          (try simp only [Act.put, zn1, zn2, zn3])
          refine tY (i := 9) (v := ?_) rfl ?_ hHeld ?_; rotate_left 1; focus (intro w' hSw; clear hSw; go_simp; try with_reducible rfl)
          (try simp only [Act.put, zn1, zn2, zn3])
          refine tY (i := 10) (v := ?_) rfl ?_ hHeld ?_; rotate_left 1; focus (intro w' hSw; clear hSw; go_simp; try with_reducible rfl)
          (try simp only [Act.put, zn1, zn2, zn3])
          refine tY (i := 11) (v := ?_) rfl ?_ hHeld ?_; rotate_left 1; focus (intro w' hSw; clear hSw; go_simp; try with_reducible rfl)
          (try simp only [Act.put, zn1, zn2, zn3])
          refine wpAnyH_done (by kernel_rfl) ?_ _
          simp only [Option.getD_some, Option.isSome_some] at HY ⊢
          have HY2 : Hid (QIn w5 A5 c5 y) := ⟨HY.out.2, mayQ.okW HFar.out.may, HY.out.1⟩
          replace g0 := cellAt g0 hHeld (by omega)
          replace g1 := cellAt g1 hHeld (by omega)
          replace z0 := cellAt z0 hHeld (by omega)
          replace Hr := Lib.hid (Hr.out.at hHeld)
          replace HQ := Lib.hid (HQ.out.at hHeld)
          replace HFl := Lib.hid (HFl.out.at hHeld)
          replace HP := Lib.hid (HP.out.at hHeld)
          replace n1 : w.heap.size < w5.heap.size := ltAt n1 hHeld
          replace HB := Lib.hid (lift HB.out hHeld)
          replace HBl := Lib.hid (lift HBl.out hHeld)
          replace HX := Lib.hid (HX.out.at hHeld)
          replace HR4 := Lib.hid (HR4.out.at hHeld)
          replace hB4 : b4 < w5.heap.size := ltAt hB4 hHeld
          clear HY
          go_wp2_with fail
          refine (tellRun_any u (.slice A5 y.length c5) w5).mono ?_
          rintro e w6 ⟨rfl, hb⟩
          replace g0 := cellAt g0 hb (by omega)
          replace g1 := cellAt g1 hb (by omega)
          replace z0 := cellAt z0 hb (by omega)
          replace Hr := Lib.hid (Hr.out.at hb)
          replace HQ := Lib.hid (HQ.out.at hb)
          replace HFl := Lib.hid (HFl.out.at hb)
          replace HP := Lib.hid (HP.out.at hb)
          replace n1 : w.heap.size < w6.heap.size := ltAt n1 hb
          replace HB := Lib.hid (lift HB.out hb)
          replace HBl := Lib.hid (lift HBl.out hb)
          replace HX := Lib.hid (HX.out.at hb)
          replace HR4 := Lib.hid (HR4.out.at hb)
          replace hB4 : b4 < w6.heap.size := ltAt hB4 hb
          replace HY2 := Lib.hid (HY2.out.at hb)
          clear hb
          go_wp2_with fail
          go_roundw
          case rel => exact ⟨m + 1, y, A5, c5, o ++ endedOf y u, rfl, by go_num, HFar, HY2, HBl.out⟩
          case measure => simp [intOf]; omega
        · have hk0 : k = 0 := by rw [HPk.out, List.getElem?_eq_none (by omega)]
          subst hk0
          simp only [Nat.add_zero] at z0
          have m2 : decide ((m : Int) < (picks.length : Int)) = false := by rw [decide_eq_false_iff_not]; omega
          go_wp2_with fail
          try go_wp2_with fail
          refine wp_region_held_drew (S := fun w' => Below w4.heap.size w4 w') (by kernel_rfl) (Below.drew (Below.refl _ _)) (fun hHeld => ?_)
          refine tY (i := 0) (v := ?_) rfl ?_ hHeld ?_; rotate_left 1; focus (intro w' hSw; have hCell := fun (b o : Nat) (h : b < w4.heap.size) => hSw.cell (p := ⟨b, o, none⟩) h; clear hSw; go_simp; try with_reducible rfl)
          (try simp only [Act.put, zn1, zn2, zn3])
          refine tY (i := 1) (v := ?_) rfl ?_ hHeld ?_; rotate_left 1; focus (intro w' hSw; clear hSw; go_simp; try with_reducible rfl)
          (try simp only [Act.put, zn1, zn2, zn3])
          refine tY (i := 2) (v := ?_) rfl ?_ hHeld ?_; rotate_left 1; focus (intro w' hSw; clear hSw; go_simp; try with_reducible rfl)
          (try simp only [Act.put, zn1, zn2, zn3])
          refine tY (i := 3) (v := ?_) rfl ?_ hHeld ?_; rotate_left 1; focus (intro w' hSw; clear hSw; go_simp; try with_reducible rfl)
          (try simp only [Act.put, zn1, zn2, zn3])
          refine tY (i := 4) (v := ?_) rfl ?_ hHeld ?_; rotate_left 1; focus (intro w' hSw; clear hSw; go_simp; try with_reducible rfl)
          (try simp only [Act.put, zn1, zn2, zn3])
          refine tY (i := 5) (v := ?_) rfl ?_ hHeld ?_; rotate_left 1; focus (intro w' hSw; clear hSw; go_simp; try with_reducible rfl)
          (try simp only [Act.put, zn1, zn2, zn3])
          refine tY (i := 6) (v := ?_) rfl ?_ hHeld ?_; rotate_left 1; focus (intro w' hSw; have hCell := fun (b o : Nat) (h : b < w4.heap.size) => hSw.cell (p := ⟨b, o, none⟩) h; clear hSw; go_simp; try with_reducible rfl)
          (try simp only [Act.put, zn1, zn2, zn3])
          refine ready_one (i := 7) rfl (by kernel_rfl) (fun K hK => ?_)
          go_simp
          refine (StepW_any An Ae nn cn ce es A1 c1 x Af cf fails u _ (Hr.out.at hHeld) (HX.out.at hHeld) (HFl.out.at hHeld) hl (by omega) hlf).mono ?_
          rw [HSt.out]
          rintro e w5 ⟨A5, c5, rfl, hc5, hr5, hf5, hb⟩
          have HY := Lib.hid (And.intro hc5 hr5)
          clear hc5 hr5 hf5
          refine hK.out _ _ ?_ (fun hHeld2 => ?_)
          · (try dsimp only); first | exact Below.trans hHeld (Below.mono hb hHeld.size) | exact hHeld | exact Below.drew hHeld | exact (by repeat (first | exact Below.refl _ _ | assumption | refine Below.alloc ?_ (by first | omega | (simp <;> omega)) _ | refine Below.setCell ?_ (by first | omega | (simp <;> omega)) _ | refine Below.drew ?_))
          clear hK K hHeld; have hHeld := hHeld2; clear hHeld2; (try simp only [Act.put, zn1, zn2, zn3])
          refine tY (i := 8) (v := ?_) rfl ?_ hHeld ?_; rotate_left 1; focus (intro w' hSw; clear hSw; go_simp; try with_reducible rfl)
          (try simp only [Act.put, zn1, zn2, zn3])
          refine tY (i := 9) (v := ?_) rfl ?_ hHeld ?_; rotate_left 1; focus (intro w' hSw; clear hSw; go_simp; try with_reducible rfl)
          (try simp only [Act.put, zn1, zn2, zn3])
          refine tY (i := 10) (v := ?_) rfl ?_ hHeld ?_; rotate_left 1; focus (intro w' hSw; clear hSw; go_simp; try with_reducible rfl)
          (try simp only [Act.put, zn1, zn2, zn3])
          refine tY (i := 11) (v := ?_) rfl ?_ hHeld ?_; rotate_left 1; focus (intro w' hSw; clear hSw; go_simp; try with_reducible rfl)
          (try simp only [Act.put, zn1, zn2, zn3])
          refine wpAnyH_done (by kernel_rfl) ?_ _
          simp only [Option.getD_some, Option.isSome_some] at HY ⊢
          have HY2 : Hid (QIn w5 A5 c5 y) := ⟨HY.out.2, mayQ.okW HFar.out.may, HY.out.1⟩
          replace g0 := cellAt g0 hHeld (by omega)
          replace g1 := cellAt g1 hHeld (by omega)
          replace z0 := cellAt z0 hHeld (by omega)
          replace Hr := Lib.hid (Hr.out.at hHeld)
          replace HQ := Lib.hid (HQ.out.at hHeld)
          replace HFl := Lib.hid (HFl.out.at hHeld)
          replace HP := Lib.hid (HP.out.at hHeld)
          replace n1 : w.heap.size < w5.heap.size := ltAt n1 hHeld
          replace HB := Lib.hid (lift HB.out hHeld)
          replace HBl := Lib.hid (lift HBl.out hHeld)
          replace HX := Lib.hid (HX.out.at hHeld)
          replace HR4 := Lib.hid (HR4.out.at hHeld)
          replace hB4 : b4 < w5.heap.size := ltAt hB4 hHeld
          clear HY
          go_wp2_with fail
          refine (tellRun_any u (.slice A5 y.length c5) w5).mono ?_
          rintro e w6 ⟨rfl, hb⟩
          replace g0 := cellAt g0 hb (by omega)
          replace g1 := cellAt g1 hb (by omega)
          replace z0 := cellAt z0 hb (by omega)
          replace Hr := Lib.hid (Hr.out.at hb)
          replace HQ := Lib.hid (HQ.out.at hb)
          replace HFl := Lib.hid (HFl.out.at hb)
          replace HP := Lib.hid (HP.out.at hb)
          replace n1 : w.heap.size < w6.heap.size := ltAt n1 hb
          replace HB := Lib.hid (lift HB.out hb)
          replace HBl := Lib.hid (lift HBl.out hb)
          replace HX := Lib.hid (HX.out.at hb)
          replace HR4 := Lib.hid (HR4.out.at hb)
          replace hB4 : b4 < w6.heap.size := ltAt hB4 hb
          replace HY2 := Lib.hid (HY2.out.at hb)
          clear hb
          go_wp2_with fail
          go_roundw
          case rel => exact ⟨m + 1, y, A5, c5, o ++ endedOf y u, rfl, by go_num, HFar, HY2, HBl.out⟩
          case measure => simp [intOf]; omega
set_option maxRecDepth 100000 in
set_option maxHeartbeats 4000000 in
theorem RunW_any (An Ae : Option Addr) (nn cn ce : Nat) (es : List Ed) (A : Option Addr) (c : Nat) (q : List Jb) (Af : Option Addr) (cf : Nat) (fails : List Str) (Ap : Option Addr) (cp : Nat) (picks : List Int) (w : World) (hr : Rd w w.heap.size 3 Ae es.length (edsC es)) (hq : QIn w A c q) (hf : Rd w w.heap.size 1 Af fails.length (svs fails)) (hp : Rd w w.heap.size 1 Ap picks.length (ints picks)) (hl : es.length ≤ 100000) (hlq : q.length ≤ 1000) (hlf : fails.length ≤ 140737488355328) :
    Calls Tryz.prog 24 #[gV An nn cn Ae es.length ce, .slice A q.length c, .slice Af fails.length cf, .slice Ap picks.length cp] w (RdIs 4 (runR es fails picks q).length (jbsC (runR es fails picks q)) w) := by
  have Hr := Lib.hid hr
  have HQ := Lib.hid hq
  have HFl := Lib.hid hf
  have HP := Lib.hid hp
  clear hr hq hf hp
  go_enter Tryz.func24, Tryz.ntmps24
  go_wp2_with fail
  first | (refine wp_named ?_; intro W1 hW) | (refine calls_named ?_; intro W1 hW)
  have B1 : Below w.heap.size w W1 := by rw [hW]; exact (by repeat (first | exact Below.refl _ _ | assumption | refine Below.alloc ?_ (by first | omega | (simp <;> omega)) _ | refine Below.setCell ?_ (by first | omega | (simp <;> omega)) _ | refine Below.drew ?_))
  replace Hr := Lib.hid (Hr.out.at B1)
  replace HQ := Lib.hid (HQ.out.at B1)
  replace HFl := Lib.hid (HFl.out.at B1)
  replace HP := Lib.hid (HP.out.at B1)
  have n1 : w.heap.size < W1.heap.size := by rw [hW]; simp <;> omega
  have g0 : W1.cell? ⟨w.heap.size, 0, none⟩ = some (.slice An nn cn) := by rw [hW]; go_simp
  have g1 : W1.cell? ⟨w.heap.size, 1, none⟩ = some (.slice Ae es.length ce) := by rw [hW]; go_simp
  clear hW
  have HB := Lib.hid B1
  clear B1
  refine (allRun_any An Ae nn cn ce es A c q Af cf fails Ap cp picks W1 Hr.out HQ.out HFl.out HP.out hl hlq hlf).mono ?_
  rintro e w2 ⟨A2, c2, rfl, hc2, hr2, hb⟩
  have HR2 := Lib.hid hr2
  replace g0 := cellAt g0 hb (by omega)
  replace g1 := cellAt g1 hb (by omega)
  replace Hr := Lib.hid (Hr.out.at hb)
  replace HQ := Lib.hid (HQ.out.at hb)
  replace HFl := Lib.hid (HFl.out.at hb)
  replace HP := Lib.hid (HP.out.at hb)
  replace n1 : w.heap.size < w2.heap.size := ltAt n1 hb
  replace HB := Lib.hid (lift HB.out hb)
  clear hb hr2
  go_wp2_with fail
  go_ret
  exact ⟨A2, c2, rfl, hc2, HR2.out, HB.out⟩
end Od
end Go.Proofs.YtmlogmcnblgnbaaGreat
end

section
/- The walk of the closure of wave.Trace: who ended is put behind a row that stands in a cell. (bel2) -/
namespace Go.Proofs.YtmlogmcnblgnbaaGreat
open Go.RowKit Go.Sort
set_option linter.unusedSimpArgs false

namespace Od
/-- The row o of the call's own, in the cell at block pb. -/
structure OutAt (w : World) (B pb : Nat) (o : List Nd) (v : Value) : Prop where
  cell : w.cell? ⟨pb, 0, none⟩ = some v
  fro : w.frozen? ⟨pb, 0, none⟩ = false
  own : w.ownsRow B 50 3 v o.length (ndsC o)
  ne : v.ownBlock ≠ some pb
/-- All blocks of w but the cell's and the row's. -/
def Two (w : World) (pb : Nat) (v : Value) (b : Nat) : Prop := b < w.heap.size ∧ b ≠ pb ∧ v.ownBlock ≠ some b
/-- What a turn of the row leaves: the rest stands; the row lies where it lay, or anew. -/
structure Told2 (w : World) (B pb : Nat) (v : Value) (o : List Nd) (w' : World) : Prop where
  out : ∃ v', OutAt w' B pb o v' ∧ ∀ b, v'.ownBlock = some b → v.ownBlock = some b ∨ w.heap.size ≤ b
  keep : Keeps (Two w pb v) w w'
theorem Told2.on {w w' w'' : World} {B pb : Nat} {v : Value} {o : List Nd} (h : Told2 w B pb v o w') (hb : Below w'.heap.size w' w'') : Told2 w B pb v o w'' := by
  obtain ⟨⟨v', h1, h2⟩, h3⟩ := h
  have hl := cell_blk h1.cell
  simp only at hl
  exact ⟨⟨v', ⟨(hb.cell (p := ⟨pb, 0, none⟩) hl).trans h1.cell, (World.frozen?_of_block (a := ⟨pb, 0, none⟩) (hb.block pb hl)).trans h1.fro, own_on h1.own hb, h1.ne⟩, h2⟩,
    ⟨hb.os.trans h3.os, hb.tape.trans h3.tape, hb.output.trans h3.output, Nat.le_trans h3.size hb.size, fun j hj => (hb.block j (Nat.lt_of_lt_of_le hj.1 h3.size)).trans (h3.block j hj)⟩⟩
theorem one_ndD (n : Nd) : ∀ u ∈ ndC n, u.oneCell' = true := fun u hu => by
  simp only [ndC, List.mem_cons, List.not_mem_nil, or_false] at hu
  rcases hu with rfl | rfl | rfl <;> rfl
/-- The row is turned, and its cell too. -/
theorem Told2.put {w wr W w4 : World} {B pb : Nat} {v v1 : Value} {o o2 : List Nd} {A8 : Option Addr} {c8 : Nat} (hk : Keeps (Two w pb v) w wr) (h1 : OutAt wr B pb o v1) (hv1 : ∀ b, v1.ownBlock = some b → v.ownBlock = some b ∨ w.heap.size ≤ b) (hW : Below wr.heap.size wr W)
    (hown : w4.ownsRow B 50 3 (.slice A8 o2.length c8) o2.length (ndsC o2)) (hg : W.grownBy w4 v1.ownBlock) (hat : (Value.slice A8 o2.length c8).ownBlock = v1.ownBlock ∨ (Value.slice A8 o2.length c8).ownBlock = some (W.heap.size + 1)) :
    Told2 w B pb v o2 (w4.setCell ⟨pb, 0, none⟩ (.slice A8 o2.length c8)) := by
  have hl := cell_blk h1.cell
  simp only at hl
  have hlW : pb < W.heap.size := Nat.lt_of_lt_of_le hl hW.size
  have cW : W.cell? ⟨pb, 0, none⟩ = some v1 := (hW.cell (p := ⟨pb, 0, none⟩) hl).trans h1.cell
  have fW : W.frozen? ⟨pb, 0, none⟩ = false := (World.frozen?_of_block (a := ⟨pb, 0, none⟩) (hW.block pb hl)).trans h1.fro
  have c4 := cell_kept cW hg hlW h1.ne
  have f4 := fro_kept fW hg hlW h1.ne
  have hne : (Value.slice A8 o2.length c8).ownBlock ≠ some pb := by
    rcases hat with h | h
    · rw [h]; exact h1.ne
    · rw [h]; intro e; injection e with e; omega
  have hs1 := hW.size
  have hs2 := hg.size
  refine ⟨⟨_, ⟨World.cell?_setCell_same _ _ _ c4, by rw [World.frozen?_setCell]; exact f4, hown.kept (grownBy_setCell _ _ _) (.inr hne), hne⟩, fun b hb => ?_⟩, ?_⟩
  · rcases hat with h | h
    · exact hv1 b (h.symm.trans hb)
    · rw [h] at hb
      injection hb with hb
      have := hk.size
      exact .inr (by omega)
  · refine ⟨?_, ?_, ?_, ?_, fun j hj => ?_⟩
    · exact (hg.os.trans hW.os).trans hk.os
    · exact (hg.tape.trans hW.tape).trans hk.tape
    · exact (hg.output.trans hW.output).trans hk.output
    · have := hk.size; simp only [World.size_setCell]; omega
    · have hjr : j < wr.heap.size := Nat.lt_of_lt_of_le hj.1 hk.size
      have hjv : some j ≠ v1.ownBlock := fun e => by
        rcases hv1 j e.symm with h | h
        · exact hj.2.2 h
        · have := hj.1; omega
      have e1 : (w4.setCell ⟨pb, 0, none⟩ (.slice A8 o2.length c8)).heap[j]? = w4.heap[j]? := (grownBy_setCell w4 ⟨pb, 0, none⟩ (.slice A8 o2.length c8)).block j (by omega) (fun e => hj.2.1 (by injection e))
      rw [e1, hg.block j (by omega) hjv, hW.block j hjr, hk.block j hj]
def endK (x : List Jb) (u : Str) (m : Nat) : List Nd := ((x.take m).filter (fun j => j.1 == u && j.2.2.1 == 3)).map doneOf
theorem endK_all (x : List Jb) (u : Str) : endK x u x.length = endedOf x u := by unfold endK endedOf; rw [List.take_length]
theorem endK_succ {x : List Jb} {u : Str} {m : Nat} (h : m < x.length) : endK x u (m + 1) = endK x u m ++ (if (x[m].1 == u && x[m].2.2.1 == 3) = true then [doneOf x[m]] else []) := by
  unfold endK
  rw [filter_take_succ h, List.map_append]
  split <;> simp
theorem endK_len (x : List Jb) (u : Str) (m : Nat) : (endK x u m).length ≤ x.length := by
  unfold endK; rw [List.length_map]; exact filter_take_le
theorem infoDn : (Tryz.prog.info? 50).map (fun i => (i.zero, i.size, i.bytes)) = some (some (.agg #[.string ⟨#[]⟩, .int .i64 0, .int .i64 0]), 3, 32) := by kernel_rfl
set_option maxRecDepth 100000 in
set_option maxHeartbeats 16000000 in
theorem tellTrace_any (B pb : Nat) (u : Str) (A : Option Addr) (c : Nat) (x : List Jb) (o : List Nd) (v : Value) (w : World) (hx : QIn w A c x) (hxl : x.length ≤ 1000) (hol : o.length ≤ 100000) (ho : OutAt w B pb o v) (hB : B ≤ pb) (hap : ∀ b o', A = some ⟨b, o', none⟩ → 0 < x.length → Two w pb v b) :
    Calls Tryz.prog 56 #[sv u, .slice A x.length c, .pointer (some ⟨pb, 0, none⟩)] w fun e w' => e = .returned (.tuple #[]) ∧ Told2 w B pb v (o ++ endedOf x u) w' := by
  obtain ⟨i0, hi, hz0, hz1, hz2⟩ := info_parts infoDn
  have HX := Lib.hid hx
  have HO := Lib.hid ho
  have HAp := Lib.hid hap
  have hpl : pb < w.heap.size := cell_blk ho.cell
  clear hx ho hap
  go_enter Tryz.func56, Tryz.ntmps56
  go_wp2_with fail
  go_loopw [9] (fun i wr => ∃ m : Nat, m ≤ x.length ∧ i = .int .i64 m ∧ Hid (Told2 w B pb v (o ++ endK x u m) wr)) (fun i _ => x.length - (intOf i).toNat)
  case atStart => exact ⟨0, Nat.zero_le _, rfl, ⟨v, by simpa [endK] using HO.out, fun b h => .inl h⟩, ⟨rfl, rfl, rfl, Nat.le_refl _, fun _ _ => rfl⟩⟩
  case round =>
    obtain ⟨m, hm, rfl, HT⟩ := hrel
    obtain ⟨v1, ho1, hv1⟩ := HT.out.out
    have hkp := HT.out.keep
    have hsz : w.heap.size ≤ wr.heap.size := hkp.size
    have hel := endK_len x u m
    by_cases hlt : m < x.length
    · obtain ⟨b2, o2, hA, hB2, x0, x1, x2, x3⟩ := HX.out.rq.job hlt
      have htw := HAp.out b2 o2 hA (by omega)
      have hblk : ∀ j, wr.cell? ⟨b2, j, none⟩ = w.cell? ⟨b2, j, none⟩ := fun j => World.cell?_of_block (hkp.block b2 htw)
      have hB3 : b2 < wr.heap.size := by have := htw.1; omega
      subst hA
      have hs := endK_succ (u := u) hlt
      generalize x[m] = z at x0 x1 x2 x3 hs
      obtain ⟨s, t, r, d⟩ := z
      simp only at x0 x1 x2 x3 hs
      replace x0 := (hblk _).trans x0
      replace x1 := (hblk _).trans x1
      replace x2 := (hblk _).trans x2
      replace x3 := (hblk _).trans x3
      have HS := Lib.hid hs
      have HKp := Lib.hid hkp
      have HO1 := Lib.hid ho1
      have HV1 := Lib.hid hv1
      have m1 : (0 : Int) ≤ (m : Int) := by omega
      have m2 : (m : Int) < (x.length : Int) := by omega
      clear hs hkp ho1 hv1 hblk
      cases eu : (s == u && r == 3)
      · have HS2 := Lib.hid (show o ++ endK x u (m + 1) = o ++ endK x u m by rw [HS.out, eu]; simp)
        cases e1 : (s == u)
        · go_wp2_with fail
          go_roundw
          case rel => exact ⟨m + 1, by omega, by go_num, by rw [HS2.out]; exact HT.out.on ((Below.refl _ _).alloc (Nat.le_refl _) _)⟩
          case measure => simp [intOf]; omega
        · have e3 : (r == 3) = false := by rw [e1] at eu; simpa using eu
          go_wp2_with fail
          go_roundw
          case rel => exact ⟨m + 1, by omega, by go_num, by rw [HS2.out]; exact HT.out.on ((Below.refl _ _).alloc (Nat.le_refl _) _)⟩
          case measure => simp [intOf]; omega
      · have hb2 : s = u ∧ r = 3 := by simpa using eu
        obtain ⟨rfl, rfl⟩ := hb2
        have hs2 : o ++ endK x s (m + 1) = (o ++ endK x s m) ++ [(s, t, d)] := by rw [HS.out, eu]; simp [doneOf]
        have hll : (o ++ endK x s m).length ≤ 200000 := by rw [List.length_append]; omega
        generalize o ++ endK x s m = L at *
        have HS2 := Lib.hid hs2
        clear hs2 HS eu
        obtain ⟨A1, c1, hv, _⟩ := own_rd HO1.out.own
        subst hv
        have c0 := HO1.out.cell
        have f0 := HO1.out.fro
        have hpr : pb < wr.heap.size := by omega
        have HW := Lib.hid ((Below.refl wr.heap.size wr).alloc (Nat.le_refl _) (.cells #[sv s, .int .i64 t, .int .i64 3, .int .i64 d] 48))
        have HOa := Lib.hid (own_alloc HO1.out.own (.cells #[sv s, .int .i64 t, .int .i64 3, .int .i64 d] 48))
        have h63 := Lib.hid (show L.length + 1 ≤ maxLen by unfold maxLen; omega)
        have hby := Lib.hid (show (L.length + 1) * 32 ≤ 140737488355328 by omega)
        have hza := Lib.hid (show B ≤ (wr.alloc (.cells #[sv s, .int .i64 t, .int .i64 3, .int .i64 d] 48)).heap.size by simp; omega)
        have hcW := Lib.hid ((HW.out.cell (p := ⟨pb, 0, none⟩) hpr).trans c0)
        have hfW := Lib.hid ((World.frozen?_of_block (a := ⟨pb, 0, none⟩) (HW.out.block pb hpr)).trans f0)
        have hlW := Lib.hid (show pb < (wr.alloc (.cells #[sv s, .int .i64 t, .int .i64 3, .int .i64 d] 48)).heap.size by simp; omega)
        go_wp2_with (first | (at_builtin; refine wpList_pushm (wr.alloc (.cells #[sv s, .int .i64 t, .int .i64 3, .int .i64 d] 48)) (wr.alloc (.cells #[sv s, .int .i64 t, .int .i64 3, .int .i64 d] 48)) (by rfl) (.tmp 22) (.tmp 29) 37 (by rfl) B 50 i0 _ 3 32 Tryz.underlying37 hi hz0 hz1 hz2 rfl (by decide) _ _ _ (by rfl) HOa.out (ndC (s, t, d)) (wr.heap.size + 1) (by simp) (by rfl) rfl (one_ndD (s, t, d)) h63.out hby.out hza.out (Below.refl _ _) ?_; intro A8 c8 w4 hown4 hbel4 hg4 hat4; have c4 := cell_kept hcW.out hg4 hlW.out HO1.out.ne; have f4 := fro_kept hfW.out hg4 hlW.out HO1.out.ne) | fail)
        go_roundw
        case rel =>
          have hl : (L ++ [(s, t, d)]).length = L.length + 1 := by simp
          have hput := Told2.put (A8 := A8) (c8 := c8) (o2 := L ++ [(s, t, d)]) HKp.out HO1.out HV1.out HW.out (by rw [hl]; simpa [ndsC] using hown4) hg4 (by rw [hl]; exact hat4)
          rw [hl] at hput
          exact ⟨m + 1, by omega, by go_num, by rw [HS2.out]; exact hput⟩
        case measure => simp [intOf]; omega
    · obtain rfl : m = x.length := by omega
      rw [endK_all] at HT
      go_wp2_with fail
      refine bodyPost_end (results_none rfl _ _ _) rfl ?_
      exact ⟨rfl, HT.out⟩
theorem Told2.trans {w w1 w2 : World} {B pb : Nat} {v v1 : Value} {o2 : List Nd} (hk : Keeps (Two w pb v) w w1) (hv1 : ∀ b, v1.ownBlock = some b → v.ownBlock = some b ∨ w.heap.size ≤ b) (h : Told2 w1 B pb v1 o2 w2) : Told2 w B pb v o2 w2 := by
  obtain ⟨⟨v2, h1, h2⟩, h3⟩ := h
  refine ⟨⟨v2, h1, fun b hb => ?_⟩, ⟨h3.os.trans hk.os, h3.tape.trans hk.tape, h3.output.trans hk.output, Nat.le_trans hk.size h3.size, fun j hj => ?_⟩⟩
  · rcases h2 b hb with h | h
    · exact hv1 b h
    · exact .inr (Nat.le_trans hk.size h)
  · refine (h3.block j ⟨Nat.lt_of_lt_of_le hj.1 hk.size, hj.2.1, fun e => ?_⟩).trans (hk.block j hj)
    rcases hv1 j e with h | h
    · exact hj.2.2 h
    · have := hj.1; omega
theorem Rd.two {w w' : World} {B pb k n : Nat} {v : Value} {A : Option Addr} {xs : List Value} (h : Rd w B k A n xs) (hk : Keeps (Two w pb v) w w') (ha : ∀ b o, A = some ⟨b, o, none⟩ → 0 < n → Two w pb v b) : Rd w' B k A n xs :=
  ⟨h.1, fun hn => by
    obtain ⟨b, o, e, hb, hc⟩ := h.open hn
    exact ⟨_, e, hb, rfl, fun j hj => (World.cell?_of_block (a := ⟨b, o + j, none⟩) (hk.block b (ha b o e hn))).trans (hc j hj)⟩⟩
end Od
end Go.Proofs.YtmlogmcnblgnbaaGreat
end

section
/- The walk of wave.all with Trace's closure; wave.Trace. (bel2) -/
namespace Go.Proofs.YtmlogmcnblgnbaaGreat
open Go.RowKit Go.Sort
set_option linter.unusedSimpArgs false

namespace Od
theorem OutAt.on {w w' : World} {B pb : Nat} {o : List Nd} {v : Value} (h : OutAt w B pb o v) (hb : Below w.heap.size w w') : OutAt w' B pb o v := by
  have hl := cell_blk h.cell
  simp only at hl
  exact ⟨(hb.cell (p := ⟨pb, 0, none⟩) hl).trans h.cell, (World.frozen?_of_block (a := ⟨pb, 0, none⟩) (hb.block pb hl)).trans h.fro, own_on h.own hb, h.ne⟩
theorem Told2.refl {w : World} {B pb : Nat} {v : Value} {o : List Nd} (h : OutAt w B pb o v) : Told2 w B pb v o w := ⟨⟨v, h, fun _ e => .inl e⟩, ⟨rfl, rfl, rfl, Nat.le_refl _, fun _ _ => rfl⟩⟩
theorem Rd.past {w w' : World} {pb k n : Nat} {A : Option Addr} {xs : List Value} (h : Rd w pb k A n xs) (hk : Keeps (Two w pb (.slice none 0 0)) w w') (hp : pb < w.heap.size) : Rd w' pb k A n xs := by
  refine Rd.two h hk fun b o e hn => ?_
  obtain ⟨b', o', e', hb, _⟩ := h.open hn
  rw [e'] at e
  injection e with e
  injection e with e1 _
  subst e1
  exact ⟨by omega, by omega, fun h => by cases h⟩
theorem Keeps.two {w w1 w2 : World} {pb : Nat} {v : Value} (h : Keeps (Two w pb v) w w1) (hb : Below w1.heap.size w1 w2) : Keeps (Two w pb v) w w2 :=
  h.then (fun _ hj => hj.1) hb
theorem Two.fresh {w w5 : World} {pb n : Nat} {A : Option Addr} {v : Value} {k : Nat} {xs : List Value} (hr : Rd w5 w5.heap.size k A n xs) (hf : FreshA w.heap.size A n) (hp : pb < w.heap.size) (hv : ∀ b, v.ownBlock = some b → b < w.heap.size) : ∀ b o, A = some ⟨b, o, none⟩ → 0 < n → Two w5 pb v b := by
  intro b o e hn
  have h1 := hf hn _ e
  simp only at h1
  obtain ⟨b', o', e', hb, _⟩ := hr.open hn
  rw [e'] at e
  injection e with e
  injection e with e1 _
  subst e1
  exact ⟨hb, by omega, fun h => by have := hv _ h; omega⟩
set_option maxRecDepth 100000 in
set_option maxHeartbeats 16000000 in
theorem allTrace_any (An Ae : Option Addr) (nn cn ce : Nat) (es : List Ed) (A : Option Addr) (c : Nat) (q : List Jb) (Af : Option Addr) (cf : Nat) (fails : List Str) (Ap : Option Addr) (cp : Nat) (picks : List Int) (pb : Nat) (w : World) (hr : Rd w pb 3 Ae es.length (edsC es)) (hq : QIn w A c q) (hf : Rd w pb 1 Af fails.length (svs fails)) (hp : Rd w pb 1 Ap picks.length (ints picks)) (hl : es.length ≤ 100000) (hlq : q.length ≤ 1000) (hlf : fails.length ≤ 140737488355328) (ho : OutAt w pb pb [] (.slice none 0 0)) :
    Calls Tryz.prog 54 #[gV An nn cn Ae es.length ce, .slice A q.length c, .slice Af fails.length cf, .slice Ap picks.length cp, .func (.func 56) #[] #[.pointer (some ⟨pb, 0, none⟩)]] w fun e w' => (∃ v, e = .returned v) ∧ Told2 w pb pb (.slice none 0 0) (trR es fails picks q) w' := by
  have hpl : pb < w.heap.size := cell_blk ho.cell
  have HrP := Lib.hid hr
  have HFlP := Lib.hid hf
  have HPP := Lib.hid hp
  have Hr := Lib.hid (hr.more (Nat.le_of_lt hpl))
  have HQ := Lib.hid hq
  have HFl := Lib.hid (hf.more (Nat.le_of_lt hpl))
  have HP := Lib.hid (hp.more (Nat.le_of_lt hpl))
  have HO := Lib.hid ho
  have eg := (enters_of Tryz.func56 (by kernel_rfl) rfl : ∀ (args : Array Value) (W : World), (callFunc 56 args).run Tryz.prog W = .ok (.enter 56 args) W)
  clear hr hq hf hp ho
  go_enter Tryz.func54, Tryz.ntmps54
  go_wp2_with fail
  first | (refine wp_named ?_; intro W1 hW) | (refine calls_named ?_; intro W1 hW)
  have B1 : Below w.heap.size w W1 := by rw [hW]; exact (by repeat (first | exact Below.refl _ _ | assumption | refine Below.alloc ?_ (by first | omega | (simp <;> omega)) _ | refine Below.setCell ?_ (by first | omega | (simp <;> omega)) _ | refine Below.drew ?_))
  replace Hr := Lib.hid (Hr.out.at B1)
  replace HQ := Lib.hid (HQ.out.at B1)
  replace HFl := Lib.hid (HFl.out.at B1)
  replace HP := Lib.hid (HP.out.at B1)
  have n1 : w.heap.size < W1.heap.size := by rw [hW]; simp <;> omega
  have g0 : W1.cell? ⟨w.heap.size, 0, none⟩ = some (.slice An nn cn) := by rw [hW]; go_simp
  have g1 : W1.cell? ⟨w.heap.size, 1, none⟩ = some (.slice Ae es.length ce) := by rw [hW]; go_simp
  clear hW
  have HB := Lib.hid B1
  clear B1
  refine (MayQ_any A c q W1 HQ.out.rq (by omega) HQ.out.ok).mono ?_
  rintro e w2 ⟨rfl, hb⟩
  replace g0 := cellAt g0 hb (by omega)
  replace g1 := cellAt g1 hb (by omega)
  replace Hr := Lib.hid (Hr.out.at hb)
  replace HQ := Lib.hid (HQ.out.at hb)
  replace HFl := Lib.hid (HFl.out.at hb)
  replace HP := Lib.hid (HP.out.at hb)
  replace n1 : w.heap.size < w2.heap.size := ltAt n1 hb
  replace HB := Lib.hid (lift HB.out hb)
  clear hb
  cases hm : mayQ q
  · have HE := Lib.hid (show trR es fails picks q = [] by unfold trR; rw [hm]; rfl)
    go_wp2_with fail
    go_ret
    rw [HE.out]
    exact ⟨⟨_, rfl⟩, (Told2.refl HO.out).on HB.out⟩
  · have HM := Lib.hid hm
    clear hm
    go_wp2_with fail
    refine (cloneJ_own A c q w2 HQ.out.rq (by omega)).mono ?_
    rintro e w3 ⟨A3, c3, rfl, ho3, hb⟩
    have HX0 : Hid (QIn w3 A3 c3 q) := ⟨own_rd' ho3, HQ.out.ok, (own_cap ho3).1⟩
    replace g0 := cellAt g0 hb (by omega)
    replace g1 := cellAt g1 hb (by omega)
    replace Hr := Lib.hid (Hr.out.at hb)
    replace HQ := Lib.hid (HQ.out.at hb)
    replace HFl := Lib.hid (HFl.out.at hb)
    replace HP := Lib.hid (HP.out.at hb)
    replace n1 : w.heap.size < w3.heap.size := ltAt n1 hb
    replace HB := Lib.hid (lift HB.out hb)
    clear hb ho3
    have hp3 : pb < w3.heap.size := Nat.lt_of_lt_of_le hpl HB.out.size
    have HrP3 := Lib.hid (HrP.out.on (Nat.le_of_lt hpl) HB.out)
    have HFlP3 := Lib.hid (HFlP.out.on (Nat.le_of_lt hpl) HB.out)
    have HPP3 := Lib.hid (HPP.out.on (Nat.le_of_lt hpl) HB.out)
    have HB3 := HB
    have HO3 := Lib.hid (HO.out.on HB.out)
    have hbox : Two w3 pb (.slice none 0 0) w.heap.size := ⟨n1, by omega, fun h => by cases h⟩
    have g0' := g0
    have g1' := g1
    clear HrP HFlP HPP HO
    go_wp2_with fail
    go_loopw [1, 11] (fun v i wr => ∃ (m : Nat) (x : List Jb) (A1 : Option Addr) (c1 : Nat) (o : List Nd), v = .slice A1 x.length c1 ∧ i = .int .i64 m ∧ Hid (Far es fails picks q m x o) ∧ Hid (QIn wr A1 c1 x) ∧ Hid (Told2 w3 pb pb (.slice none 0 0) o wr)) (fun _ i _ => 4 * q.length + 1 - (intOf i).toNat)
    case atStart => exact ⟨0, q, A3, c3, [], rfl, rfl, Far.zero HM.out, HX0, Told2.refl HO3.out⟩
    case round =>
      obtain ⟨m, x, A1, c1, o, rfl, rfl, hfar, HX, HT⟩ := hrel
      obtain ⟨v1, ho1, hv1⟩ := HT.out.out
      have HO1 := Lib.hid ho1
      have HV1 := Lib.hid hv1
      have HKp := Lib.hid HT.out.keep
      have hsz3 : w3.heap.size ≤ wr.heap.size := HKp.out.size
      have hpr : pb < wr.heap.size := by omega
      have hvr : ∀ b, v1.ownBlock = some b → b < wr.heap.size := fun b e => (ho1.own.lt b e).2
      replace Hr := Lib.hid ((Rd.past HrP3.out HKp.out hp3).more (Nat.le_of_lt hpr))
      replace HFl := Lib.hid ((Rd.past HFlP3.out HKp.out hp3).more (Nat.le_of_lt hpr))
      replace HP := Lib.hid ((Rd.past HPP3.out HKp.out hp3).more (Nat.le_of_lt hpr))
      replace g0 := (World.cell?_of_block (a := ⟨w.heap.size, 0, none⟩) (HKp.out.block w.heap.size hbox)).trans g0'
      replace g1 := (World.cell?_of_block (a := ⟨w.heap.size, 1, none⟩) (HKp.out.block w.heap.size hbox)).trans g1'
      replace n1 : w.heap.size < wr.heap.size := Nat.lt_of_lt_of_le n1 hsz3
      have hol : o.length ≤ q.length := hfar.out.over
      clear ho1 hv1 HX0 HB HQ g0' g1'
      have hxl : x.length ≤ 1000 := by have := hfar.out.len; omega
      have hml := hfar.out.lt
      have hsl := stepsQ_len es x
      go_wp2_with fail
      refine (StepsW_any An Ae nn cn ce es A1 c1 x wr Hr.out HX.out (by omega) (by omega)).mono ?_
      rintro e w4 ⟨A4, c4, rfl, ho4, hb⟩
      have HR4 := Lib.hid (own_rd' ho4)
      replace g0 := cellAt g0 hb (by omega)
      replace g1 := cellAt g1 hb (by omega)
      replace Hr := Lib.hid (Hr.out.at hb)
      replace HFl := Lib.hid (HFl.out.at hb)
      replace HP := Lib.hid (HP.out.at hb)
      replace n1 : w.heap.size < w4.heap.size := ltAt n1 hb
      replace HX := Lib.hid (HX.out.at hb)
      replace HT := Lib.hid (HT.out.on hb)
      replace HO1 := Lib.hid (HO1.out.on hb)
      replace HKp := Lib.hid (HKp.out.two hb)
      have hp4 : pb < w4.heap.size := Nat.lt_of_lt_of_le hpr hb.size
      have hv4 : ∀ b, v1.ownBlock = some b → b < w4.heap.size := fun b e => Nat.lt_of_lt_of_le (hvr b e) hb.size
      clear hb ho4 hvr
      by_cases hn : stepsQ es x = []
      · have HE := Lib.hid (show trR es fails picks q = o by unfold trR; rw [if_pos HM.out, hfar.out.end_ HM.out hn])
        rw [hn]
        simp only [List.length_nil]
        clear hn
        go_wp2_with fail
        go_ret
        rw [HE.out]
        exact ⟨⟨_, rfl⟩, Told2.trans (Keeps.of_below (fun _ hj => hj.1) HB3.out) (fun _ e => by cases e) HT.out⟩
      · obtain ⟨hk, y, hst, hfy, _⟩ := hfar.out.step hn
        generalize hL : stepsQ es x = L at *
        have hpos : 0 < L.length := List.length_pos_iff.2 hn
        have hne : ((L.length : Int) == 0) = false := by rw [beq_eq_false_iff_ne]; omega
        obtain ⟨b4, o4, hA4, hB4, z0⟩ := HR4.out.str hk
        have hpk : pickW picks m L.length = (match picks[m]? with | none => 0 | some p => (p % (L.length : Int)).toNat) := rfl
        generalize pickW picks m L.length = k at *
        generalize L[k] = u at *
        have HSt := Lib.hid hst
        have HFar := Lib.hid hfy
        have HPk := Lib.hid hpk
        have HL := Lib.hid hL
        clear hst hfy hpk hL hn hfar
        have k1 : (0 : Int) ≤ (k : Int) := by omega
        have k2 : (k : Int) < (L.length : Int) := by omega
        subst hA4
        by_cases hmp : m < picks.length
        · obtain ⟨b6, o6, hA6, hB6, hc6⟩ := HP.out.open (by omega)
          have p0 := (hc6 m (by omega)).trans (ints_at hmp)
          have hpk2 : k = (picks[m] % (L.length : Int)).toNat := by rw [HPk.out, List.getElem?_eq_getElem hmp]
          generalize picks[m] = p at p0 hpk2
          have hmod := go_mod p hpos
          rw [← hpk2] at hmod
          have HMod := Lib.hid hmod
          have m1 : (0 : Int) ≤ (m : Int) := by omega
          have m2 : (m : Int) < (picks.length : Int) := by omega
          clear hmod hpk2 hc6
          subst hA6
          have hw0 := tmod_in p hpos
          have hw1 : IntKind.i64.wrap (p.tmod (L.length : Int) + (L.length : Int)) = p.tmod (L.length : Int) + (L.length : Int) := IntWalk.i64_in _ (by omega)
          have hw2 : (p.tmod (L.length : Int) + (L.length : Int)).tmod (L.length : Int) = (k : Int) := HMod.out
          clear hw0
          go_wp2_with fail
          try go_wp2_with fail
          refine wp_region_held_drew (S := fun w' => Below w4.heap.size w4 w') (by kernel_rfl) (Below.drew (Below.refl _ _)) (fun hHeld => ?_)
          refine tY (i := 0) (v := ?_) rfl ?_ hHeld ?_; rotate_left 1; focus (intro w' hSw; have hCell := fun (b o : Nat) (h : b < w4.heap.size) => hSw.cell (p := ⟨b, o, none⟩) h; clear hSw; go_simp; try with_reducible rfl)
          (try simp only [Act.put, zn1, zn2, zn3])
          refine tY (i := 1) (v := ?_) rfl ?_ hHeld ?_; rotate_left 1; focus (intro w' hSw; clear hSw; go_simp; try with_reducible rfl)
          (try simp only [Act.put, zn1, zn2, zn3])
          refine tY (i := 2) (v := ?_) rfl ?_ hHeld ?_; rotate_left 1; focus (intro w' hSw; clear hSw; go_simp; try with_reducible rfl)
          (try simp only [Act.put, zn1, zn2, zn3])
          refine tY (i := 3) (v := ?_) rfl ?_ hHeld ?_; rotate_left 1; focus (intro w' hSw; clear hSw; go_simp; try with_reducible rfl)
          (try simp only [Act.put, zn1, zn2, zn3])
          refine tY (i := 4) (v := ?_) rfl ?_ hHeld ?_; rotate_left 1; focus (intro w' hSw; clear hSw; go_simp; try with_reducible rfl)
          (try simp only [Act.put, zn1, zn2, zn3])
          refine tY (i := 5) (v := ?_) rfl ?_ hHeld ?_; rotate_left 1; focus (intro w' hSw; clear hSw; go_simp; try with_reducible rfl)
          (try simp only [Act.put, zn1, zn2, zn3])
          refine tY (i := 6) (v := ?_) rfl ?_ hHeld ?_; rotate_left 1; focus (intro w' hSw; have hCell := fun (b o : Nat) (h : b < w4.heap.size) => hSw.cell (p := ⟨b, o, none⟩) h; clear hSw; go_simp; try with_reducible rfl)
          (try simp only [Act.put, zn1, zn2, zn3])
          refine ready_one (i := 7) rfl (by kernel_rfl) (fun K hK => ?_)
          go_simp
          refine (StepW_any An Ae nn cn ce es A1 c1 x Af cf fails u _ (Hr.out.at hHeld) (HX.out.at hHeld) (HFl.out.at hHeld) hl (by omega) hlf).mono ?_
          rw [HSt.out]
          rintro e w5 ⟨A5, c5, rfl, hc5, hr5, hf5, hb⟩
          have HF5 := Lib.hid (hf5.low hHeld.size)
          have HY := Lib.hid (And.intro hc5 hr5)
          clear hc5 hr5 hf5
          refine hK.out _ _ ?_ (fun hHeld2 => ?_)
          · (try dsimp only); first | exact Below.trans hHeld (Below.mono hb hHeld.size) | exact hHeld | exact Below.drew hHeld | exact (by repeat (first | exact Below.refl _ _ | assumption | refine Below.alloc ?_ (by first | omega | (simp <;> omega)) _ | refine Below.setCell ?_ (by first | omega | (simp <;> omega)) _ | refine Below.drew ?_))
          clear hK K hHeld; have hHeld := hHeld2; clear hHeld2; (try simp only [Act.put, zn1, zn2, zn3])
          refine tY (i := 8) (v := ?_) rfl ?_ hHeld ?_; rotate_left 1; focus (intro w' hSw; clear hSw; go_simp; try with_reducible rfl)
          (try simp only [Act.put, zn1, zn2, zn3])
          refine tY (i := 9) (v := ?_) rfl ?_ hHeld ?_; rotate_left 1; focus (intro w' hSw; clear hSw; go_simp; try with_reducible rfl)
          (try simp only [Act.put, zn1, zn2, zn3])
          refine tY (i := 10) (v := ?_) rfl ?_ hHeld ?_; rotate_left 1; focus (intro w' hSw; clear hSw; go_simp; try with_reducible rfl)
          (try simp only [Act.put, zn1, zn2, zn3])
          refine tY (i := 11) (v := ?_) rfl ?_ hHeld ?_; rotate_left 1; focus (intro w' hSw; clear hSw; go_simp; try with_reducible rfl)
          (try simp only [Act.put, zn1, zn2, zn3])
          refine wpAnyH_done (by kernel_rfl) ?_ _
          simp only [Option.getD_some, Option.isSome_some] at HY HF5 ⊢
          have HY2 : Hid (QIn w5 A5 c5 y) := ⟨HY.out.2, mayQ.okW HFar.out.may, HY.out.1⟩
          have HTwo := Lib.hid (Two.fresh HY.out.2 HF5.out hp4 hv4)
          replace g0 := cellAt g0 hHeld (by omega)
          replace g1 := cellAt g1 hHeld (by omega)
          replace z0 := cellAt z0 hHeld (by omega)
          replace Hr := Lib.hid (Hr.out.at hHeld)
          replace HFl := Lib.hid (HFl.out.at hHeld)
          replace HP := Lib.hid (HP.out.at hHeld)
          replace n1 : w.heap.size < w5.heap.size := ltAt n1 hHeld
          replace HX := Lib.hid (HX.out.at hHeld)
          replace HT := Lib.hid (HT.out.on hHeld)
          replace HO1 := Lib.hid (HO1.out.on hHeld)
          replace HKp := Lib.hid (HKp.out.two hHeld)
          replace HR4 := Lib.hid (HR4.out.at hHeld)
          replace hB4 : b4 < w5.heap.size := ltAt hB4 hHeld
          clear HY
          go_wp2_with fail
          refine (tellTrace_any pb pb u A5 c5 y o v1 w5 HY2.out (by have := HFar.out.len; omega) (by omega) HO1.out (Nat.le_refl _) HTwo.out).mono ?_
          rintro e w6 ⟨rfl, ht6⟩
          have HY6 : Hid (QIn w6 A5 c5 y) := ⟨(Rd.two HY2.out.rq ht6.keep HTwo.out).more ht6.keep.size, HY2.out.ok, HY2.out.cap⟩
          have HT6 := Lib.hid (Told2.trans HKp.out HV1.out ht6)
          clear ht6
          go_wp2_with fail
          go_roundw
          case rel => exact ⟨m + 1, y, A5, c5, o ++ endedOf y u, rfl, by go_num, HFar, HY6, HT6⟩
          case measure => simp [intOf]; omega
        · have hk0 : k = 0 := by rw [HPk.out, List.getElem?_eq_none (by omega)]
          subst hk0
          simp only [Nat.add_zero] at z0
          have m2 : decide ((m : Int) < (picks.length : Int)) = false := by rw [decide_eq_false_iff_not]; omega
          go_wp2_with fail
          try go_wp2_with fail
          refine wp_region_held_drew (S := fun w' => Below w4.heap.size w4 w') (by kernel_rfl) (Below.drew (Below.refl _ _)) (fun hHeld => ?_)
          refine tY (i := 0) (v := ?_) rfl ?_ hHeld ?_; rotate_left 1; focus (intro w' hSw; have hCell := fun (b o : Nat) (h : b < w4.heap.size) => hSw.cell (p := ⟨b, o, none⟩) h; clear hSw; go_simp; try with_reducible rfl)
          (try simp only [Act.put, zn1, zn2, zn3])
          refine tY (i := 1) (v := ?_) rfl ?_ hHeld ?_; rotate_left 1; focus (intro w' hSw; clear hSw; go_simp; try with_reducible rfl)
          (try simp only [Act.put, zn1, zn2, zn3])
          refine tY (i := 2) (v := ?_) rfl ?_ hHeld ?_; rotate_left 1; focus (intro w' hSw; clear hSw; go_simp; try with_reducible rfl)
          (try simp only [Act.put, zn1, zn2, zn3])
          refine tY (i := 3) (v := ?_) rfl ?_ hHeld ?_; rotate_left 1; focus (intro w' hSw; clear hSw; go_simp; try with_reducible rfl)
          (try simp only [Act.put, zn1, zn2, zn3])
          refine tY (i := 4) (v := ?_) rfl ?_ hHeld ?_; rotate_left 1; focus (intro w' hSw; clear hSw; go_simp; try with_reducible rfl)
          (try simp only [Act.put, zn1, zn2, zn3])
          refine tY (i := 5) (v := ?_) rfl ?_ hHeld ?_; rotate_left 1; focus (intro w' hSw; clear hSw; go_simp; try with_reducible rfl)
          (try simp only [Act.put, zn1, zn2, zn3])
          refine tY (i := 6) (v := ?_) rfl ?_ hHeld ?_; rotate_left 1; focus (intro w' hSw; have hCell := fun (b o : Nat) (h : b < w4.heap.size) => hSw.cell (p := ⟨b, o, none⟩) h; clear hSw; go_simp; try with_reducible rfl)
          (try simp only [Act.put, zn1, zn2, zn3])
          refine ready_one (i := 7) rfl (by kernel_rfl) (fun K hK => ?_)
          go_simp
          refine (StepW_any An Ae nn cn ce es A1 c1 x Af cf fails u _ (Hr.out.at hHeld) (HX.out.at hHeld) (HFl.out.at hHeld) hl (by omega) hlf).mono ?_
          rw [HSt.out]
          rintro e w5 ⟨A5, c5, rfl, hc5, hr5, hf5, hb⟩
          have HF5 := Lib.hid (hf5.low hHeld.size)
          have HY := Lib.hid (And.intro hc5 hr5)
          clear hc5 hr5 hf5
          refine hK.out _ _ ?_ (fun hHeld2 => ?_)
          · (try dsimp only); first | exact Below.trans hHeld (Below.mono hb hHeld.size) | exact hHeld | exact Below.drew hHeld | exact (by repeat (first | exact Below.refl _ _ | assumption | refine Below.alloc ?_ (by first | omega | (simp <;> omega)) _ | refine Below.setCell ?_ (by first | omega | (simp <;> omega)) _ | refine Below.drew ?_))
          clear hK K hHeld; have hHeld := hHeld2; clear hHeld2; (try simp only [Act.put, zn1, zn2, zn3])
          refine tY (i := 8) (v := ?_) rfl ?_ hHeld ?_; rotate_left 1; focus (intro w' hSw; clear hSw; go_simp; try with_reducible rfl)
          (try simp only [Act.put, zn1, zn2, zn3])
          refine tY (i := 9) (v := ?_) rfl ?_ hHeld ?_; rotate_left 1; focus (intro w' hSw; clear hSw; go_simp; try with_reducible rfl)
          (try simp only [Act.put, zn1, zn2, zn3])
          refine tY (i := 10) (v := ?_) rfl ?_ hHeld ?_; rotate_left 1; focus (intro w' hSw; clear hSw; go_simp; try with_reducible rfl)
          (try simp only [Act.put, zn1, zn2, zn3])
          refine tY (i := 11) (v := ?_) rfl ?_ hHeld ?_; rotate_left 1; focus (intro w' hSw; clear hSw; go_simp; try with_reducible rfl)
          (try simp only [Act.put, zn1, zn2, zn3])
          refine wpAnyH_done (by kernel_rfl) ?_ _
          simp only [Option.getD_some, Option.isSome_some] at HY HF5 ⊢
          have HY2 : Hid (QIn w5 A5 c5 y) := ⟨HY.out.2, mayQ.okW HFar.out.may, HY.out.1⟩
          have HTwo := Lib.hid (Two.fresh HY.out.2 HF5.out hp4 hv4)
          replace g0 := cellAt g0 hHeld (by omega)
          replace g1 := cellAt g1 hHeld (by omega)
          replace z0 := cellAt z0 hHeld (by omega)
          replace Hr := Lib.hid (Hr.out.at hHeld)
          replace HFl := Lib.hid (HFl.out.at hHeld)
          replace HP := Lib.hid (HP.out.at hHeld)
          replace n1 : w.heap.size < w5.heap.size := ltAt n1 hHeld
          replace HX := Lib.hid (HX.out.at hHeld)
          replace HT := Lib.hid (HT.out.on hHeld)
          replace HO1 := Lib.hid (HO1.out.on hHeld)
          replace HKp := Lib.hid (HKp.out.two hHeld)
          replace HR4 := Lib.hid (HR4.out.at hHeld)
          replace hB4 : b4 < w5.heap.size := ltAt hB4 hHeld
          clear HY
          go_wp2_with fail
          refine (tellTrace_any pb pb u A5 c5 y o v1 w5 HY2.out (by have := HFar.out.len; omega) (by omega) HO1.out (Nat.le_refl _) HTwo.out).mono ?_
          rintro e w6 ⟨rfl, ht6⟩
          have HY6 : Hid (QIn w6 A5 c5 y) := ⟨(Rd.two HY2.out.rq ht6.keep HTwo.out).more ht6.keep.size, HY2.out.ok, HY2.out.cap⟩
          have HT6 := Lib.hid (Told2.trans HKp.out HV1.out ht6)
          clear ht6
          go_wp2_with fail
          go_roundw
          case rel => exact ⟨m + 1, y, A5, c5, o ++ endedOf y u, rfl, by go_num, HFar, HY6, HT6⟩
          case measure => simp [intOf]; omega
set_option maxRecDepth 100000 in
set_option maxHeartbeats 4000000 in
theorem TraceW_any (An Ae : Option Addr) (nn cn ce : Nat) (es : List Ed) (A : Option Addr) (c : Nat) (q : List Jb) (Af : Option Addr) (cf : Nat) (fails : List Str) (Ap : Option Addr) (cp : Nat) (picks : List Int) (w : World) (hr : Rd w w.heap.size 3 Ae es.length (edsC es)) (hq : QIn w A c q) (hf : Rd w w.heap.size 1 Af fails.length (svs fails)) (hp : Rd w w.heap.size 1 Ap picks.length (ints picks)) (hl : es.length ≤ 100000) (hlq : q.length ≤ 1000) (hlf : fails.length ≤ 140737488355328) :
    Calls Tryz.prog 26 #[gV An nn cn Ae es.length ce, .slice A q.length c, .slice Af fails.length cf, .slice Ap picks.length cp] w (RdIs 3 (trR es fails picks q).length (ndsC (trR es fails picks q)) w) := by
  have Hr := Lib.hid hr
  have HQ := Lib.hid hq
  have HFl := Lib.hid hf
  have HP := Lib.hid hp
  clear hr hq hf hp
  have Hr0 := Hr
  have HFl0 := HFl
  have HP0 := HP
  go_enter Tryz.func26, Tryz.ntmps26
  go_wp2_with fail
  first | (refine wp_named ?_; intro W1 hW) | (refine calls_named ?_; intro W1 hW)
  have B1 : Below w.heap.size w W1 := by rw [hW]; exact (by repeat (first | exact Below.refl _ _ | assumption | refine Below.alloc ?_ (by first | omega | (simp <;> omega)) _ | refine Below.setCell ?_ (by first | omega | (simp <;> omega)) _ | refine Below.drew ?_))
  replace HQ := Lib.hid (HQ.out.at B1)
  have n1 : w.heap.size + 1 < W1.heap.size := by rw [hW]; simp <;> omega
  have o0 : W1.cell? ⟨w.heap.size + 1, 0, none⟩ = some (.slice none 0 0) := by rw [hW]; go_simp
  have f0 : W1.frozen? ⟨w.heap.size + 1, 0, none⟩ = false := by rw [hW]; go_simp
  clear hW
  have HB := Lib.hid B1
  have hr1 := (Hr0.out.on (Nat.le_refl _) B1).more (show w.heap.size ≤ w.heap.size + 1 by omega)
  have hf1 := (HFl0.out.on (Nat.le_refl _) B1).more (show w.heap.size ≤ w.heap.size + 1 by omega)
  have hp1 := (HP0.out.on (Nat.le_refl _) B1).more (show w.heap.size ≤ w.heap.size + 1 by omega)
  have ho : OutAt W1 (w.heap.size + 1) (w.heap.size + 1) [] (.slice none 0 0) := ⟨o0, f0, World.ownsRow_nil _ _ _ _, fun h => by cases h⟩
  clear B1
  refine (allTrace_any An Ae nn cn ce es A c q Af cf fails Ap cp picks (w.heap.size + 1) W1 hr1 HQ.out hf1 hp1 hl hlq hlf ho).mono ?_
  rintro e w2 ⟨⟨v, rfl⟩, ht⟩
  obtain ⟨v1, ho1, hv1⟩ := ht.out
  obtain ⟨A1, c1, rfl, hr2⟩ := own_rd ho1.own
  have HR2 := Lib.hid hr2
  have HC := Lib.hid (own_cap ho1.own).1
  have k0 := ho1.cell
  have hk := ht.keep
  have hlow : Below w.heap.size w w2 := by
    have hb := HB.out
    exact ⟨hk.os.trans hb.os, hk.tape.trans hb.tape, hk.output.trans hb.output, Nat.le_trans hb.size hk.size, fun j hj => (hk.block j ⟨Nat.lt_of_lt_of_le hj hb.size, by omega, fun h => by cases h⟩).trans (hb.block j hj)⟩
  have HLow := Lib.hid hlow
  clear hlow hk ht ho1 hv1 hr2 ho hr1 hf1 hp1
  go_wp2_with fail
  go_ret
  exact ⟨A1, c1, rfl, HC.out, HR2.out, HLow.out⟩
end Od
end Go.Proofs.YtmlogmcnblgnbaaGreat
end
