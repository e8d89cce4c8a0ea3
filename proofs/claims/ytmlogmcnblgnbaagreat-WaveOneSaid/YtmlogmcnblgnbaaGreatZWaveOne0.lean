/- My texts, joined for the claim: LvBo. -/
import Derived.Test.YtmlogmcnblgnbaaGreatZB0
import Derived.Test.YtmlogmcnblgnbaaGreatZB15

section
/- The walk of the law WaveOne. (bel2) -/
namespace Go.Proofs.YtmlogmcnblgnbaaGreat
open Go.RowKit Go.Sort
set_option linter.unusedSimpArgs false

namespace Od

set_option maxRecDepth 100000 in
set_option maxHeartbeats 8000000 in
theorem waveOne_any (An Ae : Option Addr) (cn ce : Nat) (ns : List Nd) (es : List Ed) (A : Option Addr) (c : Nat) (q : List Jb) (Af : Option Addr) (cf : Nat) (fails : List Str) (Ap : Option Addr) (cp : Nat) (picks : List Int) (w : World) (hg : GIw w An Ae ns es) (hq : QIn w A c q) (hf : Rd w w.heap.size 1 Af fails.length (svs fails)) (hp : Rd w w.heap.size 1 Ap picks.length (ints picks)) (hlf : fails.length ≤ 140737488351232) :
    Calls Tryz.prog 6 #[gV An ns.length cn Ae es.length ce, .slice A q.length c, .slice Af fails.length cf, .slice Ap picks.length cp] w fun e w' => e = .returned (.bool true) ∧ Below w.heap.size w w' := by
  have HG := Lib.hid hg
  have HQ := Lib.hid hq
  have HFl := Lib.hid hf
  have HP := Lib.hid hp
  clear hg hq hf hp
  cases d30 : decide ((30 : Int) < (q.length : Int))
  · cases d300 : decide ((300 : Int) < (picks.length : Int))
    · have h30 : ¬ (30 : Int) < (q.length : Int) := by simpa using d30
      go_enter Tryz.func6, Tryz.ntmps6
      go_wp2_with fail
      first | (refine wp_named ?_; intro W1 hW) | (refine calls_named ?_; intro W1 hW)
      have B1 : Below w.heap.size w W1 := by rw [hW]; exact (by repeat (first | exact Below.refl _ _ | assumption | refine Below.alloc ?_ (by first | omega | (simp <;> omega)) _ | refine Below.setCell ?_ (by first | omega | (simp <;> omega)) _ | refine Below.drew ?_))
      replace HG := Lib.hid (HG.out.at B1)
      replace HQ := Lib.hid (HQ.out.at B1)
      replace HFl := Lib.hid (HFl.out.at B1)
      replace HP := Lib.hid (HP.out.at B1)
      have nw1 : w.heap.size < W1.heap.size := by rw [hW]; simp <;> omega
      have c0 : W1.cell? ⟨w.heap.size, 0, none⟩ = some (.slice An ns.length cn) := by rw [hW]; go_simp
      have c1 : W1.cell? ⟨w.heap.size, 1, none⟩ = some (.slice Ae es.length ce) := by rw [hW]; go_simp
      clear hW
      have HB := Lib.hid B1
      clear B1
      refine (shown_any W1).mono ?_
      rintro e w2 ⟨rfl, hb⟩
      replace c0 := cellAt c0 hb (by omega)
      replace c1 := cellAt c1 hb (by omega)
      replace HG := Lib.hid (HG.out.at hb)
      replace HQ := Lib.hid (HQ.out.at hb)
      replace HFl := Lib.hid (HFl.out.at hb)
      replace HP := Lib.hid (HP.out.at hb)
      replace nw1 : w.heap.size < w2.heap.size := ltAt nw1 hb
      replace HB := Lib.hid (lift HB.out hb)
      clear hb
      go_wp2_with fail
      refine (small_any An Ae cn ce ns es w2).mono ?_
      rintro e w3 ⟨rfl, hb⟩
      replace c0 := cellAt c0 hb (by omega)
      replace c1 := cellAt c1 hb (by omega)
      replace HG := Lib.hid (HG.out.at hb)
      replace HQ := Lib.hid (HQ.out.at hb)
      replace HFl := Lib.hid (HFl.out.at hb)
      replace HP := Lib.hid (HP.out.at hb)
      replace nw1 : w.heap.size < w3.heap.size := ltAt nw1 hb
      replace HB := Lib.hid (lift HB.out hb)
      clear hb
      cases hsm : smallB ns es
      · go_wp2_with fail
        go_ret
        exact ⟨rfl, HB.out⟩
      · have hs2 := smallB_iff.1 hsm
        have hl1 := hs2.1
        have hl2 := hs2.2
        clear hs2
        have hxl := runR_len es fails picks q
        go_wp2_with fail
        refine (SoundQ_any An Ae cn ce ns es A c q w3 (HG.out.q (by omega) (by omega)) HQ.out (by omega)).mono ?_
        rintro e w4 ⟨rfl, hb⟩
        replace c0 := cellAt c0 hb (by omega)
        replace c1 := cellAt c1 hb (by omega)
        replace HG := Lib.hid (HG.out.at hb)
        replace HQ := Lib.hid (HQ.out.at hb)
        replace HFl := Lib.hid (HFl.out.at hb)
        replace HP := Lib.hid (HP.out.at hb)
        replace nw1 : w.heap.size < w4.heap.size := ltAt nw1 hb
        replace HB := Lib.hid (lift HB.out hb)
        clear hb
        cases hsd : soundQ ns es q
        · go_wp2_with fail
          go_ret
          exact ⟨rfl, HB.out⟩
        · have hrf := run_is_fact (fails := fails) (picks := picks) hsd
          generalize hx : runR es fails picks q = x at *
          have HX := Lib.hid hx
          have HY := Lib.hid hrf.symm
          clear hx hrf
          go_wp2_with fail
          try go_wp2_with fail
          refine wp_region_held_drew (S := fun w' => Below w4.heap.size w4 w') (by kernel_rfl) (Below.drew (Below.refl _ _)) (fun hHeld => ?_)
          refine tY (i := 0) (v := ?_) rfl ?_ hHeld ?_; rotate_left 1; focus (intro w' hSw; have hCell := fun (b o : Nat) (h : b < w4.heap.size) => hSw.cell (p := ⟨b, o, none⟩) h; clear hSw; go_simp; try with_reducible rfl)
          (try simp only [Act.put, zn1, zn2, zn3])
          refine tY (i := 1) (v := ?_) rfl ?_ hHeld ?_; rotate_left 1; focus (intro w' hSw; clear hSw; go_simp; try with_reducible rfl)
          (try simp only [Act.put, zn1, zn2, zn3])
          refine tY (i := 2) (v := ?_) rfl ?_ hHeld ?_; rotate_left 1; focus (intro w' hSw; clear hSw; go_simp; try with_reducible rfl)
          (try simp only [Act.put, zn1, zn2, zn3])
          refine tY (i := 3) (v := ?_) rfl ?_ hHeld ?_; rotate_left 1; focus (intro w' hSw; clear hSw; go_simp; try with_reducible rfl)
          (try simp only [Act.put, zn1, zn2, zn3])
          refine tY (i := 5) (v := ?_) rfl ?_ hHeld ?_; rotate_left 1; focus (intro w' hSw; have hCell := fun (b o : Nat) (h : b < w4.heap.size) => hSw.cell (p := ⟨b, o, none⟩) h; clear hSw; go_simp; try with_reducible rfl)
          (try simp only [Act.put, zn1, zn2, zn3])
          refine tY (i := 6) (v := ?_) rfl ?_ hHeld ?_; rotate_left 1; focus (intro w' hSw; clear hSw; go_simp; try with_reducible rfl)
          (try simp only [Act.put, zn1, zn2, zn3])
          refine tY (i := 7) (v := ?_) rfl ?_ hHeld ?_; rotate_left 1; focus (intro w' hSw; clear hSw; go_simp; try with_reducible rfl)
          (try simp only [Act.put, zn1, zn2, zn3])
          refine ready_one (i := 4) rfl (by kernel_rfl) (fun K hK => ?_)
          go_simp
          refine (RunW_any An Ae ns.length cn ce es A c q Af cf fails Ap cp picks _ (HG.out.at hHeld).re (HQ.out.at hHeld) (HFl.out.at hHeld) (HP.out.at hHeld) (by omega) (by omega) (by omega)).mono ?_
          rw [HX.out]
          rintro e x1 ⟨A5, c5, rfl, hc5, ho5, hb⟩
          have HR5 := Lib.hid ho5
          clear ho5
          refine hK.out _ _ ?_ (fun hHeld2 => ?_)
          · (try dsimp only); first | exact Below.trans hHeld (Below.mono hb hHeld.size) | exact hHeld | exact Below.drew hHeld | exact (by repeat (first | exact Below.refl _ _ | assumption | refine Below.alloc ?_ (by first | omega | (simp <;> omega)) _ | refine Below.setCell ?_ (by first | omega | (simp <;> omega)) _ | refine Below.drew ?_))
          clear hK K hHeld; have hHeld := hHeld2; clear hHeld2; (try simp only [Act.put, zn1, zn2, zn3])
          refine ready_one (i := 8) rfl (by kernel_rfl) (fun K hK => ?_)
          go_simp
          refine (FactW_any An Ae cn ce ns es A c q Af cf fails _ ((HG.out.at hHeld).q (by omega) (by omega)) (HQ.out.at hHeld) (HFl.out.at hHeld) (by omega) (by omega)).mono ?_
          rw [HY.out]
          rintro e x2 ⟨A6, c6, rfl, hc6, ho6, hb⟩
          have HR6 := Lib.hid ho6
          have HR5b := Lib.hid (HR5.out.at hb)
          clear ho6
          refine hK.out _ _ ?_ (fun hHeld2 => ?_)
          · (try dsimp only); first | exact Below.trans hHeld (Below.mono hb hHeld.size) | exact hHeld | exact Below.drew hHeld | exact (by repeat (first | exact Below.refl _ _ | assumption | refine Below.alloc ?_ (by first | omega | (simp <;> omega)) _ | refine Below.setCell ?_ (by first | omega | (simp <;> omega)) _ | refine Below.drew ?_))
          clear hK K hHeld; have hHeld := hHeld2; clear hHeld2; (try simp only [Act.put, zn1, zn2, zn3])
          refine ready_one (i := 9) rfl (by kernel_rfl) (fun K hK => ?_)
          go_simp
          refine (SameJobs_any A5 A6 c5 c6 x x _ HR5b.out HR6.out (by omega)).mono ?_
          rw [decide_eq_true rfl]
          rintro e x3 ⟨rfl, hb⟩
          refine hK.out _ _ ?_ (fun hHeld2 => ?_)
          · (try dsimp only); first | exact Below.trans hHeld (Below.mono hb hHeld.size) | exact hHeld | exact Below.drew hHeld | exact (by repeat (first | exact Below.refl _ _ | assumption | refine Below.alloc ?_ (by first | omega | (simp <;> omega)) _ | refine Below.setCell ?_ (by first | omega | (simp <;> omega)) _ | refine Below.drew ?_))
          clear hK K hHeld; have hHeld := hHeld2; clear hHeld2; (try simp only [Act.put, zn1, zn2, zn3])
          refine tY (i := 10) (v := ?_) rfl ?_ hHeld ?_; rotate_left 1; focus (intro w' hSw; clear hSw; go_simp; try with_reducible rfl)
          (try simp only [Act.put, zn1, zn2, zn3])
          refine wpAnyH_done (by kernel_rfl) ?_ _
          go_wp2_with fail
          go_ret
          exact ⟨rfl, lift HB.out hHeld⟩
    · go_enter Tryz.func6, Tryz.ntmps6
      go_wp2_with fail
      first | (refine wp_named ?_; intro W1 hW) | (refine calls_named ?_; intro W1 hW)
      have B1 : Below w.heap.size w W1 := by rw [hW]; exact (by repeat (first | exact Below.refl _ _ | assumption | refine Below.alloc ?_ (by first | omega | (simp <;> omega)) _ | refine Below.setCell ?_ (by first | omega | (simp <;> omega)) _ | refine Below.drew ?_))
      replace HG := Lib.hid (HG.out.at B1)
      replace HQ := Lib.hid (HQ.out.at B1)
      replace HFl := Lib.hid (HFl.out.at B1)
      replace HP := Lib.hid (HP.out.at B1)
      have nw1 : w.heap.size < W1.heap.size := by rw [hW]; simp <;> omega
      have c0 : W1.cell? ⟨w.heap.size, 0, none⟩ = some (.slice An ns.length cn) := by rw [hW]; go_simp
      have c1 : W1.cell? ⟨w.heap.size, 1, none⟩ = some (.slice Ae es.length ce) := by rw [hW]; go_simp
      clear hW
      have HB := Lib.hid B1
      clear B1
      refine (shown_any W1).mono ?_
      rintro e w2 ⟨rfl, hb⟩
      replace c0 := cellAt c0 hb (by omega)
      replace c1 := cellAt c1 hb (by omega)
      replace HG := Lib.hid (HG.out.at hb)
      replace HQ := Lib.hid (HQ.out.at hb)
      replace HFl := Lib.hid (HFl.out.at hb)
      replace HP := Lib.hid (HP.out.at hb)
      replace nw1 : w.heap.size < w2.heap.size := ltAt nw1 hb
      replace HB := Lib.hid (lift HB.out hb)
      clear hb
      go_wp2_with fail
      refine (small_any An Ae cn ce ns es w2).mono ?_
      rintro e w3 ⟨rfl, hb⟩
      replace c0 := cellAt c0 hb (by omega)
      replace c1 := cellAt c1 hb (by omega)
      replace HG := Lib.hid (HG.out.at hb)
      replace HQ := Lib.hid (HQ.out.at hb)
      replace HFl := Lib.hid (HFl.out.at hb)
      replace HP := Lib.hid (HP.out.at hb)
      replace nw1 : w.heap.size < w3.heap.size := ltAt nw1 hb
      replace HB := Lib.hid (lift HB.out hb)
      clear hb
      cases hsm : smallB ns es
      · go_wp2_with fail
        go_ret
        exact ⟨rfl, HB.out⟩
      · go_wp2_with fail
        go_ret
        exact ⟨rfl, HB.out⟩
  · go_enter Tryz.func6, Tryz.ntmps6
    go_wp2_with fail
    first | (refine wp_named ?_; intro W1 hW) | (refine calls_named ?_; intro W1 hW)
    have B1 : Below w.heap.size w W1 := by rw [hW]; exact (by repeat (first | exact Below.refl _ _ | assumption | refine Below.alloc ?_ (by first | omega | (simp <;> omega)) _ | refine Below.setCell ?_ (by first | omega | (simp <;> omega)) _ | refine Below.drew ?_))
    replace HG := Lib.hid (HG.out.at B1)
    replace HQ := Lib.hid (HQ.out.at B1)
    replace HFl := Lib.hid (HFl.out.at B1)
    replace HP := Lib.hid (HP.out.at B1)
    have nw1 : w.heap.size < W1.heap.size := by rw [hW]; simp <;> omega
    have c0 : W1.cell? ⟨w.heap.size, 0, none⟩ = some (.slice An ns.length cn) := by rw [hW]; go_simp
    have c1 : W1.cell? ⟨w.heap.size, 1, none⟩ = some (.slice Ae es.length ce) := by rw [hW]; go_simp
    clear hW
    have HB := Lib.hid B1
    clear B1
    refine (shown_any W1).mono ?_
    rintro e w2 ⟨rfl, hb⟩
    replace c0 := cellAt c0 hb (by omega)
    replace c1 := cellAt c1 hb (by omega)
    replace HG := Lib.hid (HG.out.at hb)
    replace HQ := Lib.hid (HQ.out.at hb)
    replace HFl := Lib.hid (HFl.out.at hb)
    replace HP := Lib.hid (HP.out.at hb)
    replace nw1 : w.heap.size < w2.heap.size := ltAt nw1 hb
    replace HB := Lib.hid (lift HB.out hb)
    clear hb
    go_wp2_with fail
    refine (small_any An Ae cn ce ns es w2).mono ?_
    rintro e w3 ⟨rfl, hb⟩
    replace c0 := cellAt c0 hb (by omega)
    replace c1 := cellAt c1 hb (by omega)
    replace HG := Lib.hid (HG.out.at hb)
    replace HQ := Lib.hid (HQ.out.at hb)
    replace HFl := Lib.hid (HFl.out.at hb)
    replace HP := Lib.hid (HP.out.at hb)
    replace nw1 : w.heap.size < w3.heap.size := ltAt nw1 hb
    replace HB := Lib.hid (lift HB.out hb)
    clear hb
    cases hsm : smallB ns es
    · go_wp2_with fail
      go_ret
      exact ⟨rfl, HB.out⟩
    · go_wp2_with fail
      go_ret
      exact ⟨rfl, HB.out⟩
end Od
end Go.Proofs.YtmlogmcnblgnbaaGreat
end
