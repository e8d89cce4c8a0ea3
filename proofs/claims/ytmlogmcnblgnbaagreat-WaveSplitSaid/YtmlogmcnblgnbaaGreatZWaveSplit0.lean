/- My texts, joined for the claim: LvH. -/
import Derived.Test.YtmlogmcnblgnbaaGreatZB0
import Derived.Test.YtmlogmcnblgnbaaGreatZB15

section
/- The walk of the law WaveSplit. (bel2) -/
namespace Go.Proofs.YtmlogmcnblgnbaaGreat
open Go.RowKit Go.Sort
set_option linter.unusedSimpArgs false

namespace Od

theorem and31 (x : Int) : 0 ≤ bits .and .i64 x 31 ∧ bits .and .i64 x 31 ≤ 31 := by
  have e : bits .and .i64 x 31 = IntKind.i64.wrap ((BitVec.ofInt 64 x &&& BitVec.ofInt 64 31).toNat : Int) := rfl
  have h : (BitVec.ofInt 64 x &&& BitVec.ofInt 64 31).toNat ≤ 31 := by
    rw [BitVec.toNat_and]
    exact Nat.le_trans Nat.and_le_right (by decide)
  rw [e, IntWalk.i64_in _ (by omega)]
  omega
theorem pick_lt (p : Int) {n : Nat} (h : 0 < n) : (p % (n : Int)).toNat < n := by
  have h1 := Int.emod_nonneg p (b := (n : Int)) (by omega)
  have h2 := Int.emod_lt_of_pos p (b := (n : Int)) (by omega)
  omega
set_option maxRecDepth 100000 in
set_option maxHeartbeats 16000000 in
theorem waveSplit_any (An Ae : Option Addr) (cn ce : Nat) (ns : List Nd) (es : List Ed) (A : Option Addr) (c : Nat) (q : List Jb) (Af : Option Addr) (cf : Nat) (fails : List Str) (steps : Int) (Aa : Option Addr) (ca : Nat) (pa : List Int) (Ab : Option Addr) (cb : Nat) (pb : List Int) (w : World) (hg : GIw w An Ae ns es) (hq : QIn w A c q) (hf : Rd w w.heap.size 1 Af fails.length (svs fails)) (hpa : Rd w w.heap.size 1 Aa pa.length (ints pa)) (hpb : Rd w w.heap.size 1 Ab pb.length (ints pb)) (hlf : fails.length ≤ 140737488351232) :
    Calls Tryz.prog 12 #[gV An ns.length cn Ae es.length ce, .slice A q.length c, .slice Af fails.length cf, .int .i64 steps, .slice Aa pa.length ca, .slice Ab pb.length cb] w fun e w' => e = .returned (.bool true) ∧ Below w.heap.size w w' := by
  have HG := Lib.hid hg
  have HQ := Lib.hid hq
  have HFl := Lib.hid hf
  have HP := Lib.hid (And.intro hpa hpb)
  have hst := and31 steps
  clear hg hq hf hpa hpb
  cases d30 : decide ((30 : Int) < (q.length : Int))
  · have h30 : ¬ (30 : Int) < (q.length : Int) := by simpa using d30
    generalize hss : IntKind.i64.wrap ((pa.length : Int) + (pb.length : Int)) = ss
    cases d400 : decide ((400 : Int) < ss)
    · go_enter Tryz.func12, Tryz.ntmps12
      go_wp2_with fail
      first | (refine wp_named ?_; intro W1 hW) | (refine calls_named ?_; intro W1 hW)
      have B1 : Below w.heap.size w W1 := by rw [hW]; exact (by repeat (first | exact Below.refl _ _ | assumption | refine Below.alloc ?_ (by first | omega | (simp <;> omega)) _ | refine Below.setCell ?_ (by first | omega | (simp <;> omega)) _ | refine Below.drew ?_))
      replace HG := Lib.hid (HG.out.at B1)
      replace HQ := Lib.hid (HQ.out.at B1)
      replace HFl := Lib.hid (HFl.out.at B1)
      replace HP := Lib.hid ((And.intro (HP.out.1.at B1) (HP.out.2.at B1)))
      have nw1 : w.heap.size < W1.heap.size := by rw [hW]; simp <;> omega
      have c0 : W1.cell? ⟨w.heap.size, 0, none⟩ = some (.slice An ns.length cn) := by rw [hW]; go_simp
      have c1 : W1.cell? ⟨w.heap.size, 1, none⟩ = some (.slice Ae es.length ce) := by rw [hW]; go_simp
      clear hW
      have HB := Lib.hid B1
      clear B1
      refine (shown_any W1).mono ?_
      rintro e w2 ⟨rfl, hb⟩
      replace c0 := cellAt c0 hb (by omega)
      replace c1 := cellAt c1 hb (by omega)
      replace HG := Lib.hid (HG.out.at hb)
      replace HQ := Lib.hid (HQ.out.at hb)
      replace HFl := Lib.hid (HFl.out.at hb)
      replace HP := Lib.hid ((And.intro (HP.out.1.at hb) (HP.out.2.at hb)))
      replace nw1 : w.heap.size < w2.heap.size := ltAt nw1 hb
      replace HB := Lib.hid (lift HB.out hb)
      clear hb
      go_wp2_with fail
      refine (small_any An Ae cn ce ns es w2).mono ?_
      rintro e w3 ⟨rfl, hb⟩
      replace c0 := cellAt c0 hb (by omega)
      replace c1 := cellAt c1 hb (by omega)
      replace HG := Lib.hid (HG.out.at hb)
      replace HQ := Lib.hid (HQ.out.at hb)
      replace HFl := Lib.hid (HFl.out.at hb)
      replace HP := Lib.hid ((And.intro (HP.out.1.at hb) (HP.out.2.at hb)))
      replace nw1 : w.heap.size < w3.heap.size := ltAt nw1 hb
      replace HB := Lib.hid (lift HB.out hb)
      clear hb
      cases hsm : smallB ns es
      · go_wp2_with fail
        go_ret
        exact ⟨rfl, HB.out⟩
      · have hs2 := smallB_iff.1 hsm
        have hl1 := hs2.1
        have hl2 := hs2.2
        clear hs2
        go_wp2_with fail
        refine (SoundQ_any An Ae cn ce ns es A c q w3 (HG.out.q (by omega) (by omega)) HQ.out (by omega)).mono ?_
        rintro e w4 ⟨rfl, hb⟩
        replace c0 := cellAt c0 hb (by omega)
        replace c1 := cellAt c1 hb (by omega)
        replace HG := Lib.hid (HG.out.at hb)
        replace HQ := Lib.hid (HQ.out.at hb)
        replace HFl := Lib.hid (HFl.out.at hb)
        replace HP := Lib.hid ((And.intro (HP.out.1.at hb) (HP.out.2.at hb)))
        replace nw1 : w.heap.size < w4.heap.size := ltAt nw1 hb
        replace HB := Lib.hid (lift HB.out hb)
        clear hb
        cases hsd : soundQ ns es q
        · go_wp2_with fail
          go_ret
          exact ⟨rfl, HB.out⟩
        · have HS := Lib.hid hsd
          clear hsd
          generalize hSS : bits .and .i64 steps 31 = S at hst
          go_wp2_with fail
          go_loopw [13, 14] (fun v i wr => ∃ (k : Nat) (x : List Jb) (A1 : Option Addr) (cx : Nat), k ≤ 31 ∧ v = .slice A1 x.length cx ∧ i = .int .i64 k ∧ Hid (soundQ ns es x = true) ∧ Hid (factQ es fails x = factQ es fails q) ∧ x.length ≤ q.length ∧ Hid (QIn wr A1 cx x) ∧ Below w4.heap.size w4 wr) (fun _ i _ => 32 - (intOf i).toNat)
          case atStart => exact ⟨0, q, A, c, by omega, rfl, rfl, HS, rfl, Nat.le_refl _, HQ, Below.refl _ _⟩
          case round =>
            obtain ⟨k, x, A1, cx, hk31, rfl, rfl, HSx, HFx, hxl, HX, hb⟩ := hrel
            have HBl := Lib.hid hb
            replace c0 := cellAt c0 hb (by omega)
            replace c1 := cellAt c1 hb (by omega)
            replace HG := Lib.hid (HG.out.at hb)
            replace HQ := Lib.hid (HQ.out.at hb)
            replace HFl := Lib.hid (HFl.out.at hb)
            replace HP := Lib.hid ((And.intro (HP.out.1.at hb) (HP.out.2.at hb)))
            replace nw1 : w.heap.size < wr.heap.size := ltAt nw1 hb
            replace HB := Lib.hid (lift HB.out hb)
            clear hb
            obtain ⟨w9, rfl⟩ : ∃ wo : World, wo = wr := ⟨_, rfl⟩
            by_cases hkS : (k : Int) < S
            · have hsl := stepsQ_len es x
              go_wp2_with fail
              refine (StepsW_any An Ae ns.length cn ce es A1 cx x w9 HG.out.re HX.out (by omega) (by omega)).mono ?_
              rintro e w7 ⟨A4, c4, rfl, ho4, hb⟩
              have HR4 := Lib.hid (own_rd' ho4)
              replace c0 := cellAt c0 hb (by omega)
              replace c1 := cellAt c1 hb (by omega)
              replace HG := Lib.hid (HG.out.at hb)
              replace HQ := Lib.hid (HQ.out.at hb)
              replace HFl := Lib.hid (HFl.out.at hb)
              replace HP := Lib.hid ((And.intro (HP.out.1.at hb) (HP.out.2.at hb)))
              replace nw1 : w.heap.size < w7.heap.size := ltAt nw1 hb
              replace HB := Lib.hid (lift HB.out hb)
              replace HBl := Lib.hid (lift HBl.out hb)
              replace HX := Lib.hid (HX.out.at hb)
              clear hb ho4
              by_cases hn : stepsQ es x = []
              · rw [hn]
                simp only [List.length_nil]
                clear hn
                have HEq := Lib.hid (split_end (a := pa) (b := pb) HS.out HSx.out HFx.out)
                have hxr := runR_len es fails pa q
                generalize hz : runR es fails pa q = z at *
                have HZ := Lib.hid hz
                clear hz
                go_wp2_with fail
                try go_wp2_with fail
                refine wp_region_held_drew (S := fun w' => Below w7.heap.size w7 w') (by kernel_rfl) (Below.drew (Below.refl _ _)) (fun hHeld => ?_)
                refine tY (i := 0) (v := ?_) rfl ?_ hHeld ?_; rotate_left 1; focus (intro w' hSw; have hCell := fun (b o : Nat) (h : b < w7.heap.size) => hSw.cell (p := ⟨b, o, none⟩) h; clear hSw; go_simp; try with_reducible rfl)
                (try simp only [Act.put, zn1, zn2, zn3])
                refine tY (i := 1) (v := ?_) rfl ?_ hHeld ?_; rotate_left 1; focus (intro w' hSw; clear hSw; go_simp; try with_reducible rfl)
                (try simp only [Act.put, zn1, zn2, zn3])
                refine tY (i := 2) (v := ?_) rfl ?_ hHeld ?_; rotate_left 1; focus (intro w' hSw; clear hSw; go_simp; try with_reducible rfl)
                (try simp only [Act.put, zn1, zn2, zn3])
                refine tY (i := 3) (v := ?_) rfl ?_ hHeld ?_; rotate_left 1; focus (intro w' hSw; clear hSw; go_simp; try with_reducible rfl)
                (try simp only [Act.put, zn1, zn2, zn3])
                refine tY (i := 5) (v := ?_) rfl ?_ hHeld ?_; rotate_left 1; focus (intro w' hSw; have hCell := fun (b o : Nat) (h : b < w7.heap.size) => hSw.cell (p := ⟨b, o, none⟩) h; clear hSw; go_simp; try with_reducible rfl)
                (try simp only [Act.put, zn1, zn2, zn3])
                refine tY (i := 6) (v := ?_) rfl ?_ hHeld ?_; rotate_left 1; focus (intro w' hSw; clear hSw; go_simp; try with_reducible rfl)
                (try simp only [Act.put, zn1, zn2, zn3])
                refine tY (i := 7) (v := ?_) rfl ?_ hHeld ?_; rotate_left 1; focus (intro w' hSw; clear hSw; go_simp; try with_reducible rfl)
                (try simp only [Act.put, zn1, zn2, zn3])
                refine tY (i := 8) (v := ?_) rfl ?_ hHeld ?_; rotate_left 1; focus (intro w' hSw; clear hSw; go_simp; try with_reducible rfl)
                (try simp only [Act.put, zn1, zn2, zn3])
                refine ready_one (i := 4) rfl (by kernel_rfl) (fun K hK => ?_)
                go_simp
                refine (RunW_any An Ae ns.length cn ce es A1 cx x Af cf fails Ab cb pb _ (HG.out.at hHeld).re (HX.out.at hHeld) (HFl.out.at hHeld) (HP.out.2.at hHeld) (by omega) (by omega) (by omega)).mono ?_
                rw [HEq.out]
                rintro e y1 ⟨A5, c5, rfl, hc5, ho5, hb⟩
                have HR5 := Lib.hid ho5
                clear ho5
                refine hK.out _ _ ?_ (fun hHeld2 => ?_)
                · (try dsimp only); first | exact Below.trans hHeld (Below.mono hb hHeld.size) | exact hHeld | exact Below.drew hHeld | exact (by repeat (first | exact Below.refl _ _ | assumption | refine Below.alloc ?_ (by first | omega | (simp <;> omega)) _ | refine Below.setCell ?_ (by first | omega | (simp <;> omega)) _ | refine Below.drew ?_))
                clear hK K hHeld; have hHeld := hHeld2; clear hHeld2; (try simp only [Act.put, zn1, zn2, zn3])
                refine ready_one (i := 9) rfl (by kernel_rfl) (fun K hK => ?_)
                go_simp
                refine (RunW_any An Ae ns.length cn ce es A c q Af cf fails Aa ca pa _ (HG.out.at hHeld).re (HQ.out.at hHeld) (HFl.out.at hHeld) (HP.out.1.at hHeld) (by omega) (by omega) (by omega)).mono ?_
                rw [HZ.out]
                rintro e y2 ⟨A6, c6, rfl, hc6, ho6, hb⟩
                have HR6 := Lib.hid ho6
                have HR5b := Lib.hid (HR5.out.at hb)
                clear ho6
                refine hK.out _ _ ?_ (fun hHeld2 => ?_)
                · (try dsimp only); first | exact Below.trans hHeld (Below.mono hb hHeld.size) | exact hHeld | exact Below.drew hHeld | exact (by repeat (first | exact Below.refl _ _ | assumption | refine Below.alloc ?_ (by first | omega | (simp <;> omega)) _ | refine Below.setCell ?_ (by first | omega | (simp <;> omega)) _ | refine Below.drew ?_))
                clear hK K hHeld; have hHeld := hHeld2; clear hHeld2; (try simp only [Act.put, zn1, zn2, zn3])
                refine ready_one (i := 10) rfl (by kernel_rfl) (fun K hK => ?_)
                go_simp
                refine (SameJobs_any A5 A6 c5 c6 z z _ HR5b.out HR6.out (by omega)).mono ?_
                rw [decide_eq_true rfl]
                rintro e y3 ⟨rfl, hb⟩
                refine hK.out _ _ ?_ (fun hHeld2 => ?_)
                · (try dsimp only); first | exact Below.trans hHeld (Below.mono hb hHeld.size) | exact hHeld | exact Below.drew hHeld | exact (by repeat (first | exact Below.refl _ _ | assumption | refine Below.alloc ?_ (by first | omega | (simp <;> omega)) _ | refine Below.setCell ?_ (by first | omega | (simp <;> omega)) _ | refine Below.drew ?_))
                clear hK K hHeld; have hHeld := hHeld2; clear hHeld2; (try simp only [Act.put, zn1, zn2, zn3])
                refine tY (i := 11) (v := ?_) rfl ?_ hHeld ?_; rotate_left 1; focus (intro w' hSw; clear hSw; go_simp; try with_reducible rfl)
                (try simp only [Act.put, zn1, zn2, zn3])
                refine wpAnyH_done (by kernel_rfl) ?_ _
                go_wp2_with fail
                go_ret
                exact ⟨rfl, lift HB.out hHeld⟩
              · have hpos : 0 < (stepsQ es x).length := List.length_pos_iff.2 hn
                have hne : (((stepsQ es x).length : Int) == 0) = false := by rw [beq_eq_false_iff_ne]; omega
                have hstep := fun (i : Nat) (hi : i < (stepsQ es x).length) => split_step (fails := fails) HSx.out (List.getElem_mem hi)
                generalize hL : stepsQ es x = L at *
                have HL := Lib.hid hL
                clear hL hn
                by_cases hmp : k < pa.length
                · obtain ⟨b6, o6, hA6, hB6, hc6⟩ := HP.out.1.open (by omega)
                  have p0 := (hc6 k (by omega)).trans (ints_at hmp)
                  generalize pa[k] = p at p0
                  have hmod := go_mod p hpos
                  have hil := pick_lt p hpos
                  generalize (p % (L.length : Int)).toNat = i at hmod hil
                  have HMod := Lib.hid hmod
                  obtain ⟨y, hst1, hsy, hfy⟩ := hstep i hil
                  obtain ⟨b4, o4, hA4, hB4, z0⟩ := HR4.out.str hil
                  generalize L[i] = u at hst1 z0
                  have hyl : y.length ≤ q.length := by rw [← fact_len es fails y, hfy, fact_len]; exact hxl
                  have HSt := Lib.hid hst1
                  have HSy := Lib.hid hsy
                  have HFy := Lib.hid (hfy.trans HFx.out)
                  have m1 : (0 : Int) ≤ (k : Int) := by omega
                  have m2 : (k : Int) < (pa.length : Int) := by omega
                  have k1 : (0 : Int) ≤ (i : Int) := by omega
                  have k2 : (i : Int) < (L.length : Int) := by omega
                  have hw0 := tmod_in p hpos
                  have hw1 : IntKind.i64.wrap (p.tmod (L.length : Int) + (L.length : Int)) = p.tmod (L.length : Int) + (L.length : Int) := IntWalk.i64_in _ (by omega)
                  have hw2 : (p.tmod (L.length : Int) + (L.length : Int)).tmod (L.length : Int) = (i : Int) := HMod.out
                  clear hw0 hmod hc6 hstep hst1 hsy hfy
                  subst hA4 hA6
                  go_wp2_with fail
                  try go_wp2_with fail
                  refine wp_region_held_drew (S := fun w' => Below w7.heap.size w7 w') (by kernel_rfl) (Below.drew (Below.refl _ _)) (fun hHeld => ?_)
                  refine tY (i := 0) (v := ?_) rfl ?_ hHeld ?_; rotate_left 1; focus (intro w' hSw; have hCell := fun (b o : Nat) (h : b < w7.heap.size) => hSw.cell (p := ⟨b, o, none⟩) h; clear hSw; go_simp; try with_reducible rfl)
                  (try simp only [Act.put, zn1, zn2, zn3])
                  refine tY (i := 1) (v := ?_) rfl ?_ hHeld ?_; rotate_left 1; focus (intro w' hSw; clear hSw; go_simp; try with_reducible rfl)
                  (try simp only [Act.put, zn1, zn2, zn3])
                  refine tY (i := 2) (v := ?_) rfl ?_ hHeld ?_; rotate_left 1; focus (intro w' hSw; clear hSw; go_simp; try with_reducible rfl)
                  (try simp only [Act.put, zn1, zn2, zn3])
                  refine tY (i := 3) (v := ?_) rfl ?_ hHeld ?_; rotate_left 1; focus (intro w' hSw; clear hSw; go_simp; try with_reducible rfl)
                  (try simp only [Act.put, zn1, zn2, zn3])
                  refine tY (i := 4) (v := ?_) rfl ?_ hHeld ?_; rotate_left 1; focus (intro w' hSw; clear hSw; go_simp; try with_reducible rfl)
                  (try simp only [Act.put, zn1, zn2, zn3])
                  refine tY (i := 5) (v := ?_) rfl ?_ hHeld ?_; rotate_left 1; focus (intro w' hSw; clear hSw; go_simp; try with_reducible rfl)
                  (try simp only [Act.put, zn1, zn2, zn3])
                  refine tY (i := 6) (v := ?_) rfl ?_ hHeld ?_; rotate_left 1; focus (intro w' hSw; have hCell := fun (b o : Nat) (h : b < w7.heap.size) => hSw.cell (p := ⟨b, o, none⟩) h; clear hSw; go_simp; try with_reducible rfl)
                  (try simp only [Act.put, zn1, zn2, zn3])
                  refine ready_one (i := 7) rfl (by kernel_rfl) (fun K hK => ?_)
                  go_simp
                  refine (StepW_any An Ae ns.length cn ce es A1 cx x Af cf fails u _ (HG.out.at hHeld).re (HX.out.at hHeld) (HFl.out.at hHeld) (by omega) (by omega) (by omega)).mono ?_
                  rw [HSt.out]
                  rintro e w5 ⟨A5, c5, rfl, hc5, hr5, _, hb⟩
                  have HY := Lib.hid (And.intro hc5 hr5)
                  clear hc5 hr5
                  refine hK.out _ _ ?_ (fun hHeld2 => ?_)
                  · (try dsimp only); first | exact Below.trans hHeld (Below.mono hb hHeld.size) | exact hHeld | exact Below.drew hHeld | exact (by repeat (first | exact Below.refl _ _ | assumption | refine Below.alloc ?_ (by first | omega | (simp <;> omega)) _ | refine Below.setCell ?_ (by first | omega | (simp <;> omega)) _ | refine Below.drew ?_))
                  clear hK K hHeld; have hHeld := hHeld2; clear hHeld2; (try simp only [Act.put, zn1, zn2, zn3])
                  refine tY (i := 8) (v := ?_) rfl ?_ hHeld ?_; rotate_left 1; focus (intro w' hSw; clear hSw; go_simp; try with_reducible rfl)
                  (try simp only [Act.put, zn1, zn2, zn3])
                  refine tY (i := 9) (v := ?_) rfl ?_ hHeld ?_; rotate_left 1; focus (intro w' hSw; clear hSw; go_simp; try with_reducible rfl)
                  (try simp only [Act.put, zn1, zn2, zn3])
                  refine tY (i := 10) (v := ?_) rfl ?_ hHeld ?_; rotate_left 1; focus (intro w' hSw; clear hSw; go_simp; try with_reducible rfl)
                  (try simp only [Act.put, zn1, zn2, zn3])
                  refine tY (i := 11) (v := ?_) rfl ?_ hHeld ?_; rotate_left 1; focus (intro w' hSw; clear hSw; go_simp; try with_reducible rfl)
                  (try simp only [Act.put, zn1, zn2, zn3])
                  refine tY (i := 12) (v := ?_) rfl ?_ hHeld ?_; rotate_left 1; focus (intro w' hSw; clear hSw; go_simp; try with_reducible rfl)
                  (try simp only [Act.put, zn1, zn2, zn3])
                  refine wpAnyH_done (by kernel_rfl) ?_ _
                  simp only [Option.getD_some, Option.isSome_some] at HY ⊢
                  have HY2 : Hid (QIn w5 A5 c5 y) := ⟨HY.out.2, mayQ.okW (sound_ends HSy.out).1, HY.out.1⟩
                  replace c0 := cellAt c0 hHeld (by omega)
                  replace c1 := cellAt c1 hHeld (by omega)
                  replace z0 := cellAt z0 hHeld (by omega)
                  replace HG := Lib.hid (HG.out.at hHeld)
                  replace HQ := Lib.hid (HQ.out.at hHeld)
                  replace HFl := Lib.hid (HFl.out.at hHeld)
                  replace HP := Lib.hid ((And.intro (HP.out.1.at hHeld) (HP.out.2.at hHeld)))
                  replace nw1 : w.heap.size < w5.heap.size := ltAt nw1 hHeld
                  replace HB := Lib.hid (lift HB.out hHeld)
                  replace HBl := Lib.hid (lift HBl.out hHeld)
                  replace HX := Lib.hid (HX.out.at hHeld)
                  replace HR4 := Lib.hid (HR4.out.at hHeld)
                  replace hB4 : b4 < w5.heap.size := ltAt hB4 hHeld
                  clear HY hHeld
                  go_wp2_with fail
                  refine (SoundQ_any An Ae cn ce ns es A5 c5 y w5 (HG.out.q (by omega) (by omega)) HY2.out (by omega)).mono ?_
                  rw [HSy.out]
                  rintro e w6 ⟨rfl, hb⟩
                  replace c0 := cellAt c0 hb (by omega)
                  replace c1 := cellAt c1 hb (by omega)
                  replace z0 := cellAt z0 hb (by omega)
                  replace HG := Lib.hid (HG.out.at hb)
                  replace HQ := Lib.hid (HQ.out.at hb)
                  replace HFl := Lib.hid (HFl.out.at hb)
                  replace HP := Lib.hid ((And.intro (HP.out.1.at hb) (HP.out.2.at hb)))
                  replace nw1 : w.heap.size < w6.heap.size := ltAt nw1 hb
                  replace HB := Lib.hid (lift HB.out hb)
                  replace HBl := Lib.hid (lift HBl.out hb)
                  replace HX := Lib.hid (HX.out.at hb)
                  replace HR4 := Lib.hid (HR4.out.at hb)
                  replace hB4 : b4 < w6.heap.size := ltAt hB4 hb
                  replace HY2 := Lib.hid (HY2.out.at hb)
                  clear hb
                  go_wp2_with fail
                  go_roundw
                  case rel => exact ⟨k + 1, y, A5, c5, by omega, rfl, by go_num, HSy, HFy, hyl, HY2, HBl.out⟩
                  case measure => simp [intOf]; omega
                · obtain ⟨y, hst1, hsy, hfy⟩ := hstep 0 hpos
                  obtain ⟨b4, o4, hA4, hB4, z0⟩ := HR4.out.str hpos
                  generalize L[0] = u at hst1 z0
                  simp only [Nat.add_zero] at z0
                  have hyl : y.length ≤ q.length := by rw [← fact_len es fails y, hfy, fact_len]; exact hxl
                  have HSt := Lib.hid hst1
                  have HSy := Lib.hid hsy
                  have HFy := Lib.hid (hfy.trans HFx.out)
                  have m2 : decide ((k : Int) < (pa.length : Int)) = false := by rw [decide_eq_false_iff_not]; omega
                  have k2 : (0 : Int) < (L.length : Int) := by omega
                  clear hstep hst1 hsy hfy
                  subst hA4
                  go_wp2_with fail
                  try go_wp2_with fail
                  refine wp_region_held_drew (S := fun w' => Below w7.heap.size w7 w') (by kernel_rfl) (Below.drew (Below.refl _ _)) (fun hHeld => ?_)
                  refine tY (i := 0) (v := ?_) rfl ?_ hHeld ?_; rotate_left 1; focus (intro w' hSw; have hCell := fun (b o : Nat) (h : b < w7.heap.size) => hSw.cell (p := ⟨b, o, none⟩) h; clear hSw; go_simp; try with_reducible rfl)
                  (try simp only [Act.put, zn1, zn2, zn3])
                  refine tY (i := 1) (v := ?_) rfl ?_ hHeld ?_; rotate_left 1; focus (intro w' hSw; clear hSw; go_simp; try with_reducible rfl)
                  (try simp only [Act.put, zn1, zn2, zn3])
                  refine tY (i := 2) (v := ?_) rfl ?_ hHeld ?_; rotate_left 1; focus (intro w' hSw; clear hSw; go_simp; try with_reducible rfl)
                  (try simp only [Act.put, zn1, zn2, zn3])
                  refine tY (i := 3) (v := ?_) rfl ?_ hHeld ?_; rotate_left 1; focus (intro w' hSw; clear hSw; go_simp; try with_reducible rfl)
                  (try simp only [Act.put, zn1, zn2, zn3])
                  refine tY (i := 4) (v := ?_) rfl ?_ hHeld ?_; rotate_left 1; focus (intro w' hSw; clear hSw; go_simp; try with_reducible rfl)
                  (try simp only [Act.put, zn1, zn2, zn3])
                  refine tY (i := 5) (v := ?_) rfl ?_ hHeld ?_; rotate_left 1; focus (intro w' hSw; clear hSw; go_simp; try with_reducible rfl)
                  (try simp only [Act.put, zn1, zn2, zn3])
                  refine tY (i := 6) (v := ?_) rfl ?_ hHeld ?_; rotate_left 1; focus (intro w' hSw; have hCell := fun (b o : Nat) (h : b < w7.heap.size) => hSw.cell (p := ⟨b, o, none⟩) h; clear hSw; go_simp; try with_reducible rfl)
                  (try simp only [Act.put, zn1, zn2, zn3])
                  refine ready_one (i := 7) rfl (by kernel_rfl) (fun K hK => ?_)
                  go_simp
                  refine (StepW_any An Ae ns.length cn ce es A1 cx x Af cf fails u _ (HG.out.at hHeld).re (HX.out.at hHeld) (HFl.out.at hHeld) (by omega) (by omega) (by omega)).mono ?_
                  rw [HSt.out]
                  rintro e w5 ⟨A5, c5, rfl, hc5, hr5, _, hb⟩
                  have HY := Lib.hid (And.intro hc5 hr5)
                  clear hc5 hr5
                  refine hK.out _ _ ?_ (fun hHeld2 => ?_)
                  · (try dsimp only); first | exact Below.trans hHeld (Below.mono hb hHeld.size) | exact hHeld | exact Below.drew hHeld | exact (by repeat (first | exact Below.refl _ _ | assumption | refine Below.alloc ?_ (by first | omega | (simp <;> omega)) _ | refine Below.setCell ?_ (by first | omega | (simp <;> omega)) _ | refine Below.drew ?_))
                  clear hK K hHeld; have hHeld := hHeld2; clear hHeld2; (try simp only [Act.put, zn1, zn2, zn3])
                  refine tY (i := 8) (v := ?_) rfl ?_ hHeld ?_; rotate_left 1; focus (intro w' hSw; clear hSw; go_simp; try with_reducible rfl)
                  (try simp only [Act.put, zn1, zn2, zn3])
                  refine tY (i := 9) (v := ?_) rfl ?_ hHeld ?_; rotate_left 1; focus (intro w' hSw; clear hSw; go_simp; try with_reducible rfl)
                  (try simp only [Act.put, zn1, zn2, zn3])
                  refine tY (i := 10) (v := ?_) rfl ?_ hHeld ?_; rotate_left 1; focus (intro w' hSw; clear hSw; go_simp; try with_reducible rfl)
                  (try simp only [Act.put, zn1, zn2, zn3])
                  refine tY (i := 11) (v := ?_) rfl ?_ hHeld ?_; rotate_left 1; focus (intro w' hSw; clear hSw; go_simp; try with_reducible rfl)
                  (try simp only [Act.put, zn1, zn2, zn3])
                  refine tY (i := 12) (v := ?_) rfl ?_ hHeld ?_; rotate_left 1; focus (intro w' hSw; clear hSw; go_simp; try with_reducible rfl)
                  (try simp only [Act.put, zn1, zn2, zn3])
                  refine wpAnyH_done (by kernel_rfl) ?_ _
                  simp only [Option.getD_some, Option.isSome_some] at HY ⊢
                  have HY2 : Hid (QIn w5 A5 c5 y) := ⟨HY.out.2, mayQ.okW (sound_ends HSy.out).1, HY.out.1⟩
                  replace c0 := cellAt c0 hHeld (by omega)
                  replace c1 := cellAt c1 hHeld (by omega)
                  replace z0 := cellAt z0 hHeld (by omega)
                  replace HG := Lib.hid (HG.out.at hHeld)
                  replace HQ := Lib.hid (HQ.out.at hHeld)
                  replace HFl := Lib.hid (HFl.out.at hHeld)
                  replace HP := Lib.hid ((And.intro (HP.out.1.at hHeld) (HP.out.2.at hHeld)))
                  replace nw1 : w.heap.size < w5.heap.size := ltAt nw1 hHeld
                  replace HB := Lib.hid (lift HB.out hHeld)
                  replace HBl := Lib.hid (lift HBl.out hHeld)
                  replace HX := Lib.hid (HX.out.at hHeld)
                  replace HR4 := Lib.hid (HR4.out.at hHeld)
                  replace hB4 : b4 < w5.heap.size := ltAt hB4 hHeld
                  clear HY hHeld
                  go_wp2_with fail
                  refine (SoundQ_any An Ae cn ce ns es A5 c5 y w5 (HG.out.q (by omega) (by omega)) HY2.out (by omega)).mono ?_
                  rw [HSy.out]
                  rintro e w6 ⟨rfl, hb⟩
                  replace c0 := cellAt c0 hb (by omega)
                  replace c1 := cellAt c1 hb (by omega)
                  replace z0 := cellAt z0 hb (by omega)
                  replace HG := Lib.hid (HG.out.at hb)
                  replace HQ := Lib.hid (HQ.out.at hb)
                  replace HFl := Lib.hid (HFl.out.at hb)
                  replace HP := Lib.hid ((And.intro (HP.out.1.at hb) (HP.out.2.at hb)))
                  replace nw1 : w.heap.size < w6.heap.size := ltAt nw1 hb
                  replace HB := Lib.hid (lift HB.out hb)
                  replace HBl := Lib.hid (lift HBl.out hb)
                  replace HX := Lib.hid (HX.out.at hb)
                  replace HR4 := Lib.hid (HR4.out.at hb)
                  replace hB4 : b4 < w6.heap.size := ltAt hB4 hb
                  replace HY2 := Lib.hid (HY2.out.at hb)
                  clear hb
                  go_wp2_with fail
                  go_roundw
                  case rel => exact ⟨k + 1, y, A5, c5, by omega, rfl, by go_num, HSy, HFy, hyl, HY2, HBl.out⟩
                  case measure => simp [intOf]; omega
            · have HEq := Lib.hid (split_end (a := pa) (b := pb) HS.out HSx.out HFx.out)
              have hxr := runR_len es fails pa q
              generalize hz : runR es fails pa q = z at *
              have HZ := Lib.hid hz
              clear hz
              go_wp2_with fail
              try go_wp2_with fail
              refine wp_region_held_drew (S := fun w' => Below w9.heap.size w9 w') (by kernel_rfl) (Below.drew (Below.refl _ _)) (fun hHeld => ?_)
              refine tY (i := 0) (v := ?_) rfl ?_ hHeld ?_; rotate_left 1; focus (intro w' hSw; have hCell := fun (b o : Nat) (h : b < w9.heap.size) => hSw.cell (p := ⟨b, o, none⟩) h; clear hSw; go_simp; try with_reducible rfl)
              (try simp only [Act.put, zn1, zn2, zn3])
              refine tY (i := 1) (v := ?_) rfl ?_ hHeld ?_; rotate_left 1; focus (intro w' hSw; clear hSw; go_simp; try with_reducible rfl)
              (try simp only [Act.put, zn1, zn2, zn3])
              refine tY (i := 2) (v := ?_) rfl ?_ hHeld ?_; rotate_left 1; focus (intro w' hSw; clear hSw; go_simp; try with_reducible rfl)
              (try simp only [Act.put, zn1, zn2, zn3])
              refine tY (i := 3) (v := ?_) rfl ?_ hHeld ?_; rotate_left 1; focus (intro w' hSw; clear hSw; go_simp; try with_reducible rfl)
              (try simp only [Act.put, zn1, zn2, zn3])
              refine tY (i := 5) (v := ?_) rfl ?_ hHeld ?_; rotate_left 1; focus (intro w' hSw; have hCell := fun (b o : Nat) (h : b < w9.heap.size) => hSw.cell (p := ⟨b, o, none⟩) h; clear hSw; go_simp; try with_reducible rfl)
              (try simp only [Act.put, zn1, zn2, zn3])
              refine tY (i := 6) (v := ?_) rfl ?_ hHeld ?_; rotate_left 1; focus (intro w' hSw; clear hSw; go_simp; try with_reducible rfl)
              (try simp only [Act.put, zn1, zn2, zn3])
              refine tY (i := 7) (v := ?_) rfl ?_ hHeld ?_; rotate_left 1; focus (intro w' hSw; clear hSw; go_simp; try with_reducible rfl)
              (try simp only [Act.put, zn1, zn2, zn3])
              refine tY (i := 8) (v := ?_) rfl ?_ hHeld ?_; rotate_left 1; focus (intro w' hSw; clear hSw; go_simp; try with_reducible rfl)
              (try simp only [Act.put, zn1, zn2, zn3])
              refine ready_one (i := 4) rfl (by kernel_rfl) (fun K hK => ?_)
              go_simp
              refine (RunW_any An Ae ns.length cn ce es A1 cx x Af cf fails Ab cb pb _ (HG.out.at hHeld).re (HX.out.at hHeld) (HFl.out.at hHeld) (HP.out.2.at hHeld) (by omega) (by omega) (by omega)).mono ?_
              rw [HEq.out]
              rintro e y1 ⟨A5, c5, rfl, hc5, ho5, hb⟩
              have HR5 := Lib.hid ho5
              clear ho5
              refine hK.out _ _ ?_ (fun hHeld2 => ?_)
              · (try dsimp only); first | exact Below.trans hHeld (Below.mono hb hHeld.size) | exact hHeld | exact Below.drew hHeld | exact (by repeat (first | exact Below.refl _ _ | assumption | refine Below.alloc ?_ (by first | omega | (simp <;> omega)) _ | refine Below.setCell ?_ (by first | omega | (simp <;> omega)) _ | refine Below.drew ?_))
              clear hK K hHeld; have hHeld := hHeld2; clear hHeld2; (try simp only [Act.put, zn1, zn2, zn3])
              refine ready_one (i := 9) rfl (by kernel_rfl) (fun K hK => ?_)
              go_simp
              refine (RunW_any An Ae ns.length cn ce es A c q Af cf fails Aa ca pa _ (HG.out.at hHeld).re (HQ.out.at hHeld) (HFl.out.at hHeld) (HP.out.1.at hHeld) (by omega) (by omega) (by omega)).mono ?_
              rw [HZ.out]
              rintro e y2 ⟨A6, c6, rfl, hc6, ho6, hb⟩
              have HR6 := Lib.hid ho6
              have HR5b := Lib.hid (HR5.out.at hb)
              clear ho6
              refine hK.out _ _ ?_ (fun hHeld2 => ?_)
              · (try dsimp only); first | exact Below.trans hHeld (Below.mono hb hHeld.size) | exact hHeld | exact Below.drew hHeld | exact (by repeat (first | exact Below.refl _ _ | assumption | refine Below.alloc ?_ (by first | omega | (simp <;> omega)) _ | refine Below.setCell ?_ (by first | omega | (simp <;> omega)) _ | refine Below.drew ?_))
              clear hK K hHeld; have hHeld := hHeld2; clear hHeld2; (try simp only [Act.put, zn1, zn2, zn3])
              refine ready_one (i := 10) rfl (by kernel_rfl) (fun K hK => ?_)
              go_simp
              refine (SameJobs_any A5 A6 c5 c6 z z _ HR5b.out HR6.out (by omega)).mono ?_
              rw [decide_eq_true rfl]
              rintro e y3 ⟨rfl, hb⟩
              refine hK.out _ _ ?_ (fun hHeld2 => ?_)
              · (try dsimp only); first | exact Below.trans hHeld (Below.mono hb hHeld.size) | exact hHeld | exact Below.drew hHeld | exact (by repeat (first | exact Below.refl _ _ | assumption | refine Below.alloc ?_ (by first | omega | (simp <;> omega)) _ | refine Below.setCell ?_ (by first | omega | (simp <;> omega)) _ | refine Below.drew ?_))
              clear hK K hHeld; have hHeld := hHeld2; clear hHeld2; (try simp only [Act.put, zn1, zn2, zn3])
              refine tY (i := 11) (v := ?_) rfl ?_ hHeld ?_; rotate_left 1; focus (intro w' hSw; clear hSw; go_simp; try with_reducible rfl)
              (try simp only [Act.put, zn1, zn2, zn3])
              refine wpAnyH_done (by kernel_rfl) ?_ _
              go_wp2_with fail
              go_ret
              exact ⟨rfl, lift HB.out hHeld⟩
    · go_enter Tryz.func12, Tryz.ntmps12
      go_wp2_with fail
      first | (refine wp_named ?_; intro W1 hW) | (refine calls_named ?_; intro W1 hW)
      have B1 : Below w.heap.size w W1 := by rw [hW]; exact (by repeat (first | exact Below.refl _ _ | assumption | refine Below.alloc ?_ (by first | omega | (simp <;> omega)) _ | refine Below.setCell ?_ (by first | omega | (simp <;> omega)) _ | refine Below.drew ?_))
      replace HG := Lib.hid (HG.out.at B1)
      replace HQ := Lib.hid (HQ.out.at B1)
      replace HFl := Lib.hid (HFl.out.at B1)
      replace HP := Lib.hid ((And.intro (HP.out.1.at B1) (HP.out.2.at B1)))
      have nw1 : w.heap.size < W1.heap.size := by rw [hW]; simp <;> omega
      have c0 : W1.cell? ⟨w.heap.size, 0, none⟩ = some (.slice An ns.length cn) := by rw [hW]; go_simp
      have c1 : W1.cell? ⟨w.heap.size, 1, none⟩ = some (.slice Ae es.length ce) := by rw [hW]; go_simp
      clear hW
      have HB := Lib.hid B1
      clear B1
      refine (shown_any W1).mono ?_
      rintro e w2 ⟨rfl, hb⟩
      replace c0 := cellAt c0 hb (by omega)
      replace c1 := cellAt c1 hb (by omega)
      replace HG := Lib.hid (HG.out.at hb)
      replace HQ := Lib.hid (HQ.out.at hb)
      replace HFl := Lib.hid (HFl.out.at hb)
      replace HP := Lib.hid ((And.intro (HP.out.1.at hb) (HP.out.2.at hb)))
      replace nw1 : w.heap.size < w2.heap.size := ltAt nw1 hb
      replace HB := Lib.hid (lift HB.out hb)
      clear hb
      go_wp2_with fail
      refine (small_any An Ae cn ce ns es w2).mono ?_
      rintro e w3 ⟨rfl, hb⟩
      replace c0 := cellAt c0 hb (by omega)
      replace c1 := cellAt c1 hb (by omega)
      replace HG := Lib.hid (HG.out.at hb)
      replace HQ := Lib.hid (HQ.out.at hb)
      replace HFl := Lib.hid (HFl.out.at hb)
      replace HP := Lib.hid ((And.intro (HP.out.1.at hb) (HP.out.2.at hb)))
      replace nw1 : w.heap.size < w3.heap.size := ltAt nw1 hb
      replace HB := Lib.hid (lift HB.out hb)
      clear hb
      cases hsm : smallB ns es
      · go_wp2_with fail
        go_ret
        exact ⟨rfl, HB.out⟩
      · go_wp2_with fail
        go_ret
        exact ⟨rfl, HB.out⟩
  · go_enter Tryz.func12, Tryz.ntmps12
    go_wp2_with fail
    first | (refine wp_named ?_; intro W1 hW) | (refine calls_named ?_; intro W1 hW)
    have B1 : Below w.heap.size w W1 := by rw [hW]; exact (by repeat (first | exact Below.refl _ _ | assumption | refine Below.alloc ?_ (by first | omega | (simp <;> omega)) _ | refine Below.setCell ?_ (by first | omega | (simp <;> omega)) _ | refine Below.drew ?_))
    replace HG := Lib.hid (HG.out.at B1)
    replace HQ := Lib.hid (HQ.out.at B1)
    replace HFl := Lib.hid (HFl.out.at B1)
    replace HP := Lib.hid ((And.intro (HP.out.1.at B1) (HP.out.2.at B1)))
    have nw1 : w.heap.size < W1.heap.size := by rw [hW]; simp <;> omega
    have c0 : W1.cell? ⟨w.heap.size, 0, none⟩ = some (.slice An ns.length cn) := by rw [hW]; go_simp
    have c1 : W1.cell? ⟨w.heap.size, 1, none⟩ = some (.slice Ae es.length ce) := by rw [hW]; go_simp
    clear hW
    have HB := Lib.hid B1
    clear B1
    refine (shown_any W1).mono ?_
    rintro e w2 ⟨rfl, hb⟩
    replace c0 := cellAt c0 hb (by omega)
    replace c1 := cellAt c1 hb (by omega)
    replace HG := Lib.hid (HG.out.at hb)
    replace HQ := Lib.hid (HQ.out.at hb)
    replace HFl := Lib.hid (HFl.out.at hb)
    replace HP := Lib.hid ((And.intro (HP.out.1.at hb) (HP.out.2.at hb)))
    replace nw1 : w.heap.size < w2.heap.size := ltAt nw1 hb
    replace HB := Lib.hid (lift HB.out hb)
    clear hb
    go_wp2_with fail
    refine (small_any An Ae cn ce ns es w2).mono ?_
    rintro e w3 ⟨rfl, hb⟩
    replace c0 := cellAt c0 hb (by omega)
    replace c1 := cellAt c1 hb (by omega)
    replace HG := Lib.hid (HG.out.at hb)
    replace HQ := Lib.hid (HQ.out.at hb)
    replace HFl := Lib.hid (HFl.out.at hb)
    replace HP := Lib.hid ((And.intro (HP.out.1.at hb) (HP.out.2.at hb)))
    replace nw1 : w.heap.size < w3.heap.size := ltAt nw1 hb
    replace HB := Lib.hid (lift HB.out hb)
    clear hb
    cases hsm : smallB ns es
    · go_wp2_with fail
      go_ret
      exact ⟨rfl, HB.out⟩
    · go_wp2_with fail
      go_ret
      exact ⟨rfl, HB.out⟩
end Od
end Go.Proofs.YtmlogmcnblgnbaaGreat
end
