/- My texts, joined for the claim: LqB. -/
import Derived.Test.YtanfnejbnmenkaaGreatZB15

section
/- The walk of the law QueueSound. (bel2) -/
namespace Go.Proofs.YtanfnejbnmenkaaGreat
open Go.RowKit Go.Sort
set_option linter.unusedSimpArgs false

namespace Od
set_option maxRecDepth 100000 in
set_option maxHeartbeats 8000000 in
theorem queueSound_any (An Ae : Option Addr) (cn ce : Nat) (ns : List Nd) (es : List Ed) (A : Option Addr) (c : Nat) (q : List Jb) (A0 : Option Addr) (cj : Nat) (jobs : List Jb) (mode en : Int) (w : World) (hg : GIw w An Ae ns es) (hq : QIn w A c q) (hlq : q.length ≤ 140737488351232) (hj : QIn w A0 cj jobs) (hlj : jobs.length ≤ 140737488351232) :
    Calls Tryz.prog 6 #[gV An ns.length cn Ae es.length ce, .slice A q.length c, .slice A0 jobs.length cj, .int .i64 mode, .int .i64 en] w fun e w' => e = .returned (.bool true) ∧ Below w.heap.size w w' := by
  have HG := Lib.hid hg
  have HQ := Lib.hid hq
  have HJ := Lib.hid hj
  clear hg hq hj
  go_enter Tryz.func6, Tryz.ntmps6
  go_wp2_with fail
  first | (refine wp_named ?_; intro W1 hW) | (refine calls_named ?_; intro W1 hW)
  have B1 : Below w.heap.size w W1 := by rw [hW]; exact (by repeat (first | exact Below.refl _ _ | assumption | refine Below.alloc ?_ (by first | omega | (simp <;> omega)) _ | refine Below.setCell ?_ (by first | omega | (simp <;> omega)) _ | refine Below.drew ?_))
  replace HJ := Lib.hid (HJ.out.at B1)
  replace HG := Lib.hid (HG.out.at B1)
  replace HQ := Lib.hid (HQ.out.at B1)
  have n1 : w.heap.size < W1.heap.size := by rw [hW]; simp <;> omega
  have c0 : W1.cell? ⟨w.heap.size, 0, none⟩ = some (.slice An ns.length cn) := by rw [hW]; go_simp
  have c1 : W1.cell? ⟨w.heap.size, 1, none⟩ = some (.slice Ae es.length ce) := by rw [hW]; go_simp
  clear hW
  have HB := Lib.hid B1
  clear B1
  refine (shown_any W1).mono ?_
  rintro e w2 ⟨rfl, hb⟩
  replace c0 := cellAt c0 hb (by omega)
  replace c1 := cellAt c1 hb (by omega)
  replace HJ := Lib.hid (HJ.out.at hb)
  replace HG := Lib.hid (HG.out.at hb)
  replace HQ := Lib.hid (HQ.out.at hb)
  replace n1 : w.heap.size < w2.heap.size := ltAt n1 hb
  replace HB := Lib.hid (lift HB.out hb)
  clear hb
  go_wp2_with fail
  refine (small_any An Ae cn ce ns es w2).mono ?_
  rintro e w3 ⟨rfl, hb⟩
  replace c0 := cellAt c0 hb (by omega)
  replace c1 := cellAt c1 hb (by omega)
  replace HJ := Lib.hid (HJ.out.at hb)
  replace HG := Lib.hid (HG.out.at hb)
  replace HQ := Lib.hid (HQ.out.at hb)
  replace n1 : w.heap.size < w3.heap.size := ltAt n1 hb
  replace HB := Lib.hid (lift HB.out hb)
  clear hb
  cases hsm : smallB ns es
  · go_wp2_with fail
    go_ret
    exact ⟨rfl, HB.out⟩
  · have hs2 := smallB_iff.1 hsm
    have hl1 := hs2.1
    have hl2 := hs2.2
    clear hs2
    go_wp2_with fail
    refine (SoundQ_any An Ae cn ce ns es A c q w3 (HG.out.q hl1 hl2) HQ.out (by omega)).mono ?_
    rintro e w4 ⟨rfl, hb⟩
    replace c0 := cellAt c0 hb (by omega)
    replace c1 := cellAt c1 hb (by omega)
    replace HJ := Lib.hid (HJ.out.at hb)
    replace HG := Lib.hid (HG.out.at hb)
    replace HQ := Lib.hid (HQ.out.at hb)
    replace n1 : w.heap.size < w4.heap.size := ltAt n1 hb
    replace HB := Lib.hid (lift HB.out hb)
    clear hb
    cases hso : soundQ ns es q
    · go_wp2_with fail
      go_ret
      exact ⟨rfl, HB.out⟩
    · have HSo := Lib.hid hso
      have hlq64 := soundQ.len hso
      clear hso hlq
      go_wp2_with fail
      go_loopw [35] (fun i wr => ∃ m : Nat, m ≤ q.length ∧ i = .int .i64 m ∧ Below w4.heap.size w4 wr) (fun i _ => q.length - (intOf i).toNat)
      case atStart => exact ⟨0, Nat.zero_le _, rfl, Below.refl _ _⟩
      case round =>
        obtain ⟨m, hm, rfl, hb⟩ := hrel
        have HBl := Lib.hid hb
        replace c0 := cellAt c0 hb (by omega)
        replace c1 := cellAt c1 hb (by omega)
        replace HJ := Lib.hid (HJ.out.at hb)
        replace HG := Lib.hid (HG.out.at hb)
        replace HQ := Lib.hid (HQ.out.at hb)
        replace n1 : w.heap.size < wr.heap.size := ltAt n1 hb
        replace HB := Lib.hid (lift HB.out hb)
        clear hb
        by_cases hlt : m < q.length
        · obtain ⟨b2, o2, hA, hB2, x0, x1, x2, x3⟩ := HQ.out.rq.job hlt
          generalize q[m] = x at x0 x1 x2 x3
          obtain ⟨s, t, r, d⟩ := x
          simp only at x0 x1 x2 x3
          have m1 : (0 : Int) ≤ (m : Int) := by omega
          have m2 : (m : Int) < (q.length : Int) := by omega
          subst hA
          go_wp2_with fail
          first | (refine wp_named ?_; intro W2 hW) | (refine calls_named ?_; intro W2 hW)
          have B2 : Below wr.heap.size wr W2 := by rw [hW]; exact (by repeat (first | exact Below.refl _ _ | assumption | refine Below.alloc ?_ (by first | omega | (simp <;> omega)) _ | refine Below.setCell ?_ (by first | omega | (simp <;> omega)) _ | refine Below.drew ?_))
          replace c0 := cellAt c0 B2 (by omega)
          replace c1 := cellAt c1 B2 (by omega)
          replace HJ := Lib.hid (HJ.out.at B2)
          replace HG := Lib.hid (HG.out.at B2)
          replace HQ := Lib.hid (HQ.out.at B2)
          replace n1 : w.heap.size < W2.heap.size := ltAt n1 B2
          replace HB := Lib.hid (lift HB.out B2)
          replace HBl := Lib.hid (lift HBl.out B2)
          have p1 : wr.heap.size < W2.heap.size := by rw [hW]; simp <;> omega
          have e0 : W2.cell? ⟨wr.heap.size, 0, none⟩ = some (sv s) := by rw [hW]; go_simp
          clear hW
          clear B2 x0 x1 x2 x3
          rcases hbq : beginQ es q s with _ | x
          · refine (BeginQ_any An Ae ns.length cn ce es _ c q s W2 HG.out.re HQ.out (by omega) (by omega)).mono ?_
            rw [hbq]
            rintro e w5 ⟨A1, k1, rfl, hk1, hr1, hb⟩
            replace c0 := cellAt c0 hb (by omega)
            replace c1 := cellAt c1 hb (by omega)
            replace e0 := cellAt e0 hb (by omega)
            replace HJ := Lib.hid (HJ.out.at hb)
            replace HG := Lib.hid (HG.out.at hb)
            replace HQ := Lib.hid (HQ.out.at hb)
            replace n1 : w.heap.size < w5.heap.size := ltAt n1 hb
            replace HB := Lib.hid (lift HB.out hb)
            replace HBl := Lib.hid (lift HBl.out hb)
            replace p1 : wr.heap.size < w5.heap.size := ltAt p1 hb
            clear hb hr1
            go_wp2_with fail
            rcases hf : finishQ q s en with _ | y
            · refine (FinishQ_any _ c q s en w5 HQ.out (by omega)).mono ?_
              rw [hf]
              rintro e v1 ⟨A3, k3, rfl, hk3, hr3, hb⟩
              replace c0 := cellAt c0 hb (by omega)
              replace c1 := cellAt c1 hb (by omega)
              replace e0 := cellAt e0 hb (by omega)
              replace HJ := Lib.hid (HJ.out.at hb)
              replace HG := Lib.hid (HG.out.at hb)
              replace HQ := Lib.hid (HQ.out.at hb)
              replace n1 : w.heap.size < v1.heap.size := ltAt n1 hb
              replace HB := Lib.hid (lift HB.out hb)
              replace HBl := Lib.hid (lift HBl.out hb)
              replace p1 : wr.heap.size < v1.heap.size := ltAt p1 hb
              clear hb hr3
              go_wp2_with fail
              go_roundw
              case rel => exact ⟨m + 1, by omega, by go_num, by have hbk := HBl.out; have hz := hbk.size; exact (by repeat (first | exact Below.refl _ _ | assumption | refine Below.alloc ?_ (by first | omega | (simp <;> omega)) _ | refine Below.setCell ?_ (by first | omega | (simp <;> omega)) _ | refine Below.drew ?_))⟩
              case measure => simp [intOf]; omega
            · have HY := Lib.hid (sound_finish HSo.out hf)
              refine (FinishQ_any _ c q s en w5 HQ.out (by omega)).mono ?_
              rw [hf]
              rintro e v1 ⟨A3, k3, rfl, hk3, hr3, hb⟩
              simp only [Option.getD_some, Option.isSome_some] at hk3 hr3 ⊢
              have HR3 : Hid (QIn v1 A3 k3 y) := ⟨hr3, soundQ.ok HY.out, hk3⟩
              replace c0 := cellAt c0 hb (by omega)
              replace c1 := cellAt c1 hb (by omega)
              replace e0 := cellAt e0 hb (by omega)
              replace HJ := Lib.hid (HJ.out.at hb)
              replace HG := Lib.hid (HG.out.at hb)
              replace HQ := Lib.hid (HQ.out.at hb)
              replace n1 : w.heap.size < v1.heap.size := ltAt n1 hb
              replace HB := Lib.hid (lift HB.out hb)
              replace HBl := Lib.hid (lift HBl.out hb)
              replace p1 : wr.heap.size < v1.heap.size := ltAt p1 hb
              clear hb hr3
              go_wp2_with fail
              refine (SoundQ_any An Ae cn ce ns es A3 k3 y v1 (HG.out.q hl1 hl2) HR3.out (by have := soundQ.len HY.out; omega)).mono ?_
              rw [HY.out]
              rintro e v2 ⟨rfl, hb⟩
              replace c0 := cellAt c0 hb (by omega)
              replace c1 := cellAt c1 hb (by omega)
              replace e0 := cellAt e0 hb (by omega)
              replace HJ := Lib.hid (HJ.out.at hb)
              replace HG := Lib.hid (HG.out.at hb)
              replace HQ := Lib.hid (HQ.out.at hb)
              replace n1 : w.heap.size < v2.heap.size := ltAt n1 hb
              replace HB := Lib.hid (lift HB.out hb)
              replace HBl := Lib.hid (lift HBl.out hb)
              replace p1 : wr.heap.size < v2.heap.size := ltAt p1 hb
              clear hb
              go_wp2_with fail
              go_roundw
              case rel => exact ⟨m + 1, by omega, by go_num, by have hbk := HBl.out; have hz := hbk.size; exact (by repeat (first | exact Below.refl _ _ | assumption | refine Below.alloc ?_ (by first | omega | (simp <;> omega)) _ | refine Below.setCell ?_ (by first | omega | (simp <;> omega)) _ | refine Below.drew ?_))⟩
              case measure => simp [intOf]; omega
          · have HX := Lib.hid (sound_begin HSo.out hbq)
            refine (BeginQ_any An Ae ns.length cn ce es _ c q s W2 HG.out.re HQ.out (by omega) (by omega)).mono ?_
            rw [hbq]
            rintro e w5 ⟨A1, k1, rfl, hk1, hr1, hb⟩
            simp only [Option.getD_some, Option.isSome_some] at hk1 hr1 ⊢
            have HR1 : Hid (QIn w5 A1 k1 x) := ⟨hr1, soundQ.ok HX.out, hk1⟩
            replace c0 := cellAt c0 hb (by omega)
            replace c1 := cellAt c1 hb (by omega)
            replace e0 := cellAt e0 hb (by omega)
            replace HJ := Lib.hid (HJ.out.at hb)
            replace HG := Lib.hid (HG.out.at hb)
            replace HQ := Lib.hid (HQ.out.at hb)
            replace n1 : w.heap.size < w5.heap.size := ltAt n1 hb
            replace HB := Lib.hid (lift HB.out hb)
            replace HBl := Lib.hid (lift HBl.out hb)
            replace p1 : wr.heap.size < w5.heap.size := ltAt p1 hb
            clear hb hr1
            go_wp2_with fail
            refine (SoundQ_any An Ae cn ce ns es A1 k1 x w5 (HG.out.q hl1 hl2) HR1.out (by have := soundQ.len HX.out; omega)).mono ?_
            rw [HX.out]
            rintro e w6 ⟨rfl, hb⟩
            replace c0 := cellAt c0 hb (by omega)
            replace c1 := cellAt c1 hb (by omega)
            replace e0 := cellAt e0 hb (by omega)
            replace HJ := Lib.hid (HJ.out.at hb)
            replace HG := Lib.hid (HG.out.at hb)
            replace HQ := Lib.hid (HQ.out.at hb)
            replace n1 : w.heap.size < w6.heap.size := ltAt n1 hb
            replace HB := Lib.hid (lift HB.out hb)
            replace HBl := Lib.hid (lift HBl.out hb)
            replace p1 : wr.heap.size < w6.heap.size := ltAt p1 hb
            clear hb
            go_wp2_with fail
            rcases hf : finishQ q s en with _ | y
            · refine (FinishQ_any _ c q s en w6 HQ.out (by omega)).mono ?_
              rw [hf]
              rintro e v1 ⟨A3, k3, rfl, hk3, hr3, hb⟩
              replace c0 := cellAt c0 hb (by omega)
              replace c1 := cellAt c1 hb (by omega)
              replace e0 := cellAt e0 hb (by omega)
              replace HJ := Lib.hid (HJ.out.at hb)
              replace HG := Lib.hid (HG.out.at hb)
              replace HQ := Lib.hid (HQ.out.at hb)
              replace n1 : w.heap.size < v1.heap.size := ltAt n1 hb
              replace HB := Lib.hid (lift HB.out hb)
              replace HBl := Lib.hid (lift HBl.out hb)
              replace p1 : wr.heap.size < v1.heap.size := ltAt p1 hb
              clear hb hr3
              go_wp2_with fail
              go_roundw
              case rel => exact ⟨m + 1, by omega, by go_num, by have hbk := HBl.out; have hz := hbk.size; exact (by repeat (first | exact Below.refl _ _ | assumption | refine Below.alloc ?_ (by first | omega | (simp <;> omega)) _ | refine Below.setCell ?_ (by first | omega | (simp <;> omega)) _ | refine Below.drew ?_))⟩
              case measure => simp [intOf]; omega
            · have HY := Lib.hid (sound_finish HSo.out hf)
              refine (FinishQ_any _ c q s en w6 HQ.out (by omega)).mono ?_
              rw [hf]
              rintro e v1 ⟨A3, k3, rfl, hk3, hr3, hb⟩
              simp only [Option.getD_some, Option.isSome_some] at hk3 hr3 ⊢
              have HR3 : Hid (QIn v1 A3 k3 y) := ⟨hr3, soundQ.ok HY.out, hk3⟩
              replace c0 := cellAt c0 hb (by omega)
              replace c1 := cellAt c1 hb (by omega)
              replace e0 := cellAt e0 hb (by omega)
              replace HJ := Lib.hid (HJ.out.at hb)
              replace HG := Lib.hid (HG.out.at hb)
              replace HQ := Lib.hid (HQ.out.at hb)
              replace n1 : w.heap.size < v1.heap.size := ltAt n1 hb
              replace HB := Lib.hid (lift HB.out hb)
              replace HBl := Lib.hid (lift HBl.out hb)
              replace p1 : wr.heap.size < v1.heap.size := ltAt p1 hb
              clear hb hr3
              go_wp2_with fail
              refine (SoundQ_any An Ae cn ce ns es A3 k3 y v1 (HG.out.q hl1 hl2) HR3.out (by have := soundQ.len HY.out; omega)).mono ?_
              rw [HY.out]
              rintro e v2 ⟨rfl, hb⟩
              replace c0 := cellAt c0 hb (by omega)
              replace c1 := cellAt c1 hb (by omega)
              replace e0 := cellAt e0 hb (by omega)
              replace HJ := Lib.hid (HJ.out.at hb)
              replace HG := Lib.hid (HG.out.at hb)
              replace HQ := Lib.hid (HQ.out.at hb)
              replace n1 : w.heap.size < v2.heap.size := ltAt n1 hb
              replace HB := Lib.hid (lift HB.out hb)
              replace HBl := Lib.hid (lift HBl.out hb)
              replace p1 : wr.heap.size < v2.heap.size := ltAt p1 hb
              clear hb
              go_wp2_with fail
              go_roundw
              case rel => exact ⟨m + 1, by omega, by go_num, by have hbk := HBl.out; have hz := hbk.size; exact (by repeat (first | exact Below.refl _ _ | assumption | refine Below.alloc ?_ (by first | omega | (simp <;> omega)) _ | refine Below.setCell ?_ (by first | omega | (simp <;> omega)) _ | refine Below.drew ?_))⟩
              case measure => simp [intOf]; omega
        · have HC := Lib.hid (sound_clear HSo.out)
          have HIn := Lib.hid (fun h => sound_inst (jobs := jobs) (mode := mode) HSo.out h)
          rcases hcl : clearQ q with ⟨cl1, cl2⟩
          rw [hcl] at HC
          have HCl := Lib.hid hcl
          clear hcl
          rcases hin : instQ q jobs mode with ⟨⟨r1, r2⟩, r3⟩
          rw [hin] at HIn
          have HI := Lib.hid hin
          clear hin
          go_wp2_with fail
          refine (ClearQ_any A c q wr HQ.out (by omega)).mono ?_
          rw [HCl.out]
          rintro e w5 ⟨A1, k1, A2, k2, rfl, hk1, hr1, hr2, hb⟩
          have HR1 : Hid (QIn w5 A1 k1 cl1) := ⟨hr1, soundQ.ok HC.out, hk1⟩
          replace c0 := cellAt c0 hb (by omega)
          replace c1 := cellAt c1 hb (by omega)
          replace HJ := Lib.hid (HJ.out.at hb)
          replace HG := Lib.hid (HG.out.at hb)
          replace HQ := Lib.hid (HQ.out.at hb)
          replace n1 : w.heap.size < w5.heap.size := ltAt n1 hb
          replace HB := Lib.hid (lift HB.out hb)
          clear hb hr1 hr2
          go_wp2_with fail
          refine (InstallQ_all A c q A0 cj jobs mode w5 HQ.out HJ.out (by omega) (by omega)).mono ?_
          rw [HI.out]
          rintro e w6 ⟨A3, k3, A4, k4, rfl, hk3, hr3, hr4, hb⟩
          simp only at hk3 hr3
          have HR3 := Lib.hid hr3
          replace c0 := cellAt c0 hb (by omega)
          replace c1 := cellAt c1 hb (by omega)
          replace HJ := Lib.hid (HJ.out.at hb)
          replace HG := Lib.hid (HG.out.at hb)
          replace HQ := Lib.hid (HQ.out.at hb)
          replace n1 : w.heap.size < w6.heap.size := ltAt n1 hb
          replace HB := Lib.hid (lift HB.out hb)
          replace HR1 := Lib.hid (HR1.out.at hb)
          clear hb hr3 hr4
          go_wp2_with fail
          refine (SoundQ_any An Ae cn ce ns es A1 k1 cl1 w6 (HG.out.q hl1 hl2) HR1.out (by have := soundQ.len HC.out; omega)).mono ?_
          rw [HC.out]
          rintro e w7 ⟨rfl, hb⟩
          replace c0 := cellAt c0 hb (by omega)
          replace c1 := cellAt c1 hb (by omega)
          replace HJ := Lib.hid (HJ.out.at hb)
          replace HG := Lib.hid (HG.out.at hb)
          replace HQ := Lib.hid (HQ.out.at hb)
          replace n1 : w.heap.size < w7.heap.size := ltAt n1 hb
          replace HB := Lib.hid (lift HB.out hb)
          replace HR1 := Lib.hid (HR1.out.at hb)
          replace HR3 := Lib.hid (HR3.out.at hb)
          clear hb
          by_cases h0 : r3 = 0
          · have HY : Hid (soundQ ns es r1 = true) := HIn.out h0
            have HR4 : Hid (QIn w7 A3 k3 r1) := ⟨HR3.out, soundQ.ok HY.out, hk3⟩
            subst h0
            go_wp2_with fail
            refine (SoundQ_any An Ae cn ce ns es A3 k3 r1 w7 (HG.out.q hl1 hl2) HR4.out (by have := soundQ.len HY.out; omega)).mono ?_
            rw [HY.out]
            rintro e w8 ⟨rfl, hb⟩
            replace c0 := cellAt c0 hb (by omega)
            replace c1 := cellAt c1 hb (by omega)
            replace HJ := Lib.hid (HJ.out.at hb)
            replace HG := Lib.hid (HG.out.at hb)
            replace HQ := Lib.hid (HQ.out.at hb)
            replace n1 : w.heap.size < w8.heap.size := ltAt n1 hb
            replace HB := Lib.hid (lift HB.out hb)
            replace HR1 := Lib.hid (HR1.out.at hb)
            replace HR3 := Lib.hid (HR3.out.at hb)
            clear hb
            go_wp2_with fail
            go_ret
            exact ⟨rfl, HB.out⟩
          · have h0b : (r3 != 0) = true := by simpa using h0
            go_wp2_with fail
            go_ret
            exact ⟨rfl, HB.out⟩
end Od
end Go.Proofs.YtanfnejbnmenkaaGreat
end
