/- My texts, joined for the claim: LqD. -/
import Derived.Test.YtanfnejbnmenkaaGreatZB15

section
/- The walks of the laws QueueStops, QueueDiamond. (bel2) -/
namespace Go.Proofs.YtanfnejbnmenkaaGreat
open Go.RowKit Go.Sort
set_option linter.unusedSimpArgs false

namespace Od
theorem anyf_succ {α : Type} {p : α → Bool} {xs : List α} {k : Nat} (hk : k < xs.length) (h : (xs.take k).any p = false) : (xs.take (k + 1)).any p = p xs[k] := by
  rw [List.take_succ_eq_append_getElem hk, List.any_append, h]
  simp
/-- Whom the law QueueStops asks. -/
theorem stops_has {ns : List Nd} {es : List Ed} {q : List Jb} (hs : soundQ ns es q = true) {a b : Str} (hab : Ah es a b = true) (ha : pickT (waitAt a) 0 q ≠ 0) (hb : pickT (waitAt b) 0 q ≠ 0) :
    hasB (waitsQ es q a) b = (pickT (waitAt b) 0 q == 2 || pickT (waitAt b) 0 q == 3) ∧ hasB (waitsQ es q b) a = !(pickT (waitAt b) 0 q == 2 || pickT (waitAt b) 0 q == 3) := by
  obtain ⟨_, hi, hm, _⟩ := soundQ_iff.1 hs
  obtain ⟨x, hx, rfl, hx1, hx2⟩ := wait_type (mayQ.dq hm) ha
  obtain ⟨y, hy, rfl, hy1, hy2⟩ := wait_type (mayQ.dq hm) hb
  obtain ⟨h1, h2⟩ := stops hi hm hx hy hx1 hy1 hab
  rw [← hy2]
  have he : endsB y = (y.2.1 == 2 || y.2.1 == 3) := rfl
  rw [← he]
  have h1' := (hasB_iff (waitsQ es q x.1) y.1).trans h1
  have h2' := (hasB_iff (waitsQ es q y.1) x.1).trans h2
  cases he2 : endsB y
  · rw [he2] at h1' h2'
    constructor
    · cases h : hasB (waitsQ es q x.1) y.1
      · rfl
      · exact absurd (h1'.1 h) (by simp)
    · exact h2'.2 rfl
  · rw [he2] at h1' h2'
    constructor
    · exact h1'.2 rfl
    · cases h : hasB (waitsQ es q y.1) x.1
      · rfl
      · exact absurd (h2'.1 h) (by simp)
theorem waitAt_mk (u s : Str) (t r d : Int) : waitAt u (s, t, r, d) = (r == 1 && s == u) := rfl
set_option maxRecDepth 100000 in
set_option maxHeartbeats 8000000 in
theorem queueStops_any (An Ae : Option Addr) (cn ce : Nat) (ns : List Nd) (es : List Ed) (A : Option Addr) (c : Nat) (q : List Jb) (a b : Str) (w : World) (hg : GIw w An Ae ns es) (hq : QIn w A c q) (hlq : q.length ≤ 140737488351232) :
    Calls Tryz.prog 10 #[gV An ns.length cn Ae es.length ce, .slice A q.length c, sv a, sv b] w fun e w' => e = .returned (.bool true) ∧ Below w.heap.size w w' := by
  have HG := Lib.hid hg
  have HQ := Lib.hid hq
  clear hg hq
  go_enter Tryz.func10, Tryz.ntmps10
  go_wp2_with fail
  first | (refine wp_named ?_; intro W1 hW) | (refine calls_named ?_; intro W1 hW)
  have B1 : Below w.heap.size w W1 := by rw [hW]; exact (by repeat (first | exact Below.refl _ _ | assumption | refine Below.alloc ?_ (by first | omega | (simp <;> omega)) _ | refine Below.setCell ?_ (by first | omega | (simp <;> omega)) _ | refine Below.drew ?_))
  replace HG := Lib.hid (HG.out.at B1)
  replace HQ := Lib.hid (HQ.out.at B1)
  have nw1 : w.heap.size < W1.heap.size := by rw [hW]; simp <;> omega
  have c0 : W1.cell? ⟨w.heap.size, 0, none⟩ = some (.slice An ns.length cn) := by rw [hW]; go_simp
  have c1 : W1.cell? ⟨w.heap.size, 1, none⟩ = some (.slice Ae es.length ce) := by rw [hW]; go_simp
  clear hW
  have HB := Lib.hid B1
  clear B1
  refine (shown_any W1).mono ?_
  rintro e w2 ⟨rfl, hb⟩
  replace c0 := cellAt c0 hb (by omega)
  replace c1 := cellAt c1 hb (by omega)
  replace HG := Lib.hid (HG.out.at hb)
  replace HQ := Lib.hid (HQ.out.at hb)
  replace nw1 : w.heap.size < w2.heap.size := ltAt nw1 hb
  replace HB := Lib.hid (lift HB.out hb)
  clear hb
  go_wp2_with fail
  refine (small_any An Ae cn ce ns es w2).mono ?_
  rintro e w3 ⟨rfl, hb⟩
  replace c0 := cellAt c0 hb (by omega)
  replace c1 := cellAt c1 hb (by omega)
  replace HG := Lib.hid (HG.out.at hb)
  replace HQ := Lib.hid (HQ.out.at hb)
  replace nw1 : w.heap.size < w3.heap.size := ltAt nw1 hb
  replace HB := Lib.hid (lift HB.out hb)
  clear hb
  cases hsm : smallB ns es
  · go_wp2_with fail
    go_ret
    exact ⟨rfl, HB.out⟩
  · have hs2 := smallB_iff.1 hsm
    have hl1 := hs2.1
    have hl2 := hs2.2
    clear hs2
    go_wp2_with fail
    refine (SoundQ_any An Ae cn ce ns es A c q w3 (HG.out.q hl1 hl2) HQ.out (by omega)).mono ?_
    rintro e w4 ⟨rfl, hb⟩
    replace c0 := cellAt c0 hb (by omega)
    replace c1 := cellAt c1 hb (by omega)
    replace HG := Lib.hid (HG.out.at hb)
    replace HQ := Lib.hid (HQ.out.at hb)
    replace nw1 : w.heap.size < w4.heap.size := ltAt nw1 hb
    replace HB := Lib.hid (lift HB.out hb)
    clear hb
    cases hso : soundQ ns es q
    · go_wp2_with fail
      go_ret
      exact ⟨rfl, HB.out⟩
    · have HSo := Lib.hid hso
      have hlq64 := soundQ.len hso
      clear hso hlq
      go_wp2_with fail
      refine (Ahead_any An Ae ns.length cn ce es a b w4 HG.out.re (by omega)).mono ?_
      rintro e w5 ⟨rfl, hb⟩
      replace c0 := cellAt c0 hb (by omega)
      replace c1 := cellAt c1 hb (by omega)
      replace HG := Lib.hid (HG.out.at hb)
      replace HQ := Lib.hid (HQ.out.at hb)
      replace nw1 : w.heap.size < w5.heap.size := ltAt nw1 hb
      replace HB := Lib.hid (lift HB.out hb)
      clear hb
      cases hab : es.any (aheadB a b)
      · go_wp2_with fail
        go_ret
        exact ⟨rfl, HB.out⟩
      · have HAb : Hid (Ah es a b = true) := hab
        clear hab
        go_wp2_with fail
        go_loopw [9, 10, 34] (fun v1 v2 i wr => ∃ m : Nat, m ≤ q.length ∧ v1 = .int .i64 (pickT (waitAt a) 0 (q.take m)) ∧ v2 = .int .i64 (pickT (waitAt b) 0 (q.take m)) ∧ i = .int .i64 m ∧ Below w5.heap.size w5 wr) (fun _ _ i _ => q.length - (intOf i).toNat)
        case atStart => exact ⟨0, Nat.zero_le _, rfl, rfl, rfl, Below.refl _ _⟩
        case round =>
          obtain ⟨m, hm, rfl, rfl, rfl, hb⟩ := hrel
          have HBl := Lib.hid hb
          replace c0 := cellAt c0 hb (by omega)
          replace c1 := cellAt c1 hb (by omega)
          replace HG := Lib.hid (HG.out.at hb)
          replace HQ := Lib.hid (HQ.out.at hb)
          replace nw1 : w.heap.size < wr.heap.size := ltAt nw1 hb
          replace HB := Lib.hid (lift HB.out hb)
          clear hb
          by_cases hlt : m < q.length
          · obtain ⟨b2, o2, hA, hB2, x0, x1, x2, x3⟩ := HQ.out.rq.job hlt
            have hs1 := pick_succ (p := waitAt a) hlt 0
            have hs2 := pick_succ (p := waitAt b) hlt 0
            generalize q[m] = x at x0 x1 x2 x3 hs1 hs2
            generalize pickT (waitAt a) 0 (q.take m) = n1 at *
            generalize pickT (waitAt b) 0 (q.take m) = n2 at *
            obtain ⟨s, t, r, d⟩ := x
            simp only at x0 x1 x2 x3
            rw [waitAt_mk] at hs1 hs2
            simp only at hs1 hs2
            have m1 : (0 : Int) ≤ (m : Int) := by omega
            have m2 : (m : Int) < (q.length : Int) := by omega
            subst hA
            by_cases r1 : r = 1
            · subst r1
              cases ea : (s == a)
              · cases eb : (s == b)
                · rw [ea] at hs1
                  rw [eb] at hs2
                  have HS1 := Lib.hid (show _ = n1 from hs1)
                  have HS2 := Lib.hid (show _ = n2 from hs2)
                  clear hs1 hs2
                  go_wp2_with fail
                  go_roundw
                  case rel => exact ⟨m + 1, by omega, by rw [HS1.out], by rw [HS2.out], by go_num, by have hbk := HBl.out; have hz := hbk.size; exact (by repeat (first | exact Below.refl _ _ | assumption | refine Below.alloc ?_ (by first | omega | (simp <;> omega)) _ | refine Below.setCell ?_ (by first | omega | (simp <;> omega)) _ | refine Below.drew ?_))⟩
                  case measure => simp [intOf]; omega
                · rw [ea] at hs1
                  rw [eb] at hs2
                  have HS1 := Lib.hid (show _ = n1 from hs1)
                  have HS2 := Lib.hid (show _ = t from hs2)
                  clear hs1 hs2
                  go_wp2_with fail
                  go_roundw
                  case rel => exact ⟨m + 1, by omega, by rw [HS1.out], by rw [HS2.out], by go_num, by have hbk := HBl.out; have hz := hbk.size; exact (by repeat (first | exact Below.refl _ _ | assumption | refine Below.alloc ?_ (by first | omega | (simp <;> omega)) _ | refine Below.setCell ?_ (by first | omega | (simp <;> omega)) _ | refine Below.drew ?_))⟩
                  case measure => simp [intOf]; omega
              · cases eb : (s == b)
                · rw [ea] at hs1
                  rw [eb] at hs2
                  have HS1 := Lib.hid (show _ = t from hs1)
                  have HS2 := Lib.hid (show _ = n2 from hs2)
                  clear hs1 hs2
                  go_wp2_with fail
                  go_roundw
                  case rel => exact ⟨m + 1, by omega, by rw [HS1.out], by rw [HS2.out], by go_num, by have hbk := HBl.out; have hz := hbk.size; exact (by repeat (first | exact Below.refl _ _ | assumption | refine Below.alloc ?_ (by first | omega | (simp <;> omega)) _ | refine Below.setCell ?_ (by first | omega | (simp <;> omega)) _ | refine Below.drew ?_))⟩
                  case measure => simp [intOf]; omega
                · rw [ea] at hs1
                  rw [eb] at hs2
                  have HS1 := Lib.hid (show _ = t from hs1)
                  have HS2 := Lib.hid (show _ = t from hs2)
                  clear hs1 hs2
                  go_wp2_with fail
                  go_roundw
                  case rel => exact ⟨m + 1, by omega, by rw [HS1.out], by rw [HS2.out], by go_num, by have hbk := HBl.out; have hz := hbk.size; exact (by repeat (first | exact Below.refl _ _ | assumption | refine Below.alloc ?_ (by first | omega | (simp <;> omega)) _ | refine Below.setCell ?_ (by first | omega | (simp <;> omega)) _ | refine Below.drew ?_))⟩
                  case measure => simp [intOf]; omega
            · have r1b : (r == 1) = false := by simpa using r1
              rw [r1b] at hs1 hs2
              have HS1 := Lib.hid (show _ = n1 from hs1)
              have HS2 := Lib.hid (show _ = n2 from hs2)
              clear hs1 hs2
              go_wp2_with fail
              go_roundw
              case rel => exact ⟨m + 1, by omega, by rw [HS1.out], by rw [HS2.out], by go_num, by have hbk := HBl.out; have hz := hbk.size; exact (by repeat (first | exact Below.refl _ _ | assumption | refine Below.alloc ?_ (by first | omega | (simp <;> omega)) _ | refine Below.setCell ?_ (by first | omega | (simp <;> omega)) _ | refine Below.drew ?_))⟩
              case measure => simp [intOf]; omega
          · have hmq : m = q.length := by omega
            subst hmq
            rw [List.take_length]
            have hst := stops_has HSo.out HAb.out
            have hwa := waitsQ_len es q a
            have hwb := waitsQ_len es q b
            generalize pickT (waitAt a) 0 q = n1 at *
            generalize pickT (waitAt b) 0 q = n2 at *
            by_cases z1 : n1 = 0
            · subst z1
              go_wp2_with fail
              go_ret
              exact ⟨rfl, HB.out⟩
            · have z1b : (n1 == 0) = false := by simpa using z1
              by_cases z2 : n2 = 0
              · subst z2
                go_wp2_with fail
                go_ret
                exact ⟨rfl, HB.out⟩
              · have z2b : (n2 == 0) = false := by simpa using z2
                obtain ⟨h1, h2⟩ := hst z1 z2
                clear hst z1
                have HH1 := Lib.hid h1
                have HH2 := Lib.hid h2
                clear h1 h2
                cases y2 : (n2 == 2)
                · cases y3 : (n2 == 3)
                  · go_wp2_with fail
                    refine (WaitsQ_any An Ae ns.length cn ce es A c q a wr HG.out.re HQ.out.rq (by omega) (by omega) HQ.out.ok).mono ?_
                    rintro e w6 ⟨A1, k1, rfl, ho1, hb⟩
                    have HR1 := Lib.hid (own_rd' ho1)
                    replace c0 := cellAt c0 hb (by omega)
                    replace c1 := cellAt c1 hb (by omega)
                    replace HG := Lib.hid (HG.out.at hb)
                    replace HQ := Lib.hid (HQ.out.at hb)
                    replace nw1 : w.heap.size < w6.heap.size := ltAt nw1 hb
                    replace HB := Lib.hid (lift HB.out hb)
                    clear hb ho1
                    go_wp2_with fail
                    refine (HasS_any A1 k1 (waitsQ es q a) b w6 HR1.out (by omega)).mono ?_
                    rw [show hasB (waitsQ es q a) b = false from HH1.out.trans (by simp [y2, y3])]
                    rintro e w7 ⟨rfl, rfl⟩
                    go_wp2_with fail
                    refine (WaitsQ_any An Ae ns.length cn ce es A c q b w6 HG.out.re HQ.out.rq (by omega) (by omega) HQ.out.ok).mono ?_
                    rintro e w7 ⟨A2, k2, rfl, ho2, hb⟩
                    have HR2 := Lib.hid (own_rd' ho2)
                    replace c0 := cellAt c0 hb (by omega)
                    replace c1 := cellAt c1 hb (by omega)
                    replace HG := Lib.hid (HG.out.at hb)
                    replace HQ := Lib.hid (HQ.out.at hb)
                    replace nw1 : w.heap.size < w7.heap.size := ltAt nw1 hb
                    replace HB := Lib.hid (lift HB.out hb)
                    clear hb ho2
                    go_wp2_with fail
                    refine (HasS_any A2 k2 (waitsQ es q b) a w7 HR2.out (by omega)).mono ?_
                    rw [show hasB (waitsQ es q b) a = true from HH2.out.trans (by simp [y2, y3])]
                    rintro e w8 ⟨rfl, rfl⟩
                    go_wp2_with fail
                    go_ret
                    exact ⟨rfl, HB.out⟩
                  · go_wp2_with fail
                    refine (WaitsQ_any An Ae ns.length cn ce es A c q a wr HG.out.re HQ.out.rq (by omega) (by omega) HQ.out.ok).mono ?_
                    rintro e w6 ⟨A1, k1, rfl, ho1, hb⟩
                    have HR1 := Lib.hid (own_rd' ho1)
                    replace c0 := cellAt c0 hb (by omega)
                    replace c1 := cellAt c1 hb (by omega)
                    replace HG := Lib.hid (HG.out.at hb)
                    replace HQ := Lib.hid (HQ.out.at hb)
                    replace nw1 : w.heap.size < w6.heap.size := ltAt nw1 hb
                    replace HB := Lib.hid (lift HB.out hb)
                    clear hb ho1
                    go_wp2_with fail
                    refine (HasS_any A1 k1 (waitsQ es q a) b w6 HR1.out (by omega)).mono ?_
                    rw [show hasB (waitsQ es q a) b = true from HH1.out.trans (by simp [y2, y3])]
                    rintro e w7 ⟨rfl, rfl⟩
                    go_wp2_with fail
                    refine (WaitsQ_any An Ae ns.length cn ce es A c q b w6 HG.out.re HQ.out.rq (by omega) (by omega) HQ.out.ok).mono ?_
                    rintro e w7 ⟨A2, k2, rfl, ho2, hb⟩
                    have HR2 := Lib.hid (own_rd' ho2)
                    replace c0 := cellAt c0 hb (by omega)
                    replace c1 := cellAt c1 hb (by omega)
                    replace HG := Lib.hid (HG.out.at hb)
                    replace HQ := Lib.hid (HQ.out.at hb)
                    replace nw1 : w.heap.size < w7.heap.size := ltAt nw1 hb
                    replace HB := Lib.hid (lift HB.out hb)
                    clear hb ho2
                    go_wp2_with fail
                    refine (HasS_any A2 k2 (waitsQ es q b) a w7 HR2.out (by omega)).mono ?_
                    rw [show hasB (waitsQ es q b) a = false from HH2.out.trans (by simp [y2, y3])]
                    rintro e w8 ⟨rfl, rfl⟩
                    go_wp2_with fail
                    go_ret
                    exact ⟨rfl, HB.out⟩
                · go_wp2_with fail
                  refine (WaitsQ_any An Ae ns.length cn ce es A c q a wr HG.out.re HQ.out.rq (by omega) (by omega) HQ.out.ok).mono ?_
                  rintro e w6 ⟨A1, k1, rfl, ho1, hb⟩
                  have HR1 := Lib.hid (own_rd' ho1)
                  replace c0 := cellAt c0 hb (by omega)
                  replace c1 := cellAt c1 hb (by omega)
                  replace HG := Lib.hid (HG.out.at hb)
                  replace HQ := Lib.hid (HQ.out.at hb)
                  replace nw1 : w.heap.size < w6.heap.size := ltAt nw1 hb
                  replace HB := Lib.hid (lift HB.out hb)
                  clear hb ho1
                  go_wp2_with fail
                  refine (HasS_any A1 k1 (waitsQ es q a) b w6 HR1.out (by omega)).mono ?_
                  rw [show hasB (waitsQ es q a) b = true from HH1.out.trans (by simp [y2])]
                  rintro e w7 ⟨rfl, rfl⟩
                  go_wp2_with fail
                  refine (WaitsQ_any An Ae ns.length cn ce es A c q b w6 HG.out.re HQ.out.rq (by omega) (by omega) HQ.out.ok).mono ?_
                  rintro e w7 ⟨A2, k2, rfl, ho2, hb⟩
                  have HR2 := Lib.hid (own_rd' ho2)
                  replace c0 := cellAt c0 hb (by omega)
                  replace c1 := cellAt c1 hb (by omega)
                  replace HG := Lib.hid (HG.out.at hb)
                  replace HQ := Lib.hid (HQ.out.at hb)
                  replace nw1 : w.heap.size < w7.heap.size := ltAt nw1 hb
                  replace HB := Lib.hid (lift HB.out hb)
                  clear hb ho2
                  go_wp2_with fail
                  refine (HasS_any A2 k2 (waitsQ es q b) a w7 HR2.out (by omega)).mono ?_
                  rw [show hasB (waitsQ es q b) a = false from HH2.out.trans (by simp [y2])]
                  rintro e w8 ⟨rfl, rfl⟩
                  go_wp2_with fail
                  go_ret
                  exact ⟨rfl, HB.out⟩
set_option maxRecDepth 100000 in
set_option maxHeartbeats 8000000 in
theorem step_any (An Ae : Option Addr) (nn cn ce : Nat) (es : List Ed) (A : Option Addr) (c : Nat) (q : List Jb) (u : Str) (en : Int) (w : World) (hr : Rd w w.heap.size 3 Ae es.length (edsC es)) (hq : QIn w A c q) (hl : es.length ≤ 100000) (hlq : q.length ≤ 1000000) :
    Calls Tryz.prog 37 #[gV An nn cn Ae es.length ce, .slice A q.length c, sv u, .int .i64 en] w (JobsRet (stepQ es q u en) w) := by
  have Hr := Lib.hid hr
  have HQ := Lib.hid hq
  clear hr hq
  go_enter Tryz.func37, Tryz.ntmps37
  go_wp2_with fail
  first | (refine wp_named ?_; intro W1 hW) | (refine calls_named ?_; intro W1 hW)
  have B1 : Below w.heap.size w W1 := by rw [hW]; exact (by repeat (first | exact Below.refl _ _ | assumption | refine Below.alloc ?_ (by first | omega | (simp <;> omega)) _ | refine Below.setCell ?_ (by first | omega | (simp <;> omega)) _ | refine Below.drew ?_))
  replace Hr := Lib.hid (Hr.out.at B1)
  replace HQ := Lib.hid (HQ.out.at B1)
  have nw1 : w.heap.size < W1.heap.size := by rw [hW]; simp <;> omega
  have g0 : W1.cell? ⟨w.heap.size, 0, none⟩ = some (.slice An nn cn) := by rw [hW]; go_simp
  have g1 : W1.cell? ⟨w.heap.size, 1, none⟩ = some (.slice Ae es.length ce) := by rw [hW]; go_simp
  clear hW
  have HB1 := Lib.hid B1
  clear B1
  go_wp2_with fail
  go_loopw [14] (fun i wr => ∃ m : Nat, m ≤ q.length ∧ i = .int .i64 m ∧ Hid ((q.take m).any (fun j => j.1 == u && j.2.2.1 == 2) = false) ∧ Below W1.heap.size W1 wr) (fun i _ => q.length - (intOf i).toNat)
  case atStart => exact ⟨0, Nat.zero_le _, rfl, rfl, Below.refl _ _⟩
  case round =>
    obtain ⟨m, hm, rfl, hall, hb⟩ := hrel
    have HB := Lib.hid (lift HB1.out hb)
    have HBl := Lib.hid hb
    by_cases hlt : m < q.length
    · have hs := anyf_succ hlt hall.out
      have ha : (q.take (m + 1)).any (fun j => j.1 == u && j.2.2.1 == 2) = true → runsB q u = true := fun h => by
        unfold runsB
        rw [List.any_eq_true] at h ⊢
        obtain ⟨x, hx, hx2⟩ := h
        exact ⟨x, List.mem_of_mem_take hx, hx2⟩
      have HA := Lib.hid ha
      replace g0 := cellAt g0 hb (by omega)
      replace g1 := cellAt g1 hb (by omega)
      replace Hr := Lib.hid (Hr.out.at hb)
      replace HQ := Lib.hid (HQ.out.at hb)
      replace nw1 : w.heap.size < wr.heap.size := ltAt nw1 hb
      clear hb ha
      obtain ⟨b2, o2, hA, hB2, x0, x1, x2, x3⟩ := HQ.out.rq.job hlt
      subst hA
      generalize q[m] = x at x0 x1 x2 x3 hs
      obtain ⟨s, t, r, d⟩ := x
      simp only at x0 x1 x2 x3
      have HS := Lib.hid hs
      clear hs
      have m1 : (0 : Int) ≤ (m : Int) := by omega
      have m2 : (m : Int) < (q.length : Int) := by omega
      cases eu : (s == u)
      · have HF := Lib.hid (show (fun j : Jb => j.1 == u && j.2.2.1 == 2) (s, t, r, d) = false by show (s == u && r == 2) = false; simp only [eu, Bool.true_and, Bool.and_true, Bool.false_and, Bool.and_false])
        go_wp2_with fail
        go_roundw
        case rel => exact ⟨m + 1, by omega, by go_num, HS.out.trans HF.out, by have hbk := HBl.out; have hz := hbk.size; exact (by repeat (first | exact Below.refl _ _ | assumption | refine Below.alloc ?_ (by first | omega | (simp <;> omega)) _ | refine Below.setCell ?_ (by first | omega | (simp <;> omega)) _ | refine Below.drew ?_))⟩
        case measure => simp [intOf]; omega
      · by_cases r2 : r = 2
        · subst r2
          have HF := Lib.hid (show runsB q u = true from HA.out (HS.out.trans (by show (s == u && (2 : Int) == 2) = true; rw [eu]; rfl)))
          have HE := Lib.hid (show stepQ es q u en = finishQ q u en by unfold stepQ; rw [if_pos HF.out])
          go_wp2_with fail
          first | (refine wp_named ?_; intro W2 hW) | (refine calls_named ?_; intro W2 hW)
          have B2 : Below wr.heap.size wr W2 := by rw [hW]; exact (by repeat (first | exact Below.refl _ _ | assumption | refine Below.alloc ?_ (by first | omega | (simp <;> omega)) _ | refine Below.setCell ?_ (by first | omega | (simp <;> omega)) _ | refine Below.drew ?_))
          replace g0 := cellAt g0 B2 (by omega)
          replace g1 := cellAt g1 B2 (by omega)
          replace Hr := Lib.hid (Hr.out.at B2)
          replace HQ := Lib.hid (HQ.out.at B2)
          replace nw1 : w.heap.size < W2.heap.size := ltAt nw1 B2
          replace HB := Lib.hid (lift HB.out B2)
          replace HBl := Lib.hid (lift HBl.out B2)
          clear hW
          clear B2 x0 x1 x2 x3
          refine (FinishQ_any _ c q u en W2 HQ.out (by omega)).mono ?_
          rintro e w5 ⟨A1, k1, rfl, hk1, hr1, hb⟩
          replace g0 := cellAt g0 hb (by omega)
          replace g1 := cellAt g1 hb (by omega)
          replace Hr := Lib.hid (Hr.out.at hb)
          replace HQ := Lib.hid (HQ.out.at hb)
          replace nw1 : w.heap.size < w5.heap.size := ltAt nw1 hb
          replace HB := Lib.hid (lift HB.out hb)
          replace HBl := Lib.hid (lift HBl.out hb)
          clear hb
          go_wp2_with fail
          go_ret2
          rw [HE.out]
          exact ⟨A1, k1, rfl, hk1, hr1, HB.out⟩
        · have r2b : (r == 2) = false := by simpa using r2
          have HF := Lib.hid (show (fun j : Jb => j.1 == u && j.2.2.1 == 2) (s, t, r, d) = false by show (s == u && r == 2) = false; simp only [r2b, Bool.true_and, Bool.and_true, Bool.false_and, Bool.and_false])
          go_wp2_with fail
          go_roundw
          case rel => exact ⟨m + 1, by omega, by go_num, HS.out.trans HF.out, by have hbk := HBl.out; have hz := hbk.size; exact (by repeat (first | exact Below.refl _ _ | assumption | refine Below.alloc ?_ (by first | omega | (simp <;> omega)) _ | refine Below.setCell ?_ (by first | omega | (simp <;> omega)) _ | refine Below.drew ?_))⟩
          case measure => simp [intOf]; omega
    · have hmq : m = q.length := by omega
      have h := hall.out
      rw [hmq, List.take_length] at h
      have HE := Lib.hid (show stepQ es q u en = beginQ es q u by unfold stepQ runsB; rw [h, if_neg (by simp)])
      clear h
      replace g0 := cellAt g0 hb (by omega)
      replace g1 := cellAt g1 hb (by omega)
      replace Hr := Lib.hid (Hr.out.at hb)
      replace HQ := Lib.hid (HQ.out.at hb)
      replace nw1 : w.heap.size < wr.heap.size := ltAt nw1 hb
      clear hb
      go_wp2_with fail
      refine (BeginQ_any An Ae nn cn ce es A c q u wr Hr.out HQ.out (by omega) (by omega)).mono ?_
      rintro e w5 ⟨A1, k1, rfl, hk1, hr1, hb⟩
      have HB5 := Lib.hid (lift HB.out hb)
      clear hb
      go_wp2_with fail
      go_ret2
      rw [HE.out]
      exact ⟨A1, k1, rfl, hk1, hr1, HB5.out⟩
theorem step_len (es : List Ed) (q : List Jb) (u : Str) (e : Int) : ((stepQ es q u e).getD []).length ≤ q.length := by
  unfold stepQ
  split
  · exact finish_len q u e
  · exact begin_len es q u
set_option maxRecDepth 100000 in
set_option maxHeartbeats 8000000 in
theorem queueDiamond_any (An Ae : Option Addr) (cn ce : Nat) (ns : List Nd) (es : List Ed) (A : Option Addr) (c : Nat) (q : List Jb) (a b : Str) (y0 y1 : Int) (w : World) (hg : GIw w An Ae ns es) (hq : QIn w A c q) (hlq : q.length ≤ 140737488351232) :
    Calls Tryz.prog 9 #[gV An ns.length cn Ae es.length ce, .slice A q.length c, sv a, sv b, .agg #[.int .i64 y0, .int .i64 y1]] w fun e w' => e = .returned (.bool true) ∧ Below w.heap.size w w' := by
  have HG := Lib.hid hg
  have HQ := Lib.hid hq
  clear hg hq
  go_enter Tryz.func9, Tryz.ntmps9
  go_wp2_with fail
  first | (refine wp_named ?_; intro W1 hW) | (refine calls_named ?_; intro W1 hW)
  have B1 : Below w.heap.size w W1 := by rw [hW]; exact (by repeat (first | exact Below.refl _ _ | assumption | refine Below.alloc ?_ (by first | omega | (simp <;> omega)) _ | refine Below.setCell ?_ (by first | omega | (simp <;> omega)) _ | refine Below.drew ?_))
  replace HG := Lib.hid (HG.out.at B1)
  replace HQ := Lib.hid (HQ.out.at B1)
  have nw1 : w.heap.size < W1.heap.size := by rw [hW]; simp <;> omega
  have c0 : W1.cell? ⟨w.heap.size, 0, none⟩ = some (.slice An ns.length cn) := by rw [hW]; go_simp
  have c1 : W1.cell? ⟨w.heap.size, 1, none⟩ = some (.slice Ae es.length ce) := by rw [hW]; go_simp
  have nw2 : w.heap.size + 1 < W1.heap.size := by rw [hW]; simp <;> omega
  have c2 : W1.cell? ⟨w.heap.size + 1, 0, none⟩ = some (.int .i64 y0) := by rw [hW]; go_simp
  have c3 : W1.cell? ⟨w.heap.size + 1, 1, none⟩ = some (.int .i64 y1) := by rw [hW]; go_simp
  clear hW
  have HB := Lib.hid B1
  clear B1
  refine (shown_any W1).mono ?_
  rintro e w2 ⟨rfl, hb⟩
  replace c0 := cellAt c0 hb (by omega)
  replace c1 := cellAt c1 hb (by omega)
  replace c2 := cellAt c2 hb (by omega)
  replace c3 := cellAt c3 hb (by omega)
  replace HG := Lib.hid (HG.out.at hb)
  replace HQ := Lib.hid (HQ.out.at hb)
  replace nw1 : w.heap.size < w2.heap.size := ltAt nw1 hb
  replace nw2 : w.heap.size + 1 < w2.heap.size := ltAt nw2 hb
  replace HB := Lib.hid (lift HB.out hb)
  clear hb
  go_wp2_with fail
  refine (small_any An Ae cn ce ns es w2).mono ?_
  rintro e w3 ⟨rfl, hb⟩
  replace c0 := cellAt c0 hb (by omega)
  replace c1 := cellAt c1 hb (by omega)
  replace c2 := cellAt c2 hb (by omega)
  replace c3 := cellAt c3 hb (by omega)
  replace HG := Lib.hid (HG.out.at hb)
  replace HQ := Lib.hid (HQ.out.at hb)
  replace nw1 : w.heap.size < w3.heap.size := ltAt nw1 hb
  replace nw2 : w.heap.size + 1 < w3.heap.size := ltAt nw2 hb
  replace HB := Lib.hid (lift HB.out hb)
  clear hb
  cases hsm : smallB ns es
  · go_wp2_with fail
    go_ret
    exact ⟨rfl, HB.out⟩
  · have hs2 := smallB_iff.1 hsm
    have hl1 := hs2.1
    have hl2 := hs2.2
    clear hs2
    go_wp2_with fail
    refine (SoundQ_any An Ae cn ce ns es A c q w3 (HG.out.q hl1 hl2) HQ.out (by omega)).mono ?_
    rintro e w4 ⟨rfl, hb⟩
    replace c0 := cellAt c0 hb (by omega)
    replace c1 := cellAt c1 hb (by omega)
    replace c2 := cellAt c2 hb (by omega)
    replace c3 := cellAt c3 hb (by omega)
    replace HG := Lib.hid (HG.out.at hb)
    replace HQ := Lib.hid (HQ.out.at hb)
    replace nw1 : w.heap.size < w4.heap.size := ltAt nw1 hb
    replace nw2 : w.heap.size + 1 < w4.heap.size := ltAt nw2 hb
    replace HB := Lib.hid (lift HB.out hb)
    clear hb
    cases hso : soundQ ns es q
    · go_wp2_with fail
      go_ret
      exact ⟨rfl, HB.out⟩
    · have HSo := Lib.hid hso
      have hlq64 := soundQ.len hso
      clear hso hlq
      cases eab : (a == b)
      · have hab : a ≠ b := by simpa using eab
        have HAb := Lib.hid hab
        clear hab
        have hlen := fun (x : List Jb) (u : Str) (e : Int) => step_len es x u e
        rcases hx : stepQ es q a y0 with _ | x
        · have HX := Lib.hid hx
          clear hx
          go_wp2_with fail
          refine (step_any An Ae ns.length cn ce es A c q a y0 w4 HG.out.re HQ.out (by omega) (by omega)).mono ?_
          rw [HX.out]
          rintro e w5 ⟨A1, k1, rfl, hk1, hr1, hb⟩
          replace c0 := cellAt c0 hb (by omega)
          replace c1 := cellAt c1 hb (by omega)
          replace c2 := cellAt c2 hb (by omega)
          replace c3 := cellAt c3 hb (by omega)
          replace HG := Lib.hid (HG.out.at hb)
          replace HQ := Lib.hid (HQ.out.at hb)
          replace nw1 : w.heap.size < w5.heap.size := ltAt nw1 hb
          replace nw2 : w.heap.size + 1 < w5.heap.size := ltAt nw2 hb
          replace HB := Lib.hid (lift HB.out hb)
          clear hb
          clear hk1 hr1
          go_wp2_with fail
          refine (step_any An Ae ns.length cn ce es A c q b y1 w5 HG.out.re HQ.out (by omega) (by omega)).mono ?_
          rintro e w6 ⟨A2, k2, rfl, hk2, hr2, hb⟩
          replace c0 := cellAt c0 hb (by omega)
          replace c1 := cellAt c1 hb (by omega)
          replace c2 := cellAt c2 hb (by omega)
          replace c3 := cellAt c3 hb (by omega)
          replace HG := Lib.hid (HG.out.at hb)
          replace HQ := Lib.hid (HQ.out.at hb)
          replace nw1 : w.heap.size < w6.heap.size := ltAt nw1 hb
          replace nw2 : w.heap.size + 1 < w6.heap.size := ltAt nw2 hb
          replace HB := Lib.hid (lift HB.out hb)
          clear hb hk2 hr2
          go_wp2_with fail
          go_ret
          exact ⟨rfl, HB.out⟩
        · have HX := Lib.hid hx
          have HSx := Lib.hid (sound_step HSo.out hx)
          have hlx := soundQ.len HSx.out
          go_wp2_with fail
          refine (step_any An Ae ns.length cn ce es A c q a y0 w4 HG.out.re HQ.out (by omega) (by omega)).mono ?_
          rw [HX.out]
          rintro e w5 ⟨A1, k1, rfl, hk1, hr1, hb⟩
          replace c0 := cellAt c0 hb (by omega)
          replace c1 := cellAt c1 hb (by omega)
          replace c2 := cellAt c2 hb (by omega)
          replace c3 := cellAt c3 hb (by omega)
          replace HG := Lib.hid (HG.out.at hb)
          replace HQ := Lib.hid (HQ.out.at hb)
          replace nw1 : w.heap.size < w5.heap.size := ltAt nw1 hb
          replace nw2 : w.heap.size + 1 < w5.heap.size := ltAt nw2 hb
          replace HB := Lib.hid (lift HB.out hb)
          clear hb
          simp only [Option.getD_some, Option.isSome_some] at hk1 hr1 ⊢
          have HQx : Hid (QIn w5 A1 k1 x) := ⟨hr1, soundQ.ok HSx.out, hk1⟩
          clear hk1 hr1
          rcases hy : stepQ es q b y1 with _ | y
          · have HY := Lib.hid hy
            go_wp2_with fail
            refine (step_any An Ae ns.length cn ce es A c q b y1 w5 HG.out.re HQ.out (by omega) (by omega)).mono ?_
            rw [HY.out]
            rintro e w6 ⟨A2, k2, rfl, hk1, hr1, hb⟩
            replace c0 := cellAt c0 hb (by omega)
            replace c1 := cellAt c1 hb (by omega)
            replace c2 := cellAt c2 hb (by omega)
            replace c3 := cellAt c3 hb (by omega)
            replace HG := Lib.hid (HG.out.at hb)
            replace HQ := Lib.hid (HQ.out.at hb)
            replace nw1 : w.heap.size < w6.heap.size := ltAt nw1 hb
            replace nw2 : w.heap.size + 1 < w6.heap.size := ltAt nw2 hb
            replace HB := Lib.hid (lift HB.out hb)
            replace HQx := Lib.hid (HQx.out.at hb)
            clear hb
            clear hk1 hr1
            go_wp2_with fail
            go_ret
            exact ⟨rfl, HB.out⟩
          · have HY := Lib.hid hy
            have HSy := Lib.hid (sound_step HSo.out hy)
            have hly := soundQ.len HSy.out
            obtain ⟨z, hz1, hz2⟩ := diamond HSo.out HAb.out hx hy
            have HZ1 := Lib.hid hz1
            have HZ2 := Lib.hid hz2
            have HSz := Lib.hid (sound_step HSx.out hz1)
            have hlz := soundQ.len HSz.out
            clear hx hy hz1 hz2
            go_wp2_with fail
            refine (step_any An Ae ns.length cn ce es A c q b y1 w5 HG.out.re HQ.out (by omega) (by omega)).mono ?_
            rw [HY.out]
            rintro e w6 ⟨A2, k2, rfl, hk1, hr1, hb⟩
            replace c0 := cellAt c0 hb (by omega)
            replace c1 := cellAt c1 hb (by omega)
            replace c2 := cellAt c2 hb (by omega)
            replace c3 := cellAt c3 hb (by omega)
            replace HG := Lib.hid (HG.out.at hb)
            replace HQ := Lib.hid (HQ.out.at hb)
            replace nw1 : w.heap.size < w6.heap.size := ltAt nw1 hb
            replace nw2 : w.heap.size + 1 < w6.heap.size := ltAt nw2 hb
            replace HB := Lib.hid (lift HB.out hb)
            replace HQx := Lib.hid (HQx.out.at hb)
            clear hb
            simp only [Option.getD_some, Option.isSome_some] at hk1 hr1 ⊢
            have HQy : Hid (QIn w6 A2 k2 y) := ⟨hr1, soundQ.ok HSy.out, hk1⟩
            clear hk1 hr1
            go_wp2_with fail
            refine (step_any An Ae ns.length cn ce es A1 k1 x b y1 w6 HG.out.re HQx.out (by omega) (by omega)).mono ?_
            rw [HZ1.out]
            rintro e w7 ⟨A3, k3, rfl, hk1, hr1, hb⟩
            replace c0 := cellAt c0 hb (by omega)
            replace c1 := cellAt c1 hb (by omega)
            replace c2 := cellAt c2 hb (by omega)
            replace c3 := cellAt c3 hb (by omega)
            replace HG := Lib.hid (HG.out.at hb)
            replace HQ := Lib.hid (HQ.out.at hb)
            replace nw1 : w.heap.size < w7.heap.size := ltAt nw1 hb
            replace nw2 : w.heap.size + 1 < w7.heap.size := ltAt nw2 hb
            replace HB := Lib.hid (lift HB.out hb)
            replace HQx := Lib.hid (HQx.out.at hb)
            replace HQy := Lib.hid (HQy.out.at hb)
            clear hb
            simp only [Option.getD_some, Option.isSome_some] at hk1 hr1 ⊢
            have HQz1 : Hid (QIn w7 A3 k3 z) := ⟨hr1, soundQ.ok HSz.out, hk1⟩
            clear hk1 hr1
            go_wp2_with fail
            refine (step_any An Ae ns.length cn ce es A2 k2 y a y0 w7 HG.out.re HQy.out (by omega) (by omega)).mono ?_
            rw [HZ2.out]
            rintro e w8 ⟨A4, k4, rfl, hk1, hr1, hb⟩
            replace c0 := cellAt c0 hb (by omega)
            replace c1 := cellAt c1 hb (by omega)
            replace c2 := cellAt c2 hb (by omega)
            replace c3 := cellAt c3 hb (by omega)
            replace HG := Lib.hid (HG.out.at hb)
            replace HQ := Lib.hid (HQ.out.at hb)
            replace nw1 : w.heap.size < w8.heap.size := ltAt nw1 hb
            replace nw2 : w.heap.size + 1 < w8.heap.size := ltAt nw2 hb
            replace HB := Lib.hid (lift HB.out hb)
            replace HQx := Lib.hid (HQx.out.at hb)
            replace HQy := Lib.hid (HQy.out.at hb)
            replace HQz1 := Lib.hid (HQz1.out.at hb)
            clear hb
            simp only [Option.getD_some, Option.isSome_some] at hk1 hr1 ⊢
            have HQz2 : Hid (QIn w8 A4 k4 z) := ⟨hr1, soundQ.ok HSz.out, hk1⟩
            clear hk1 hr1
            go_wp2_with fail
            refine (SameJobs_any A3 A4 k3 k4 z z w8 HQz1.out.rq HQz2.out.rq (by omega)).mono ?_
            rw [decide_eq_true rfl]
            rintro e v5 ⟨rfl, hb⟩
            replace c0 := cellAt c0 hb (by omega)
            replace c1 := cellAt c1 hb (by omega)
            replace c2 := cellAt c2 hb (by omega)
            replace c3 := cellAt c3 hb (by omega)
            replace HG := Lib.hid (HG.out.at hb)
            replace HQ := Lib.hid (HQ.out.at hb)
            replace nw1 : w.heap.size < v5.heap.size := ltAt nw1 hb
            replace nw2 : w.heap.size + 1 < v5.heap.size := ltAt nw2 hb
            replace HB := Lib.hid (lift HB.out hb)
            replace HQx := Lib.hid (HQx.out.at hb)
            replace HQy := Lib.hid (HQy.out.at hb)
            replace HQz1 := Lib.hid (HQz1.out.at hb)
            replace HQz2 := Lib.hid (HQz2.out.at hb)
            clear hb
            go_wp2_with fail
            go_ret
            exact ⟨rfl, HB.out⟩
      · go_wp2_with fail
        go_ret
        exact ⟨rfl, HB.out⟩
end Od
end Go.Proofs.YtanfnejbnmenkaaGreat
end
