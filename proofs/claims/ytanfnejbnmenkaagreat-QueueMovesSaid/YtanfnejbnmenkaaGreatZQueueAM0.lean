/- My texts, joined for the claim: QMoves20 QFin20 LqA. -/
import Derived.Test.YtanfnejbnmenkaaGreatZQueueAM0x1
import Derived.Test.YtanfnejbnmenkaaGreatZB1
import Derived.Test.YtanfnejbnmenkaaGreatZB15
import Derived.Test.YtanfnejbnmenkaaGreatZB13

section
/- The walks of matinsref20.Begin and matinsref20.Finish. (bel2) -/
namespace Go.Proofs.YtanfnejbnmenkaaGreat
open Go.RowKit Go.Sort
set_option linter.unusedSimpArgs false

namespace Od
theorem JobsRet.own {x : List Jb} {w w' : World} {base c : Nat} {A : Option Addr} (h : w'.ownsRow base 50 4 (.slice A x.length c) x.length (jbsC x)) (hb : Below w.heap.size w w') : JobsRet (some x) w (.returned (.tuple #[.slice A x.length c, .bool true])) w' := .yes rfl h hb
set_option maxRecDepth 100000 in
set_option maxHeartbeats 8000000 in
theorem Begin20_any (An Ae : Option Addr) (nn cn ce : Nat) (es : List Ed) (A : Option Addr) (c : Nat) (q : List Jb) (u : Str) (w : World) (hr : Rd w w.heap.size 3 Ae es.length (edsC es)) (hq : QIn w A c q) (hl : es.length ≤ 100000) (hlq : q.length ≤ 100000) :
    Calls Tryz.prog 29 #[gV An nn cn Ae es.length ce, .slice A q.length c, sv u] w (JobsRet (beginQ es q u) w) := by
  have Hr := Lib.hid hr
  have HQ := Lib.hid hq
  clear hr hq
  go_enter Tryz.func29, Tryz.ntmps29
  go_wp2_with fail
  first | (refine wp_named ?_; intro W1 hW) | (refine calls_named ?_; intro W1 hW)
  have B1 : Below w.heap.size w W1 := by rw [hW]; exact (by repeat (first | exact Below.refl _ _ | assumption | refine Below.alloc ?_ (by first | omega | (simp <;> omega)) _ | refine Below.setCell ?_ (by first | omega | (simp <;> omega)) _ | refine Below.drew ?_))
  replace Hr := Lib.hid (Hr.out.at B1)
  replace HQ := Lib.hid (HQ.out.at B1)
  have n1 : w.heap.size < W1.heap.size := by rw [hW]; simp <;> omega
  have g0 : W1.cell? ⟨w.heap.size, 0, none⟩ = some (.slice An nn cn) := by rw [hW]; go_simp
  have g1 : W1.cell? ⟨w.heap.size, 1, none⟩ = some (.slice Ae es.length ce) := by rw [hW]; go_simp
  clear hW
  have HB := Lib.hid B1
  clear B1
  refine (May20_any A c q W1 HQ.out.rq HQ.out.ok).mono ?_
  rintro e w2 ⟨rfl, hb⟩
  replace g0 := cellAt g0 hb (by omega)
  replace g1 := cellAt g1 hb (by omega)
  replace Hr := Lib.hid (Hr.out.at hb)
  replace HQ := Lib.hid (HQ.out.at hb)
  replace n1 : w.heap.size < w2.heap.size := ltAt n1 hb
  replace HB := Lib.hid (lift HB.out hb)
  clear hb
  cases hm : mayQ q
  · have HBQ := Lib.hid (show beginQ es q u = none by unfold beginQ; rw [if_neg (fun hu => by have := readyQ_may hu; rw [hm] at this; cases this)])
    clear hm
    go_wp2_with fail
    go_ret2
    rw [HBQ.out]
    exact JobsRet.no HB.out
  · have HM := Lib.hid hm
    clear hm
    go_wp2_with fail
    refine (Ready20_any An Ae nn cn ce es A c q w2 Hr.out HQ.out.rq (by omega) hlq HQ.out.ok).mono ?_
    rintro e w3 ⟨A3, c3, rfl, _, hr3, hb⟩
    have HR3 := Lib.hid hr3
    replace g0 := cellAt g0 hb (by omega)
    replace g1 := cellAt g1 hb (by omega)
    replace Hr := Lib.hid (Hr.out.at hb)
    replace HQ := Lib.hid (HQ.out.at hb)
    replace n1 : w.heap.size < w3.heap.size := ltAt n1 hb
    replace HB := Lib.hid (lift HB.out hb)
    clear hb hr3
    have hrl := readyQ_len es q
    go_wp2_with fail
    refine (HasS_any A3 c3 (readyQ es q) u w3 HR3.out (by omega)).mono ?_
    rintro e w4 ⟨rfl, rfl⟩
    cases hu : hasB (readyQ es q) u
    · have HBQ := Lib.hid (show beginQ es q u = none by unfold beginQ; rw [if_neg (fun h => by rw [(hasB_iff _ _).2 h] at hu; cases hu)])
      clear hu
      go_wp2_with fail
      go_ret2
      rw [HBQ.out]
      exact JobsRet.no HB.out
    · have hu' := (hasB_iff _ _).1 hu
      obtain ⟨j0, hj0, hj1, hj2, _⟩ := (mem_readyQ HM.out).1 hu'
      have HBQ := Lib.hid (show beginQ es q u = some (updJ q u (begun es q)) by unfold beginQ; rw [if_pos hu'])
      have HJ0 := Lib.hid (And.intro hj0 hj1)
      clear hu hu' hj0 hj1 hj2
      go_wp2_with fail
      refine (at_any A c q u w3 HQ.out.rq (by omega)).mono ?_
      rintro e w6 ⟨r, rfl, hcase, hb⟩
      replace g0 := cellAt g0 hb (by omega)
      replace g1 := cellAt g1 hb (by omega)
      replace Hr := Lib.hid (Hr.out.at hb)
      replace HQ := Lib.hid (HQ.out.at hb)
      replace n1 : w.heap.size < w6.heap.size := ltAt n1 hb
      replace HB := Lib.hid (lift HB.out hb)
      clear hb
      rcases hcase with ⟨rfl, hnone⟩ | ⟨k, hk, rfl, hfind, hpk, _⟩
      · exact absurd (List.find?_eq_none.1 hnone _ HJ0.out.1) (by simp [HJ0.out.2])
      · obtain ⟨b2, o2, hA, hB2, y0, y1, y2, y3⟩ := HQ.out.rq.job hk
        subst hA
        have hku : q[k].1 = u := by simpa using hpk
        have hset : ∀ x : Jb, begun es q q[k] = x → q.set k x = updJ q u (begun es q) := fun x hx => set_updf (mayQ.dq HM.out) hk hku hx
        generalize hx : q[k] = x at y0 y1 y2 y3 hku hset
        obtain ⟨s, t, r, d⟩ := x
        simp only at y0 y1 y2 y3 hku
        subst hku
        have HSet := Lib.hid hset
        have k1 : (0 : Int) ≤ (k : Int) := by omega
        have k2 : (k : Int) < (q.length : Int) := by omega
        clear hset hfind hpk hx
        by_cases ht : t = 1
        · subst ht
          have HQ6' := HQ
          have HB6' := HB
          go_wp2_with fail
          first | (refine wp_named ?_; intro W7 hW) | (refine calls_named ?_; intro W7 hW)
          have B7 : Below w6.heap.size w6 W7 := by rw [hW]; exact (by repeat (first | exact Below.refl _ _ | assumption | refine Below.alloc ?_ (by first | omega | (simp <;> omega)) _ | refine Below.setCell ?_ (by first | omega | (simp <;> omega)) _ | refine Below.drew ?_))
          replace g0 := cellAt g0 B7 (by omega)
          replace g1 := cellAt g1 B7 (by omega)
          replace Hr := Lib.hid (Hr.out.at B7)
          replace HQ := Lib.hid (HQ.out.at B7)
          replace n1 : w.heap.size < W7.heap.size := ltAt n1 B7
          replace HB := Lib.hid (lift HB.out B7)
          have p1 : w6.heap.size < W7.heap.size := by rw [hW]; simp <;> omega
          have e0 : W7.cell? ⟨w6.heap.size, 0, none⟩ = some (sv s) := by rw [hW]; go_simp
          have e1 : W7.cell? ⟨w6.heap.size, 1, none⟩ = some (.int .i64 1) := by rw [hW]; go_simp
          have e2 : W7.cell? ⟨w6.heap.size, 2, none⟩ = some (.int .i64 2) := by rw [hW]; go_simp
          have e3 : W7.cell? ⟨w6.heap.size, 3, none⟩ = some (.int .i64 d) := by rw [hW]; go_simp
          have f0 : W7.frozen? ⟨w6.heap.size, 0, none⟩ = false := by rw [hW]; go_simp
          have f1 : W7.frozen? ⟨w6.heap.size, 1, none⟩ = false := by rw [hW]; go_simp
          have f2 : W7.frozen? ⟨w6.heap.size, 2, none⟩ = false := by rw [hW]; go_simp
          have f3 : W7.frozen? ⟨w6.heap.size, 3, none⟩ = false := by rw [hW]; go_simp
          clear hW
          clear y0 y1 y2 y3 hB2
          have HQ6 := HQ6'
          have HB6 := HB6'
          refine (lost_any An Ae nn cn ce es _ c q s W7 Hr.out HQ.out.rq hl (by omega)).mono ?_
          rintro e w8 ⟨rfl, hb⟩
          have hb68 := lift B7 hb
          replace g0 := cellAt g0 hb (by omega)
          replace g1 := cellAt g1 hb (by omega)
          replace e0 := cellAt e0 hb (by omega)
          replace e1 := cellAt e1 hb (by omega)
          replace e2 := cellAt e2 hb (by omega)
          replace e3 := cellAt e3 hb (by omega)
          replace f0 := froAt f0 hb (by omega)
          replace f1 := froAt f1 hb (by omega)
          replace f2 := froAt f2 hb (by omega)
          replace f3 := froAt f3 hb (by omega)
          replace Hr := Lib.hid (Hr.out.at hb)
          replace HQ := Lib.hid (HQ.out.at hb)
          replace n1 : w.heap.size < w8.heap.size := ltAt n1 hb
          replace HB := Lib.hid (lift HB.out hb)
          replace p1 : w6.heap.size < w8.heap.size := ltAt p1 hb
          clear hb
          have hll := lacks_lost (es := es) (mayQ.dq HM.out) s
          cases hlk : q.any (lostJ es s)
          · have HFin := Lib.hid (HSet.out (s, 1, 2, d) (by unfold begun; simp [hll, hlk]))
            clear hll
            go_wp2_with fail
            refine (with_any _ c q k s 1 2 d w8 HQ.out.rq hk (by omega)).mono ?_
            rintro e w9 ⟨A9, c9, rfl, ho9, hb⟩
            have HO9 := Lib.hid ho9
            replace g0 := cellAt g0 hb (by omega)
            replace g1 := cellAt g1 hb (by omega)
            replace e0 := cellAt e0 hb (by omega)
            replace e1 := cellAt e1 hb (by omega)
            replace e2 := cellAt e2 hb (by omega)
            replace e3 := cellAt e3 hb (by omega)
            replace f0 := froAt f0 hb (by omega)
            replace f1 := froAt f1 hb (by omega)
            replace f2 := froAt f2 hb (by omega)
            replace f3 := froAt f3 hb (by omega)
            replace Hr := Lib.hid (Hr.out.at hb)
            replace HQ := Lib.hid (HQ.out.at hb)
            replace n1 : w.heap.size < w9.heap.size := ltAt n1 hb
            replace HB := Lib.hid (lift HB.out hb)
            replace p1 : w6.heap.size < w9.heap.size := ltAt p1 hb
            clear hb ho9
            go_wp2_with fail
            go_ret2
            rw [HBQ.out, ← HFin.out]
            exact JobsRet.yes (by simp) (by have h := HO9.out; simp only [List.length_set] at h; exact h) HB.out
          · have HFin := Lib.hid (HSet.out (s, 1, 3, 3) (by unfold begun; simp [hll, hlk]))
            clear hll
            go_wp2_with fail
            refine calls_named ?_
            intro W10 hW10
            have hb10 : Below w6.heap.size w6 W10 := by rw [hW10]; exact (hb68.setCell (Nat.le_refl _) _).setCell (Nat.le_refl _) _
            have HQ := Lib.hid (HQ6.out.at hb10)
            have HB := Lib.hid (lift HB6.out hb10)
            clear hW10
            refine (with_any _ c q k s 1 3 3 W10 HQ.out.rq hk (by omega)).mono ?_
            rintro e w9 ⟨A9, c9, rfl, ho9, hb⟩
            have HO9 := Lib.hid ho9
            replace HQ := Lib.hid (HQ.out.at hb)
            replace HB := Lib.hid (lift HB.out hb)
            clear hb ho9
            go_wp2_with fail
            go_ret2
            rw [HBQ.out, ← HFin.out]
            exact JobsRet.yes (by simp) (by have h := HO9.out; simp only [List.length_set] at h; exact h) HB.out
        · have htb : (t == 1) = false := by simpa using ht
          have HFin := Lib.hid (HSet.out (s, t, 2, d) (by unfold begun; simp [htb]))
          go_wp2_with fail
          first | (refine wp_named ?_; intro W7 hW) | (refine calls_named ?_; intro W7 hW)
          have B7 : Below w6.heap.size w6 W7 := by rw [hW]; exact (by repeat (first | exact Below.refl _ _ | assumption | refine Below.alloc ?_ (by first | omega | (simp <;> omega)) _ | refine Below.setCell ?_ (by first | omega | (simp <;> omega)) _ | refine Below.drew ?_))
          replace g0 := cellAt g0 B7 (by omega)
          replace g1 := cellAt g1 B7 (by omega)
          replace Hr := Lib.hid (Hr.out.at B7)
          replace HQ := Lib.hid (HQ.out.at B7)
          replace n1 : w.heap.size < W7.heap.size := ltAt n1 B7
          replace HB := Lib.hid (lift HB.out B7)
          clear hW
          refine (with_any _ c q k s t 2 d W7 HQ.out.rq hk (by omega)).mono ?_
          rintro e w9 ⟨A9, c9, rfl, ho9, hb⟩
          have HO9 := Lib.hid ho9
          replace g0 := cellAt g0 hb (by omega)
          replace g1 := cellAt g1 hb (by omega)
          replace Hr := Lib.hid (Hr.out.at hb)
          replace HQ := Lib.hid (HQ.out.at hb)
          replace n1 : w.heap.size < w9.heap.size := ltAt n1 hb
          replace HB := Lib.hid (lift HB.out hb)
          clear hb ho9
          go_wp2_with fail
          go_ret2
          rw [HBQ.out, ← HFin.out]
          exact JobsRet.yes (by simp) (by have h := HO9.out; simp only [List.length_set] at h; exact h) HB.out
end Od
end Go.Proofs.YtanfnejbnmenkaaGreat
end

section
/- The walk of matinsref20.Finish. (bel2) -/
namespace Go.Proofs.YtanfnejbnmenkaaGreat
open Go.RowKit Go.Sort
set_option linter.unusedSimpArgs false

namespace Od
theorem runs_end {s : Str} {t d : Int} (h : mayJ (s, t, 2, d) = true) : d = 0 := by
  unfold mayJ stB at h
  simp at h
  exact h.2.2.2
set_option maxRecDepth 100000 in
set_option maxHeartbeats 8000000 in
theorem Finish20_any (A : Option Addr) (c : Nat) (q : List Jb) (u : Str) (e0 : Int) (w : World) (hq : QIn w A c q) (hlq : q.length ≤ 1000000) :
    Calls Tryz.prog 31 #[.slice A q.length c, sv u, .int .i64 e0] w (JobsRet (finishQ q u e0) w) := by
  have HQ := Lib.hid hq
  clear hq
  go_enter Tryz.func31, Tryz.ntmps31
  go_wp2_with fail
  refine (at_any A c q u w HQ.out.rq hlq).mono ?_
  rintro e w2 ⟨r, rfl, hcase, hb⟩
  have HC := Lib.hid hcase
  have HB := Lib.hid hb
  replace HQ := Lib.hid (HQ.out.at hb)
  clear hb hcase
  go_wp2_with fail
  refine (May20_any A c q w2 HQ.out.rq HQ.out.ok).mono ?_
  rintro e w3 ⟨rfl, hb⟩
  replace HQ := Lib.hid (HQ.out.at hb)
  replace HB := Lib.hid (lift HB.out hb)
  clear hb
  cases hm : mayQ q
  · have HF := Lib.hid (show finishQ q u e0 = none from finish_no (fun j hj => by simp [hm]))
    go_wp2_with fail
    go_ret2
    rw [HF.out]
    exact JobsRet.no HB.out
  · have HM := Lib.hid hm
    clear hm
    by_cases e1 : e0 < 1
    · have eb1 : decide (e0 < 1) = true := by rw [decide_eq_true_eq]; exact e1
      have HF := Lib.hid (show finishQ q u e0 = none from finish_no (fun j hj => by (obtain ⟨s, t, r, d⟩ := j; rw [mayEnd_mk, eb1]; simp)))
      go_wp2_with fail
      go_ret2
      rw [HF.out]
      exact JobsRet.no HB.out
    · have eb1 : decide (e0 < 1) = false := by rw [decide_eq_false_iff_not]; exact e1
      by_cases e4 : 4 < e0
      · have eb4 : decide (4 < e0) = true := by rw [decide_eq_true_eq]; exact e4
        have HF := Lib.hid (show finishQ q u e0 = none from finish_no (fun j hj => by (obtain ⟨s, t, r, d⟩ := j; rw [mayEnd_mk, eb4]; simp)))
        go_wp2_with fail
        go_ret2
        rw [HF.out]
        exact JobsRet.no HB.out
      · have eb4 : decide (4 < e0) = false := by rw [decide_eq_false_iff_not]; exact e4
        rcases HC.out with ⟨rfl, hnone⟩ | ⟨k, hk, rfl, hfind, hpk, _⟩
        · have hj0 : jobOf q u = none := hnone
          have HF := Lib.hid (show finishQ q u e0 = none from finish_no (fun j hj => by (rw [hj0] at hj; cases hj)))
          go_wp2_with fail
          go_ret2
          rw [HF.out]
          exact JobsRet.no HB.out
        · have hneg : decide ((k : Int) < 0) = false := by simp
          have hj0 : jobOf q u = some q[k] := hfind
          have hku : q[k].1 = u := by simpa using hpk
          have hmj : mayJ q[k] = true := (mayQ_iff.1 HM.out).2.1 _ (List.getElem_mem hk)
          have hset : ∀ x : Jb, ended e0 q[k] = x → q.set k x = updJ q u (ended e0) := fun x hx => set_updf (mayQ.dq HM.out) hk hku hx
          obtain ⟨b, o, hA, hB, y0, y1, y2, y3⟩ := HQ.out.rq.job hk
          subst hA
          generalize q[k] = x at y0 y1 y2 y3 hj0 hku hset hmj
          obtain ⟨s, t, r, d⟩ := x
          simp only at y0 y1 y2 y3 hku
          subst hku
          have HJ := Lib.hid hj0
          have HSet := Lib.hid hset
          have HMj := Lib.hid hmj
          clear hfind hpk hset hj0 HC hmj
          have k1 : (0 : Int) ≤ (k : Int) := by omega
          have k2 : (k : Int) < (q.length : Int) := by omega
          by_cases r3 : r = 3
          · have rb3 : (r == 3) = true := by simpa using r3
            have HO := Lib.hid (show openB (s, t, r, d) = false by simp [openB, r3])
            have HF := Lib.hid (show finishQ q s e0 = none from finish_no (fun j hj => by (rw [HJ.out] at hj; injection hj with hj; subst hj; rw [mayEnd_mk, HO.out]; simp)))
            go_wp2_with fail
            go_ret2
            rw [HF.out]
            exact JobsRet.no HB.out
          · have rb3 : (r == 3) = false := by simpa using r3
            by_cases hbad : r = 1 ∧ (e0 = 1 ∨ e0 = 2)
            · obtain ⟨r1, e12⟩ := hbad
              have rb : (r == 1) = true := by simpa using r1
              have el : decide (e0 ≤ 2) = true := by rw [decide_eq_true_eq]; omega
              have ee : (e0 == 1 || e0 == 2) = true := by rcases e12 with h | h <;> simp [h]
              clear e12
              have HF := Lib.hid (show finishQ q s e0 = none from finish_no (fun j hj => by (rw [HJ.out] at hj; injection hj with hj; subst hj; rw [mayEnd_mk, rb, ee]; simp)))
              go_wp2_with fail
              go_ret2
              rw [HF.out]
              exact JobsRet.no HB.out
            · have hyes := finish_yes HJ.out HM.out (show mayEnd e0 (s, t, r, d) = true from mayEnd_iff.2 ⟨by omega, by omega, r3, hbad⟩)
              have HF := Lib.hid hyes
              clear hyes
              by_cases r1 : r = 1
              · have rb : (r == 1) = true := by simpa using r1
                have rb2 : (r == 2) = false := by rw [beq_eq_false_iff_ne]; omega
                have el : decide (e0 ≤ 2) = false := by rw [decide_eq_false_iff_not]; omega
                clear hbad
                have hre : ¬ (t = 3 ∧ r = 2 ∧ e0 = 1) := by omega
                have HFin := Lib.hid (HSet.out (s, t, 3, e0) (by unfold ended; rw [if_neg hre]))
                have hcs : (t == 3) = false ∨ ((t == 3) = true ∧ (r == 2) = false) ∨ ((t == 3) = true ∧ (r == 2) = true ∧ (e0 == 1) = false) := by
                  by_cases a1 : t = 3
                  · by_cases a2 : r = 2
                    · exact .inr (.inr ⟨by simpa using a1, by simpa using a2, by rw [beq_eq_false_iff_ne]; intro h; exact hre ⟨a1, a2, h⟩⟩)
                    · exact .inr (.inl ⟨by simpa using a1, by simpa using a2⟩)
                  · exact .inl (by simpa using a1)
                clear hre
                rcases hcs with a1 | ⟨a1, a2⟩ | ⟨a1, a2, a3⟩
                · go_wp2_with fail
                  first | (refine wp_named ?_; intro W7 hW) | (refine calls_named ?_; intro W7 hW)
                  have B7 : Below w3.heap.size w3 W7 := by rw [hW]; exact (by repeat (first | exact Below.refl _ _ | assumption | refine Below.alloc ?_ (by first | omega | (simp <;> omega)) _ | refine Below.setCell ?_ (by first | omega | (simp <;> omega)) _ | refine Below.drew ?_))
                  replace HQ := Lib.hid (HQ.out.at B7)
                  replace HB := Lib.hid (lift HB.out B7)
                  clear hW
                  refine (with_any _ c q k s t 3 e0 W7 HQ.out.rq hk hlq).mono ?_
                  rintro e w9 ⟨A9, c9, rfl, ho9, hb⟩
                  have HO9 := Lib.hid ho9
                  replace HQ := Lib.hid (HQ.out.at hb)
                  replace HB := Lib.hid (lift HB.out hb)
                  clear hb ho9
                  go_wp2_with fail
                  go_ret2
                  rw [HF.out, ← HFin.out]
                  exact JobsRet.yes (by simp) (by have h := HO9.out; simp only [List.length_set] at h; exact h) HB.out
                · skip
                  go_wp2_with fail
                  first | (refine wp_named ?_; intro W7 hW) | (refine calls_named ?_; intro W7 hW)
                  have B7 : Below w3.heap.size w3 W7 := by rw [hW]; exact (by repeat (first | exact Below.refl _ _ | assumption | refine Below.alloc ?_ (by first | omega | (simp <;> omega)) _ | refine Below.setCell ?_ (by first | omega | (simp <;> omega)) _ | refine Below.drew ?_))
                  replace HQ := Lib.hid (HQ.out.at B7)
                  replace HB := Lib.hid (lift HB.out B7)
                  clear hW
                  refine (with_any _ c q k s t 3 e0 W7 HQ.out.rq hk hlq).mono ?_
                  rintro e w9 ⟨A9, c9, rfl, ho9, hb⟩
                  have HO9 := Lib.hid ho9
                  replace HQ := Lib.hid (HQ.out.at hb)
                  replace HB := Lib.hid (lift HB.out hb)
                  clear hb ho9
                  go_wp2_with fail
                  go_ret2
                  rw [HF.out, ← HFin.out]
                  exact JobsRet.yes (by simp) (by have h := HO9.out; simp only [List.length_set] at h; exact h) HB.out
                · skip
                  go_wp2_with fail
                  first | (refine wp_named ?_; intro W7 hW) | (refine calls_named ?_; intro W7 hW)
                  have B7 : Below w3.heap.size w3 W7 := by rw [hW]; exact (by repeat (first | exact Below.refl _ _ | assumption | refine Below.alloc ?_ (by first | omega | (simp <;> omega)) _ | refine Below.setCell ?_ (by first | omega | (simp <;> omega)) _ | refine Below.drew ?_))
                  replace HQ := Lib.hid (HQ.out.at B7)
                  replace HB := Lib.hid (lift HB.out B7)
                  clear hW
                  refine (with_any _ c q k s t 3 e0 W7 HQ.out.rq hk hlq).mono ?_
                  rintro e w9 ⟨A9, c9, rfl, ho9, hb⟩
                  have HO9 := Lib.hid ho9
                  replace HQ := Lib.hid (HQ.out.at hb)
                  replace HB := Lib.hid (lift HB.out hb)
                  clear hb ho9
                  go_wp2_with fail
                  go_ret2
                  rw [HF.out, ← HFin.out]
                  exact JobsRet.yes (by simp) (by have h := HO9.out; simp only [List.length_set] at h; exact h) HB.out
              · have rb : (r == 1) = false := by simpa using r1
                clear hbad
                by_cases hre : t = 3 ∧ r = 2 ∧ e0 = 1
                · obtain ⟨t3, r2, e01⟩ := hre
                  subst t3 r2 e01
                  have hd0 := runs_end HMj.out
                  subst hd0
                  have HFin := Lib.hid (HSet.out (s, 1, 1, 0) (by unfold ended; rw [if_pos ⟨rfl, rfl, rfl⟩]))
                  go_wp2_with fail
                  first | (refine wp_named ?_; intro W7 hW) | (refine calls_named ?_; intro W7 hW)
                  have B7 : Below w3.heap.size w3 W7 := by rw [hW]; exact (by repeat (first | exact Below.refl _ _ | assumption | refine Below.alloc ?_ (by first | omega | (simp <;> omega)) _ | refine Below.setCell ?_ (by first | omega | (simp <;> omega)) _ | refine Below.drew ?_))
                  replace HQ := Lib.hid (HQ.out.at B7)
                  replace HB := Lib.hid (lift HB.out B7)
                  clear hW
                  refine (with_any _ c q k s 1 1 0 W7 HQ.out.rq hk hlq).mono ?_
                  rintro e w9 ⟨A9, c9, rfl, ho9, hb⟩
                  have HO9 := Lib.hid ho9
                  replace HQ := Lib.hid (HQ.out.at hb)
                  replace HB := Lib.hid (lift HB.out hb)
                  clear hb ho9
                  go_wp2_with fail
                  go_ret2
                  rw [HF.out, ← HFin.out]
                  exact JobsRet.yes (by simp) (by have h := HO9.out; simp only [List.length_set] at h; exact h) HB.out
                · skip
                  have HFin := Lib.hid (HSet.out (s, t, 3, e0) (by unfold ended; rw [if_neg hre]))
                  have hcs : (t == 3) = false ∨ ((t == 3) = true ∧ (r == 2) = false) ∨ ((t == 3) = true ∧ (r == 2) = true ∧ (e0 == 1) = false) := by
                    by_cases a1 : t = 3
                    · by_cases a2 : r = 2
                      · exact .inr (.inr ⟨by simpa using a1, by simpa using a2, by rw [beq_eq_false_iff_ne]; intro h; exact hre ⟨a1, a2, h⟩⟩)
                      · exact .inr (.inl ⟨by simpa using a1, by simpa using a2⟩)
                    · exact .inl (by simpa using a1)
                  clear hre
                  rcases hcs with a1 | ⟨a1, a2⟩ | ⟨a1, a2, a3⟩
                  · go_wp2_with fail
                    first | (refine wp_named ?_; intro W7 hW) | (refine calls_named ?_; intro W7 hW)
                    have B7 : Below w3.heap.size w3 W7 := by rw [hW]; exact (by repeat (first | exact Below.refl _ _ | assumption | refine Below.alloc ?_ (by first | omega | (simp <;> omega)) _ | refine Below.setCell ?_ (by first | omega | (simp <;> omega)) _ | refine Below.drew ?_))
                    replace HQ := Lib.hid (HQ.out.at B7)
                    replace HB := Lib.hid (lift HB.out B7)
                    clear hW
                    refine (with_any _ c q k s t 3 e0 W7 HQ.out.rq hk hlq).mono ?_
                    rintro e w9 ⟨A9, c9, rfl, ho9, hb⟩
                    have HO9 := Lib.hid ho9
                    replace HQ := Lib.hid (HQ.out.at hb)
                    replace HB := Lib.hid (lift HB.out hb)
                    clear hb ho9
                    go_wp2_with fail
                    go_ret2
                    rw [HF.out, ← HFin.out]
                    exact JobsRet.yes (by simp) (by have h := HO9.out; simp only [List.length_set] at h; exact h) HB.out
                  · skip
                    go_wp2_with fail
                    first | (refine wp_named ?_; intro W7 hW) | (refine calls_named ?_; intro W7 hW)
                    have B7 : Below w3.heap.size w3 W7 := by rw [hW]; exact (by repeat (first | exact Below.refl _ _ | assumption | refine Below.alloc ?_ (by first | omega | (simp <;> omega)) _ | refine Below.setCell ?_ (by first | omega | (simp <;> omega)) _ | refine Below.drew ?_))
                    replace HQ := Lib.hid (HQ.out.at B7)
                    replace HB := Lib.hid (lift HB.out B7)
                    clear hW
                    refine (with_any _ c q k s t 3 e0 W7 HQ.out.rq hk hlq).mono ?_
                    rintro e w9 ⟨A9, c9, rfl, ho9, hb⟩
                    have HO9 := Lib.hid ho9
                    replace HQ := Lib.hid (HQ.out.at hb)
                    replace HB := Lib.hid (lift HB.out hb)
                    clear hb ho9
                    go_wp2_with fail
                    go_ret2
                    rw [HF.out, ← HFin.out]
                    exact JobsRet.yes (by simp) (by have h := HO9.out; simp only [List.length_set] at h; exact h) HB.out
                  · skip
                    go_wp2_with fail
                    first | (refine wp_named ?_; intro W7 hW) | (refine calls_named ?_; intro W7 hW)
                    have B7 : Below w3.heap.size w3 W7 := by rw [hW]; exact (by repeat (first | exact Below.refl _ _ | assumption | refine Below.alloc ?_ (by first | omega | (simp <;> omega)) _ | refine Below.setCell ?_ (by first | omega | (simp <;> omega)) _ | refine Below.drew ?_))
                    replace HQ := Lib.hid (HQ.out.at B7)
                    replace HB := Lib.hid (lift HB.out B7)
                    clear hW
                    refine (with_any _ c q k s t 3 e0 W7 HQ.out.rq hk hlq).mono ?_
                    rintro e w9 ⟨A9, c9, rfl, ho9, hb⟩
                    have HO9 := Lib.hid ho9
                    replace HQ := Lib.hid (HQ.out.at hb)
                    replace HB := Lib.hid (lift HB.out hb)
                    clear hb ho9
                    go_wp2_with fail
                    go_ret2
                    rw [HF.out, ← HFin.out]
                    exact JobsRet.yes (by simp) (by have h := HO9.out; simp only [List.length_set] at h; exact h) HB.out
end Od
end Go.Proofs.YtanfnejbnmenkaaGreat
end

section
/- The walks of the laws QueueAsks, QueueMoves. (bel2) -/
namespace Go.Proofs.YtanfnejbnmenkaaGreat
open Go.RowKit Go.Sort
set_option linter.unusedSimpArgs false

namespace Od
set_option maxRecDepth 100000 in
set_option maxHeartbeats 8000000 in
theorem queueAsks_any (An Ae : Option Addr) (cn ce : Nat) (ns : List Nd) (es : List Ed) (A : Option Addr) (c : Nat) (q : List Jb) (u : Str) (w : World) (hg : GIw w An Ae ns es) (hq : QIn w A c q) (hlq : q.length ≤ 140737488351232) :
    Calls Tryz.prog 3 #[gV An ns.length cn Ae es.length ce, .slice A q.length c, sv u] w fun e w' => e = .returned (.bool true) ∧ Below w.heap.size w w' := by
  have HG := Lib.hid hg
  have HQ := Lib.hid hq
  clear hg hq
  by_cases h64 : (64 : Int) < (q.length : Int)
  · have d64 : decide ((64 : Int) < (q.length : Int)) = true := by simpa using h64
    have d65 : decide ((q.length : Int) ≤ (64 : Int)) = false := by rw [decide_eq_false_iff_not]; omega
    go_enter Tryz.func3, Tryz.ntmps3
    go_wp2_with fail
    first | (refine wp_named ?_; intro W1 hW) | (refine calls_named ?_; intro W1 hW)
    have B1 : Below w.heap.size w W1 := by rw [hW]; exact (by repeat (first | exact Below.refl _ _ | assumption | refine Below.alloc ?_ (by first | omega | (simp <;> omega)) _ | refine Below.setCell ?_ (by first | omega | (simp <;> omega)) _ | refine Below.drew ?_))
    replace HG := Lib.hid (HG.out.at B1)
    replace HQ := Lib.hid (HQ.out.at B1)
    have n1 : w.heap.size < W1.heap.size := by rw [hW]; simp <;> omega
    have c0 : W1.cell? ⟨w.heap.size, 0, none⟩ = some (.slice An ns.length cn) := by rw [hW]; go_simp
    have c1 : W1.cell? ⟨w.heap.size, 1, none⟩ = some (.slice Ae es.length ce) := by rw [hW]; go_simp
    clear hW
    have HB := Lib.hid B1
    clear B1
    refine (shown_any W1).mono ?_
    rintro e w2 ⟨rfl, hb⟩
    replace c0 := cellAt c0 hb (by omega)
    replace c1 := cellAt c1 hb (by omega)
    replace HG := Lib.hid (HG.out.at hb)
    replace HQ := Lib.hid (HQ.out.at hb)
    replace n1 : w.heap.size < w2.heap.size := ltAt n1 hb
    replace HB := Lib.hid (lift HB.out hb)
    clear hb
    go_wp2_with fail
    refine (small_any An Ae cn ce ns es w2).mono ?_
    rintro e w3 ⟨rfl, hb⟩
    replace c0 := cellAt c0 hb (by omega)
    replace c1 := cellAt c1 hb (by omega)
    replace HG := Lib.hid (HG.out.at hb)
    replace HQ := Lib.hid (HQ.out.at hb)
    replace n1 : w.heap.size < w3.heap.size := ltAt n1 hb
    replace HB := Lib.hid (lift HB.out hb)
    clear hb
    cases hsm : smallB ns es
    · go_wp2_with fail
      refine (MayQ_any A c q _ HQ.out.rq (by omega) HQ.out.ok).mono ?_
      rintro e w4 ⟨rfl, hb⟩
      have HB4 := Lib.hid (lift HB.out hb)
      rw [mayQ_long (by omega)]
      go_wp2_with fail
      go_ret
      exact ⟨rfl, HB4.out⟩
    · go_wp2_with fail
      refine (MayQ_any A c q _ HQ.out.rq (by omega) HQ.out.ok).mono ?_
      rintro e w4 ⟨rfl, hb⟩
      have HB4 := Lib.hid (lift HB.out hb)
      rw [mayQ_long (by omega)]
      go_wp2_with fail
      go_ret
      exact ⟨rfl, HB4.out⟩
  · have d64 : decide ((64 : Int) < (q.length : Int)) = false := by simpa using h64
    have d65 : decide ((q.length : Int) ≤ (64 : Int)) = true := by rw [decide_eq_true_eq]; omega
    go_enter Tryz.func3, Tryz.ntmps3
    go_wp2_with fail
    first | (refine wp_named ?_; intro W1 hW) | (refine calls_named ?_; intro W1 hW)
    have B1 : Below w.heap.size w W1 := by rw [hW]; exact (by repeat (first | exact Below.refl _ _ | assumption | refine Below.alloc ?_ (by first | omega | (simp <;> omega)) _ | refine Below.setCell ?_ (by first | omega | (simp <;> omega)) _ | refine Below.drew ?_))
    replace HG := Lib.hid (HG.out.at B1)
    replace HQ := Lib.hid (HQ.out.at B1)
    have n1 : w.heap.size < W1.heap.size := by rw [hW]; simp <;> omega
    have c0 : W1.cell? ⟨w.heap.size, 0, none⟩ = some (.slice An ns.length cn) := by rw [hW]; go_simp
    have c1 : W1.cell? ⟨w.heap.size, 1, none⟩ = some (.slice Ae es.length ce) := by rw [hW]; go_simp
    clear hW
    have HB := Lib.hid B1
    clear B1
    refine (shown_any W1).mono ?_
    rintro e w2 ⟨rfl, hb⟩
    replace c0 := cellAt c0 hb (by omega)
    replace c1 := cellAt c1 hb (by omega)
    replace HG := Lib.hid (HG.out.at hb)
    replace HQ := Lib.hid (HQ.out.at hb)
    replace n1 : w.heap.size < w2.heap.size := ltAt n1 hb
    replace HB := Lib.hid (lift HB.out hb)
    clear hb
    go_wp2_with fail
    refine (small_any An Ae cn ce ns es w2).mono ?_
    rintro e w3 ⟨rfl, hb⟩
    replace c0 := cellAt c0 hb (by omega)
    replace c1 := cellAt c1 hb (by omega)
    replace HG := Lib.hid (HG.out.at hb)
    replace HQ := Lib.hid (HQ.out.at hb)
    replace n1 : w.heap.size < w3.heap.size := ltAt n1 hb
    replace HB := Lib.hid (lift HB.out hb)
    clear hb
    cases hsm : smallB ns es
    · go_wp2_with fail
      go_ret
      exact ⟨rfl, HB.out⟩
    · have hs2 := smallB_iff.1 hsm
      have hl1 := hs2.1
      have hl2 := hs2.2
      clear hs2
      have hcl : (clearQ q).1.length ≤ 1000000 := by
        have h := clear_len q
        omega
      have hcl2 : (clearQ q).2.length ≤ 1000000 := by
        have h := clear_len q
        omega
      have hwl : (waitsQ es q u).length ≤ 1000000 := by
        have h := waitsQ_len es q u
        omega
      have hrl : (readyQ es q).length ≤ 1000000 := by
        have h := readyQ_len es q
        omega
      generalize hCl : clearQ q = CL at *
      obtain ⟨cl1, cl2⟩ := CL
      simp only at hcl hcl2
      have HCl := Lib.hid hCl
      clear hCl
      go_wp2_with fail
      refine (ClearQ_any A c q w3 HQ.out (by omega)).mono ?_
      rw [HCl.out]
      rintro e w4 ⟨A1, k1, A2, k2, rfl, hk1, hr1, hr2, hb⟩
      have HR1 := Lib.hid hr1
      have HR2 := Lib.hid hr2
      replace c0 := cellAt c0 hb (by omega)
      replace c1 := cellAt c1 hb (by omega)
      replace HG := Lib.hid (HG.out.at hb)
      replace HQ := Lib.hid (HQ.out.at hb)
      replace n1 : w.heap.size < w4.heap.size := ltAt n1 hb
      replace HB := Lib.hid (lift HB.out hb)
      clear hb hr1 hr2
      go_wp2_with fail
      refine (Clear20_any A c q w4 HQ.out (by omega)).mono ?_
      rw [HCl.out]
      rintro e w5 ⟨A3, k3, A4, k4, rfl, hk3, hr3, hr4, hb⟩
      have HR3 := Lib.hid hr3
      have HR4 := Lib.hid hr4
      replace c0 := cellAt c0 hb (by omega)
      replace c1 := cellAt c1 hb (by omega)
      replace HG := Lib.hid (HG.out.at hb)
      replace HQ := Lib.hid (HQ.out.at hb)
      replace n1 : w.heap.size < w5.heap.size := ltAt n1 hb
      replace HB := Lib.hid (lift HB.out hb)
      replace HR1 := Lib.hid (HR1.out.at hb)
      replace HR2 := Lib.hid (HR2.out.at hb)
      clear hb hr3 hr4
      generalize hMq : mayQ q = mq at *
      generalize hSq : soundQ ns es q = sq at *
      have hx1 : (mq != mq) = false := by simp
      have hx2 : (sq != sq) = false := by simp
      have HMq := Lib.hid hMq
      have HSq := Lib.hid hSq
      clear hMq hSq
      try go_wp2_with fail
      refine wp_region_held_drew (S := fun w' => Below w5.heap.size w5 w') (by kernel_rfl) (Below.drew (Below.refl _ _)) (fun hHeld => ?_)
      refine tY (i := 0) (v := ?_) rfl ?_ hHeld ?_; rotate_left 1; focus (intro w' hSw; clear hSw; go_simp; try with_reducible rfl)
      (try simp only [Act.put, zn1, zn2, zn3])
      refine tY (i := 2) (v := ?_) rfl ?_ hHeld ?_; rotate_left 1; focus (intro w' hSw; clear hSw; go_simp; try with_reducible rfl)
      (try simp only [Act.put, zn1, zn2, zn3])
      refine ready_one (i := 1) rfl (by kernel_rfl) (fun K hK => ?_)
      go_simp
      refine (MayQ_any A c q _ (HQ.out.at hHeld).rq (by omega) HQ.out.ok).mono ?_
      rw [HMq.out]
      rintro e v1 ⟨rfl, hb⟩
      refine hK.out _ _ ?_ (fun hHeld2 => ?_)
      · (try dsimp only); first | exact Below.trans hHeld (Below.mono hb hHeld.size) | exact hHeld | exact Below.drew hHeld | exact (by repeat (first | exact Below.refl _ _ | assumption | refine Below.alloc ?_ (by first | omega | (simp <;> omega)) _ | refine Below.setCell ?_ (by first | omega | (simp <;> omega)) _ | refine Below.drew ?_))
      clear hK K hHeld; have hHeld := hHeld2; clear hHeld2; (try simp only [Act.put, zn1, zn2, zn3])
      refine ready_one (i := 3) rfl (by kernel_rfl) (fun K hK => ?_)
      go_simp
      refine (May20_any A c q _ (HQ.out.at hHeld).rq HQ.out.ok).mono ?_
      rw [HMq.out]
      rintro e v2 ⟨rfl, hb⟩
      refine hK.out _ _ ?_ (fun hHeld2 => ?_)
      · (try dsimp only); first | exact Below.trans hHeld (Below.mono hb hHeld.size) | exact hHeld | exact Below.drew hHeld | exact (by repeat (first | exact Below.refl _ _ | assumption | refine Below.alloc ?_ (by first | omega | (simp <;> omega)) _ | refine Below.setCell ?_ (by first | omega | (simp <;> omega)) _ | refine Below.drew ?_))
      clear hK K hHeld; have hHeld := hHeld2; clear hHeld2; (try simp only [Act.put, zn1, zn2, zn3])
      refine tY (i := 4) (v := ?_) rfl ?_ hHeld ?_; rotate_left 1; focus (intro w' hSw; clear hSw; go_simp; try with_reducible rfl)
      (try simp only [Act.put, zn1, zn2, zn3])
      refine tY (i := 5) (v := ?_) rfl ?_ hHeld ?_; rotate_left 1; focus (intro w' hSw; clear hSw; go_simp; try with_reducible rfl)
      (try simp only [Act.put, zn1, zn2, zn3])
      refine tY (i := 6) (v := ?_) rfl ?_ hHeld ?_; rotate_left 1; focus (intro w' hSw; have hCell := fun (b o : Nat) (h : b < w5.heap.size) => hSw.cell (p := ⟨b, o, none⟩) h; clear hSw; go_simp; try with_reducible rfl)
      (try simp only [Act.put, zn1, zn2, zn3])
      refine tY (i := 7) (v := ?_) rfl ?_ hHeld ?_; rotate_left 1; focus (intro w' hSw; clear hSw; go_simp; try with_reducible rfl)
      (try simp only [Act.put, zn1, zn2, zn3])
      refine tY (i := 9) (v := ?_) rfl ?_ hHeld ?_; rotate_left 1; focus (intro w' hSw; have hCell := fun (b o : Nat) (h : b < w5.heap.size) => hSw.cell (p := ⟨b, o, none⟩) h; clear hSw; go_simp; try with_reducible rfl)
      (try simp only [Act.put, zn1, zn2, zn3])
      refine tY (i := 10) (v := ?_) rfl ?_ hHeld ?_; rotate_left 1; focus (intro w' hSw; clear hSw; go_simp; try with_reducible rfl)
      (try simp only [Act.put, zn1, zn2, zn3])
      refine ready_one (i := 8) rfl (by kernel_rfl) (fun K hK => ?_)
      go_simp
      refine (SoundQ_any An Ae cn ce ns es A c q _ ((HG.out.at hHeld).q hl1 hl2) (HQ.out.at hHeld) (by omega)).mono ?_
      rw [HSq.out]
      rintro e v3 ⟨rfl, hb⟩
      refine hK.out _ _ ?_ (fun hHeld2 => ?_)
      · (try dsimp only); first | exact Below.trans hHeld (Below.mono hb hHeld.size) | exact hHeld | exact Below.drew hHeld | exact (by repeat (first | exact Below.refl _ _ | assumption | refine Below.alloc ?_ (by first | omega | (simp <;> omega)) _ | refine Below.setCell ?_ (by first | omega | (simp <;> omega)) _ | refine Below.drew ?_))
      clear hK K hHeld; have hHeld := hHeld2; clear hHeld2; (try simp only [Act.put, zn1, zn2, zn3])
      refine ready_one (i := 11) rfl (by kernel_rfl) (fun K hK => ?_)
      go_simp
      refine (Sound20_any An Ae cn ce ns es A c q _ ((HG.out.at hHeld).q hl1 hl2) (HQ.out.at hHeld)).mono ?_
      rw [HSq.out]
      rintro e v4 ⟨rfl, hb⟩
      refine hK.out _ _ ?_ (fun hHeld2 => ?_)
      · (try dsimp only); first | exact Below.trans hHeld (Below.mono hb hHeld.size) | exact hHeld | exact Below.drew hHeld | exact (by repeat (first | exact Below.refl _ _ | assumption | refine Below.alloc ?_ (by first | omega | (simp <;> omega)) _ | refine Below.setCell ?_ (by first | omega | (simp <;> omega)) _ | refine Below.drew ?_))
      clear hK K hHeld; have hHeld := hHeld2; clear hHeld2; (try simp only [Act.put, zn1, zn2, zn3])
      refine tY (i := 12) (v := ?_) rfl ?_ hHeld ?_; rotate_left 1; focus (intro w' hSw; clear hSw; go_simp; try with_reducible rfl)
      (try simp only [Act.put, zn1, zn2, zn3])
      refine tY (i := 13) (v := ?_) rfl ?_ hHeld ?_; rotate_left 1; focus (intro w' hSw; clear hSw; go_simp; try with_reducible rfl)
      (try simp only [Act.put, zn1, zn2, zn3])
      refine tY (i := 14) (v := ?_) rfl ?_ hHeld ?_; rotate_left 1; focus (intro w' hSw; clear hSw; go_simp; try with_reducible rfl)
      (try simp only [Act.put, zn1, zn2, zn3])
      refine tY (i := 15) (v := ?_) rfl ?_ hHeld ?_; rotate_left 1; focus (intro w' hSw; clear hSw; go_simp; try with_reducible rfl)
      (try simp only [Act.put, zn1, zn2, zn3])
      refine tY (i := 16) (v := ?_) rfl ?_ hHeld ?_; rotate_left 1; focus (intro w' hSw; clear hSw; go_simp; try with_reducible rfl)
      (try simp only [Act.put, zn1, zn2, zn3])
      refine ready_one (i := 17) rfl (by kernel_rfl) (fun K hK => ?_)
      go_simp
      refine (SameJobs_any A1 A3 k1 k3 cl1 cl1 _ (HR1.out.at hHeld) (HR3.out.at hHeld) hcl).mono ?_
      rw [decide_eq_true rfl]
      rintro e v5 ⟨rfl, hb⟩
      refine hK.out _ _ ?_ (fun hHeld2 => ?_)
      · (try dsimp only); first | exact Below.trans hHeld (Below.mono hb hHeld.size) | exact hHeld | exact Below.drew hHeld | exact (by repeat (first | exact Below.refl _ _ | assumption | refine Below.alloc ?_ (by first | omega | (simp <;> omega)) _ | refine Below.setCell ?_ (by first | omega | (simp <;> omega)) _ | refine Below.drew ?_))
      clear hK K hHeld; have hHeld := hHeld2; clear hHeld2; (try simp only [Act.put, zn1, zn2, zn3])
      refine tY (i := 18) (v := ?_) rfl ?_ hHeld ?_; rotate_left 1; focus (intro w' hSw; clear hSw; go_simp; try with_reducible rfl)
      (try simp only [Act.put, zn1, zn2, zn3])
      refine tY (i := 19) (v := ?_) rfl ?_ hHeld ?_; rotate_left 1; focus (intro w' hSw; clear hSw; go_simp; try with_reducible rfl)
      (try simp only [Act.put, zn1, zn2, zn3])
      refine tY (i := 20) (v := ?_) rfl ?_ hHeld ?_; rotate_left 1; focus (intro w' hSw; clear hSw; go_simp; try with_reducible rfl)
      (try simp only [Act.put, zn1, zn2, zn3])
      refine tY (i := 21) (v := ?_) rfl ?_ hHeld ?_; rotate_left 1; focus (intro w' hSw; clear hSw; go_simp; try with_reducible rfl)
      (try simp only [Act.put, zn1, zn2, zn3])
      refine tY (i := 22) (v := ?_) rfl ?_ hHeld ?_; rotate_left 1; focus (intro w' hSw; clear hSw; go_simp; try with_reducible rfl)
      (try simp only [Act.put, zn1, zn2, zn3])
      refine ready_one (i := 23) rfl (by kernel_rfl) (fun K hK => ?_)
      go_simp
      refine (SameDone_any A2 A4 k2 k4 cl2 cl2 _ (HR2.out.at hHeld) (HR4.out.at hHeld) hcl2).mono ?_
      rw [decide_eq_true rfl]
      rintro e v6 ⟨rfl, hb⟩
      refine hK.out _ _ ?_ (fun hHeld2 => ?_)
      · (try dsimp only); first | exact Below.trans hHeld (Below.mono hb hHeld.size) | exact hHeld | exact Below.drew hHeld | exact (by repeat (first | exact Below.refl _ _ | assumption | refine Below.alloc ?_ (by first | omega | (simp <;> omega)) _ | refine Below.setCell ?_ (by first | omega | (simp <;> omega)) _ | refine Below.drew ?_))
      clear hK K hHeld; have hHeld := hHeld2; clear hHeld2; (try simp only [Act.put, zn1, zn2, zn3])
      refine tY (i := 24) (v := ?_) rfl ?_ hHeld ?_; rotate_left 1; focus (intro w' hSw; clear hSw; go_simp; try with_reducible rfl)
      (try simp only [Act.put, zn1, zn2, zn3])
      refine tY (i := 25) (v := ?_) rfl ?_ hHeld ?_; rotate_left 1; focus (intro w' hSw; clear hSw; go_simp; try with_reducible rfl)
      (try simp only [Act.put, zn1, zn2, zn3])
      refine wpAnyH_done (by kernel_rfl) ?_ _
      replace c0 := cellAt c0 hHeld (by omega)
      replace c1 := cellAt c1 hHeld (by omega)
      replace HG := Lib.hid (HG.out.at hHeld)
      replace HQ := Lib.hid (HQ.out.at hHeld)
      replace n1 : w.heap.size < v6.heap.size := ltAt n1 hHeld
      replace HB := Lib.hid (lift HB.out hHeld)
      replace HR1 := Lib.hid (HR1.out.at hHeld)
      replace HR2 := Lib.hid (HR2.out.at hHeld)
      replace HR3 := Lib.hid (HR3.out.at hHeld)
      replace HR4 := Lib.hid (HR4.out.at hHeld)
      go_wp2_with fail
      try go_wp2_with fail
      refine wp_region_held_drew (S := fun w' => Below v6.heap.size v6 w') (by kernel_rfl) (Below.drew (Below.refl _ _)) (fun hHeld => ?_)
      refine tY (i := 0) (v := ?_) rfl ?_ hHeld ?_; rotate_left 1; focus (intro w' hSw; have hCell := fun (b o : Nat) (h : b < v6.heap.size) => hSw.cell (p := ⟨b, o, none⟩) h; clear hSw; go_simp; try with_reducible rfl)
      (try simp only [Act.put, zn1, zn2, zn3])
      refine tY (i := 1) (v := ?_) rfl ?_ hHeld ?_; rotate_left 1; focus (intro w' hSw; clear hSw; go_simp; try with_reducible rfl)
      (try simp only [Act.put, zn1, zn2, zn3])
      refine tY (i := 2) (v := ?_) rfl ?_ hHeld ?_; rotate_left 1; focus (intro w' hSw; clear hSw; go_simp; try with_reducible rfl)
      (try simp only [Act.put, zn1, zn2, zn3])
      refine tY (i := 4) (v := ?_) rfl ?_ hHeld ?_; rotate_left 1; focus (intro w' hSw; have hCell := fun (b o : Nat) (h : b < v6.heap.size) => hSw.cell (p := ⟨b, o, none⟩) h; clear hSw; go_simp; try with_reducible rfl)
      (try simp only [Act.put, zn1, zn2, zn3])
      refine tY (i := 5) (v := ?_) rfl ?_ hHeld ?_; rotate_left 1; focus (intro w' hSw; clear hSw; go_simp; try with_reducible rfl)
      (try simp only [Act.put, zn1, zn2, zn3])
      refine tY (i := 6) (v := ?_) rfl ?_ hHeld ?_; rotate_left 1; focus (intro w' hSw; clear hSw; go_simp; try with_reducible rfl)
      (try simp only [Act.put, zn1, zn2, zn3])
      refine ready_one (i := 3) rfl (by kernel_rfl) (fun K hK => ?_)
      go_simp
      refine (WaitsQ_any An Ae ns.length cn ce es A c q u _ (HG.out.at hHeld).re (HQ.out.at hHeld).rq (by omega) (by omega) HQ.out.ok).mono ?_
      rintro e x1 ⟨A5, c5, rfl, ho5, hb⟩
      have HR5 := Lib.hid (own_rd' ho5)
      clear ho5
      refine hK.out _ _ ?_ (fun hHeld2 => ?_)
      · (try dsimp only); first | exact Below.trans hHeld (Below.mono hb hHeld.size) | exact hHeld | exact Below.drew hHeld | exact (by repeat (first | exact Below.refl _ _ | assumption | refine Below.alloc ?_ (by first | omega | (simp <;> omega)) _ | refine Below.setCell ?_ (by first | omega | (simp <;> omega)) _ | refine Below.drew ?_))
      clear hK K hHeld; have hHeld := hHeld2; clear hHeld2; (try simp only [Act.put, zn1, zn2, zn3])
      refine ready_one (i := 7) rfl (by kernel_rfl) (fun K hK => ?_)
      go_simp
      refine (Waits20_any An Ae ns.length cn ce es A c q u _ (HG.out.at hHeld).re (HQ.out.at hHeld).rq (by omega) (by omega) HQ.out.ok).mono ?_
      rintro e x2 ⟨A6, c6, rfl, hc6, hr6, hb⟩
      have HR6 := Lib.hid hr6
      have HR5b := Lib.hid (HR5.out.at hb)
      clear hr6
      refine hK.out _ _ ?_ (fun hHeld2 => ?_)
      · (try dsimp only); first | exact Below.trans hHeld (Below.mono hb hHeld.size) | exact hHeld | exact Below.drew hHeld | exact (by repeat (first | exact Below.refl _ _ | assumption | refine Below.alloc ?_ (by first | omega | (simp <;> omega)) _ | refine Below.setCell ?_ (by first | omega | (simp <;> omega)) _ | refine Below.drew ?_))
      clear hK K hHeld; have hHeld := hHeld2; clear hHeld2; (try simp only [Act.put, zn1, zn2, zn3])
      refine ready_one (i := 8) rfl (by kernel_rfl) (fun K hK => ?_)
      go_simp
      refine (Same_any A5 A6 c5 c6 (waitsQ es q u) (waitsQ es q u) _ HR5b.out HR6.out hwl).mono ?_
      rw [decide_eq_true rfl]
      rintro e x3 ⟨rfl, hb⟩
      refine hK.out _ _ ?_ (fun hHeld2 => ?_)
      · (try dsimp only); first | exact Below.trans hHeld (Below.mono hb hHeld.size) | exact hHeld | exact Below.drew hHeld | exact (by repeat (first | exact Below.refl _ _ | assumption | refine Below.alloc ?_ (by first | omega | (simp <;> omega)) _ | refine Below.setCell ?_ (by first | omega | (simp <;> omega)) _ | refine Below.drew ?_))
      clear hK K hHeld; have hHeld := hHeld2; clear hHeld2; (try simp only [Act.put, zn1, zn2, zn3])
      refine tY (i := 9) (v := ?_) rfl ?_ hHeld ?_; rotate_left 1; focus (intro w' hSw; clear hSw; go_simp; try with_reducible rfl)
      (try simp only [Act.put, zn1, zn2, zn3])
      refine tY (i := 10) (v := ?_) rfl ?_ hHeld ?_; rotate_left 1; focus (intro w' hSw; have hCell := fun (b o : Nat) (h : b < v6.heap.size) => hSw.cell (p := ⟨b, o, none⟩) h; clear hSw; go_simp; try with_reducible rfl)
      (try simp only [Act.put, zn1, zn2, zn3])
      refine tY (i := 11) (v := ?_) rfl ?_ hHeld ?_; rotate_left 1; focus (intro w' hSw; clear hSw; go_simp; try with_reducible rfl)
      (try simp only [Act.put, zn1, zn2, zn3])
      refine tY (i := 13) (v := ?_) rfl ?_ hHeld ?_; rotate_left 1; focus (intro w' hSw; have hCell := fun (b o : Nat) (h : b < v6.heap.size) => hSw.cell (p := ⟨b, o, none⟩) h; clear hSw; go_simp; try with_reducible rfl)
      (try simp only [Act.put, zn1, zn2, zn3])
      refine tY (i := 14) (v := ?_) rfl ?_ hHeld ?_; rotate_left 1; focus (intro w' hSw; clear hSw; go_simp; try with_reducible rfl)
      (try simp only [Act.put, zn1, zn2, zn3])
      refine ready_one (i := 12) rfl (by kernel_rfl) (fun K hK => ?_)
      go_simp
      refine (ReadyQ_any An Ae ns.length cn ce es A c q _ (HG.out.at hHeld).re (HQ.out.at hHeld).rq (by omega) (by omega) HQ.out.ok).mono ?_
      rintro e x4 ⟨A7, c7, rfl, ho7, hb⟩
      have HR7 := Lib.hid (own_rd' ho7)
      clear ho7
      refine hK.out _ _ ?_ (fun hHeld2 => ?_)
      · (try dsimp only); first | exact Below.trans hHeld (Below.mono hb hHeld.size) | exact hHeld | exact Below.drew hHeld | exact (by repeat (first | exact Below.refl _ _ | assumption | refine Below.alloc ?_ (by first | omega | (simp <;> omega)) _ | refine Below.setCell ?_ (by first | omega | (simp <;> omega)) _ | refine Below.drew ?_))
      clear hK K hHeld; have hHeld := hHeld2; clear hHeld2; (try simp only [Act.put, zn1, zn2, zn3])
      refine ready_one (i := 15) rfl (by kernel_rfl) (fun K hK => ?_)
      go_simp
      refine (Ready20_any An Ae ns.length cn ce es A c q _ (HG.out.at hHeld).re (HQ.out.at hHeld).rq (by omega) (by omega) HQ.out.ok).mono ?_
      rintro e x5 ⟨A8, c8, rfl, hc8, hr8, hb⟩
      have HR8 := Lib.hid hr8
      have HR7b := Lib.hid (HR7.out.at hb)
      clear hr8
      refine hK.out _ _ ?_ (fun hHeld2 => ?_)
      · (try dsimp only); first | exact Below.trans hHeld (Below.mono hb hHeld.size) | exact hHeld | exact Below.drew hHeld | exact (by repeat (first | exact Below.refl _ _ | assumption | refine Below.alloc ?_ (by first | omega | (simp <;> omega)) _ | refine Below.setCell ?_ (by first | omega | (simp <;> omega)) _ | refine Below.drew ?_))
      clear hK K hHeld; have hHeld := hHeld2; clear hHeld2; (try simp only [Act.put, zn1, zn2, zn3])
      refine ready_one (i := 16) rfl (by kernel_rfl) (fun K hK => ?_)
      go_simp
      refine (Same_any A7 A8 c7 c8 (readyQ es q) (readyQ es q) _ HR7b.out HR8.out hrl).mono ?_
      rw [decide_eq_true rfl]
      rintro e x6 ⟨rfl, hb⟩
      refine hK.out _ _ ?_ (fun hHeld2 => ?_)
      · (try dsimp only); first | exact Below.trans hHeld (Below.mono hb hHeld.size) | exact hHeld | exact Below.drew hHeld | exact (by repeat (first | exact Below.refl _ _ | assumption | refine Below.alloc ?_ (by first | omega | (simp <;> omega)) _ | refine Below.setCell ?_ (by first | omega | (simp <;> omega)) _ | refine Below.drew ?_))
      clear hK K hHeld; have hHeld := hHeld2; clear hHeld2; (try simp only [Act.put, zn1, zn2, zn3])
      refine tY (i := 17) (v := ?_) rfl ?_ hHeld ?_; rotate_left 1; focus (intro w' hSw; clear hSw; go_simp; try with_reducible rfl)
      (try simp only [Act.put, zn1, zn2, zn3])
      refine tY (i := 18) (v := ?_) rfl ?_ hHeld ?_; rotate_left 1; focus (intro w' hSw; clear hSw; go_simp; try with_reducible rfl)
      (try simp only [Act.put, zn1, zn2, zn3])
      refine wpAnyH_done (by kernel_rfl) ?_ _
      go_wp2_with fail
      go_ret
      exact ⟨rfl, lift HB.out hHeld⟩
set_option maxRecDepth 100000 in
set_option maxHeartbeats 8000000 in
theorem queueMoves_any (An Ae : Option Addr) (cn ce : Nat) (ns : List Nd) (es : List Ed) (A : Option Addr) (c : Nat) (q : List Jb) (u : Str) (en : Int) (w : World) (hg : GIw w An Ae ns es) (hq : QIn w A c q) :
    Calls Tryz.prog 4 #[gV An ns.length cn Ae es.length ce, .slice A q.length c, sv u, .int .i64 en] w fun e w' => e = .returned (.bool true) ∧ Below w.heap.size w w' := by
  have HG := Lib.hid hg
  have HQ := Lib.hid hq
  clear hg hq
  by_cases h64 : (64 : Int) < (q.length : Int)
  · have d64 : decide ((64 : Int) < (q.length : Int)) = true := by simpa using h64
    go_enter Tryz.func4, Tryz.ntmps4
    go_wp2_with fail
    first | (refine wp_named ?_; intro W1 hW) | (refine calls_named ?_; intro W1 hW)
    have B1 : Below w.heap.size w W1 := by rw [hW]; exact (by repeat (first | exact Below.refl _ _ | assumption | refine Below.alloc ?_ (by first | omega | (simp <;> omega)) _ | refine Below.setCell ?_ (by first | omega | (simp <;> omega)) _ | refine Below.drew ?_))
    replace HG := Lib.hid (HG.out.at B1)
    replace HQ := Lib.hid (HQ.out.at B1)
    have n1 : w.heap.size < W1.heap.size := by rw [hW]; simp <;> omega
    have c0 : W1.cell? ⟨w.heap.size, 0, none⟩ = some (.slice An ns.length cn) := by rw [hW]; go_simp
    have c1 : W1.cell? ⟨w.heap.size, 1, none⟩ = some (.slice Ae es.length ce) := by rw [hW]; go_simp
    clear hW
    have HB := Lib.hid B1
    clear B1
    refine (shown_any W1).mono ?_
    rintro e w2 ⟨rfl, hb⟩
    replace c0 := cellAt c0 hb (by omega)
    replace c1 := cellAt c1 hb (by omega)
    replace HG := Lib.hid (HG.out.at hb)
    replace HQ := Lib.hid (HQ.out.at hb)
    replace n1 : w.heap.size < w2.heap.size := ltAt n1 hb
    replace HB := Lib.hid (lift HB.out hb)
    clear hb
    go_wp2_with fail
    refine (small_any An Ae cn ce ns es w2).mono ?_
    rintro e w3 ⟨rfl, hb⟩
    replace c0 := cellAt c0 hb (by omega)
    replace c1 := cellAt c1 hb (by omega)
    replace HG := Lib.hid (HG.out.at hb)
    replace HQ := Lib.hid (HQ.out.at hb)
    replace n1 : w.heap.size < w3.heap.size := ltAt n1 hb
    replace HB := Lib.hid (lift HB.out hb)
    clear hb
    cases hsm : smallB ns es
    · go_wp2_with fail
      go_ret
      exact ⟨rfl, HB.out⟩
    · go_wp2_with fail
      go_ret
      exact ⟨rfl, HB.out⟩
  · have d64 : decide ((64 : Int) < (q.length : Int)) = false := by simpa using h64
    go_enter Tryz.func4, Tryz.ntmps4
    go_wp2_with fail
    first | (refine wp_named ?_; intro W1 hW) | (refine calls_named ?_; intro W1 hW)
    have B1 : Below w.heap.size w W1 := by rw [hW]; exact (by repeat (first | exact Below.refl _ _ | assumption | refine Below.alloc ?_ (by first | omega | (simp <;> omega)) _ | refine Below.setCell ?_ (by first | omega | (simp <;> omega)) _ | refine Below.drew ?_))
    replace HG := Lib.hid (HG.out.at B1)
    replace HQ := Lib.hid (HQ.out.at B1)
    have n1 : w.heap.size < W1.heap.size := by rw [hW]; simp <;> omega
    have c0 : W1.cell? ⟨w.heap.size, 0, none⟩ = some (.slice An ns.length cn) := by rw [hW]; go_simp
    have c1 : W1.cell? ⟨w.heap.size, 1, none⟩ = some (.slice Ae es.length ce) := by rw [hW]; go_simp
    clear hW
    have HB := Lib.hid B1
    clear B1
    refine (shown_any W1).mono ?_
    rintro e w2 ⟨rfl, hb⟩
    replace c0 := cellAt c0 hb (by omega)
    replace c1 := cellAt c1 hb (by omega)
    replace HG := Lib.hid (HG.out.at hb)
    replace HQ := Lib.hid (HQ.out.at hb)
    replace n1 : w.heap.size < w2.heap.size := ltAt n1 hb
    replace HB := Lib.hid (lift HB.out hb)
    clear hb
    go_wp2_with fail
    refine (small_any An Ae cn ce ns es w2).mono ?_
    rintro e w3 ⟨rfl, hb⟩
    replace c0 := cellAt c0 hb (by omega)
    replace c1 := cellAt c1 hb (by omega)
    replace HG := Lib.hid (HG.out.at hb)
    replace HQ := Lib.hid (HQ.out.at hb)
    replace n1 : w.heap.size < w3.heap.size := ltAt n1 hb
    replace HB := Lib.hid (lift HB.out hb)
    clear hb
    cases hsm : smallB ns es
    · go_wp2_with fail
      go_ret
      exact ⟨rfl, HB.out⟩
    · have hs2 := smallB_iff.1 hsm
      have hl1 := hs2.1
      have hl2 := hs2.2
      clear hs2
      have hbl : ((beginQ es q u).getD []).length ≤ 1000000 := by
        have h := begin_len es q u
        omega
      have hfl : ((finishQ q u en).getD []).length ≤ 1000000 := by
        have h := finish_len q u en
        omega
      go_wp2_with fail
      refine (BeginQ_any An Ae ns.length cn ce es A c q u w3 HG.out.re HQ.out (by omega) (by omega)).mono ?_
      rintro e w4 ⟨A1, k1, rfl, hk1, hr1, hb⟩
      have HR1 := Lib.hid hr1
      replace c0 := cellAt c0 hb (by omega)
      replace c1 := cellAt c1 hb (by omega)
      replace HG := Lib.hid (HG.out.at hb)
      replace HQ := Lib.hid (HQ.out.at hb)
      replace n1 : w.heap.size < w4.heap.size := ltAt n1 hb
      replace HB := Lib.hid (lift HB.out hb)
      clear hb hr1
      go_wp2_with fail
      refine (Begin20_any An Ae ns.length cn ce es A c q u w4 HG.out.re HQ.out (by omega) (by omega)).mono ?_
      rintro e w5 ⟨A2, k2, rfl, hk2, hr2, hb⟩
      have HR2 := Lib.hid hr2
      replace c0 := cellAt c0 hb (by omega)
      replace c1 := cellAt c1 hb (by omega)
      replace HG := Lib.hid (HG.out.at hb)
      replace HQ := Lib.hid (HQ.out.at hb)
      replace n1 : w.heap.size < w5.heap.size := ltAt n1 hb
      replace HB := Lib.hid (lift HB.out hb)
      replace HR1 := Lib.hid (HR1.out.at hb)
      clear hb hr2
      go_wp2_with fail
      refine (FinishQ_any A c q u en w5 HQ.out (by omega)).mono ?_
      rintro e w6 ⟨A3, k3, rfl, hk3, hr3, hb⟩
      have HR3 := Lib.hid hr3
      replace c0 := cellAt c0 hb (by omega)
      replace c1 := cellAt c1 hb (by omega)
      replace HG := Lib.hid (HG.out.at hb)
      replace HQ := Lib.hid (HQ.out.at hb)
      replace n1 : w.heap.size < w6.heap.size := ltAt n1 hb
      replace HB := Lib.hid (lift HB.out hb)
      replace HR1 := Lib.hid (HR1.out.at hb)
      replace HR2 := Lib.hid (HR2.out.at hb)
      clear hb hr3
      go_wp2_with fail
      refine (Finish20_any A c q u en w6 HQ.out (by omega)).mono ?_
      rintro e w7 ⟨A4, k4, rfl, hk4, hr4, hb⟩
      have HR4 := Lib.hid hr4
      replace c0 := cellAt c0 hb (by omega)
      replace c1 := cellAt c1 hb (by omega)
      replace HG := Lib.hid (HG.out.at hb)
      replace HQ := Lib.hid (HQ.out.at hb)
      replace n1 : w.heap.size < w7.heap.size := ltAt n1 hb
      replace HB := Lib.hid (lift HB.out hb)
      replace HR1 := Lib.hid (HR1.out.at hb)
      replace HR2 := Lib.hid (HR2.out.at hb)
      replace HR3 := Lib.hid (HR3.out.at hb)
      clear hb hr4
      generalize hBn : beginQ es q u = bn at *
      generalize hFn : finishQ q u en = fn at *
      generalize hx1 : bn.isSome = i1 at *
      generalize hx2 : fn.isSome = i2 at *
      generalize hx3 : bn.getD [] = l1 at *
      generalize hx4 : fn.getD [] = l2 at *
      clear hBn hFn hx1 hx2 hx3 hx4
      have e1 : (i1 == i1) = true := by simp
      have e2 : (i2 == i2) = true := by simp
      go_wp2_with fail
      refine (SameJobs_any A1 A2 k1 k2 l1 l1 _ HR1.out HR2.out hbl).mono ?_
      rw [decide_eq_true rfl]
      rintro e v5 ⟨rfl, hb⟩
      replace c0 := cellAt c0 hb (by omega)
      replace c1 := cellAt c1 hb (by omega)
      replace HG := Lib.hid (HG.out.at hb)
      replace HQ := Lib.hid (HQ.out.at hb)
      replace n1 : w.heap.size < v5.heap.size := ltAt n1 hb
      replace HB := Lib.hid (lift HB.out hb)
      replace HR1 := Lib.hid (HR1.out.at hb)
      replace HR2 := Lib.hid (HR2.out.at hb)
      replace HR3 := Lib.hid (HR3.out.at hb)
      replace HR4 := Lib.hid (HR4.out.at hb)
      clear hb
      go_wp2_with fail
      refine (SameJobs_any A3 A4 k3 k4 l2 l2 _ HR3.out HR4.out hfl).mono ?_
      rw [decide_eq_true rfl]
      rintro e v6 ⟨rfl, hb⟩
      replace c0 := cellAt c0 hb (by omega)
      replace c1 := cellAt c1 hb (by omega)
      replace HG := Lib.hid (HG.out.at hb)
      replace HQ := Lib.hid (HQ.out.at hb)
      replace n1 : w.heap.size < v6.heap.size := ltAt n1 hb
      replace HB := Lib.hid (lift HB.out hb)
      replace HR1 := Lib.hid (HR1.out.at hb)
      replace HR2 := Lib.hid (HR2.out.at hb)
      replace HR3 := Lib.hid (HR3.out.at hb)
      replace HR4 := Lib.hid (HR4.out.at hb)
      clear hb
      go_wp2_with fail
      go_ret
      exact ⟨by simp, HB.out⟩
end Od
end Go.Proofs.YtanfnejbnmenkaaGreat
end
