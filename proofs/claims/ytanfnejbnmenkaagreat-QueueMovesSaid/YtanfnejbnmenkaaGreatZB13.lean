/- My texts, joined for the claim: QMovesW QClearW QInst. -/
import Derived.Test.YtanfnejbnmenkaaGreatZB12
import Derived.Test.YtanfnejbnmenkaaGreatZB7

section
/- The walks of queue.Begin and queue.Finish. (bel2) -/
namespace Go.Proofs.YtanfnejbnmenkaaGreat
open Go.RowKit Go.Sort
set_option linter.unusedSimpArgs false

namespace Od
section
variable {w : World} {base c : Nat} {q : List Jb} {g : Nat}
theorem ownJ_cells (h : w.ownsRow base 50 4 (.slice (some ⟨g, 0, none⟩) q.length c) q.length (jbsC q)) {i : Nat} (hi : i < q.length) :
    w.cell? ⟨g, i * 4, none⟩ = some (sv q[i].1) ∧ w.cell? ⟨g, i * 4 + 1, none⟩ = some (.int .i64 q[i].2.1) ∧ w.cell? ⟨g, i * 4 + 2, none⟩ = some (.int .i64 q[i].2.2.1) ∧ w.cell? ⟨g, i * 4 + 3, none⟩ = some (.int .i64 q[i].2.2.2) ∧ ∀ j, w.frozen? ⟨g, j, none⟩ = false := by
  obtain ⟨b, o, hA, _, h0, h1, h2, h3⟩ := (own_rd' h).job hi
  injection hA with hA
  injection hA with hA1 hA2
  subst hA1 hA2
  simp only [Nat.zero_add] at h0 h1 h2 h3
  exact ⟨h0, h1, h2, h3, fun j => own_fro h⟩
end
theorem set_updf {q : List Jb} (hd : DQ q) {k : Nat} (hk : k < q.length) {u : Str} (hu : q[k].1 = u) {f : Jb → Jb} {x : Jb} (hx : f q[k] = x) : q.set k x = updJ q u f := by
  rw [set_upd hd hk, hu]
  refine updJ_congr fun y hy ey => ?_
  rw [hd.eq hy (List.getElem_mem hk) (ey.trans hu.symm), hx]
/-- A call hands back jobs, and true; or nothing, and false. -/
def JobsRet (r : Option (List Jb)) (w : World) (e : Ending) (w' : World) : Prop := ∃ A c, e = .returned (.tuple #[.slice A (r.getD []).length c, .bool r.isSome]) ∧ (r.getD []).length ≤ c ∧ Rd w' w'.heap.size 4 A (r.getD []).length (jbsC (r.getD [])) ∧ Below w.heap.size w w'
theorem JobsRet.no {w w' : World} (hb : Below w.heap.size w w') : JobsRet none w (.returned (.tuple #[.slice none 0 0, .bool false])) w' := ⟨none, 0, rfl, Nat.le_refl _, Rd.none_, hb⟩
theorem JobsRet.yes {x : List Jb} {w w' : World} {base n c : Nat} {A : Option Addr} (hn : x.length = n) (h : w'.ownsRow base 50 4 (.slice A n c) n (jbsC x)) (hb : Below w.heap.size w w') : JobsRet (some x) w (.returned (.tuple #[.slice A n c, .bool true])) w' := by
  subst hn
  exact ⟨A, c, rfl, (own_cap h).1, own_rd' h, hb⟩
set_option maxRecDepth 100000 in
set_option maxHeartbeats 8000000 in
theorem BeginQ_any (An Ae : Option Addr) (nn cn ce : Nat) (es : List Ed) (A : Option Addr) (c : Nat) (q : List Jb) (u : Str) (w : World) (hr : Rd w w.heap.size 3 Ae es.length (edsC es)) (hq : QIn w A c q) (hl : es.length ≤ 100000) (hlq : q.length ≤ 1000000) :
    Calls Tryz.prog 28 #[gV An nn cn Ae es.length ce, .slice A q.length c, sv u] w (JobsRet (beginQ es q u) w) := by
  have Hr := Lib.hid hr
  have HQ := Lib.hid hq
  clear hr hq
  go_enter Tryz.func28, Tryz.ntmps28
  go_wp2_with fail
  first | (refine wp_named ?_; intro W1 hW) | (refine calls_named ?_; intro W1 hW)
  have B1 : Below w.heap.size w W1 := by rw [hW]; exact (by repeat (first | exact Below.refl _ _ | assumption | refine Below.alloc ?_ (by first | omega | (simp <;> omega)) _ | refine Below.setCell ?_ (by first | omega | (simp <;> omega)) _ | refine Below.drew ?_))
  replace Hr := Lib.hid (Hr.out.at B1)
  replace HQ := Lib.hid (HQ.out.at B1)
  have n1 : w.heap.size < W1.heap.size := by rw [hW]; simp <;> omega
  have g0 : W1.cell? ⟨w.heap.size, 0, none⟩ = some (.slice An nn cn) := by rw [hW]; go_simp
  have g1 : W1.cell? ⟨w.heap.size, 1, none⟩ = some (.slice Ae es.length ce) := by rw [hW]; go_simp
  clear hW
  have HB := Lib.hid B1
  clear B1
  refine (ReadyQ_any An Ae nn cn ce es A c q W1 Hr.out HQ.out.rq (by omega) (by omega) HQ.out.ok).mono ?_
  rintro e w2 ⟨A2, c2, rfl, ho2, hb⟩
  have HR2 := Lib.hid (own_rd' ho2)
  replace g0 := cellAt g0 hb (by omega)
  replace g1 := cellAt g1 hb (by omega)
  replace Hr := Lib.hid (Hr.out.at hb)
  replace HQ := Lib.hid (HQ.out.at hb)
  replace n1 : w.heap.size < w2.heap.size := ltAt n1 hb
  replace HB := Lib.hid (lift HB.out hb)
  clear hb ho2
  have hrl := readyQ_len es q
  go_wp2_with fail
  refine (containsS_rd A2 c2 (readyQ es q) u w2 HR2.out (by omega)).mono ?_
  rintro e w3 ⟨rfl, rfl⟩
  by_cases hu : u ∈ readyQ es q
  · have hm := readyQ_may hu
    obtain ⟨j0, hj0, hj1, hj2, _⟩ := (mem_readyQ hm).1 hu
    have hbq : beginQ es q u = some (updJ q u (begun es q)) := by unfold beginQ; rw [if_pos hu]
    have HBQ := Lib.hid hbq
    have HM := Lib.hid hm
    have hud : decide (u ∈ readyQ es q) = true := by simpa using hu
    have HJ0 := Lib.hid (And.intro hj0 hj1)
    clear hu hm hbq hj0 hj1 hj2
    rw [hud]
    go_wp2_with fail
    refine (cloneJ_own A c q w3 HQ.out.rq hlq).mono ?_
    rintro e w5 ⟨A5, c5, rfl, ho5, hb⟩
    have HO5 := Lib.hid ho5
    have hb35 := hb
    have Hr3 := Hr
    have HQ3 := HQ
    have g03 := g0
    have g13 := g1
    have hn13 := n1
    have HB3 := HB
    replace g0 := cellAt g0 hb (by omega)
    replace g1 := cellAt g1 hb (by omega)
    replace Hr := Lib.hid (Hr.out.at hb)
    replace HQ := Lib.hid (HQ.out.at hb)
    replace n1 : w.heap.size < w5.heap.size := ltAt n1 hb
    replace HB := Lib.hid (lift HB.out hb)
    clear hb ho5
    go_wp2_with fail
    refine (find_any A5 c5 q u w5 (own_rd' HO5.out) hlq).mono ?_
    rintro e w6 ⟨r, rfl, hcase, hb⟩
    have HO6 := Lib.hid (own_on HO5.out hb)
    have HB36 := Lib.hid (lift hb35 hb)
    replace g0 := cellAt g0 hb (by omega)
    replace g1 := cellAt g1 hb (by omega)
    replace Hr := Lib.hid (Hr.out.at hb)
    replace HQ := Lib.hid (HQ.out.at hb)
    replace n1 : w.heap.size < w6.heap.size := ltAt n1 hb
    replace HB := Lib.hid (lift HB.out hb)
    clear hb hb35
    rcases hcase with ⟨rfl, hnone⟩ | ⟨k, hk, rfl, hfind, hpk, _⟩
    · exact absurd (List.find?_eq_none.1 hnone _ HJ0.out.1) (by simp [HJ0.out.2])
    · obtain ⟨gb, rfl, hgb, hgl, hcap⟩ := own_open HO6.out (by omega)
      obtain ⟨y0, y1, y2, y3, yf⟩ := ownJ_cells HO6.out hk
      have hku : q[k].1 = u := by simpa using hpk
      have hsame : j0 = q[k] := (mayQ.dq HM.out).eq HJ0.out.1 (List.getElem_mem hk) (by rw [HJ0.out.2, hku])
      have hset : ∀ x : Jb, begun es q q[k] = x → q.set k x = updJ q u (begun es q) := fun x hx => set_updf (mayQ.dq HM.out) hk hku hx
      obtain ⟨s, t, r, d, hx⟩ : ∃ s t r d, q[k] = (s, t, r, d) := ⟨_, _, _, _, rfl⟩
      rw [hx] at y0 y1 y2 y3 hku hset
      simp only at y0 y1 y2 y3 hku
      subst hku
      have Hx := Lib.hid hx
      have HSet := Lib.hid hset
      have k1 : (0 : Int) ≤ (k : Int) := by omega
      have k2 : (k : Int) < (q.length : Int) := by omega
      have yf1 := yf (k * 4 + 1)
      have yf2 := yf (k * 4 + 2)
      have yf3 := yf (k * 4 + 3)
      have hne : ¬ gb = w.heap.size := by omega
      have hne' : ¬ w.heap.size = gb := by omega
      have ho7 := ownJ_set HO6.out hk 2 (by omega) (s, t, 2, d) (.int .i64 2) (by rw [hx]; rfl)
      have HO7 := Lib.hid ho7
      clear hx hset hfind hpk hsame yf ho7
      by_cases ht : t = 1
      · subst ht
        go_wp2_with fail
        refine calls_named ?_
        intro W7 hW7
        have hb7 : Below w3.heap.size w3 W7 := by rw [hW7]; exact HB36.out.setCell hgb _
        have ho7 := HO7.out
        rw [← hW7] at ho7
        clear hW7 y0 y1 y2 y3 yf1 yf2 yf3 g0 g1
        have g0 := cellAt g03 hb7 hn13
        have g1 := cellAt g13 hb7 hn13
        have HO8 := Lib.hid ho7
        have HB7 := Lib.hid hb7
        refine (lacks_any An Ae nn cn ce es A c q s W7 (Hr3.out.at hb7) (HQ3.out.at hb7).rq hl hlq).mono ?_
        rintro e w8 ⟨rfl, hb8⟩
        have HO9 := Lib.hid (own_on HO8.out hb8)
        have HB8 := Lib.hid (lift HB7.out hb8)
        clear hb7 ho7 hb8
        have hk' : k < (q.set k (s, 1, 2, d)).length := by simpa using hk
        obtain ⟨y0, y1, y2, y3, yf⟩ := ownJ_cells HO9.out hk'
        rw [List.getElem_set_self] at y0 y1 y2 y3
        simp only at y0 y1 y2 y3
        have yf2 := yf (k * 4 + 2)
        have yf3 := yf (k * 4 + 3)
        cases hlk : lacksQ es q s
        · have hfin := HSet.out (s, 1, 2, d) (by unfold begun; simp [hlk])
          have HFin := Lib.hid hfin
          clear hfin yf
          go_wp2_with fail
          go_ret2
          rw [HBQ.out, ← HFin.out]
          exact JobsRet.yes (by simp) (by have h := HO9.out; simp only [List.length_set] at h; exact h) (lift HB3.out HB8.out)
        · have hfin := HSet.out (s, 1, 3, 3) (by unfold begun; simp [hlk])
          have HFin := Lib.hid hfin
          have ho10 := ownJ_set HO9.out hk' 2 (by omega) (s, 1, 3, d) (.int .i64 3) (by rw [List.getElem_set_self]; rfl)
          have ho11 := ownJ_set ho10 (i := k) (by simpa using hk) 3 (by omega) (s, 1, 3, 3) (.int .i64 3) (by rw [List.getElem_set_self]; rfl)
          simp only [List.set_set] at ho11
          have HO11 := Lib.hid ho11
          clear hfin yf ho10 ho11
          go_wp2_with fail
          go_ret2
          rw [HBQ.out, ← HFin.out]
          have hgb3 : w3.heap.size ≤ gb := hgb
          exact JobsRet.yes (by simp) (by have h := HO11.out; simp only [List.length_set] at h; exact h) (lift HB3.out ((HB8.out.setCell hgb3 _).setCell hgb3 _))
      · have htb : (t == 1) = false := by simpa using ht
        have hfin := HSet.out (s, t, 2, d) (by unfold begun; simp [htb])
        have HFin := Lib.hid hfin
        clear hfin
        go_wp2_with fail
        go_ret2
        rw [HBQ.out, ← HFin.out]
        exact JobsRet.yes (by simp) (by have h := HO7.out; simp only [List.length_set] at h; exact h) (lift HB3.out (HB36.out.setCell hgb _))
  · have hud : decide (u ∈ readyQ es q) = false := by simpa using hu
    have HBQ := Lib.hid (show beginQ es q u = none by unfold beginQ; rw [if_neg hu])
    clear hu
    rw [hud]
    go_wp2_with fail
    go_ret2
    rw [HBQ.out]
    exact JobsRet.no HB.out
theorem finish_no {q : List Jb} {u : Str} {e : Int} (h : ∀ j, jobOf q u = some j → (mayQ q && mayEnd e j) = false) : finishQ q u e = none := by
  unfold finishQ
  cases hj : jobOf q u with
  | none => rfl
  | some j => simp only; rw [if_neg (by rw [h j hj]; simp)]
theorem finish_yes {q : List Jb} {u : Str} {e : Int} {j : Jb} (h : jobOf q u = some j) (hm : mayQ q = true) (he : mayEnd e j = true) : finishQ q u e = some (updJ q u (ended e)) := by
  unfold finishQ
  rw [h]
  simp only
  rw [if_pos (by rw [hm, he]; rfl)]
theorem mayEnd_mk (e : Int) (s : Str) (t r d : Int) : mayEnd e (s, t, r, d) = (!decide (e < 1) && (!decide (4 < e) && (openB (s, t, r, d) && !(r == 1 && (e == 1 || e == 2))))) := rfl
set_option maxRecDepth 100000 in
set_option maxHeartbeats 8000000 in
theorem FinishQ_any (A : Option Addr) (c : Nat) (q : List Jb) (u : Str) (e0 : Int) (w : World) (hq : QIn w A c q) (hlq : q.length ≤ 1000000) :
    Calls Tryz.prog 30 #[.slice A q.length c, sv u, .int .i64 e0] w (JobsRet (finishQ q u e0) w) := by
  have HQ := Lib.hid hq
  have hlq2 : q.length ≤ 140737488355328 := by omega
  clear hq
  go_enter Tryz.func30, Tryz.ntmps30
  go_wp2_with fail
  refine (find_any A c q u w HQ.out.rq hlq).mono ?_
  rintro e w2 ⟨r, rfl, hcase, hb⟩
  have HC := Lib.hid hcase
  have HB := Lib.hid hb
  replace HQ := Lib.hid (HQ.out.at hb)
  clear hb hcase
  go_wp2_with fail
  refine (MayQ_any A c q w2 HQ.out.rq hlq2 HQ.out.ok).mono ?_
  rintro e w3 ⟨rfl, hb⟩
  replace HQ := Lib.hid (HQ.out.at hb)
  replace HB := Lib.hid (lift HB.out hb)
  clear hb
  cases hm : mayQ q
  · have HF := Lib.hid (show finishQ q u e0 = none from finish_no (fun j hj => by simp [hm]))
    go_wp2_with fail
    go_ret2
    rw [HF.out]
    exact JobsRet.no HB.out
  · have HM := Lib.hid hm
    by_cases e1 : e0 < 1
    · have eb1 : decide (e0 < 1) = true := by rw [decide_eq_true_eq]; exact e1
      have HF := Lib.hid (show finishQ q u e0 = none from finish_no (fun j hj => by (obtain ⟨s, t, r, d⟩ := j; rw [mayEnd_mk, eb1]; simp)))
      go_wp2_with fail
      go_ret2
      rw [HF.out]
      exact JobsRet.no HB.out
    · have eb1 : decide (e0 < 1) = false := by rw [decide_eq_false_iff_not]; exact e1
      by_cases e4 : 4 < e0
      · have eb4 : decide (4 < e0) = true := by rw [decide_eq_true_eq]; exact e4
        have HF := Lib.hid (show finishQ q u e0 = none from finish_no (fun j hj => by (obtain ⟨s, t, r, d⟩ := j; rw [mayEnd_mk, eb4]; simp)))
        go_wp2_with fail
        go_ret2
        rw [HF.out]
        exact JobsRet.no HB.out
      · have eb4 : decide (4 < e0) = false := by rw [decide_eq_false_iff_not]; exact e4
        rcases HC.out with ⟨rfl, hnone⟩ | ⟨k, hk, rfl, hfind, hpk, _⟩
        · have hj0 : jobOf q u = none := hnone
          have HF := Lib.hid (show finishQ q u e0 = none from finish_no (fun j hj => by (rw [hj0] at hj; cases hj)))
          go_wp2_with fail
          go_ret2
          rw [HF.out]
          exact JobsRet.no HB.out
        · have hneg : decide ((k : Int) < 0) = false := by simp
          have hj0 : jobOf q u = some q[k] := hfind
          have hku : q[k].1 = u := by simpa using hpk
          have hset : ∀ x : Jb, ended e0 q[k] = x → q.set k x = updJ q u (ended e0) := fun x hx => set_updf (mayQ.dq HM.out) hk hku hx
          obtain ⟨b, o, hA, hB, y0, y1, y2, y3⟩ := HQ.out.rq.job hk
          subst hA
          generalize hx : q[k] = x at y0 y1 y2 y3 hj0 hku hset
          obtain ⟨s, t, r, d⟩ := x
          simp only at y0 y1 y2 y3 hku
          subst hku
          have HJ := Lib.hid hj0
          have HSet := Lib.hid hset
          have Hx := Lib.hid hx
          clear hfind hpk hx hset hj0 HC
          have k1 : (0 : Int) ≤ (k : Int) := by omega
          have k2 : (k : Int) < (q.length : Int) := by omega
          go_wp2_with fail
          refine (open_any s t r d w3).mono ?_
          rintro e w4 ⟨rfl, hb⟩
          replace y0 := cellAt y0 hb (by omega)
          replace y1 := cellAt y1 hb (by omega)
          replace y2 := cellAt y2 hb (by omega)
          replace y3 := cellAt y3 hb (by omega)
          replace HQ := Lib.hid (HQ.out.at hb)
          replace HB := Lib.hid (lift HB.out hb)
          replace hB : b < w4.heap.size := ltAt hB hb
          clear hb
          by_cases r3 : r = 3
          · have ho : openB (s, t, r, d) = false := by simp [openB, r3]
            rw [ho]
            have HO := Lib.hid ho
            clear ho
            have HF := Lib.hid (show finishQ q s e0 = none from finish_no (fun j hj => by (rw [HJ.out] at hj; injection hj with hj; subst hj; rw [mayEnd_mk, HO.out]; simp)))
            go_wp2_with fail
            go_ret2
            rw [HF.out]
            exact JobsRet.no HB.out
          · have ho : openB (s, t, r, d) = true := by simp [openB, r3]
            rw [ho]
            have HO := Lib.hid ho
            clear ho
            by_cases hbad : r = 1 ∧ (e0 = 1 ∨ e0 = 2)
            · obtain ⟨r1, e12⟩ := hbad
              have rb : (r == 1) = true := by simpa using r1
              rcases e12 with e12 | e12
              · have eb : (e0 == 1) = true := by simpa using e12
                have HF := Lib.hid (show finishQ q s e0 = none from finish_no (fun j hj => by (rw [HJ.out] at hj; injection hj with hj; subst hj; rw [mayEnd_mk, rb, eb]; simp)))
                go_wp2_with fail
                go_ret2
                rw [HF.out]
                exact JobsRet.no HB.out
              · have eb1' : (e0 == 1) = false := by rw [beq_eq_false_iff_ne]; omega
                have eb : (e0 == 2) = true := by simpa using e12
                have HF := Lib.hid (show finishQ q s e0 = none from finish_no (fun j hj => by (rw [HJ.out] at hj; injection hj with hj; subst hj; rw [mayEnd_mk, rb, eb]; simp)))
                go_wp2_with fail
                go_ret2
                rw [HF.out]
                exact JobsRet.no HB.out
            · have hyes := finish_yes HJ.out HM.out (show mayEnd e0 (s, t, r, d) = true from mayEnd_iff.2 ⟨by omega, by omega, r3, hbad⟩)
              have HF := Lib.hid hyes
              clear hyes
              by_cases r1 : r = 1
              · have rb : (r == 1) = true := by simpa using r1
                have eb1' : (e0 == 1) = false := by rw [beq_eq_false_iff_ne]; intro h; exact hbad ⟨r1, .inl h⟩
                have eb2' : (e0 == 2) = false := by rw [beq_eq_false_iff_ne]; intro h; exact hbad ⟨r1, .inr h⟩
                clear hbad
                have hre : ¬ (t = 3 ∧ r = 2 ∧ e0 = 1) := by omega
                go_wp2_with fail
                refine (cloneJ_own _ c q w4 HQ.out.rq hlq).mono ?_
                rintro e w5 ⟨A5, c5, rfl, ho5, hb⟩
                have hb45 := Lib.hid (HB.out.trans (hb.mono HB.out.size))
                have hzw : w.heap.size ≤ w4.heap.size := HB.out.size
                obtain ⟨gb, rfl, hgb, hgl, hcap⟩ := own_open ho5 (by omega)
                obtain ⟨z0, z1, z2, z3, zf⟩ := ownJ_cells ho5 hk
                rw [Hx.out] at z0 z1 z2 z3
                simp only at z0 z1 z2 z3
                have zf1 := zf (k * 4 + 1)
                have zf2 := zf (k * 4 + 2)
                have zf3 := zf (k * 4 + 3)
                have hgw : w.heap.size ≤ gb := by omega
                have HO5 := Lib.hid ho5
                clear hb ho5 zf
                have hfin := HSet.out (s, t, 3, e0) (by unfold ended; rw [if_neg hre])
                have ho10 := ownJ_set HO5.out hk 2 (by omega) (s, t, 3, d) (.int .i64 3) (by rw [Hx.out]; rfl)
                have ho11 := ownJ_set ho10 (i := k) (by simpa using hk) 3 (by omega) (s, t, 3, e0) (.int .i64 e0) (by rw [List.getElem_set_self]; rfl)
                simp only [List.set_set] at ho11
                have HO11 := Lib.hid ho11
                have HFin := Lib.hid hfin
                clear hfin ho10 ho11
                have hcs : (t == 3) = false ∨ ((t == 3) = true ∧ (r == 2) = false) ∨ ((t == 3) = true ∧ (r == 2) = true ∧ (e0 == 1) = false) := by
                  by_cases a1 : t = 3
                  · by_cases a2 : r = 2
                    · exact .inr (.inr ⟨by simpa using a1, by simpa using a2, by rw [beq_eq_false_iff_ne]; intro h; exact hre ⟨a1, a2, h⟩⟩)
                    · exact .inr (.inl ⟨by simpa using a1, by simpa using a2⟩)
                  · exact .inl (by simpa using a1)
                clear hre
                rcases hcs with a1 | ⟨a1, a2⟩ | ⟨a1, a2, a3⟩
                all_goals
                  go_wp2_with fail
                  go_ret2
                  rw [HF.out, ← HFin.out]
                  exact JobsRet.yes (by simp) (by have h := HO11.out; simp only [List.length_set] at h; exact h) ((hb45.out.setCell hgw _).setCell hgw _)
              · have rb : (r == 1) = false := by simpa using r1
                clear hbad
                go_wp2_with fail
                refine (cloneJ_own _ c q w4 HQ.out.rq hlq).mono ?_
                rintro e w5 ⟨A5, c5, rfl, ho5, hb⟩
                have hb45 := Lib.hid (HB.out.trans (hb.mono HB.out.size))
                have hzw : w.heap.size ≤ w4.heap.size := HB.out.size
                obtain ⟨gb, rfl, hgb, hgl, hcap⟩ := own_open ho5 (by omega)
                obtain ⟨z0, z1, z2, z3, zf⟩ := ownJ_cells ho5 hk
                rw [Hx.out] at z0 z1 z2 z3
                simp only at z0 z1 z2 z3
                have zf1 := zf (k * 4 + 1)
                have zf2 := zf (k * 4 + 2)
                have zf3 := zf (k * 4 + 3)
                have hgw : w.heap.size ≤ gb := by omega
                have HO5 := Lib.hid ho5
                clear hb ho5 zf
                by_cases hre : t = 3 ∧ r = 2 ∧ e0 = 1
                · obtain ⟨t3, r2, e01⟩ := hre
                  subst t3 r2 e01
                  have hfin := HSet.out (s, 1, 1, d) (by unfold ended; rw [if_pos ⟨rfl, rfl, rfl⟩])
                  have ho10 := ownJ_set HO5.out hk 1 (by omega) (s, 1, 2, d) (.int .i64 1) (by rw [Hx.out]; rfl)
                  have ho11 := ownJ_set ho10 (i := k) (by simpa using hk) 2 (by omega) (s, 1, 1, d) (.int .i64 1) (by rw [List.getElem_set_self]; rfl)
                  simp only [List.set_set] at ho11
                  have HO11 := Lib.hid ho11
                  have HFin := Lib.hid hfin
                  clear hfin ho10 ho11
                  go_wp2_with fail
                  go_ret2
                  rw [HF.out, ← HFin.out]
                  exact JobsRet.yes (by simp) (by have h := HO11.out; simp only [List.length_set] at h; exact h) ((hb45.out.setCell hgw _).setCell hgw _)
                · have hfin := HSet.out (s, t, 3, e0) (by unfold ended; rw [if_neg hre])
                  have ho10 := ownJ_set HO5.out hk 2 (by omega) (s, t, 3, d) (.int .i64 3) (by rw [Hx.out]; rfl)
                  have ho11 := ownJ_set ho10 (i := k) (by simpa using hk) 3 (by omega) (s, t, 3, e0) (.int .i64 e0) (by rw [List.getElem_set_self]; rfl)
                  simp only [List.set_set] at ho11
                  have HO11 := Lib.hid ho11
                  have HFin := Lib.hid hfin
                  clear hfin ho10 ho11
                  have hcs : (t == 3) = false ∨ ((t == 3) = true ∧ (r == 2) = false) ∨ ((t == 3) = true ∧ (r == 2) = true ∧ (e0 == 1) = false) := by
                    by_cases a1 : t = 3
                    · by_cases a2 : r = 2
                      · exact .inr (.inr ⟨by simpa using a1, by simpa using a2, by rw [beq_eq_false_iff_ne]; intro h; exact hre ⟨a1, a2, h⟩⟩)
                      · exact .inr (.inl ⟨by simpa using a1, by simpa using a2⟩)
                    · exact .inl (by simpa using a1)
                  clear hre
                  rcases hcs with a1 | ⟨a1, a2⟩ | ⟨a1, a2, a3⟩
                  all_goals
                    go_wp2_with fail
                    go_ret2
                    rw [HF.out, ← HFin.out]
                    exact JobsRet.yes (by simp) (by have h := HO11.out; simp only [List.length_set] at h; exact h) ((hb45.out.setCell hgw _).setCell hgw _)
end Od
end Go.Proofs.YtanfnejbnmenkaaGreat
end

section
/- The walks of queue.Clear and matinsref20.Clear. (bel2) -/
namespace Go.Proofs.YtanfnejbnmenkaaGreat
open Go.RowKit Go.Sort
set_option linter.unusedSimpArgs false

namespace Od
theorem infoD : (Tryz.prog.info? 59).map (fun i => (i.zero, i.size, i.bytes)) = some (some (.agg #[.string ⟨#[]⟩, .int .i64 0, .int .i64 0]), 3, 32) := by kernel_rfl
theorem one_ndC (n : Nd) : ∀ u ∈ ndC n, u.oneCell' = true := fun u hu => by
  simp [ndC] at hu; rcases hu with rfl | rfl | rfl <;> rfl
def openL (q : List Jb) (m : Nat) : List Jb := (q.take m).filter openB
def overL (q : List Jb) (m : Nat) : List Nd := ((q.take m).filter (fun j => !openB j)).map doneOf
theorem openL_succ {q : List Jb} {m : Nat} (h : m < q.length) : openL q (m + 1) = openL q m ++ (if openB q[m] = true then [q[m]] else []) := filter_take_succ h
theorem overL_succ {q : List Jb} {m : Nat} (h : m < q.length) : overL q (m + 1) = overL q m ++ (if openB q[m] = true then [] else [doneOf q[m]]) := by
  unfold overL
  rw [filter_take_succ h, List.map_append]
  cases openB q[m] <;> simp
theorem openL_len (q : List Jb) (m : Nat) : (openL q m).length ≤ q.length := filter_take_le
theorem overL_len (q : List Jb) (m : Nat) : (overL q m).length ≤ q.length := by unfold overL; rw [List.length_map]; exact filter_take_le
/-- A call hands back jobs, and ends. -/
def ClearRet (r : List Jb × List Nd) (w : World) (e : Ending) (w' : World) : Prop := ∃ A c A' c', e = .returned (.tuple #[.slice A r.1.length c, .slice A' r.2.length c']) ∧ r.1.length ≤ c ∧ Rd w' w'.heap.size 4 A r.1.length (jbsC r.1) ∧ Rd w' w'.heap.size 3 A' r.2.length (ndsC r.2) ∧ Below w.heap.size w w'
theorem ClearRet.no {w w' : World} (hb : Below w.heap.size w w') : ClearRet ([], []) w (.returned (.tuple #[.slice none 0 0, .slice none 0 0])) w' := ⟨none, 0, none, 0, rfl, Nat.le_refl _, Rd.none_, Rd.none_, hb⟩
set_option maxRecDepth 100000 in
set_option maxHeartbeats 8000000 in
theorem ClearQ_any (A : Option Addr) (c : Nat) (q : List Jb) (w : World) (hq : QIn w A c q) (hlq : q.length ≤ 1000000) :
    Calls Tryz.prog 16 #[.slice A q.length c] w (ClearRet (clearQ q) w) := by
  obtain ⟨i0, hi, hz0, hz1, hz2⟩ := info_parts infoJb
  obtain ⟨k0, ki, kz0, kz1, kz2⟩ := info_parts infoD
  have HQ := Lib.hid hq
  clear hq
  go_enter Tryz.func16, Tryz.ntmps16
  go_wp2_with fail
  refine (MayQ_any A c q w HQ.out.rq (by omega) HQ.out.ok).mono ?_
  rintro e w3 ⟨rfl, hb⟩
  have HB := Lib.hid hb
  replace HQ := Lib.hid (HQ.out.at hb)
  clear hb
  cases hm : mayQ q
  · have HF := Lib.hid (show clearQ q = ([], []) by unfold clearQ; rw [hm]; simp)
    go_wp2_with fail
    go_ret2
    rw [HF.out]
    exact ClearRet.no HB.out
  · have HM := Lib.hid hm
    clear hm
    have hzw : w.heap.size ≤ w3.heap.size := HB.out.size
    go_wp2_with fail
    go_loopw [4, 5, 13] (fun v1 v2 i wr => ∃ m : Nat, m ≤ q.length ∧ i = .int .i64 m ∧ wr.ownsRow w3.heap.size 50 4 v1 (openL q m).length (jbsC (openL q m)) ∧ wr.ownsRow w3.heap.size 59 3 v2 (overL q m).length (ndsC (overL q m)) ∧ Sep v1 v2 ∧ Below w3.heap.size w3 wr) (fun _ _ i _ => q.length - (intOf i).toNat)
    case atStart => exact ⟨0, Nat.zero_le _, rfl, World.ownsRow_nil _ _ _ _, World.ownsRow_nil _ _ _ _, .inl rfl, Below.refl _ _⟩
    case round =>
      obtain ⟨m, hm, rfl, hown1, hown2, hsep, hb⟩ := hrel
      obtain ⟨A1, c1, hv1, _⟩ := own_rd hown1
      obtain ⟨A2, c2, hv2, _⟩ := own_rd hown2
      subst hv1 hv2
      have HO1 := Lib.hid hown1
      have HO2 := Lib.hid hown2
      have HSp := Lib.hid hsep
      have Hb := Lib.hid hb
      clear hown1 hown2 hsep
      replace HQ := Lib.hid (HQ.out.at hb)
      replace HB := Lib.hid (lift HB.out hb)
      clear hb
      by_cases hlt : m < q.length
      · obtain ⟨b2, o2, hA, hB2, x0, x1, x2, x3⟩ := HQ.out.rq.job hlt
        subst hA
        have hs1 := openL_succ hlt
        have hs2 := overL_succ hlt
        have hl1 := openL_len q m
        have hl2 := overL_len q m
        generalize q[m] = x at x0 x1 x2 x3 hs1 hs2
        obtain ⟨s, t, r, d⟩ := x
        simp only at x0 x1 x2 x3
        have HS1 := Lib.hid hs1
        have HS2 := Lib.hid hs2
        clear hs1 hs2
        have m1 : (0 : Int) ≤ (m : Int) := by omega
        have m2 : (m : Int) < (q.length : Int) := by omega
        have h63 : (openL q m).length + 1 ≤ maxLen := by unfold maxLen; omega
        have hby : ((openL q m).length + 1) * 40 ≤ 140737488355328 := by omega
        have h63d : (overL q m).length + 1 ≤ maxLen := by unfold maxLen; omega
        have hbyd : ((overL q m).length + 1) * 32 ≤ 140737488355328 := by omega
        go_wp2_with fail
        first | (refine wp_named ?_; intro W2 hW) | (refine calls_named ?_; intro W2 hW)
        have B2 : Below wr.heap.size wr W2 := by rw [hW]; exact (by repeat (first | exact Below.refl _ _ | assumption | refine Below.alloc ?_ (by first | omega | (simp <;> omega)) _ | refine Below.setCell ?_ (by first | omega | (simp <;> omega)) _ | refine Below.drew ?_))
        replace HQ := Lib.hid (HQ.out.at B2)
        replace HB := Lib.hid (lift HB.out B2)
        replace HO1 := Lib.hid (own_on HO1.out B2)
        replace HO2 := Lib.hid (own_on HO2.out B2)
        replace Hb := Lib.hid (lift Hb.out B2)
        have p1 : wr.heap.size < W2.heap.size := by rw [hW]; simp <;> omega
        have e0 : W2.cell? ⟨wr.heap.size, 0, none⟩ = some (sv s) := by rw [hW]; go_simp
        have e1 : W2.cell? ⟨wr.heap.size, 1, none⟩ = some (.int .i64 t) := by rw [hW]; go_simp
        have e2 : W2.cell? ⟨wr.heap.size, 2, none⟩ = some (.int .i64 r) := by rw [hW]; go_simp
        have e3 : W2.cell? ⟨wr.heap.size, 3, none⟩ = some (.int .i64 d) := by rw [hW]; go_simp
        clear hW
        clear B2
        refine (open_any s t r d W2).mono ?_
        rintro e v3 ⟨rfl, hb⟩
        replace e0 := cellAt e0 hb (by omega)
        replace e1 := cellAt e1 hb (by omega)
        replace e2 := cellAt e2 hb (by omega)
        replace e3 := cellAt e3 hb (by omega)
        replace HQ := Lib.hid (HQ.out.at hb)
        replace HB := Lib.hid (lift HB.out hb)
        replace HO1 := Lib.hid (own_on HO1.out hb)
        replace HO2 := Lib.hid (own_on HO2.out hb)
        replace Hb := Lib.hid (lift Hb.out hb)
        replace p1 : wr.heap.size < v3.heap.size := ltAt p1 hb
        clear hb
        have hzb : w3.heap.size ≤ v3.heap.size := Hb.out.size
        cases ho : openB (s, t, r, d)
        · go_wp2_with (first | (at_builtin; refine wpList_pushm w3 v3 (by rfl) (.tmp 23) (.tmp 31) 30 (by rfl) w3.heap.size 59 k0 _ 3 32 Tryz.underlying30 ki kz0 kz1 kz2 rfl (by decide) _ _ _ (by rfl) HO2.out (ndC (s, t, d)) v3.heap.size rfl (by rfl) rfl (one_ndC (s, t, d)) h63d hbyd hzb Hb.out ?_; intro A8 c8 w4 hown4 hbel4 hg4 hat4) | fail)
          go_roundw
          case rel =>
            refine ⟨m + 1, by omega, by go_num, ?_, ?_, ?_, hbel4⟩
            · rw [HS1.out, ho]; simp only [Bool.false_eq_true, if_false, List.append_nil]; exact HSp.out.symm.kept HO1.out hg4
            · rw [HS2.out, ho]; simp only [Bool.false_eq_true, if_false, List.length_append]; simpa [ndsC, doneOf] using hown4
            · exact (HSp.out.symm.push HO1.out hat4).symm
          case measure => simp [intOf]; omega
        · go_wp2_with (first | (at_builtin; refine wpList_pushm w3 v3 (by rfl) (.tmp 19) (.tmp 21) 26 (by rfl) w3.heap.size 50 i0 _ 4 40 Tryz.underlying26 hi hz0 hz1 hz2 rfl (by decide) _ _ _ (by rfl) HO1.out (jbC (s, t, r, d)) v3.heap.size rfl (by rfl) rfl (one_jbC (s, t, r, d)) h63 hby hzb Hb.out ?_; intro A8 c8 w4 hown4 hbel4 hg4 hat4) | fail)
          go_roundw
          case rel =>
            refine ⟨m + 1, by omega, by go_num, ?_, ?_, ?_, hbel4⟩
            · rw [HS1.out, ho, if_pos rfl, List.length_append, jbsC_app, jbsC_one]; exact hown4
            · rw [HS2.out, ho, if_pos rfl, List.append_nil]; exact HSp.out.kept HO2.out hg4
            · exact HSp.out.push HO2.out hat4
          case measure => simp [intOf]; omega
      · have hmq : m = q.length := by omega
        have HF := Lib.hid (show clearQ q = (openL q m, overL q m) by unfold clearQ openL overL; rw [HM.out, hmq, List.take_length]; rfl)
        go_wp2_with fail
        go_ret2
        rw [HF.out]
        exact ⟨A1, c1, A2, c2, rfl, (own_cap HO1.out).1, own_rd' HO1.out, own_rd' HO2.out, HB.out⟩
set_option maxRecDepth 100000 in
set_option maxHeartbeats 8000000 in
theorem Clear20_any (A : Option Addr) (c : Nat) (q : List Jb) (w : World) (hq : QIn w A c q) (hlq : q.length ≤ 1000000) :
    Calls Tryz.prog 17 #[.slice A q.length c] w (ClearRet (clearQ q) w) := by
  obtain ⟨i0, hi, hz0, hz1, hz2⟩ := info_parts infoJb
  obtain ⟨k0, ki, kz0, kz1, kz2⟩ := info_parts infoD
  have HQ := Lib.hid hq
  clear hq
  go_enter Tryz.func17, Tryz.ntmps17
  go_wp2_with fail
  refine (May20_any A c q w HQ.out.rq HQ.out.ok).mono ?_
  rintro e w3 ⟨rfl, hb⟩
  have HB := Lib.hid hb
  replace HQ := Lib.hid (HQ.out.at hb)
  clear hb
  cases hm : mayQ q
  · have HF := Lib.hid (show clearQ q = ([], []) by unfold clearQ; rw [hm]; simp)
    go_wp2_with fail
    go_ret2
    rw [HF.out]
    exact ClearRet.no HB.out
  · have HM := Lib.hid hm
    clear hm
    have hzw : w.heap.size ≤ w3.heap.size := HB.out.size
    go_wp2_with fail
    go_loopw [4, 5, 13] (fun v1 v2 i wr => ∃ m : Nat, m ≤ q.length ∧ i = .int .i64 m ∧ wr.ownsRow w3.heap.size 50 4 v1 (openL q m).length (jbsC (openL q m)) ∧ wr.ownsRow w3.heap.size 59 3 v2 (overL q m).length (ndsC (overL q m)) ∧ Sep v1 v2 ∧ Below w3.heap.size w3 wr) (fun _ _ i _ => q.length - (intOf i).toNat)
    case atStart => exact ⟨0, Nat.zero_le _, rfl, World.ownsRow_nil _ _ _ _, World.ownsRow_nil _ _ _ _, .inl rfl, Below.refl _ _⟩
    case round =>
      obtain ⟨m, hm, rfl, hown1, hown2, hsep, hb⟩ := hrel
      obtain ⟨A1, c1, hv1, _⟩ := own_rd hown1
      obtain ⟨A2, c2, hv2, _⟩ := own_rd hown2
      subst hv1 hv2
      have HO1 := Lib.hid hown1
      have HO2 := Lib.hid hown2
      have HSp := Lib.hid hsep
      have Hb := Lib.hid hb
      clear hown1 hown2 hsep
      replace HQ := Lib.hid (HQ.out.at hb)
      replace HB := Lib.hid (lift HB.out hb)
      clear hb
      by_cases hlt : m < q.length
      · obtain ⟨b2, o2, hA, hB2, x0, x1, x2, x3⟩ := HQ.out.rq.job hlt
        subst hA
        have hs1 := openL_succ hlt
        have hs2 := overL_succ hlt
        have hl1 := openL_len q m
        have hl2 := overL_len q m
        generalize q[m] = x at x0 x1 x2 x3 hs1 hs2
        obtain ⟨s, t, r, d⟩ := x
        simp only at x0 x1 x2 x3
        have HS1 := Lib.hid hs1
        have HS2 := Lib.hid hs2
        clear hs1 hs2
        have m1 : (0 : Int) ≤ (m : Int) := by omega
        have m2 : (m : Int) < (q.length : Int) := by omega
        have h63 : (openL q m).length + 1 ≤ maxLen := by unfold maxLen; omega
        have hby : ((openL q m).length + 1) * 40 ≤ 140737488355328 := by omega
        have h63d : (overL q m).length + 1 ≤ maxLen := by unfold maxLen; omega
        have hbyd : ((overL q m).length + 1) * 32 ≤ 140737488355328 := by omega
        have hz3 : w3.heap.size ≤ wr.heap.size := Hb.out.size
        have Hc := Lib.hid (Hb.out.alloc hz3 (.cells #[sv s, .int .i64 t, .int .i64 r, .int .i64 d] 50))
        have HN1 := Lib.hid (HO1.out.alloc (.cells #[sv s, .int .i64 t, .int .i64 r, .int .i64 d] 50))
        have HN2 := Lib.hid (HO2.out.alloc (.cells #[sv s, .int .i64 t, .int .i64 r, .int .i64 d] 50))
        have hzb : w3.heap.size ≤ (wr.alloc (.cells #[sv s, .int .i64 t, .int .i64 r, .int .i64 d] 50)).heap.size := by simp; omega
        by_cases r3 : r = 3
        · have ho : openB (s, t, r, d) = false := by simp [openB, r3]
          subst r3
          go_wp2_with (first | (at_builtin; refine wpList_pushm w3 (wr.alloc (.cells #[sv s, .int .i64 t, .int .i64 3, .int .i64 d] 50)) (by rfl) (.tmp 20) (.tmp 28) 30 (by rfl) w3.heap.size 59 k0 _ 3 32 Tryz.underlying30 ki kz0 kz1 kz2 rfl (by decide) _ _ _ (by rfl) HN2.out (ndC (s, t, d)) (wr.heap.size + 1) (by simp) (by rfl) rfl (one_ndC (s, t, d)) h63d hbyd hzb Hc.out ?_; intro A8 c8 w4 hown4 hbel4 hg4 hat4) | fail)
          go_roundw
          case rel =>
            refine ⟨m + 1, by omega, by go_num, ?_, ?_, ?_, hbel4⟩
            · rw [HS1.out, ho]; simp only [Bool.false_eq_true, if_false, List.append_nil]; exact HSp.out.symm.kept HN1.out hg4
            · rw [HS2.out, ho]; simp only [Bool.false_eq_true, if_false, List.length_append]; simpa [ndsC, doneOf] using hown4
            · exact (HSp.out.symm.push HN1.out hat4).symm
          case measure => simp [intOf]; omega
        · have ho : openB (s, t, r, d) = true := by simp [openB, r3]
          go_wp2_with (first | (at_builtin; refine wpList_pushm w3 (wr.alloc (.cells #[sv s, .int .i64 t, .int .i64 r, .int .i64 d] 50)) (by rfl) (.tmp 30) (.tmp 32) 26 (by rfl) w3.heap.size 50 i0 _ 4 40 Tryz.underlying26 hi hz0 hz1 hz2 rfl (by decide) _ _ _ (by rfl) HN1.out (jbC (s, t, r, d)) (wr.heap.size + 1) (by simp) (by rfl) rfl (one_jbC (s, t, r, d)) h63 hby hzb Hc.out ?_; intro A8 c8 w4 hown4 hbel4 hg4 hat4) | fail)
          go_roundw
          case rel =>
            refine ⟨m + 1, by omega, by go_num, ?_, ?_, ?_, hbel4⟩
            · rw [HS1.out, ho, if_pos rfl, List.length_append, jbsC_app, jbsC_one]; exact hown4
            · rw [HS2.out, ho, if_pos rfl, List.append_nil]; exact HSp.out.kept HN2.out hg4
            · exact HSp.out.push HN2.out hat4
          case measure => simp [intOf]; omega
      · have hmq : m = q.length := by omega
        have HF := Lib.hid (show clearQ q = (openL q m, overL q m) by unfold clearQ openL overL; rw [HM.out, hmq, List.take_length]; rfl)
        go_wp2_with fail
        go_ret2
        rw [HF.out]
        exact ⟨A1, c1, A2, c2, rfl, (own_cap HO1.out).1, own_rd' HO1.out, own_rd' HO2.out, HB.out⟩
end Od
end Go.Proofs.YtanfnejbnmenkaaGreat
end

section
/- Plain laws of chapter 20: what more jobs come to. No program. -/
namespace Go.Proofs.YtanfnejbnmenkaaGreat
set_option linter.unusedSimpArgs false
namespace Od
/-- What comes of an open job and a new one of its unit, and whether they clash. -/
def meetQ (o j : Jb) : Jb × Bool :=
  if (!(Pr.jn o.2.1 j.2.1 false).2 || (o.2.2.1 == 2 && (Pr.jn o.2.1 j.2.1 false).1 != o.2.1)) = true then (j, true)
  else if o.2.2.1 = 1 then ((o.1, (Pr.jn o.2.1 j.2.1 false).1, o.2.2.1, o.2.2.2), false) else (o, false)
/-- A job put into a rising row. -/
def insJ (j : Jb) : List Jb → List Jb
  | [] => [j]
  | x :: r => if ltS x.1 j.1 = true then x :: insJ j r else j :: x :: r
theorem insJ_perm (j : Jb) : ∀ l : List Jb, (insJ j l).Perm (l ++ [j])
  | [] => List.Perm.refl _
  | x :: r => by
    unfold insJ
    split
    · exact (insJ_perm j r).cons x
    · exact (List.perm_append_singleton j (x :: r)).symm
theorem mem_insJ {j y : Jb} {l : List Jb} : y ∈ insJ j l ↔ y ∈ l ∨ y = j := by
  rw [(insJ_perm j l).mem_iff]; simp
theorem insJ_len (j : Jb) (l : List Jb) : (insJ j l).length = l.length + 1 := by rw [(insJ_perm j l).length_eq]; simp
theorem insJ_up {j : Jb} : ∀ {l : List Jb}, upQ l → (∀ x ∈ l, x.1 ≠ j.1) → upQ (insJ j l)
  | [], _, _ => List.pairwise_singleton _ _
  | x :: r, h, hn => by
    obtain ⟨h1, h2⟩ := List.pairwise_cons.1 h
    unfold insJ
    split
    · rename_i hx
      refine List.pairwise_cons.2 ⟨fun y hy => ?_, insJ_up h2 fun y hy => hn y (.tail _ hy)⟩
      rcases mem_insJ.1 hy with hy' | hy'
      · exact h1 y hy'
      · rw [hy']; exact hx
    · rename_i hx
      have hj : ltS j.1 x.1 = true := by
        cases hh : ltS j.1 x.1
        · exact absurd (toS.total (by simpa using hx) hh) (hn x (.head _))
        · rfl
      refine List.pairwise_cons.2 ⟨fun y hy => ?_, h⟩
      rcases List.mem_cons.1 hy with e | hy'
      · rw [e]; exact hj
      · exact toS.trans hj (h1 y hy')
/-- Where a job goes in a rising row. -/
theorem insJ_at {j : Jb} : ∀ {l : List Jb} {k : Nat}, (∀ i (h : i < l.length), i < k → ltS l[i].1 j.1 = true) → (∀ h : k < l.length, ltS l[k].1 j.1 = false) → k ≤ l.length → insJ j l = l.take k ++ j :: l.drop k
  | [], k, _, _, hk => by
    have : k = 0 := by simpa using hk
    subst this; rfl
  | x :: r, 0, _, h2, _ => by
    have := h2 (by simp)
    simp only [List.getElem_cons_zero] at this
    unfold insJ
    rw [this]; rfl
  | x :: r, k + 1, h1, h2, hk => by
    have := h1 0 (by simp) (by omega)
    simp only [List.getElem_cons_zero] at this
    unfold insJ
    rw [if_pos this, insJ_at (k := k) (fun i h hik => by have := h1 (i + 1) (by simpa using h) (by omega); simpa using this) (fun h => by have := h2 (by simpa using h); simpa using this) (by simpa using hk)]
    rfl
/-- What was canceled for it. -/
def goneD (o j : Jb) : Nd := (j.1, o.2.1, 4)
def stepT (ins : Jb → List Jb → List Jb) (s : List Jb × List Nd) (j : Jb) : List Jb × List Nd :=
  match jobOf s.1 j.1 with
  | none => (ins j s.1, s.2)
  | some o => if openB o = true then (updJ s.1 j.1 (fun _ => (meetQ o j).1), if (meetQ o j).2 = true then s.2 ++ [goneD o j] else s.2) else (updJ s.1 j.1 (fun _ => j), s.2)
/-- Two queues as one, in whichever order new ones are put. -/
def togT (q jobs : List Jb) : List Jb × List Nd := jobs.foldl (stepT (fun j l => l ++ [j])) (q, [])
def togR (q jobs : List Jb) : List Jb × List Nd := jobs.foldl (stepT insJ) (q, [])
theorem meetQ_unit {o j : Jb} (h : o.1 = j.1) : (meetQ o j).1.1 = j.1 := by
  unfold meetQ
  split
  · rfl
  · split <;> exact h
theorem upQ_ext : ∀ {a b : List Jb}, upQ a → upQ b → (∀ y, y ∈ a ↔ y ∈ b) → a = b
  | [], b, _, _, h => by
    cases b with
    | nil => rfl
    | cons y b => have := (h y).2 (.head _); cases this
  | x :: a, [], _, _, h => by have := (h x).1 (.head _); cases this
  | x :: a, y :: b, ha, hb, h => by
    obtain ⟨a1, a2⟩ := List.pairwise_cons.1 ha
    obtain ⟨b1, b2⟩ := List.pairwise_cons.1 hb
    have irr : ∀ s, ltS s s ≠ true := fun s => by rw [toS.irrefl]; simp
    have hxy : x = y := by
      rcases List.mem_cons.1 ((h x).1 (.head _)) with e | hx
      · exact e
      · rcases List.mem_cons.1 ((h y).2 (.head _)) with e | hy
        · exact e.symm
        · exact absurd (toS.trans (a1 y hy) (b1 x hx)) (irr _)
    subst hxy
    have hx1 : x ∉ a := fun hx => irr _ (a1 x hx)
    have hx2 : x ∉ b := fun hx => irr _ (b1 x hx)
    congr 1
    refine upQ_ext a2 b2 fun z => ⟨fun hz => ?_, fun hz => ?_⟩
    · rcases List.mem_cons.1 ((h z).1 (.tail _ hz)) with e | h1
      · exact absurd (e ▸ hz) hx1
      · exact h1
    · rcases List.mem_cons.1 ((h z).2 (.tail _ hz)) with e | h1
      · exact absurd (e ▸ hz) hx2
      · exact h1
theorem DQ.perm {a b : List Jb} (h : DQ a) (p : a.Perm b) : DQ b := (p.map (fun x : Jb => x.1)).nodup_iff.1 h
theorem jobOf_perm {a b : List Jb} (h : DQ a) (p : a.Perm b) (u : Str) : jobOf a u = jobOf b u := by
  cases hb : jobOf b u with
  | none => exact jobOf_none.2 fun j hj => jobOf_none.1 hb j (p.mem_iff.1 hj)
  | some o => exact (jobOf_iff h).2 ⟨p.mem_iff.2 (jobOf_mem hb).1, (jobOf_mem hb).2⟩
theorem updJ_up {l : List Jb} {u : Str} {f : Jb → Jb} (h : upQ l) (hf : ∀ x ∈ l, x.1 = u → (f x).1 = u) : upQ (updJ l u f) := h.of_units (updJ_units hf)
theorem tog_same {jobs : List Jb} : ∀ {s t : List Jb × List Nd}, s.1.Perm t.1 → s.2 = t.2 → upQ t.1 →
    (jobs.foldl (stepT (fun j l => l ++ [j])) s).1.Perm (jobs.foldl (stepT insJ) t).1 ∧ (jobs.foldl (stepT (fun j l => l ++ [j])) s).2 = (jobs.foldl (stepT insJ) t).2 ∧ upQ (jobs.foldl (stepT insJ) t).1 := by
  induction jobs with
  | nil => intro s t h1 h2 h3; exact ⟨h1, h2, h3⟩
  | cons j jobs ih =>
    intro s t h1 h2 h3
    have hj : jobOf s.1 j.1 = jobOf t.1 j.1 := jobOf_perm (h3.dq.perm h1.symm) h1 _
    simp only [List.foldl_cons]
    cases ho : jobOf t.1 j.1 with
    | none =>
      have e1 : stepT (fun j l => l ++ [j]) s j = (s.1 ++ [j], s.2) := by unfold stepT; rw [hj, ho]
      have e2 : stepT insJ t j = (insJ j t.1, t.2) := by unfold stepT; rw [ho]
      rw [e1, e2]
      exact ih ((h1.append_right [j]).trans (insJ_perm j t.1).symm) h2 (insJ_up h3 (jobOf_none.1 ho))
    | some o =>
      have e1 : stepT (fun j l => l ++ [j]) s j = if openB o = true then (updJ s.1 j.1 (fun _ => (meetQ o j).1), if (meetQ o j).2 = true then s.2 ++ [goneD o j] else s.2) else (updJ s.1 j.1 (fun _ => j), s.2) := by unfold stepT; rw [hj, ho]
      have e2 : stepT insJ t j = if openB o = true then (updJ t.1 j.1 (fun _ => (meetQ o j).1), if (meetQ o j).2 = true then t.2 ++ [goneD o j] else t.2) else (updJ t.1 j.1 (fun _ => j), t.2) := by unfold stepT; rw [ho]
      have hu := (jobOf_mem ho).2
      rw [e1, e2]
      split
      · exact ih (h1.map _) (by simp only [h2]) (updJ_up h3 fun x _ _ => meetQ_unit hu)
      · exact ih (h1.map _) h2 (updJ_up h3 fun x _ _ => rfl)
theorem tog_perm {q jobs : List Jb} (h : upQ q) : (togT q jobs).1.Perm (togR q jobs).1 ∧ (togT q jobs).2 = (togR q jobs).2 ∧ upQ (togR q jobs).1 := tog_same (List.Perm.refl _) rfl h
theorem togT_dq {q jobs : List Jb} (h : upQ q) : DQ (togT q jobs).1 := (tog_perm (jobs := jobs) h).2.2.dq.perm (tog_perm h).1.symm
/-- The row by rising units. -/
def sortJ (l : List Jb) : List Jb := l.mergeSort (fun x y => !ltS y.1 x.1)
theorem sortJ_perm (l : List Jb) : (sortJ l).Perm l := List.mergeSort_perm _ _
theorem sortJ_up {l : List Jb} (hd : DQ l) : upQ (sortJ l) := by
  have h := List.pairwise_mergeSort (le := fun x y : Jb => !ltS y.1 x.1) (fun a b c h1 h2 => by
    simp only [Bool.not_eq_true'] at *
    rw [ltS_false] at *
    exact List.not_lt.2 (List.le_trans (List.not_lt.1 h1) (List.not_lt.1 h2))) (fun a b => by
    cases h1 : ltS b.1 a.1
    · simp
    · cases h2 : ltS a.1 b.1
      · simp
      · have := toS.trans h1 h2; rw [toS.irrefl] at this; cases this) l
  have hd' : DQ (sortJ l) := hd.perm (sortJ_perm l).symm
  have hd2 : (sortJ l).Pairwise (fun a b => a.1 ≠ b.1) := List.pairwise_map.1 (show ((sortJ l).map (·.1)).Pairwise (· ≠ ·) from hd')
  unfold upQ
  refine (h.and hd2).imp fun {a b} hab => ?_
  cases h1 : ltS a.1 b.1
  · exact absurd (toS.total h1 (by simpa using hab.1)) hab.2
  · rfl
theorem sort_tog {q jobs : List Jb} (h : upQ q) : sortJ (togT q jobs).1 = (togR q jobs).1 := by
  obtain ⟨h1, _, h3⟩ := tog_perm (jobs := jobs) h
  exact upQ_ext (sortJ_up (togT_dq h)) h3 fun y => by rw [(sortJ_perm _).mem_iff, h1.mem_iff]
/-- What becomes of a unit's job. -/
def newOf (q : List Jb) (j : Jb) : Jb := match jobOf q j.1 with | none => j | some o => if openB o = true then (meetQ o j).1 else j
def goneOf (q : List Jb) (j : Jb) : Option Nd := match jobOf q j.1 with | none => none | some o => if (openB o && (meetQ o j).2) = true then some (goneD o j) else none
theorem newOf_unit (q : List Jb) (j : Jb) : (newOf q j).1 = j.1 := by
  unfold newOf
  cases ho : jobOf q j.1 with
  | none => rfl
  | some o =>
    simp only
    split
    · exact meetQ_unit (jobOf_mem ho).2
    · rfl
structure Merged (q P : List Jb) (R : List Jb × List Nd) : Prop where
  up : upQ R.1
  mem : ∀ y, y ∈ R.1 ↔ (y ∈ q ∧ ∀ j ∈ P, j.1 ≠ y.1) ∨ ∃ j ∈ P, y = newOf q j
  gone : R.2 = P.filterMap (goneOf q)
  len : R.1.length = q.length + (P.filter (fun j => (jobOf q j.1).isNone)).length
theorem Merged.nil {q : List Jb} (h : upQ q) : Merged q [] (q, []) := ⟨h, fun y => by simp, rfl, rfl⟩
theorem Merged.jobOf {q P : List Jb} {R : List Jb × List Nd} (h : Merged q P R) {u : Str} (hu : ∀ j ∈ P, j.1 ≠ u) : Od.jobOf R.1 u = Od.jobOf q u := by
  have key : ∀ o : Jb, o.1 = u → (o ∈ R.1 ↔ o ∈ q) := by
    intro o ho
    rw [h.mem]
    constructor
    · rintro (h1 | ⟨j, hj, e⟩)
      · exact h1.1
      · exact absurd (by rw [← newOf_unit q j, ← e]; exact ho) (hu j hj)
    · intro h1; exact .inl ⟨h1, fun j hj => by rw [ho]; exact hu j hj⟩
  cases hb : Od.jobOf q u with
  | none => exact jobOf_none.2 fun j hj e => jobOf_none.1 hb j ((key j e).1 hj) e
  | some o => exact (jobOf_iff h.up.dq).2 ⟨(key o (jobOf_mem hb).2).2 (jobOf_mem hb).1, (jobOf_mem hb).2⟩
theorem Merged.snoc {q P : List Jb} {R : List Jb × List Nd} (h : Merged q P R) {j : Jb} (hj : ∀ i ∈ P, i.1 ≠ j.1) : Merged q (P ++ [j]) (stepT insJ R j) := by
  have hR := h.jobOf hj
  cases ho : Od.jobOf q j.1 with
  | none =>
    have e2 : stepT insJ R j = (insJ j R.1, R.2) := by unfold stepT; rw [hR, ho]
    have hn : newOf q j = j := by unfold newOf; rw [ho]
    have hg : goneOf q j = none := by unfold goneOf; rw [ho]
    rw [e2]
    refine ⟨insJ_up h.up (jobOf_none.1 (hR.trans ho)), fun y => ?_, ?_, ?_⟩
    · show y ∈ insJ j R.1 ↔ _
      rw [mem_insJ, h.mem]
      constructor
      · rintro ((⟨h1, h2⟩ | ⟨i, h1, h2⟩) | h1)
        · exact .inl ⟨h1, fun i hi => by
            rcases List.mem_append.1 hi with h3 | h3
            · exact h2 i h3
            · have : i = j := by simpa using h3
              rw [this]; exact fun e => jobOf_none.1 ho y h1 e.symm⟩
        · exact .inr ⟨i, List.mem_append_left _ h1, h2⟩
        · exact .inr ⟨j, by simp, by rw [hn]; exact h1⟩
      · rintro (⟨h1, h2⟩ | ⟨i, h1, h2⟩)
        · exact .inl (.inl ⟨h1, fun i hi => h2 i (List.mem_append_left _ hi)⟩)
        · rcases List.mem_append.1 h1 with h3 | h3
          · exact .inl (.inr ⟨i, h3, h2⟩)
          · have : i = j := by simpa using h3
            rw [this, hn] at h2; exact .inr h2
    · show R.2 = _
      rw [h.gone, List.filterMap_append]; simp [hg]
    · show (insJ j R.1).length = _
      rw [insJ_len, h.len, List.filter_append]; simp [ho, Nat.add_assoc]
  | some o =>
    obtain ⟨ho1, ho2⟩ := jobOf_mem ho
    have e2 : stepT insJ R j = (updJ R.1 j.1 (fun _ => newOf q j), R.2 ++ (goneOf q j).toList) := by
      unfold stepT newOf goneOf
      rw [hR, ho]
      simp only
      cases openB o
      · simp
      · cases (meetQ o j).2 <;> simp
    have hoR : o ∈ R.1 := (jobOf_mem (hR.trans ho)).1
    rw [e2]
    refine ⟨updJ_up h.up fun x _ _ => newOf_unit q j, fun y => ?_, ?_, ?_⟩
    · show y ∈ updJ R.1 j.1 (fun _ => newOf q j) ↔ _
      rw [mem_updJ]
      constructor
      · rintro ⟨x, hx, rfl⟩
        by_cases e : x.1 = j.1
        · rw [if_pos e]; exact .inr ⟨j, by simp, rfl⟩
        · rw [if_neg e]
          rcases (h.mem x).1 hx with ⟨h1, h2⟩ | ⟨i, h1, h2⟩
          · refine .inl ⟨h1, fun i hi => ?_⟩
            rcases List.mem_append.1 hi with h3 | h3
            · exact h2 i h3
            · have : i = j := by simpa using h3
              rw [this]; exact Ne.symm e
          · exact .inr ⟨i, List.mem_append_left _ h1, h2⟩
      · rintro (⟨h1, h2⟩ | ⟨i, h1, h2⟩)
        · refine ⟨y, (h.mem y).2 (.inl ⟨h1, fun i hi => h2 i (List.mem_append_left _ hi)⟩), ?_⟩
          rw [if_neg (fun e => h2 j (by simp) e.symm)]
        · rcases List.mem_append.1 h1 with h3 | h3
          · refine ⟨y, (h.mem y).2 (.inr ⟨i, h3, h2⟩), ?_⟩
            rw [if_neg (by rw [h2, newOf_unit]; exact hj i h3)]
          · have : i = j := by simpa using h3
            rw [this] at h2
            exact ⟨o, hoR, by rw [if_pos ho2]; exact h2⟩
    · show R.2 ++ (goneOf q j).toList = _
      rw [h.gone, List.filterMap_append]
      cases hg : goneOf q j <;> simp [hg]
    · show (updJ R.1 j.1 _).length = _
      rw [updJ_len, h.len, List.filter_append]; simp [ho]
theorem merged_fold {q : List Jb} : ∀ (rest P : List Jb) (R : List Jb × List Nd), Merged q P R → DQ (P ++ rest) → Merged q (P ++ rest) (rest.foldl (stepT insJ) R)
  | [], P, R, h, _ => by simpa using h
  | j :: rest, P, R, h, hd => by
    have hj : ∀ i ∈ P, i.1 ≠ j.1 := by
      intro i hi e
      have hd' : ((P ++ j :: rest).map (·.1)).Pairwise (· ≠ ·) := hd
      rw [List.pairwise_map, List.pairwise_append] at hd'
      exact hd'.2.2 i hi j (.head _) e
    have := merged_fold rest (P ++ [j]) (stepT insJ R j) (h.snoc hj) (by simpa using hd)
    simpa using this
theorem merged {q jobs : List Jb} (hq : upQ q) (hd : DQ jobs) : Merged q jobs (togR q jobs) := by
  have := merged_fold jobs [] (q, []) (.nil hq) (by simpa using hd)
  simpa [togR] using this
/-! What the installing answers -/
def okIn (q jobs : List Jb) : Bool := mayQ q && (mayQ jobs && jobs.all (fun j => j.2.2.1 == 1))
def instQ (q jobs : List Jb) (mode : Int) : (List Jb × List Nd) × Int :=
  if okIn q jobs = false then (([], []), 1)
  else if mode ≠ 1 ∧ mode ≠ 2 then (([], []), 3)
  else if mode = 2 ∧ (togR q jobs).2 ≠ [] then (([], []), 7)
  else if 64 < (togR q jobs).1.length then (([], []), 8)
  else (togR q jobs, 0)
theorem okIn_iff {q jobs : List Jb} : okIn q jobs = true ↔ mayQ q = true ∧ mayQ jobs = true ∧ ∀ j ∈ jobs, j.2.2.1 = 1 := by
  unfold okIn; simp [List.all_eq_true]
theorem inst_ok {q jobs : List Jb} {mode : Int} (h : (instQ q jobs mode).2 = 0) : okIn q jobs = true ∧ (mode = 1 ∨ (mode = 2 ∧ (togR q jobs).2 = [])) ∧ (togR q jobs).1.length ≤ 64 ∧ instQ q jobs mode = (togR q jobs, 0) := by
  unfold instQ at h ⊢
  split at h
  · cases h
  · rename_i h1
    split at h
    · cases h
    · rename_i h2
      split at h
      · cases h
      · rename_i h3
        split at h
        · cases h
        · rename_i h4
          rw [if_neg h1, if_neg h2, if_neg h3, if_neg h4]
          refine ⟨by simpa using h1, ?_, by omega, rfl⟩
          by_cases hm : mode = 1
          · exact .inl hm
          · have hm2 : mode = 2 := by omega
            refine .inr ⟨hm2, ?_⟩
            cases hg : (togR q jobs).2 with
            | nil => rfl
            | cons a r => exact absurd ⟨hm2, by rw [hg]; simp⟩ h3
theorem inst_of {q jobs : List Jb} {mode : Int} (h1 : okIn q jobs = true) (h2 : mode = 1 ∨ mode = 2) (h3 : (togR q jobs).2 = []) (h4 : (togR q jobs).1.length ≤ 64) : instQ q jobs mode = (togR q jobs, 0) := by
  unfold instQ
  rw [if_neg (by simp [h1]), if_neg (by omega), if_neg (by rw [h3]; simp), if_neg (by omega)]
theorem inst_bad {q jobs : List Jb} {mode : Int} (h : (instQ q jobs mode).2 ≠ 0) : (instQ q jobs mode).1 = ([], []) := by
  unfold instQ at h ⊢
  split
  · rfl
  · rename_i h1
    split
    · rfl
    · rename_i h2
      split
      · rfl
      · rename_i h3
        split
        · rfl
        · rename_i h4
          rw [if_neg h1, if_neg h2, if_neg h3, if_neg h4] at h
          exact absurd rfl h
theorem jn_in {a b : Int} (h : (Pr.jn a b false).2 = true) : 1 ≤ (Pr.jn a b false).1 ∧ (Pr.jn a b false).1 ≤ 4 ∧ 1 ≤ a ∧ a ≤ 4 ∧ 1 ≤ b ∧ b ≤ 4 := by
  have hr : 1 ≤ a ∧ a ≤ 4 ∧ 1 ≤ b ∧ b ≤ 4 := by
    refine Classical.byContradiction fun hc => ?_
    have : Pr.jn a b false = (0, false) := by
      unfold Pr.jn Pr.isB
      rw [if_pos (by simp only [Bool.and_eq_false_iff, decide_eq_false_iff_not]; omega)]
    rw [this] at h
    cases h
  obtain ⟨h3, h4, h5, h6⟩ := hr
  have ha : a = 1 ∨ a = 2 ∨ a = 3 ∨ a = 4 := by omega
  have hb : b = 1 ∨ b = 2 ∨ b = 3 ∨ b = 4 := by omega
  clear h3 h4 h5 h6
  rcases ha with rfl | rfl | rfl | rfl <;> rcases hb with rfl | rfl | rfl | rfl <;> first | decide | (exfalso; revert h; decide)
theorem jn_self {a : Int} (h1 : 1 ≤ a) (h2 : a ≤ 4) : Pr.jn a a false = (a, true) := by
  unfold Pr.jn Pr.isB
  rw [if_neg (by simp only [Bool.and_eq_false_iff, decide_eq_false_iff_not]; omega), if_pos rfl]
theorem jn_again {a b : Int} (h : (Pr.jn a b false).2 = true) : Pr.jn (Pr.jn a b false).1 b false = ((Pr.jn a b false).1, true) := by
  obtain ⟨_, _, h3, h4, h5, h6⟩ := jn_in h
  have ha : a = 1 ∨ a = 2 ∨ a = 3 ∨ a = 4 := by omega
  have hb : b = 1 ∨ b = 2 ∨ b = 3 ∨ b = 4 := by omega
  rcases ha with rfl | rfl | rfl | rfl <;> rcases hb with rfl | rfl | rfl | rfl <;> first | rfl | (exfalso; revert h; decide)
/-- What a met job is. -/
theorem meet_cases {o j : Jb} : (meetQ o j = (j, true)) ∨ ((Pr.jn o.2.1 j.2.1 false).2 = true ∧ o.2.2.1 = 1 ∧ meetQ o j = ((o.1, (Pr.jn o.2.1 j.2.1 false).1, o.2.2.1, o.2.2.2), false)) ∨
    (o.2.2.1 ≠ 1 ∧ meetQ o j = (o, false)) := by
  unfold meetQ
  split
  · exact .inl rfl
  · rename_i h
    simp only [Bool.or_eq_true, Bool.not_eq_true', not_or, Bool.not_eq_false] at h
    split
    · rename_i h1; exact .inr (.inl ⟨h.1, h1, rfl⟩)
    · rename_i h1; exact .inr (.inr ⟨h1, rfl⟩)
/-- A new job is a new one that waits, or one that waited with another type, or an old one. -/
theorem newOf_cases (q : List Jb) (j : Jb) : newOf q j = j ∨ newOf q j ∈ q ∨ ∃ o ∈ q, o.1 = j.1 ∧ o.2.2.1 = 1 ∧ (Pr.jn o.2.1 j.2.1 false).2 = true ∧ newOf q j = (o.1, (Pr.jn o.2.1 j.2.1 false).1, o.2.2.1, o.2.2.2) := by
  unfold newOf
  cases ho : jobOf q j.1 with
  | none => exact .inl rfl
  | some o =>
    obtain ⟨h1, h2⟩ := jobOf_mem ho
    simp only
    split
    · rcases meet_cases (o := o) (j := j) with h | ⟨h3, h4, h⟩ | ⟨_, h⟩
      · rw [h]; exact .inl rfl
      · rw [h]; exact .inr (.inr ⟨o, h1, h2, h4, h3, rfl⟩)
      · rw [h]; exact .inr (.inl h1)
    · exact .inl rfl
theorem mayJ_new {q : List Jb} (hq : ∀ x ∈ q, mayJ x = true) {j : Jb} (hj : mayJ j = true) : mayJ (newOf q j) = true := by
  rcases newOf_cases q j with h | h | ⟨o, h1, h2, h3, h4, h⟩
  · rw [h]; exact hj
  · exact hq _ h
  · rw [h]
    have ho := mayJ_iff.1 (hq o h1)
    have hb := jn_in h4
    rw [mayJ_iff]
    exact ⟨ho.1, hb.1, hb.2.1, ho.2.2.2⟩
theorem tog_may {q jobs : List Jb} (h1 : mayQ q = true) (h2 : mayQ jobs = true) (h3 : (togR q jobs).1.length ≤ 64) : mayQ (togR q jobs).1 = true := by
  obtain ⟨_, q2, q3⟩ := mayQ_iff.1 h1
  obtain ⟨_, j2, j3⟩ := mayQ_iff.1 h2
  have hm := merged (jobs := jobs) q3 j3.dq
  refine mayQ_iff.2 ⟨h3, fun y hy => ?_, hm.up⟩
  rcases (hm.mem y).1 hy with h | ⟨j, hj, rfl⟩
  · exact q2 y h.1
  · exact mayJ_new q2 (j2 j hj)
theorem new_run {q : List Jb} {j : Jb} (hj : j.2.2.1 = 1) (h : (newOf q j).2.2.1 = 2) : newOf q j ∈ q := by
  rcases newOf_cases q j with e | e | ⟨o, _, _, h3, _, e⟩
  · rw [e] at h; omega
  · exact e
  · rw [e] at h; simp only at h; omega
theorem tog_run {q jobs : List Jb} (hq : upQ q) (hd : upQ jobs) (hw : ∀ j ∈ jobs, j.2.2.1 = 1) {y : Jb} (hy : y ∈ (togR q jobs).1) (h : y.2.2.1 = 2) : y ∈ q := by
  rcases ((merged hq hd.dq).mem y).1 hy with h1 | ⟨j, hj, rfl⟩
  · exact h1.1
  · exact new_run (hw j hj) h
theorem sound_inst {ns : List Nd} {es : List Ed} {q jobs : List Jb} {mode : Int} (hs : soundQ ns es q = true) (h : (instQ q jobs mode).2 = 0) : soundQ ns es (instQ q jobs mode).1.1 = true := by
  obtain ⟨h1, h2, h3, h4⟩ := soundQ_iff.1 hs
  obtain ⟨o, _, hl, e⟩ := inst_ok h
  obtain ⟨o1, o2, o3⟩ := okIn_iff.1 o
  rw [e]
  refine soundQ_iff.2 ⟨h1, h2, tog_may h3 o2 hl, fun x hx y hy rx ry => ?_⟩
  exact h4 x (tog_run (mayQ_iff.1 h3).2.2 (mayQ_iff.1 o2).2.2 o3 hx rx) y (tog_run (mayQ_iff.1 h3).2.2 (mayQ_iff.1 o2).2.2 o3 hy ry) rx ry
/-! Installed again -/
theorem openB_new {q : List Jb} {j : Jb} (hj : j.2.2.1 = 1) : openB (newOf q j) = true := by
  have hjo : openB j = true := by unfold openB; rw [hj]; rfl
  unfold newOf
  cases ho : jobOf q j.1 with
  | none => exact hjo
  | some o =>
    simp only
    split
    · rename_i hopen
      rcases meet_cases (o := o) (j := j) with h | ⟨_, h4, h⟩ | ⟨_, h⟩
      · rw [h]; exact hjo
      · rw [h]; unfold openB; simp only; rw [h4]; rfl
      · rw [h]; exact hopen
    · exact hjo
theorem meet_again {q : List Jb} {j : Jb} (hj : j.2.2.1 = 1) (hm : mayJ j = true) : meetQ (newOf q j) j = (newOf q j, false) := by
  have hmj := mayJ_iff.1 hm
  have hself : meetQ j j = (j, false) := by
    unfold meetQ
    rw [jn_self hmj.2.1 hmj.2.2.1, if_neg (by simp), if_pos hj]
  unfold newOf
  cases ho : jobOf q j.1 with
  | none => exact hself
  | some o =>
    simp only
    split
    · rcases meet_cases (o := o) (j := j) with h | ⟨h3, h4, h⟩ | ⟨_, h⟩
      · rw [h]; exact hself
      · rw [h]
        simp only
        unfold meetQ
        simp only [jn_again h3]
        rw [if_neg (by rw [h4]; simp), if_pos h4]
      · rw [h]
        exact h
    · exact hself
theorem again {q jobs : List Jb} (h1 : upQ q) (h2 : mayQ jobs = true) (h3 : ∀ j ∈ jobs, j.2.2.1 = 1) : togR (togR q jobs).1 jobs = ((togR q jobs).1, []) := by
  obtain ⟨_, j2, j3⟩ := mayQ_iff.1 h2
  have hm := merged (jobs := jobs) h1 j3.dq
  have hm2 := merged (jobs := jobs) hm.up j3.dq
  have hjob : ∀ j ∈ jobs, jobOf (togR q jobs).1 j.1 = some (newOf q j) := fun j hj =>
    (jobOf_iff hm.up.dq).2 ⟨(hm.mem _).2 (.inr ⟨j, hj, rfl⟩), newOf_unit q j⟩
  have hnew : ∀ j ∈ jobs, newOf (togR q jobs).1 j = newOf q j := fun j hj => by
    conv => lhs; unfold newOf
    rw [hjob j hj]
    simp only
    rw [if_pos (openB_new (h3 j hj)), meet_again (h3 j hj) (j2 j hj)]
  have hgone : ∀ j ∈ jobs, goneOf (togR q jobs).1 j = none := fun j hj => by
    unfold goneOf
    rw [hjob j hj]
    simp only
    rw [meet_again (h3 j hj) (j2 j hj)]
    simp
  refine Prod.ext ?_ ?_
  · refine upQ_ext hm2.up hm.up fun y => ?_
    rw [hm2.mem]
    constructor
    · rintro (h | ⟨j, hj, rfl⟩)
      · exact h.1
      · rw [hnew j hj]; exact (hm.mem _).2 (.inr ⟨j, hj, rfl⟩)
    · intro hy
      rcases (hm.mem y).1 hy with ⟨h4, h5⟩ | ⟨j, hj, rfl⟩
      · exact .inl ⟨hy, h5⟩
      · exact .inr ⟨j, hj, (hnew j hj).symm⟩
  · rw [hm2.gone]
    exact List.filterMap_eq_nil_iff.2 hgone
theorem inst_again {q jobs : List Jb} {mode : Int} (h : (instQ q jobs mode).2 = 0) : instQ (instQ q jobs mode).1.1 jobs mode = (((instQ q jobs mode).1.1, []), 0) := by
  obtain ⟨o, hmode, hl, e⟩ := inst_ok h
  obtain ⟨o1, o2, o3⟩ := okIn_iff.1 o
  have hag := again (mayQ_iff.1 o1).2.2 o2 o3
  rw [e]
  show instQ (togR q jobs).1 jobs mode = (((togR q jobs).1, []), 0)
  rw [inst_of (okIn_iff.2 ⟨tog_may o1 o2 hl, o2, o3⟩) (hmode.imp (fun h => h) fun h => h.1) (by rw [hag]) (by rw [hag]; exact hl), hag]
theorem tog_nil {jobs : List Jb} (h2 : upQ jobs) : togR [] jobs = (jobs, []) := by
  have hm := merged (q := []) (jobs := jobs) .nil h2.dq
  have hn : ∀ j, newOf [] j = j := fun j => rfl
  have hg : ∀ j, goneOf [] j = none := fun j => rfl
  refine Prod.ext (upQ_ext hm.up h2 fun y => ?_) ?_
  · rw [hm.mem]
    constructor
    · rintro (h | ⟨j, hj, rfl⟩)
      · cases h.1
      · exact hj
    · intro hy; exact .inr ⟨y, hy, rfl⟩
  · rw [hm.gone]; exact List.filterMap_eq_nil_iff.2 fun j _ => hg j
theorem inst_nil {q jobs : List Jb} {mode : Int} (h : (instQ q jobs mode).2 = 0) : instQ [] jobs mode = ((jobs, []), 0) := by
  obtain ⟨o, hmode, hl, e⟩ := inst_ok h
  obtain ⟨o1, o2, o3⟩ := okIn_iff.1 o
  have ht := tog_nil (mayQ_iff.1 o2).2.2
  rw [inst_of (okIn_iff.2 ⟨mayQ_nil, o2, o3⟩) (hmode.imp (fun h => h) fun h => h.1) (by rw [ht]) (by rw [ht]; exact (mayQ_iff.1 o2).1), ht]
/-! What is canceled -/
def openAt (u : Str) (j : Jb) : Bool := j.1 == u && openB j
theorem gone_was {q jobs : List Jb} {mode : Int} (h : (instQ q jobs mode).2 = 0) {d : Nd} (hd : d ∈ (instQ q jobs mode).1.2) : pickT (openAt d.1) 0 q = d.2.1 ∧ d.2.2 = 4 ∧ ∃ j ∈ jobs, j.1 = d.1 := by
  obtain ⟨o, hmode, hl, e⟩ := inst_ok h
  obtain ⟨o1, o2, o3⟩ := okIn_iff.1 o
  rw [e] at hd
  rw [(merged (mayQ_iff.1 o1).2.2 (mayQ.dq o2)).gone, List.mem_filterMap] at hd
  obtain ⟨j, hj, hg⟩ := hd
  unfold goneOf at hg
  cases ho : jobOf q j.1 with
  | none => rw [ho] at hg; cases hg
  | some k =>
    rw [ho] at hg
    simp only at hg
    split at hg
    · rename_i hc
      injection hg with hg
      subst hg
      obtain ⟨h1, h2⟩ := jobOf_mem ho
      rw [Bool.and_eq_true] at hc
      refine ⟨pick_some (fun x hx hp => ?_) ⟨k, h1, by simp [openAt, goneD, h2, hc.1]⟩, rfl, j, hj, rfl⟩
      have : x.1 = k.1 := by simp only [openAt, Bool.and_eq_true, beq_iff_eq] at hp; rw [h2]; exact hp.1
      rw [(mayQ.dq o1).eq hx h1 this]
      rfl
    · cases hg
theorem inst_stand {q jobs : List Jb} {mode : Int} (h : (instQ q jobs mode).2 = 0) {j : Jb} (hj : j ∈ q) : (∃ y ∈ jobs, y.1 = j.1) ∨ j ∈ (instQ q jobs mode).1.1 := by
  obtain ⟨o, hmode, hl, e⟩ := inst_ok h
  obtain ⟨o1, o2, o3⟩ := okIn_iff.1 o
  by_cases hc : ∃ y ∈ jobs, y.1 = j.1
  · exact .inl hc
  · rw [e]
    exact .inr (((merged (mayQ_iff.1 o1).2.2 (mayQ.dq o2)).mem j).2 (.inl ⟨hj, fun y hy e => hc ⟨y, hy, e⟩⟩))
theorem inst_there {q jobs : List Jb} {mode : Int} (h : (instQ q jobs mode).2 = 0) {j : Jb} (hj : j ∈ jobs) : ∃ y ∈ (instQ q jobs mode).1.1, y.1 = j.1 ∧ openB y = true := by
  obtain ⟨o, hmode, hl, e⟩ := inst_ok h
  obtain ⟨o1, o2, o3⟩ := okIn_iff.1 o
  rw [e]
  exact ⟨newOf q j, ((merged (mayQ_iff.1 o1).2.2 (mayQ.dq o2)).mem _).2 (.inr ⟨j, hj, rfl⟩), newOf_unit q j, openB_new (o3 j hj)⟩
theorem inst_may {q jobs : List Jb} {mode : Int} (h : (instQ q jobs mode).2 = 0) : mayQ (instQ q jobs mode).1.1 = true := by
  obtain ⟨o, hmode, hl, e⟩ := inst_ok h
  obtain ⟨o1, o2, o3⟩ := okIn_iff.1 o
  rw [e]; exact tog_may o1 o2 hl
end Od
end Go.Proofs.YtanfnejbnmenkaaGreat
end
