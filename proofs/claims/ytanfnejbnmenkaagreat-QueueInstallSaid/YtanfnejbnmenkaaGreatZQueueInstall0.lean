/- My texts, joined for the claim: QWithW QLost20 RPut QRise20 QReady20 QMoves20 QFin20 QGrown QInst20W LqBase20 LqI. -/
import Derived.Test.YtanfnejbnmenkaaGreatZB15
import Derived.Test.YtanfnejbnmenkaaGreatZB1
import Derived.Test.YtanfnejbnmenkaaGreatRows
import Derived.Test.YtanfnejbnmenkaaGreatZB8
import Derived.Test.YtanfnejbnmenkaaGreatZB4
import Derived.Test.YtanfnejbnmenkaaGreatZB2
import Derived.Test.YtanfnejbnmenkaaGreatZB11
import Derived.Maps.AppendAt

section
/- The walks of matinsref20.with and matinsref20.clashes. (bel2) -/
namespace Go.Proofs.YtanfnejbnmenkaaGreat
open Go.RowKit Go.Sort
set_option linter.unusedSimpArgs false

theorem rd_news {w : World} {B k n : Nat} {xs : List Value} {ad : Addr} (hr : Rd w B k (some ad) n xs) : ∀ j u, xs[j]? = some u → w.cell? (ad.add j) = some u := by
  intro j u hu
  have hj : j < n * k := by
    have := (List.getElem?_eq_some_iff.1 hu).1
    rw [hr.1] at this
    exact this
  have hn0 : 0 < n := by
    rcases Nat.eq_zero_or_pos n with h | h
    · rw [h, Nat.zero_mul] at hj; omega
    · exact h
  obtain ⟨ad', he, _, hsp, hc⟩ := hr.2 hn0
  injection he with he
  subst he
  have hadd : ad.add j = ⟨ad.block, ad.off + j, none⟩ := by
    unfold Addr.add
    split
    · rename_i h0; subst h0; cases ad; simp_all
    · rfl
  rw [hadd]
  exact (hc j hj).trans hu
namespace Od
set_option maxRecDepth 100000 in
set_option maxHeartbeats 4000000 in
theorem with_any (A : Option Addr) (c : Nat) (q : List Jb) (k : Nat) (s : Str) (t r d : Int) (w : World) (hr : Rd w w.heap.size 4 A q.length (jbsC q)) (hk : k < q.length) (hl : q.length ≤ 1000000) :
    Calls Tryz.prog 56 #[.slice A q.length c, .int .i64 k, .agg #[sv s, .int .i64 t, .int .i64 r, .int .i64 d]] w (OwnJ (q.set k (s, t, r, d)) w) := by
  obtain ⟨i0, hi, hz0, hz1, hz2⟩ := info_parts infoJb
  obtain ⟨b, o, rfl, _⟩ := hr.open (by omega)
  have Hr := Lib.hid hr
  have h63 := Lib.hid (show 0 + q.length ≤ maxLen by unfold maxLen; omega)
  have hby := Lib.hid (show (0 + q.length) * 40 ≤ 140737488355328 by omega)
  clear hr
  go_enter Tryz.func56, Tryz.ntmps56
  go_wp2_with (first | (at_builtin; go_loud (refine wpList_append_rd (w.alloc (.cells #[sv s, .int .i64 t, .int .i64 r, .int .i64 d] 50)) (by rfl) (.const (.slice none 0 0)) (.tmp 8) 26 (by rfl) w.heap.size 50 i0 _ 4 40 Tryz.underlying26 hi hz0 hz1 hz2 rfl (by decide) (.slice none 0 0) 0 [] (by rfl) (World.ownsRow_nil _ _ _ _) _ (some ⟨b, o, none⟩) q.length c (jbsC q) (by rfl) (Hr.out.alloc (Nat.le_refl _) _) (one_jbsC q) h63.out hby.out (by simp) ?_; intro A5 c5 w4 hown4 hg4 hat4; have p0 : w.heap.size < (w.alloc (.cells #[sv s, .int .i64 t, .int .i64 r, .int .i64 d] 50)).heap.size := (by simp); have e0 := cell_kept (w := (w.alloc (.cells #[sv s, .int .i64 t, .int .i64 r, .int .i64 d] 50))) (b := w.heap.size) (o := 0) (v := sv s) (by go_simp) hg4 p0 (fun h => by cases h); have e1 := cell_kept (w := (w.alloc (.cells #[sv s, .int .i64 t, .int .i64 r, .int .i64 d] 50))) (b := w.heap.size) (o := 1) (v := .int .i64 t) (by go_simp) hg4 p0 (fun h => by cases h); have e2 := cell_kept (w := (w.alloc (.cells #[sv s, .int .i64 t, .int .i64 r, .int .i64 d] 50))) (b := w.heap.size) (o := 2) (v := .int .i64 r) (by go_simp) hg4 p0 (fun h => by cases h); have e3 := cell_kept (w := (w.alloc (.cells #[sv s, .int .i64 t, .int .i64 r, .int .i64 d] 50))) (b := w.heap.size) (o := 3) (v := .int .i64 d) (by go_simp) hg4 p0 (fun h => by cases h); have p1 : w.heap.size < w4.heap.size := Nat.lt_of_lt_of_le p0 hg4.size; have hb4 : Below w.heap.size w w4 := ((Below.refl w.heap.size w).alloc (Nat.le_refl _) (.cells #[sv s, .int .i64 t, .int .i64 r, .int .i64 d] 50)).grown hg4 (by simp) (fun k h => by cases h); clear p0; simp only [Nat.zero_add, List.nil_append] at hown4; obtain ⟨g, rfl, hgb, hgl, hcap⟩ := own_open hown4 (by omega); obtain ⟨y0, y1, y2, y3, yf⟩ := ownJ_cells hown4 hk; have HO := Lib.hid (ownJ_put hown4 hk s t r d); have HB := Lib.hid hb4; have k1 : (0 : Int) ≤ (k : Int) := (by omega); have k2 : (k : Int) < (q.length : Int) := (by omega); have yf0 := yf (k * 4); have yf1 := yf (k * 4 + 1); have yf2 := yf (k * 4 + 2); have yf3 := yf (k * 4 + 3); clear hb4 hown4 hg4 hat4 yf)) | fail)
  go_wp2_with fail
  go_ret
  exact ⟨some ⟨g, 0, none⟩, c5, by rw [List.length_set]; rfl, by rw [List.length_set]; exact HO.out, (((HB.out.setCell hgb _).setCell hgb _).setCell hgb _).setCell hgb _⟩
theorem meetQ2 (o j : Jb) : (meetQ o j).2 = (!(Pr.jn o.2.1 j.2.1 false).2 || (o.2.2.1 == 2 && (Pr.jn o.2.1 j.2.1 false).1 != o.2.1)) := by
  unfold meetQ
  generalize (!(Pr.jn o.2.1 j.2.1 false).2 || (o.2.2.1 == 2 && (Pr.jn o.2.1 j.2.1 false).1 != o.2.1)) = b
  cases b
  · rw [if_neg (by simp)]
    split <;> rfl
  · rfl
set_option maxRecDepth 100000 in
set_option maxHeartbeats 4000000 in
theorem clashes_any (s : Str) (t r d : Int) (s2 : Str) (t2 r2 d2 : Int) (w : World) :
    Calls Tryz.prog 60 #[.agg #[sv s, .int .i64 t, .int .i64 r, .int .i64 d], .agg #[sv s2, .int .i64 t2, .int .i64 r2, .int .i64 d2]] w fun e w' => e = .returned (.bool (meetQ (s, t, r, d) (s2, t2, r2, d2)).2) ∧ Below w.heap.size w w' := by
  have HM := Lib.hid (meetQ2 (s, t, r, d) (s2, t2, r2, d2))
  rcases hj : Pr.jn t t2 false with ⟨nt, fit⟩
  have HJ := Lib.hid hj
  clear hj
  go_enter Tryz.func60, Tryz.ntmps60
  go_wp2_with fail
  refine (Pr.refJoin_any t t2 false _).mono ?_
  rintro e v3 ⟨rfl, rfl⟩
  rw [HJ.out]
  simp only
  cases fit
  · go_wp2_with fail
    go_ret
    exact ⟨ret_bool (by rw [HM.out, HJ.out]; simp [*]), (by repeat (first | exact Below.refl _ _ | assumption | refine Below.alloc ?_ (by first | omega | (simp <;> omega)) _ | refine Below.setCell ?_ (by first | omega | (simp <;> omega)) _ | refine Below.drew ?_))⟩
  · by_cases h2 : r = 2
    · subst h2
      by_cases hn : nt = t
      · subst hn
        have hnb : (nt != nt) = false := by simp
        go_wp2_with fail
        go_ret
        exact ⟨ret_bool (by rw [HM.out, HJ.out]; simp [*]), (by repeat (first | exact Below.refl _ _ | assumption | refine Below.alloc ?_ (by first | omega | (simp <;> omega)) _ | refine Below.setCell ?_ (by first | omega | (simp <;> omega)) _ | refine Below.drew ?_))⟩
      · have hnb : (nt != t) = true := by simp [hn]
        go_wp2_with fail
        go_ret
        exact ⟨ret_bool (by rw [HM.out, HJ.out]; simp [*]), (by repeat (first | exact Below.refl _ _ | assumption | refine Below.alloc ?_ (by first | omega | (simp <;> omega)) _ | refine Below.setCell ?_ (by first | omega | (simp <;> omega)) _ | refine Below.drew ?_))⟩
    · have h2b : (r == 2) = false := by simpa using h2
      go_wp2_with fail
      go_ret
      exact ⟨ret_bool (by rw [HM.out, HJ.out]; simp [*]), (by repeat (first | exact Below.refl _ _ | assumption | refine Below.alloc ?_ (by first | omega | (simp <;> omega)) _ | refine Below.setCell ?_ (by first | omega | (simp <;> omega)) _ | refine Below.drew ?_))⟩
end Od
end Go.Proofs.YtanfnejbnmenkaaGreat
end

section
/- The walk of matinsref20.lost. (bel2) -/
namespace Go.Proofs.YtanfnejbnmenkaaGreat
open Go.RowKit Go.Sort
set_option linter.unusedSimpArgs false

namespace Od
theorem any_succ {α : Type} {p : α → Bool} {xs : List α} {k : Nat} (hk : k < xs.length) (h : (xs.take k).any p = false) : (xs.take (k + 1)).any p = p xs[k] := by
  rw [List.take_succ_eq_append_getElem hk, List.any_append, h]
  simp
theorem lostJ_mk (es : List Ed) (u s : Str) (t r d : Int) : lostJ es u (s, t, r, d) = ((hasE es u s 1 || hasE es u s 4) && (Ah es s u && ((r == 3) && ((t == 1 || t == 3) && (d != 1))))) := rfl
set_option maxRecDepth 100000 in
set_option maxHeartbeats 8000000 in
theorem lost_any (An Ae : Option Addr) (nn cn ce : Nat) (es : List Ed) (A : Option Addr) (c : Nat) (q : List Jb) (u : Str) (w : World) (hr : Rd w w.heap.size 3 Ae es.length (edsC es)) (hq : Rd w w.heap.size 4 A q.length (jbsC q)) (hl : es.length ≤ 100000) (hlq : q.length ≤ 1000000) :
    Calls Tryz.prog 55 #[gV An nn cn Ae es.length ce, .slice A q.length c, sv u] w fun e w' => e = .returned (.bool (q.any (lostJ es u))) ∧ Below w.heap.size w w' := by
  have Hr := Lib.hid hr
  have Hq := Lib.hid hq
  clear hr hq
  go_enter Tryz.func55, Tryz.ntmps55
  go_wp2_with fail
  first | (refine wp_named ?_; intro W1 hW) | (refine calls_named ?_; intro W1 hW)
  have B1 : Below w.heap.size w W1 := by rw [hW]; exact (by repeat (first | exact Below.refl _ _ | assumption | refine Below.alloc ?_ (by first | omega | (simp <;> omega)) _ | refine Below.setCell ?_ (by first | omega | (simp <;> omega)) _ | refine Below.drew ?_))
  replace Hr := Lib.hid (Hr.out.at B1)
  replace Hq := Lib.hid (Hq.out.at B1)
  have n1 : w.heap.size < W1.heap.size := by rw [hW]; simp <;> omega
  have g0 : W1.cell? ⟨w.heap.size, 0, none⟩ = some (.slice An nn cn) := by rw [hW]; go_simp
  have g1 : W1.cell? ⟨w.heap.size, 1, none⟩ = some (.slice Ae es.length ce) := by rw [hW]; go_simp
  clear hW
  have HB1 := Lib.hid B1
  clear B1
  go_wp2_with fail
  go_loopw [12] (fun i wr => ∃ m : Nat, m ≤ q.length ∧ i = .int .i64 m ∧ Hid ((q.take m).any (lostJ es u) = false) ∧ Below W1.heap.size W1 wr) (fun i _ => q.length - (intOf i).toNat)
  case atStart => exact ⟨0, Nat.zero_le _, rfl, rfl, Below.refl _ _⟩
  case round =>
    obtain ⟨m, hm, rfl, hall, hb⟩ := hrel
    have HB := Lib.hid (lift HB1.out hb)
    have HBl := Lib.hid hb
    by_cases hlt : m < q.length
    · have hs := any_succ hlt hall.out
      have ha : (q.take (m + 1)).any (lostJ es u) = true → q.any (lostJ es u) = true := fun h => by
        rw [List.any_eq_true] at h ⊢
        obtain ⟨x, hx, hx2⟩ := h
        exact ⟨x, List.mem_of_mem_take hx, hx2⟩
      have HA := Lib.hid ha
      replace g0 := cellAt g0 hb (by omega)
      replace g1 := cellAt g1 hb (by omega)
      replace Hr := Lib.hid (Hr.out.at hb)
      replace Hq := Lib.hid (Hq.out.at hb)
      replace n1 : w.heap.size < wr.heap.size := ltAt n1 hb
      clear hb ha
      obtain ⟨b2, o2, hA, hB2, x0, x1, x2, x3⟩ := Hq.out.job hlt
      subst hA
      generalize q[m] = x at x0 x1 x2 x3 hs
      obtain ⟨s, t, r, d⟩ := x
      simp only at x0 x1 x2 x3
      have HS := Lib.hid hs
      clear hs
      have m1 : (0 : Int) ≤ (m : Int) := by omega
      have m2 : (m : Int) < (q.length : Int) := by omega
      go_wp2_with fail
      first | (refine wp_named ?_; intro W2 hW) | (refine calls_named ?_; intro W2 hW)
      have B2 : Below wr.heap.size wr W2 := by rw [hW]; exact (by repeat (first | exact Below.refl _ _ | assumption | refine Below.alloc ?_ (by first | omega | (simp <;> omega)) _ | refine Below.setCell ?_ (by first | omega | (simp <;> omega)) _ | refine Below.drew ?_))
      replace g0 := cellAt g0 B2 (by omega)
      replace g1 := cellAt g1 B2 (by omega)
      replace Hr := Lib.hid (Hr.out.at B2)
      replace Hq := Lib.hid (Hq.out.at B2)
      replace n1 : w.heap.size < W2.heap.size := ltAt n1 B2
      replace HB := Lib.hid (lift HB.out B2)
      replace HBl := Lib.hid (lift HBl.out B2)
      have p1 : wr.heap.size < W2.heap.size := by rw [hW]; simp <;> omega
      have e0 : W2.cell? ⟨wr.heap.size, 0, none⟩ = some (sv s) := by rw [hW]; go_simp
      have e1 : W2.cell? ⟨wr.heap.size, 1, none⟩ = some (.int .i64 t) := by rw [hW]; go_simp
      have e2 : W2.cell? ⟨wr.heap.size, 2, none⟩ = some (.int .i64 r) := by rw [hW]; go_simp
      have e3 : W2.cell? ⟨wr.heap.size, 3, none⟩ = some (.int .i64 d) := by rw [hW]; go_simp
      clear hW
      clear B2 x0 x1 x2 x3
      refine (Has_any An Ae nn cn ce es u s 1 _ Hr.out (by omega)).mono ?_
      rintro e v3 ⟨rfl, hb⟩
      replace g0 := cellAt g0 hb (by omega)
      replace g1 := cellAt g1 hb (by omega)
      replace e0 := cellAt e0 hb (by omega)
      replace e1 := cellAt e1 hb (by omega)
      replace e2 := cellAt e2 hb (by omega)
      replace e3 := cellAt e3 hb (by omega)
      replace Hr := Lib.hid (Hr.out.at hb)
      replace Hq := Lib.hid (Hq.out.at hb)
      replace n1 : w.heap.size < v3.heap.size := ltAt n1 hb
      replace HB := Lib.hid (lift HB.out hb)
      replace HBl := Lib.hid (lift HBl.out hb)
      replace p1 : wr.heap.size < v3.heap.size := ltAt p1 hb
      clear hb
      cases h1 : es.any (· == (u, s, 1))
      · have h1' : hasE es u s 1 = false := h1
        go_wp2_with fail
        refine (Has_any An Ae nn cn ce es u s 4 _ Hr.out (by omega)).mono ?_
        rintro e v4 ⟨rfl, hb⟩
        replace g0 := cellAt g0 hb (by omega)
        replace g1 := cellAt g1 hb (by omega)
        replace e0 := cellAt e0 hb (by omega)
        replace e1 := cellAt e1 hb (by omega)
        replace e2 := cellAt e2 hb (by omega)
        replace e3 := cellAt e3 hb (by omega)
        replace Hr := Lib.hid (Hr.out.at hb)
        replace Hq := Lib.hid (Hq.out.at hb)
        replace n1 : w.heap.size < v4.heap.size := ltAt n1 hb
        replace HB := Lib.hid (lift HB.out hb)
        replace HBl := Lib.hid (lift HBl.out hb)
        replace p1 : wr.heap.size < v4.heap.size := ltAt p1 hb
        clear hb
        cases h4 : es.any (· == (u, s, 4))
        · have h4' : hasE es u s 4 = false := h4
          have HF := Lib.hid (show lostJ es u (s, t, r, d) = false by rw [lostJ_mk]; simp only [h1', h4', Bool.true_and, Bool.and_true, Bool.false_and, Bool.and_false, Bool.true_or, Bool.or_true, Bool.false_or, Bool.or_false, Bool.or_self, Bool.and_self])
          go_wp2_with fail
          go_roundw
          case rel => exact ⟨m + 1, by omega, by go_num, by show _ = _; rw [HS.out, HF.out], HBl.out⟩
          case measure => simp [intOf]; omega
        · have h4' : hasE es u s 4 = true := h4
          go_wp2_with fail
          refine (refAhead_any An Ae nn cn ce es s u _ Hr.out (by omega)).mono ?_
          rintro e v5 ⟨rfl, hb⟩
          replace g0 := cellAt g0 hb (by omega)
          replace g1 := cellAt g1 hb (by omega)
          replace e0 := cellAt e0 hb (by omega)
          replace e1 := cellAt e1 hb (by omega)
          replace e2 := cellAt e2 hb (by omega)
          replace e3 := cellAt e3 hb (by omega)
          replace Hr := Lib.hid (Hr.out.at hb)
          replace Hq := Lib.hid (Hq.out.at hb)
          replace n1 : w.heap.size < v5.heap.size := ltAt n1 hb
          replace HB := Lib.hid (lift HB.out hb)
          replace HBl := Lib.hid (lift HBl.out hb)
          replace p1 : wr.heap.size < v5.heap.size := ltAt p1 hb
          clear hb
          cases ha : es.any (aheadB s u)
          · have ha' : Ah es s u = false := ha
            have HF := Lib.hid (show lostJ es u (s, t, r, d) = false by rw [lostJ_mk]; simp only [ha', Bool.true_and, Bool.and_true, Bool.false_and, Bool.and_false, Bool.true_or, Bool.or_true, Bool.false_or, Bool.or_false, Bool.or_self, Bool.and_self])
            go_wp2_with fail
            go_roundw
            case rel => exact ⟨m + 1, by omega, by go_num, by show _ = _; rw [HS.out, HF.out], HBl.out⟩
            case measure => simp [intOf]; omega
          · have ha' : Ah es s u = true := ha
            cases rb : (r == 3)
            · have HF := Lib.hid (show lostJ es u (s, t, r, d) = false by rw [lostJ_mk]; simp only [rb, Bool.true_and, Bool.and_true, Bool.false_and, Bool.and_false, Bool.true_or, Bool.or_true, Bool.false_or, Bool.or_false, Bool.or_self, Bool.and_self])
              go_wp2_with fail
              go_roundw
              case rel => exact ⟨m + 1, by omega, by go_num, by show _ = _; rw [HS.out, HF.out], HBl.out⟩
              case measure => simp [intOf]; omega
            · cases tb : (t == 1)
              · cases tc : (t == 3)
                · have HF := Lib.hid (show lostJ es u (s, t, r, d) = false by rw [lostJ_mk]; simp only [tb, tc, Bool.true_and, Bool.and_true, Bool.false_and, Bool.and_false, Bool.true_or, Bool.or_true, Bool.false_or, Bool.or_false, Bool.or_self, Bool.and_self])
                  go_wp2_with fail
                  go_roundw
                  case rel => exact ⟨m + 1, by omega, by go_num, by show _ = _; rw [HS.out, HF.out], HBl.out⟩
                  case measure => simp [intOf]; omega
                · cases db : (d != 1)
                  · have HF := Lib.hid (show lostJ es u (s, t, r, d) = false by rw [lostJ_mk]; simp only [db, Bool.true_and, Bool.and_true, Bool.false_and, Bool.and_false, Bool.true_or, Bool.or_true, Bool.false_or, Bool.or_false, Bool.or_self, Bool.and_self])
                    go_wp2_with fail
                    go_roundw
                    case rel => exact ⟨m + 1, by omega, by go_num, by show _ = _; rw [HS.out, HF.out], HBl.out⟩
                    case measure => simp [intOf]; omega
                  · have HF := Lib.hid (show lostJ es u (s, t, r, d) = true by rw [lostJ_mk]; simp only [ha', h4', rb, tb, tc, db, Bool.true_and, Bool.and_true, Bool.false_and, Bool.and_false, Bool.true_or, Bool.or_true, Bool.false_or, Bool.or_false, Bool.or_self, Bool.and_self])
                    go_wp2_with fail
                    go_ret
                    exact ⟨ret_bool (by rw [HA.out (HS.out.trans HF.out)]), HB.out⟩
              · cases db : (d != 1)
                · have HF := Lib.hid (show lostJ es u (s, t, r, d) = false by rw [lostJ_mk]; simp only [db, Bool.true_and, Bool.and_true, Bool.false_and, Bool.and_false, Bool.true_or, Bool.or_true, Bool.false_or, Bool.or_false, Bool.or_self, Bool.and_self])
                  go_wp2_with fail
                  go_roundw
                  case rel => exact ⟨m + 1, by omega, by go_num, by show _ = _; rw [HS.out, HF.out], HBl.out⟩
                  case measure => simp [intOf]; omega
                · have HF := Lib.hid (show lostJ es u (s, t, r, d) = true by rw [lostJ_mk]; simp only [ha', h4', rb, tb, db, Bool.true_and, Bool.and_true, Bool.false_and, Bool.and_false, Bool.true_or, Bool.or_true, Bool.false_or, Bool.or_false, Bool.or_self, Bool.and_self])
                  go_wp2_with fail
                  go_ret
                  exact ⟨ret_bool (by rw [HA.out (HS.out.trans HF.out)]), HB.out⟩
      · have h1' : hasE es u s 1 = true := h1
        go_wp2_with fail
        refine (refAhead_any An Ae nn cn ce es s u _ Hr.out (by omega)).mono ?_
        rintro e v5 ⟨rfl, hb⟩
        replace g0 := cellAt g0 hb (by omega)
        replace g1 := cellAt g1 hb (by omega)
        replace e0 := cellAt e0 hb (by omega)
        replace e1 := cellAt e1 hb (by omega)
        replace e2 := cellAt e2 hb (by omega)
        replace e3 := cellAt e3 hb (by omega)
        replace Hr := Lib.hid (Hr.out.at hb)
        replace Hq := Lib.hid (Hq.out.at hb)
        replace n1 : w.heap.size < v5.heap.size := ltAt n1 hb
        replace HB := Lib.hid (lift HB.out hb)
        replace HBl := Lib.hid (lift HBl.out hb)
        replace p1 : wr.heap.size < v5.heap.size := ltAt p1 hb
        clear hb
        cases ha : es.any (aheadB s u)
        · have ha' : Ah es s u = false := ha
          have HF := Lib.hid (show lostJ es u (s, t, r, d) = false by rw [lostJ_mk]; simp only [ha', Bool.true_and, Bool.and_true, Bool.false_and, Bool.and_false, Bool.true_or, Bool.or_true, Bool.false_or, Bool.or_false, Bool.or_self, Bool.and_self])
          go_wp2_with fail
          go_roundw
          case rel => exact ⟨m + 1, by omega, by go_num, by show _ = _; rw [HS.out, HF.out], HBl.out⟩
          case measure => simp [intOf]; omega
        · have ha' : Ah es s u = true := ha
          cases rb : (r == 3)
          · have HF := Lib.hid (show lostJ es u (s, t, r, d) = false by rw [lostJ_mk]; simp only [rb, Bool.true_and, Bool.and_true, Bool.false_and, Bool.and_false, Bool.true_or, Bool.or_true, Bool.false_or, Bool.or_false, Bool.or_self, Bool.and_self])
            go_wp2_with fail
            go_roundw
            case rel => exact ⟨m + 1, by omega, by go_num, by show _ = _; rw [HS.out, HF.out], HBl.out⟩
            case measure => simp [intOf]; omega
          · cases tb : (t == 1)
            · cases tc : (t == 3)
              · have HF := Lib.hid (show lostJ es u (s, t, r, d) = false by rw [lostJ_mk]; simp only [tb, tc, Bool.true_and, Bool.and_true, Bool.false_and, Bool.and_false, Bool.true_or, Bool.or_true, Bool.false_or, Bool.or_false, Bool.or_self, Bool.and_self])
                go_wp2_with fail
                go_roundw
                case rel => exact ⟨m + 1, by omega, by go_num, by show _ = _; rw [HS.out, HF.out], HBl.out⟩
                case measure => simp [intOf]; omega
              · cases db : (d != 1)
                · have HF := Lib.hid (show lostJ es u (s, t, r, d) = false by rw [lostJ_mk]; simp only [db, Bool.true_and, Bool.and_true, Bool.false_and, Bool.and_false, Bool.true_or, Bool.or_true, Bool.false_or, Bool.or_false, Bool.or_self, Bool.and_self])
                  go_wp2_with fail
                  go_roundw
                  case rel => exact ⟨m + 1, by omega, by go_num, by show _ = _; rw [HS.out, HF.out], HBl.out⟩
                  case measure => simp [intOf]; omega
                · have HF := Lib.hid (show lostJ es u (s, t, r, d) = true by rw [lostJ_mk]; simp only [ha', h1', rb, tb, tc, db, Bool.true_and, Bool.and_true, Bool.false_and, Bool.and_false, Bool.true_or, Bool.or_true, Bool.false_or, Bool.or_false, Bool.or_self, Bool.and_self])
                  go_wp2_with fail
                  go_ret
                  exact ⟨ret_bool (by rw [HA.out (HS.out.trans HF.out)]), HB.out⟩
            · cases db : (d != 1)
              · have HF := Lib.hid (show lostJ es u (s, t, r, d) = false by rw [lostJ_mk]; simp only [db, Bool.true_and, Bool.and_true, Bool.false_and, Bool.and_false, Bool.true_or, Bool.or_true, Bool.false_or, Bool.or_false, Bool.or_self, Bool.and_self])
                go_wp2_with fail
                go_roundw
                case rel => exact ⟨m + 1, by omega, by go_num, by show _ = _; rw [HS.out, HF.out], HBl.out⟩
                case measure => simp [intOf]; omega
              · have HF := Lib.hid (show lostJ es u (s, t, r, d) = true by rw [lostJ_mk]; simp only [ha', h1', rb, tb, db, Bool.true_and, Bool.and_true, Bool.false_and, Bool.and_false, Bool.true_or, Bool.or_true, Bool.false_or, Bool.or_false, Bool.or_self, Bool.and_self])
                go_wp2_with fail
                go_ret
                exact ⟨ret_bool (by rw [HA.out (HS.out.trans HF.out)]), HB.out⟩
    · have hmq : m = q.length := by omega
      have h := hall.out
      rw [hmq, List.take_length] at h
      have HN := Lib.hid h
      clear h
      go_wp2_with fail
      go_ret
      exact ⟨ret_bool (by rw [HN.out]), HB.out⟩
end Od
end Go.Proofs.YtanfnejbnmenkaaGreat
end

section
/- The walk of matinsref15.put: a text into a rising row, once. -/
namespace Go.Proofs.YtanfnejbnmenkaaGreat
open Go.RowKit Go.Sort

namespace Od
theorem svs_app (a b : List Str) : svs (a ++ b) = svs a ++ svs b := by simp [svs]
set_option maxRecDepth 100000 in
set_option maxHeartbeats 1000000 in
theorem put15_any (A : Option Addr) (c : Nat) (ss : List Str) (s : Str) (w : World) (hr : Rd w w.heap.size 1 A ss.length (svs ss)) (hc : ss.length ≤ c) (hl : ss.length ≤ 1000000) :
    Calls Tryz.prog 125 #[.slice A ss.length c, sv s] w (RdIs 1 (insL ltS s ss).length (svs (insL ltS s ss)) w) := by
  obtain ⟨i0, hi, hz0, hz1, hz2⟩ := info_parts inS
  have Hr := Lib.hid hr
  clear hr
  go_enter Tryz.func125, Tryz.ntmps125
  go_wp2_with fail
  go_loop [5] (fun i => ∃ k : Nat, k ≤ ss.length ∧ i = .int .i64 k ∧ Hid (∀ y ∈ ss.take k, ltS y s = true)) (fun i => ss.length - (intOf i).toNat)
  case atStart => exact ⟨0, Nat.zero_le _, rfl, by simp [Hid]⟩
  case round =>
    obtain ⟨k, hk, rfl, hall⟩ := hrel
    by_cases hlt : k < ss.length
    · obtain ⟨b, o, rfl, hB, hc0⟩ := Hr.out.str hlt
      generalize hx : ss[k] = x at hc0
      have Hx := Lib.hid hx
      clear hx
      cases hlx : Op.bytesLess x s
      · have hge : ∀ h : k < ss.length, ltS ss[k] s = false := fun _ => by rw [Hx.out]; exact hlx
        have Hge := Lib.hid hge
        clear hge
        cases hxs : (x == s)
        · go_wp2_with fail
          have hge := Hge.out
          have hne : ¬ ss[k]? = some s := by rw [List.getElem?_eq_getElem hlt, Hx.out]; intro e; injection e with e; rw [e] at hxs; simp at hxs
          clear hlx hxs
          have hins : insL ltS s ss = ss.take k ++ s :: ss.drop k := by rw [insL_cut ss k hk hall hge, if_neg hne]
          have HI := Lib.hid hins
          have HR1 := Lib.hid (Hr.out.takeA hk)
          have HR2 := Lib.hid (Hr.out.dropA hk hc)
          have hs1 := run_slice_full (P := Tryz.prog) Tryz.underlying37 hi (some ⟨b, o, none⟩) ss.length c k (Nat.le_trans hk hc)
          have hs2 := run_slice_tail (P := Tryz.prog) Tryz.underlying37 hi (some ⟨b, o, none⟩) ss.length c k hk
          rw [hz1] at hs1 hs2
          clear hins hne hge
          have hlk : (ss.drop k).length = ss.length - k := List.length_drop
          have HLk := Lib.hid hlk
          clear hlk
          try go_wp2_with fail
          refine wp_region_held_drew (S := fun w' => Below w.heap.size w w') (by kernel_rfl) (Below.drew (Below.refl _ _)) (fun hHeld => ?_)
          refine tY (i := 0) (v := ?_) rfl ?_ hHeld ?_; rotate_left 1; focus (intro w' hSw; clear hSw; go_simp; try with_reducible rfl)
          (try simp only [Act.put, zn1, zn2, zn3])
          refine tY (i := 1) (v := ?_) rfl ?_ hHeld ?_; rotate_left 1; focus (intro w' hSw; clear hSw; go_simp; try with_reducible rfl)
          (try simp only [Act.put, zn1, zn2, zn3])
          refine tY (i := 2) (v := ?_) rfl ?_ hHeld ?_; rotate_left 1; focus (intro w' hSw; clear hSw; go_simp; try with_reducible rfl)
          (try simp only [Act.put, zn1, zn2, zn3])
          refine tY (i := 3) (v := ?_) rfl ?_ hHeld ?_; rotate_left 1; focus (intro w' hSw; clear hSw; go_simp; try with_reducible rfl)
          (try simp only [Act.put, zn1, zn2, zn3])
          refine tY (i := 4) (v := ?_) rfl ?_ hHeld ?_; rotate_left 1; focus (intro w' hSw; clear hSw; go_simp; try with_reducible rfl)
          (try simp only [Act.put, zn1, zn2, zn3])
          refine tY (i := 6) (v := ?_) rfl ?_ hHeld ?_; rotate_left 1; focus (intro w' hSw; clear hSw; go_simp; try with_reducible rfl)
          (try simp only [Act.put, zn1, zn2, zn3])
          refine tY (i := 7) (v := ?_) rfl ?_ hHeld ?_; rotate_left 1; focus (intro w' hSw; clear hSw; go_simp; try with_reducible rfl)
          (try simp only [Act.put, zn1, zn2, zn3])
          refine tY (i := 8) (v := ?_) rfl ?_ hHeld ?_; rotate_left 1; focus (intro w' hSw; clear hSw; go_simp; try with_reducible rfl)
          (try simp only [Act.put, zn1, zn2, zn3])
          refine ready_one (i := 5) rfl (by kernel_rfl) (fun K hK => ?_)
          go_simp
          refine hK.out _ _ ?_ (fun hHeld2 => ?_)
          · (try dsimp only); first | exact hHeld | exact (by repeat (first | exact Below.refl _ _ | assumption | refine Below.alloc ?_ (by simp <;> omega) _ | refine Below.setCell ?_ (by simp <;> omega) _ | refine Below.drew ?_))
          clear hK K hHeld; have hHeld := hHeld2; clear hHeld2; (try simp only [Act.put, zn1, zn2, zn3])
          refine ready_one (i := 9) rfl (by kernel_rfl) (fun K hK => ?_)
          refine step_append_full (by rfl) (.tmp 38) (.tmp 41) 37 (by rfl) 9 i0 (.string ⟨#[]⟩) 1 16 Tryz.underlying37 hi hz0 hz1 hz2 rfl _ (some ⟨w.heap.size, 0, none⟩) 1 [sv s] (by rfl) (Rd.lit w.drew [sv s] 9 1 1 rfl) (Nat.le_refl _) _ _ (ss.length - k) (c - k) _ (by rfl) (HR2.out.at' (Nat.le_refl _) hHeld) (one_drop (one_svs ss) _) (by unfold maxLen; omega) (by omega) ?_
          intro A2 c2 v2 hc2 hr2 hb
          have HR3 := Lib.hid hr2
          clear hr2
          refine hK.out _ _ ?_ (fun hHeld2 => ?_)
          · (try dsimp only); first | exact Below.trans hHeld (Below.mono hb hHeld.size) | exact hHeld | exact Below.drew hHeld | exact (by repeat (first | exact Below.refl _ _ | assumption | refine Below.alloc ?_ (by simp <;> omega) _ | refine Below.setCell ?_ (by simp <;> omega) _ | refine Below.drew ?_))
          clear hK K hHeld; have hHeld := hHeld2; clear hHeld2; (try simp only [Act.put, zn1, zn2, zn3])
          refine ready_one (i := 10) rfl (by kernel_rfl) (fun K hK => ?_)
          refine step_append_full (by rfl) (.tmp 36) (.tmp 42) 37 (by rfl) 9 i0 (.string ⟨#[]⟩) 1 16 Tryz.underlying37 hi hz0 hz1 hz2 rfl _ _ k _ (by rfl) (HR1.out.at' (Nat.le_refl _) hHeld) (Nat.le_refl _) _ A2 (1 + (ss.length - k)) c2 _ (by rfl) HR3.out (one_app (one_sv s) (one_drop (one_svs ss) _)) (by unfold maxLen; omega) (by omega) ?_
          intro A3 c3 v3 hc3 hr3 hb
          have HR4 := Lib.hid hr3
          clear hr3
          refine hK.out _ _ ?_ (fun hHeld2 => ?_)
          · (try dsimp only); first | exact Below.trans hHeld (Below.mono hb hHeld.size) | exact hHeld | exact Below.drew hHeld | exact (by repeat (first | exact Below.refl _ _ | assumption | refine Below.alloc ?_ (by simp <;> omega) _ | refine Below.setCell ?_ (by simp <;> omega) _ | refine Below.drew ?_))
          clear hK K hHeld; have hHeld := hHeld2; clear hHeld2; (try simp only [Act.put, zn1, zn2, zn3])
          refine tY (i := 11) (v := ?_) rfl ?_ hHeld ?_; rotate_left 1; focus (intro w' hSw; clear hSw; go_simp; try with_reducible rfl)
          (try simp only [Act.put, zn1, zn2, zn3])
          refine wpAnyH_done (by kernel_rfl) ?_ _
          go_wp2_with fail
          go_ret
          refine RdIs.of hc3 HR4.out hHeld ?_ ?_
          · rw [HI.out, List.length_append, List.length_cons, List.length_take, HLk.out]; omega
          · rw [HI.out]; simp [svs, List.map_take, List.map_drop]
        · go_wp2_with fail
          go_ret
          have hins : insL ltS s ss = ss := by rw [insL_cut ss k hk hall Hge.out, if_pos]; rw [List.getElem?_eq_getElem hlt, Hx.out]; simpa using hxs
          exact RdIs.of hc Hr.out (Below.refl _ _) (by rw [hins]) (by rw [hins])
      · go_wp2_with fail
        go_round
        case rel =>
          refine ⟨k + 1, by omega, by go_num, fun y hy => ?_⟩
          rw [List.take_succ_eq_append_getElem hlt, List.mem_append, List.mem_singleton] at hy
          rcases hy with h | h
          · exact hall y h
          · rw [h, Hx.out]; exact hlx
        case measure => simp [intOf]; omega
    · have hge : ∀ h : k < ss.length, ltS ss[k] s = false := fun h => absurd h hlt
      have hne : ¬ ss[k]? = some s := by rw [List.getElem?_eq_none (by omega)]; simp
      go_wp2_with fail
      have hins : insL ltS s ss = ss.take k ++ s :: ss.drop k := by rw [insL_cut ss k hk hall hge, if_neg hne]
      have HI := Lib.hid hins
      have HR1 := Lib.hid (Hr.out.takeA hk)
      have HR2 := Lib.hid (Hr.out.dropA hk hc)
      have hs1 := run_slice_full (P := Tryz.prog) Tryz.underlying37 hi A ss.length c k (Nat.le_trans hk hc)
      have hs2 := run_slice_tail (P := Tryz.prog) Tryz.underlying37 hi A ss.length c k hk
      rw [hz1] at hs1 hs2
      clear hins hne hge
      have hlk : (ss.drop k).length = ss.length - k := List.length_drop
      have HLk := Lib.hid hlk
      clear hlk
      try go_wp2_with fail
      refine wp_region_held_drew (S := fun w' => Below w.heap.size w w') (by kernel_rfl) (Below.drew (Below.refl _ _)) (fun hHeld => ?_)
      refine tY (i := 0) (v := ?_) rfl ?_ hHeld ?_; rotate_left 1; focus (intro w' hSw; clear hSw; go_simp; try with_reducible rfl)
      (try simp only [Act.put, zn1, zn2, zn3])
      refine tY (i := 1) (v := ?_) rfl ?_ hHeld ?_; rotate_left 1; focus (intro w' hSw; clear hSw; go_simp; try with_reducible rfl)
      (try simp only [Act.put, zn1, zn2, zn3])
      refine tY (i := 2) (v := ?_) rfl ?_ hHeld ?_; rotate_left 1; focus (intro w' hSw; clear hSw; go_simp; try with_reducible rfl)
      (try simp only [Act.put, zn1, zn2, zn3])
      refine tY (i := 3) (v := ?_) rfl ?_ hHeld ?_; rotate_left 1; focus (intro w' hSw; clear hSw; go_simp; try with_reducible rfl)
      (try simp only [Act.put, zn1, zn2, zn3])
      refine tY (i := 4) (v := ?_) rfl ?_ hHeld ?_; rotate_left 1; focus (intro w' hSw; clear hSw; go_simp; try with_reducible rfl)
      (try simp only [Act.put, zn1, zn2, zn3])
      refine tY (i := 6) (v := ?_) rfl ?_ hHeld ?_; rotate_left 1; focus (intro w' hSw; clear hSw; go_simp; try with_reducible rfl)
      (try simp only [Act.put, zn1, zn2, zn3])
      refine tY (i := 7) (v := ?_) rfl ?_ hHeld ?_; rotate_left 1; focus (intro w' hSw; clear hSw; go_simp; try with_reducible rfl)
      (try simp only [Act.put, zn1, zn2, zn3])
      refine tY (i := 8) (v := ?_) rfl ?_ hHeld ?_; rotate_left 1; focus (intro w' hSw; clear hSw; go_simp; try with_reducible rfl)
      (try simp only [Act.put, zn1, zn2, zn3])
      refine ready_one (i := 5) rfl (by kernel_rfl) (fun K hK => ?_)
      go_simp
      refine hK.out _ _ ?_ (fun hHeld2 => ?_)
      · (try dsimp only); first | exact hHeld | exact (by repeat (first | exact Below.refl _ _ | assumption | refine Below.alloc ?_ (by simp <;> omega) _ | refine Below.setCell ?_ (by simp <;> omega) _ | refine Below.drew ?_))
      clear hK K hHeld; have hHeld := hHeld2; clear hHeld2; (try simp only [Act.put, zn1, zn2, zn3])
      refine ready_one (i := 9) rfl (by kernel_rfl) (fun K hK => ?_)
      refine step_append_full (by rfl) (.tmp 38) (.tmp 41) 37 (by rfl) 9 i0 (.string ⟨#[]⟩) 1 16 Tryz.underlying37 hi hz0 hz1 hz2 rfl _ (some ⟨w.heap.size, 0, none⟩) 1 [sv s] (by rfl) (Rd.lit w.drew [sv s] 9 1 1 rfl) (Nat.le_refl _) _ _ (ss.length - k) (c - k) _ (by rfl) (HR2.out.at' (Nat.le_refl _) hHeld) (one_drop (one_svs ss) _) (by unfold maxLen; omega) (by omega) ?_
      intro A2 c2 v2 hc2 hr2 hb
      have HR3 := Lib.hid hr2
      clear hr2
      refine hK.out _ _ ?_ (fun hHeld2 => ?_)
      · (try dsimp only); first | exact Below.trans hHeld (Below.mono hb hHeld.size) | exact hHeld | exact Below.drew hHeld | exact (by repeat (first | exact Below.refl _ _ | assumption | refine Below.alloc ?_ (by simp <;> omega) _ | refine Below.setCell ?_ (by simp <;> omega) _ | refine Below.drew ?_))
      clear hK K hHeld; have hHeld := hHeld2; clear hHeld2; (try simp only [Act.put, zn1, zn2, zn3])
      refine ready_one (i := 10) rfl (by kernel_rfl) (fun K hK => ?_)
      refine step_append_full (by rfl) (.tmp 36) (.tmp 42) 37 (by rfl) 9 i0 (.string ⟨#[]⟩) 1 16 Tryz.underlying37 hi hz0 hz1 hz2 rfl _ _ k _ (by rfl) (HR1.out.at' (Nat.le_refl _) hHeld) (Nat.le_refl _) _ A2 (1 + (ss.length - k)) c2 _ (by rfl) HR3.out (one_app (one_sv s) (one_drop (one_svs ss) _)) (by unfold maxLen; omega) (by omega) ?_
      intro A3 c3 v3 hc3 hr3 hb
      have HR4 := Lib.hid hr3
      clear hr3
      refine hK.out _ _ ?_ (fun hHeld2 => ?_)
      · (try dsimp only); first | exact Below.trans hHeld (Below.mono hb hHeld.size) | exact hHeld | exact Below.drew hHeld | exact (by repeat (first | exact Below.refl _ _ | assumption | refine Below.alloc ?_ (by simp <;> omega) _ | refine Below.setCell ?_ (by simp <;> omega) _ | refine Below.drew ?_))
      clear hK K hHeld; have hHeld := hHeld2; clear hHeld2; (try simp only [Act.put, zn1, zn2, zn3])
      refine tY (i := 11) (v := ?_) rfl ?_ hHeld ?_; rotate_left 1; focus (intro w' hSw; clear hSw; go_simp; try with_reducible rfl)
      (try simp only [Act.put, zn1, zn2, zn3])
      refine wpAnyH_done (by kernel_rfl) ?_ _
      go_wp2_with fail
      go_ret
      refine RdIs.of hc3 HR4.out hHeld ?_ ?_
      · rw [HI.out, List.length_append, List.length_cons, List.length_take, HLk.out]; omega
      · rw [HI.out]; simp [svs, List.map_take, List.map_drop]
end Od
end Go.Proofs.YtanfnejbnmenkaaGreat
end

section
/- The walk of matinsref20.rising: texts in order, each once. (bel2) -/
namespace Go.Proofs.YtanfnejbnmenkaaGreat
open Go.RowKit Go.Sort
set_option linter.unusedSimpArgs false

namespace Od
theorem canon_succ {us : List Str} {j : Nat} (hj : j < us.length) : canon ltS (us.take (j + 1)) = insL ltS us[j] (canon ltS (us.take j)) := by
  unfold canon; rw [List.take_succ_eq_append_getElem hj, List.foldl_append]; rfl
theorem canon_take_len (us : List Str) (j : Nat) : (canon ltS (us.take j)).length ≤ us.length := Nat.le_trans (canon_len _) (by simp; omega)
set_option maxRecDepth 100000 in
set_option maxHeartbeats 8000000 in
theorem rising_any (A : Option Addr) (c : Nat) (ss : List Str) (w : World) (hr : Rd w w.heap.size 1 A ss.length (svs ss)) (hl : ss.length ≤ 100000) :
    Calls Tryz.prog 51 #[.slice A ss.length c] w (RdIs 1 (canon ltS ss).length (svs (canon ltS ss)) w) := by
  obtain ⟨i0, hi, hz0, hz1, hz2⟩ := info_parts inS
  have Hr := Lib.hid hr
  clear hr
  go_enter Tryz.func51, Tryz.ntmps51
  go_wp2_with fail
  go_loopw [3, 9] (fun v i wr => ∃ (m : Nat) (B : Option Addr) (d : Nat) (L : List Str), m ≤ ss.length ∧ i = .int .i64 m ∧ v = .slice B L.length d ∧ L.length ≤ d ∧ Rd wr wr.heap.size 1 B L.length (svs L) ∧ L = canon ltS (ss.take m) ∧ Below w.heap.size w wr) (fun _ i _ => ss.length - (intOf i).toNat)
  case atStart => exact ⟨0, none, 0, [], Nat.zero_le _, rfl, rfl, Nat.le_refl _, Rd.none_, rfl, Below.refl _ _⟩
  case round =>
    obtain ⟨m, B, d, L, hm, rfl, rfl, hd, hrL, hC, hb⟩ := hrel
    have HBw := Lib.hid hb
    replace Hr := Lib.hid (Hr.out.at hb)
    clear hb
    have HL := Lib.hid hrL
    have hLl : L.length ≤ ss.length := by rw [hC]; exact canon_take_len ss m
    clear hrL
    by_cases hlt : m < ss.length
    · obtain ⟨b1, o1, rfl, hB1, x0⟩ := Hr.out.str hlt
      have hcs := canon_succ hlt
      rw [← hC] at hcs
      generalize ss[m] = s at x0 hcs
      have HC := Lib.hid hcs
      clear hcs hC
      have m1 : (0 : Int) ≤ (m : Int) := by omega
      have m2 : (m : Int) < (ss.length : Int) := by omega
      go_wp2_with fail
      go_loop [6] (fun i => ∃ k : Nat, k ≤ L.length ∧ i = .int .i64 k ∧ Hid (∀ y ∈ L.take k, ltS y s = true)) (fun i => L.length - (intOf i).toNat)
      case atStart => exact ⟨0, Nat.zero_le _, rfl, by simp [Hid]⟩
      case round =>
        obtain ⟨k, hk2, rfl, hall2⟩ := hrel
        have k1 : (0 : Int) ≤ (k : Int) := by omega
        by_cases hlt2 : k < L.length
        · have k2 : (k : Int) < (L.length : Int) := by omega
          have k3 : ((k : Int) == (L.length : Int)) = false := by rw [beq_eq_false_iff_ne]; omega
          obtain ⟨b, o, hA, hB, hc0⟩ := HL.out.str hlt2
          subst hA
          generalize hx : L[k] = x at hc0
          have Hx := Lib.hid hx
          clear hx
          cases hlx : Op.bytesLess x s
          · have hge : ∀ h : k < L.length, ltS L[k] s = false := fun _ => by rw [Hx.out]; exact hlx
            cases hxs : (x == s)
            · have hne : ¬ L[k]? = some s := by rw [List.getElem?_eq_getElem hlt2, Hx.out]; intro e; injection e with e; rw [e] at hxs; simp at hxs
              have hins : insL ltS s L = L.take k ++ s :: L.drop k := by rw [insL_cut L k hk2 hall2 hge, if_neg hne]
              have HI := Lib.hid hins
              have HR1 := Lib.hid (HL.out.takeA hk2)
              have HR2 := Lib.hid (HL.out.dropA hk2 hd)
              have hs1 := run_slice_full (P := Tryz.prog) Tryz.underlying37 hi (some ⟨b, o, none⟩) L.length d k (Nat.le_trans hk2 hd)
              have hs2 := run_slice_tail (P := Tryz.prog) Tryz.underlying37 hi (some ⟨b, o, none⟩) L.length d k hk2
              rw [hz1] at hs1 hs2
              clear hins hne hge
              have hlk : (L.drop k).length = L.length - k := List.length_drop
              have HLk := Lib.hid hlk
              clear hlk
              go_wp2_with fail
              try go_wp2_with fail
              refine wp_region_held_drew (S := fun w' => Below wr.heap.size wr w') (by kernel_rfl) (Below.drew (Below.refl _ _)) (fun hHeld => ?_)
              refine tY (i := 0) (v := ?_) rfl ?_ hHeld ?_; rotate_left 1; focus (intro w' hSw; clear hSw; go_simp; try with_reducible rfl)
              (try simp only [Act.put, zn1, zn2, zn3])
              refine tY (i := 1) (v := ?_) rfl ?_ hHeld ?_; rotate_left 1; focus (intro w' hSw; clear hSw; go_simp; try with_reducible rfl)
              (try simp only [Act.put, zn1, zn2, zn3])
              refine tY (i := 2) (v := ?_) rfl ?_ hHeld ?_; rotate_left 1; focus (intro w' hSw; clear hSw; go_simp; try with_reducible rfl)
              (try simp only [Act.put, zn1, zn2, zn3])
              refine tY (i := 3) (v := ?_) rfl ?_ hHeld ?_; rotate_left 1; focus (intro w' hSw; clear hSw; go_simp; try with_reducible rfl)
              (try simp only [Act.put, zn1, zn2, zn3])
              refine tY (i := 4) (v := ?_) rfl ?_ hHeld ?_; rotate_left 1; focus (intro w' hSw; clear hSw; go_simp; try with_reducible rfl)
              (try simp only [Act.put, zn1, zn2, zn3])
              refine tY (i := 6) (v := ?_) rfl ?_ hHeld ?_; rotate_left 1; focus (intro w' hSw; clear hSw; go_simp; try with_reducible rfl)
              (try simp only [Act.put, zn1, zn2, zn3])
              refine tY (i := 7) (v := ?_) rfl ?_ hHeld ?_; rotate_left 1; focus (intro w' hSw; clear hSw; go_simp; try with_reducible rfl)
              (try simp only [Act.put, zn1, zn2, zn3])
              refine tY (i := 8) (v := ?_) rfl ?_ hHeld ?_; rotate_left 1; focus (intro w' hSw; clear hSw; go_simp; try with_reducible rfl)
              (try simp only [Act.put, zn1, zn2, zn3])
              refine ready_one (i := 5) rfl (by kernel_rfl) (fun K hK => ?_)
              go_simp
              refine hK.out _ _ ?_ (fun hHeld2 => ?_)
              · (try dsimp only); first | exact hHeld | exact (by repeat (first | exact Below.refl _ _ | assumption | refine Below.alloc ?_ (by first | omega | (simp <;> omega)) _ | refine Below.setCell ?_ (by first | omega | (simp <;> omega)) _ | refine Below.drew ?_))
              clear hK K hHeld; have hHeld := hHeld2; clear hHeld2; (try simp only [Act.put, zn1, zn2, zn3])
              refine ready_one (i := 9) rfl (by kernel_rfl) (fun K hK => ?_)
              refine step_append_full (by rfl) (.tmp 44) (.tmp 47) 37 (by rfl) 9 i0 (.string ⟨#[]⟩) 1 16 Tryz.underlying37 hi hz0 hz1 hz2 rfl _ (some ⟨wr.heap.size, 0, none⟩) 1 [sv s] (by rfl) (Rd.lit wr.drew [sv s] 9 1 1 rfl) (Nat.le_refl _) _ _ (L.length - k) (d - k) _ (by rfl) (HR2.out.at' (Nat.le_refl _) hHeld) (one_drop (one_svs L) _) (by unfold maxLen; omega) (by omega) ?_
              intro A2 c2 v2 hc2 hr2 hb
              have HR3 := Lib.hid hr2
              clear hr2
              refine hK.out _ _ ?_ (fun hHeld2 => ?_)
              · (try dsimp only); first | exact Below.trans hHeld (Below.mono hb hHeld.size) | exact hHeld | exact Below.drew hHeld | exact (by repeat (first | exact Below.refl _ _ | assumption | refine Below.alloc ?_ (by first | omega | (simp <;> omega)) _ | refine Below.setCell ?_ (by first | omega | (simp <;> omega)) _ | refine Below.drew ?_))
              clear hK K hHeld; have hHeld := hHeld2; clear hHeld2; (try simp only [Act.put, zn1, zn2, zn3])
              refine ready_one (i := 10) rfl (by kernel_rfl) (fun K hK => ?_)
              refine step_append_full (by rfl) (.tmp 42) (.tmp 48) 37 (by rfl) 9 i0 (.string ⟨#[]⟩) 1 16 Tryz.underlying37 hi hz0 hz1 hz2 rfl _ _ k _ (by rfl) (HR1.out.at' (Nat.le_refl _) hHeld) (Nat.le_refl _) _ A2 (1 + (L.length - k)) c2 _ (by rfl) HR3.out (one_app (one_sv s) (one_drop (one_svs L) _)) (by unfold maxLen; omega) (by omega) ?_
              intro A3 c3 v3 hc3 hr3 hb
              have HR4 := Lib.hid hr3
              clear hr3
              refine hK.out _ _ ?_ (fun hHeld2 => ?_)
              · (try dsimp only); first | exact Below.trans hHeld (Below.mono hb hHeld.size) | exact hHeld | exact Below.drew hHeld | exact (by repeat (first | exact Below.refl _ _ | assumption | refine Below.alloc ?_ (by first | omega | (simp <;> omega)) _ | refine Below.setCell ?_ (by first | omega | (simp <;> omega)) _ | refine Below.drew ?_))
              clear hK K hHeld; have hHeld := hHeld2; clear hHeld2; (try simp only [Act.put, zn1, zn2, zn3])
              refine tY (i := 11) (v := ?_) rfl ?_ hHeld ?_; rotate_left 1; focus (intro w' hSw; clear hSw; go_simp; try with_reducible rfl)
              (try simp only [Act.put, zn1, zn2, zn3])
              refine wpAnyH_done (by kernel_rfl) ?_ _
              go_wp2_with fail
              go_roundw
              case rel =>
                have hl4 : k + (1 + (L.length - k)) = (insL ltS s L).length := by rw [HI.out, List.length_append, List.length_cons, List.length_take, HLk.out]; omega
                have hx4 : (svs L).take (k * 1) ++ ([sv s] ++ (svs L).drop (k * 1)) = svs (insL ltS s L) := by rw [HI.out]; simp [svs, List.map_take, List.map_drop]
                have hr4 := HR4.out
                rw [hx4] at hr4
                rw [hl4] at hr4 hc3 ⊢
                exact ⟨m + 1, A3, c3, insL ltS s L, by omega, by go_num, rfl, hc3, hr4, HC.out.symm, HBw.out.trans (hHeld.mono HBw.out.size)⟩
              case measure => simp [intOf]; omega
            · have hins : insL ltS s L = L := by rw [insL_cut L k hk2 hall2 hge, if_pos]; rw [List.getElem?_eq_getElem hlt2, Hx.out]; simpa using hxs
              have HI := Lib.hid (hins.symm.trans HC.out.symm)
              clear hge hins
              go_wp2_with fail
              go_roundw
              case rel => exact ⟨m + 1, _, d, L, by omega, by go_num, rfl, hd, HL.out, HI.out, HBw.out⟩
              case measure => simp [intOf]; omega
          · go_wp2_with fail
            go_round
            case rel =>
              refine ⟨k + 1, by omega, by go_num, fun y hy => ?_⟩
              rw [List.take_succ_eq_append_getElem hlt2, List.mem_append, List.mem_singleton] at hy
              rcases hy with h | h
              · exact hall2 y h
              · rw [h, Hx.out]; exact hlx
            case measure => simp [intOf]; omega
        · have hge : ∀ h : k < L.length, ltS L[k] s = false := fun h => absurd h hlt2
          have hne : ¬ L[k]? = some s := by rw [List.getElem?_eq_none (by omega)]; simp
          have k2 : ¬ (k : Int) < (L.length : Int) := by omega
          have k3 : ((k : Int) == (L.length : Int)) = true := by rw [beq_iff_eq]; omega
          have hins : insL ltS s L = L.take k ++ s :: L.drop k := by rw [insL_cut L k hk2 hall2 hge, if_neg hne]
          have HI := Lib.hid hins
          have HR1 := Lib.hid (HL.out.takeA hk2)
          have HR2 := Lib.hid (HL.out.dropA hk2 hd)
          have hs1 := run_slice_full (P := Tryz.prog) Tryz.underlying37 hi B L.length d k (Nat.le_trans hk2 hd)
          have hs2 := run_slice_tail (P := Tryz.prog) Tryz.underlying37 hi B L.length d k hk2
          rw [hz1] at hs1 hs2
          clear hins hne hge
          have hlk : (L.drop k).length = L.length - k := List.length_drop
          have HLk := Lib.hid hlk
          clear hlk
          go_wp2_with fail
          try go_wp2_with fail
          refine wp_region_held_drew (S := fun w' => Below wr.heap.size wr w') (by kernel_rfl) (Below.drew (Below.refl _ _)) (fun hHeld => ?_)
          refine tY (i := 0) (v := ?_) rfl ?_ hHeld ?_; rotate_left 1; focus (intro w' hSw; clear hSw; go_simp; try with_reducible rfl)
          (try simp only [Act.put, zn1, zn2, zn3])
          refine tY (i := 1) (v := ?_) rfl ?_ hHeld ?_; rotate_left 1; focus (intro w' hSw; clear hSw; go_simp; try with_reducible rfl)
          (try simp only [Act.put, zn1, zn2, zn3])
          refine tY (i := 2) (v := ?_) rfl ?_ hHeld ?_; rotate_left 1; focus (intro w' hSw; clear hSw; go_simp; try with_reducible rfl)
          (try simp only [Act.put, zn1, zn2, zn3])
          refine tY (i := 3) (v := ?_) rfl ?_ hHeld ?_; rotate_left 1; focus (intro w' hSw; clear hSw; go_simp; try with_reducible rfl)
          (try simp only [Act.put, zn1, zn2, zn3])
          refine tY (i := 4) (v := ?_) rfl ?_ hHeld ?_; rotate_left 1; focus (intro w' hSw; clear hSw; go_simp; try with_reducible rfl)
          (try simp only [Act.put, zn1, zn2, zn3])
          refine tY (i := 6) (v := ?_) rfl ?_ hHeld ?_; rotate_left 1; focus (intro w' hSw; clear hSw; go_simp; try with_reducible rfl)
          (try simp only [Act.put, zn1, zn2, zn3])
          refine tY (i := 7) (v := ?_) rfl ?_ hHeld ?_; rotate_left 1; focus (intro w' hSw; clear hSw; go_simp; try with_reducible rfl)
          (try simp only [Act.put, zn1, zn2, zn3])
          refine tY (i := 8) (v := ?_) rfl ?_ hHeld ?_; rotate_left 1; focus (intro w' hSw; clear hSw; go_simp; try with_reducible rfl)
          (try simp only [Act.put, zn1, zn2, zn3])
          refine ready_one (i := 5) rfl (by kernel_rfl) (fun K hK => ?_)
          go_simp
          refine hK.out _ _ ?_ (fun hHeld2 => ?_)
          · (try dsimp only); first | exact hHeld | exact (by repeat (first | exact Below.refl _ _ | assumption | refine Below.alloc ?_ (by first | omega | (simp <;> omega)) _ | refine Below.setCell ?_ (by first | omega | (simp <;> omega)) _ | refine Below.drew ?_))
          clear hK K hHeld; have hHeld := hHeld2; clear hHeld2; (try simp only [Act.put, zn1, zn2, zn3])
          refine ready_one (i := 9) rfl (by kernel_rfl) (fun K hK => ?_)
          refine step_append_full (by rfl) (.tmp 44) (.tmp 47) 37 (by rfl) 9 i0 (.string ⟨#[]⟩) 1 16 Tryz.underlying37 hi hz0 hz1 hz2 rfl _ (some ⟨wr.heap.size, 0, none⟩) 1 [sv s] (by rfl) (Rd.lit wr.drew [sv s] 9 1 1 rfl) (Nat.le_refl _) _ _ (L.length - k) (d - k) _ (by rfl) (HR2.out.at' (Nat.le_refl _) hHeld) (one_drop (one_svs L) _) (by unfold maxLen; omega) (by omega) ?_
          intro A2 c2 v2 hc2 hr2 hb
          have HR3 := Lib.hid hr2
          clear hr2
          refine hK.out _ _ ?_ (fun hHeld2 => ?_)
          · (try dsimp only); first | exact Below.trans hHeld (Below.mono hb hHeld.size) | exact hHeld | exact Below.drew hHeld | exact (by repeat (first | exact Below.refl _ _ | assumption | refine Below.alloc ?_ (by first | omega | (simp <;> omega)) _ | refine Below.setCell ?_ (by first | omega | (simp <;> omega)) _ | refine Below.drew ?_))
          clear hK K hHeld; have hHeld := hHeld2; clear hHeld2; (try simp only [Act.put, zn1, zn2, zn3])
          refine ready_one (i := 10) rfl (by kernel_rfl) (fun K hK => ?_)
          refine step_append_full (by rfl) (.tmp 42) (.tmp 48) 37 (by rfl) 9 i0 (.string ⟨#[]⟩) 1 16 Tryz.underlying37 hi hz0 hz1 hz2 rfl _ _ k _ (by rfl) (HR1.out.at' (Nat.le_refl _) hHeld) (Nat.le_refl _) _ A2 (1 + (L.length - k)) c2 _ (by rfl) HR3.out (one_app (one_sv s) (one_drop (one_svs L) _)) (by unfold maxLen; omega) (by omega) ?_
          intro A3 c3 v3 hc3 hr3 hb
          have HR4 := Lib.hid hr3
          clear hr3
          refine hK.out _ _ ?_ (fun hHeld2 => ?_)
          · (try dsimp only); first | exact Below.trans hHeld (Below.mono hb hHeld.size) | exact hHeld | exact Below.drew hHeld | exact (by repeat (first | exact Below.refl _ _ | assumption | refine Below.alloc ?_ (by first | omega | (simp <;> omega)) _ | refine Below.setCell ?_ (by first | omega | (simp <;> omega)) _ | refine Below.drew ?_))
          clear hK K hHeld; have hHeld := hHeld2; clear hHeld2; (try simp only [Act.put, zn1, zn2, zn3])
          refine tY (i := 11) (v := ?_) rfl ?_ hHeld ?_; rotate_left 1; focus (intro w' hSw; clear hSw; go_simp; try with_reducible rfl)
          (try simp only [Act.put, zn1, zn2, zn3])
          refine wpAnyH_done (by kernel_rfl) ?_ _
          go_wp2_with fail
          go_roundw
          case rel =>
            have hl4 : k + (1 + (L.length - k)) = (insL ltS s L).length := by rw [HI.out, List.length_append, List.length_cons, List.length_take, HLk.out]; omega
            have hx4 : (svs L).take (k * 1) ++ ([sv s] ++ (svs L).drop (k * 1)) = svs (insL ltS s L) := by rw [HI.out]; simp [svs, List.map_take, List.map_drop]
            have hr4 := HR4.out
            rw [hx4] at hr4
            rw [hl4] at hr4 hc3 ⊢
            exact ⟨m + 1, A3, c3, insL ltS s L, by omega, by go_num, rfl, hc3, hr4, HC.out.symm, HBw.out.trans (hHeld.mono HBw.out.size)⟩
          case measure => simp [intOf]; omega
    · have hmn : m = ss.length := by omega
      rw [hmn, List.take_length] at hC
      have HC := Lib.hid hC
      clear hC
      go_wp2_with fail
      go_ret
      rw [← HC.out]
      exact ⟨B, d, rfl, hd, HL.out, HBw.out⟩
end Od
end Go.Proofs.YtanfnejbnmenkaaGreat
end

section
/- The walks of matinsref20.Waits and matinsref20.Ready. (bel2) -/
namespace Go.Proofs.YtanfnejbnmenkaaGreat
open Go.RowKit Go.Sort
set_option linter.unusedSimpArgs false

namespace Od
theorem canon_self {l : List Str} (h : SS ltS l) : canon ltS l = l := (SS.eq_canon toS h fun _ => Iff.rfl).symm
theorem waitsJ_canon {es : List Ed} {q : List Jb} {j : Jb} (h : upQ q) : canon ltS (waitsJ es q j) = waitsJ es q j := by
  refine canon_self ?_
  have : upQ (q.filter (fun x => aheadJ es x j)) := List.Pairwise.sublist List.filter_sublist h
  exact upQ_map.1 this
theorem readyQ_canon (es : List Ed) (q : List Jb) : canon ltS (readyQ es q) = readyQ es q := canon_self readyQ_up
theorem RdNil {w w' : World} (hb : Below w.heap.size w w') : RdIs 1 ([] : List Str).length (svs []) w (.returned (.slice none 0 0)) w' := ⟨none, 0, rfl, Nat.le_refl _, Rd.none_, hb⟩
set_option maxRecDepth 100000 in
set_option maxHeartbeats 16000000 in
theorem Waits20_any (An Ae : Option Addr) (nn cn ce : Nat) (es : List Ed) (A : Option Addr) (c : Nat) (q : List Jb) (u : Str) (w : World) (hr : Rd w w.heap.size 3 Ae es.length (edsC es)) (hq : Rd w w.heap.size 4 A q.length (jbsC q)) (hl : es.length ≤ 1000000) (hlq : q.length ≤ 100000) (hok : OkJs q) :
    Calls Tryz.prog 25 #[gV An nn cn Ae es.length ce, .slice A q.length c, sv u] w (RdIs 1 (waitsQ es q u).length (svs (waitsQ es q u)) w) := by
  obtain ⟨i0, hi, hz0, hz1, hz2⟩ := info_parts infoS
  have Hr := Lib.hid hr
  have HQ := Lib.hid hq
  have HOk := Lib.hid hok
  clear hr hq hok
  go_enter Tryz.func25, Tryz.ntmps25
  go_wp2_with fail
  first | (refine wp_named ?_; intro W1 hW) | (refine calls_named ?_; intro W1 hW)
  have B1 : Below w.heap.size w W1 := by rw [hW]; exact (by repeat (first | exact Below.refl _ _ | assumption | refine Below.alloc ?_ (by first | omega | (simp <;> omega)) _ | refine Below.setCell ?_ (by first | omega | (simp <;> omega)) _ | refine Below.drew ?_))
  replace Hr := Lib.hid (Hr.out.at B1)
  replace HQ := Lib.hid (HQ.out.at B1)
  have n1 : w.heap.size < W1.heap.size := by rw [hW]; simp <;> omega
  have g0 : W1.cell? ⟨w.heap.size, 0, none⟩ = some (.slice An nn cn) := by rw [hW]; go_simp
  have g1 : W1.cell? ⟨w.heap.size, 1, none⟩ = some (.slice Ae es.length ce) := by rw [hW]; go_simp
  clear hW
  have HB := Lib.hid B1
  clear B1
  refine (at_any A c q u W1 HQ.out (by omega)).mono ?_
  rintro e w2 ⟨r, rfl, hcase, hb⟩
  have HC := Lib.hid hcase
  replace g0 := cellAt g0 hb (by omega)
  replace g1 := cellAt g1 hb (by omega)
  replace Hr := Lib.hid (Hr.out.at hb)
  replace HQ := Lib.hid (HQ.out.at hb)
  replace n1 : w.heap.size < w2.heap.size := ltAt n1 hb
  replace HB := Lib.hid (lift HB.out hb)
  clear hb hcase
  rcases HC.out with ⟨rfl, hnone⟩ | ⟨k, hk, rfl, hfind, _, _⟩
  · have HW := Lib.hid (waitsQ_none (es := es) hnone)
    clear hnone
    go_wp2_with fail
    go_ret
    rw [HW.out]
    exact RdNil HB.out
  · have hneg : decide ((k : Int) < 0) = false := by simp
    have hj : jobOf q u = some q[k] := hfind
    obtain ⟨b, o, hA, hB, y0, y1, y2, y3⟩ := HQ.out.job hk
    subst hA
    generalize q[k] = x at y0 y1 y2 y3 hj
    clear hfind
    obtain ⟨s', t', r', d'⟩ := x
    simp only at y0 y1 y2 y3
    have k1 : (0 : Int) ≤ (k : Int) := by omega
    have k2 : (k : Int) < (q.length : Int) := by omega
    clear HC
    by_cases r1 : r' = 1
    · subst r1
      have HJ := Lib.hid hj
      clear hj
      go_wp2_with fail
      refine (May20_any _ c q w2 HQ.out HOk.out).mono ?_
      rintro e w3 ⟨rfl, hb⟩
      replace g0 := cellAt g0 hb (by omega)
      replace g1 := cellAt g1 hb (by omega)
      replace y0 := cellAt y0 hb (by omega)
      replace y1 := cellAt y1 hb (by omega)
      replace y2 := cellAt y2 hb (by omega)
      replace y3 := cellAt y3 hb (by omega)
      replace Hr := Lib.hid (Hr.out.at hb)
      replace HQ := Lib.hid (HQ.out.at hb)
      replace n1 : w.heap.size < w3.heap.size := ltAt n1 hb
      replace HB := Lib.hid (lift HB.out hb)
      replace hB : b < w3.heap.size := ltAt hB hb
      clear hb
      cases hm : mayQ q
      · have HW := Lib.hid (waitsQ_notmay (es := es) (u := u) hm)
        go_wp2_with fail
        go_ret
        rw [HW.out]
        exact RdNil HB.out
      · have HW := Lib.hid (waitsQ_at (es := es) HJ.out hm rfl)
        have HUp := Lib.hid (mayQ_iff.1 hm).2.2
        clear hm
        have hzw : w.heap.size ≤ w3.heap.size := HB.out.size
        go_wp2_with fail
        go_loopw [8, 31] (fun v i wr => ∃ m : Nat, m ≤ q.length ∧ i = .int .i64 m ∧ wr.ownsRow w3.heap.size 9 1 v (waitsJ es (q.take m) (s', t', 1, d')).length (svs (waitsJ es (q.take m) (s', t', 1, d'))) ∧ Below w3.heap.size w3 wr) (fun _ i _ => q.length - (intOf i).toNat)
        case atStart => exact ⟨0, Nat.zero_le _, rfl, World.ownsRow_nil _ _ _ _, Below.refl _ _⟩
        case round =>
          obtain ⟨m, hm, rfl, hown, hb⟩ := hrel
          have HOut := Lib.hid hown
          have Hb := Lib.hid hb
          clear hown
          replace g0 := cellAt g0 hb (by omega)
          replace g1 := cellAt g1 hb (by omega)
          replace y0 := cellAt y0 hb (by omega)
          replace y1 := cellAt y1 hb (by omega)
          replace y2 := cellAt y2 hb (by omega)
          replace y3 := cellAt y3 hb (by omega)
          replace Hr := Lib.hid (Hr.out.at hb)
          replace HQ := Lib.hid (HQ.out.at hb)
          replace n1 : w.heap.size < wr.heap.size := ltAt n1 hb
          replace HB := Lib.hid (lift HB.out hb)
          replace hB : b < wr.heap.size := ltAt hB hb
          clear hb
          by_cases hlt : m < q.length
          · obtain ⟨b2, o2, hA, hB2, x0, x1, x2, x3⟩ := HQ.out.job hlt
            injection hA with hA
            injection hA with hA1 hA2
            subst hA1 hA2
            have hsucc := waitsJ_succ (es := es) (j := (s', t', 1, d')) hlt
            have hln := waitsJ_len es q (s', t', 1, d') m
            generalize q[m] = x at x0 x1 x2 x3 hsucc
            obtain ⟨s, t, r, d⟩ := x
            simp only at x0 x1 x2 x3 hsucc
            have HS := Lib.hid hsucc
            clear hsucc
            have m1 : (0 : Int) ≤ (m : Int) := by omega
            have m2 : (m : Int) < (q.length : Int) := by omega
            go_wp2_with fail
            first | (refine wp_named ?_; intro W2 hW) | (refine calls_named ?_; intro W2 hW)
            have B2 : Below wr.heap.size wr W2 := by rw [hW]; exact (by repeat (first | exact Below.refl _ _ | assumption | refine Below.alloc ?_ (by first | omega | (simp <;> omega)) _ | refine Below.setCell ?_ (by first | omega | (simp <;> omega)) _ | refine Below.drew ?_))
            replace g0 := cellAt g0 B2 (by omega)
            replace g1 := cellAt g1 B2 (by omega)
            replace y0 := cellAt y0 B2 (by omega)
            replace y1 := cellAt y1 B2 (by omega)
            replace y2 := cellAt y2 B2 (by omega)
            replace y3 := cellAt y3 B2 (by omega)
            replace Hr := Lib.hid (Hr.out.at B2)
            replace HQ := Lib.hid (HQ.out.at B2)
            replace n1 : w.heap.size < W2.heap.size := ltAt n1 B2
            replace HB := Lib.hid (lift HB.out B2)
            replace hB : b < W2.heap.size := ltAt hB B2
            replace HOut := Lib.hid (own_on HOut.out B2)
            replace Hb := Lib.hid (lift Hb.out B2)
            have p1 : wr.heap.size < W2.heap.size := by rw [hW]; simp <;> omega
            have e0 : W2.cell? ⟨wr.heap.size, 0, none⟩ = some (sv s) := by rw [hW]; go_simp
            have e1 : W2.cell? ⟨wr.heap.size, 1, none⟩ = some (.int .i64 t) := by rw [hW]; go_simp
            have e2 : W2.cell? ⟨wr.heap.size, 2, none⟩ = some (.int .i64 r) := by rw [hW]; go_simp
            have e3 : W2.cell? ⟨wr.heap.size, 3, none⟩ = some (.int .i64 d) := by rw [hW]; go_simp
            clear hW
            clear B2
            try go_wp2_with fail
            refine wp_region_held_drew (S := fun w' => Below W2.heap.size W2 w') (by kernel_rfl) (Below.drew (Below.refl _ _)) (fun hHeld => ?_)
            refine tY (i := 0) (v := ?_) rfl ?_ hHeld ?_; rotate_left 1; focus (intro w' hSw; have hCell := fun (b o : Nat) (h : b < W2.heap.size) => hSw.cell (p := ⟨b, o, none⟩) h; clear hSw; go_simp; try with_reducible rfl)
            (try simp only [Act.put, zn1, zn2, zn3])
            refine tY (i := 1) (v := ?_) rfl ?_ hHeld ?_; rotate_left 1; focus (intro w' hSw; have hCell := fun (b o : Nat) (h : b < W2.heap.size) => hSw.cell (p := ⟨b, o, none⟩) h; clear hSw; go_simp; try with_reducible rfl)
            (try simp only [Act.put, zn1, zn2, zn3])
            refine tY (i := 2) (v := ?_) rfl ?_ hHeld ?_; rotate_left 1; focus (intro w' hSw; clear hSw; go_simp; try with_reducible rfl)
            (try simp only [Act.put, zn1, zn2, zn3])
            refine tY (i := 3) (v := ?_) rfl ?_ hHeld ?_; rotate_left 1; focus (intro w' hSw; clear hSw; go_simp; try with_reducible rfl)
            (try simp only [Act.put, zn1, zn2, zn3])
            refine tY (i := 4) (v := ?_) rfl ?_ hHeld ?_; rotate_left 1; focus (intro w' hSw; clear hSw; go_simp; try with_reducible rfl)
            (try simp only [Act.put, zn1, zn2, zn3])
            refine tY (i := 5) (v := ?_) rfl ?_ hHeld ?_; rotate_left 1; focus (intro w' hSw; have hCell := fun (b o : Nat) (h : b < W2.heap.size) => hSw.cell (p := ⟨b, o, none⟩) h; clear hSw; go_simp; try with_reducible rfl)
            (try simp only [Act.put, zn1, zn2, zn3])
            refine ready_one (i := 6) rfl (by kernel_rfl) (fun K hK => ?_)
            go_simp
            refine (ahead20_any An Ae nn cn ce es s s' t r d t' 1 d' _ (Hr.out.at hHeld) hl rfl).mono ?_
            rintro e v3 ⟨rfl, hb⟩
            refine hK.out _ _ ?_ (fun hHeld2 => ?_)
            · (try dsimp only); first | exact Below.trans hHeld (Below.mono hb hHeld.size) | exact hHeld | exact Below.drew hHeld | exact (by repeat (first | exact Below.refl _ _ | assumption | refine Below.alloc ?_ (by first | omega | (simp <;> omega)) _ | refine Below.setCell ?_ (by first | omega | (simp <;> omega)) _ | refine Below.drew ?_))
            clear hK K hHeld; have hHeld := hHeld2; clear hHeld2; (try simp only [Act.put, zn1, zn2, zn3])
            refine wpAnyH_done (by kernel_rfl) ?_ _
            replace g0 := cellAt g0 hHeld (by omega)
            replace g1 := cellAt g1 hHeld (by omega)
            replace y0 := cellAt y0 hHeld (by omega)
            replace y1 := cellAt y1 hHeld (by omega)
            replace y2 := cellAt y2 hHeld (by omega)
            replace y3 := cellAt y3 hHeld (by omega)
            replace e0 := cellAt e0 hHeld (by omega)
            replace e1 := cellAt e1 hHeld (by omega)
            replace e2 := cellAt e2 hHeld (by omega)
            replace e3 := cellAt e3 hHeld (by omega)
            replace Hr := Lib.hid (Hr.out.at hHeld)
            replace HQ := Lib.hid (HQ.out.at hHeld)
            replace n1 : w.heap.size < v3.heap.size := ltAt n1 hHeld
            replace HB := Lib.hid (lift HB.out hHeld)
            replace hB : b < v3.heap.size := ltAt hB hHeld
            replace HOut := Lib.hid (own_on HOut.out hHeld)
            replace Hb := Lib.hid (lift Hb.out hHeld)
            replace p1 : wr.heap.size < v3.heap.size := ltAt p1 hHeld
            clear hHeld
            have hzb : w3.heap.size ≤ v3.heap.size := Hb.out.size
            cases hah : aheadJ es (s, t, r, d) (s', t', 1, d')
            · have HS2 := Lib.hid (show waitsJ es (q.take (m + 1)) (s', t', 1, d') = waitsJ es (q.take m) (s', t', 1, d') by rw [HS.out, hah]; simp)
              go_wp2_with fail
              go_roundw
              case rel => exact ⟨m + 1, by omega, by go_num, by rw [HS2.out]; exact HOut.out, Hb.out⟩
              case measure => simp [intOf]; omega
            · have HS2 := Lib.hid (show waitsJ es (q.take (m + 1)) (s', t', 1, d') = waitsJ es (q.take m) (s', t', 1, d') ++ [s] by rw [HS.out, hah]; simp)
              have h63 : (waitsJ es (q.take m) (s', t', 1, d')).length + 1 ≤ maxLen := by unfold maxLen; omega
              have hby : ((waitsJ es (q.take m) (s', t', 1, d')).length + 1) * 16 ≤ 140737488355328 := by omega
              go_wp2_with (first | (at_builtin; refine wpList_pushm w3 v3 (by rfl) (.tmp 42) (.tmp 45) 37 (by rfl) w3.heap.size 9 i0 _ 1 16 Tryz.underlying37 hi hz0 hz1 hz2 rfl (by decide) _ _ _ (by rfl) HOut.out [sv s] v3.heap.size rfl (by rfl) rfl (one_sv s) h63 hby hzb Hb.out ?_; intro A8 c8 w4 hown4 hbel4 hg4 hat4) | fail)
              go_roundw
              case rel => exact ⟨m + 1, by omega, by go_num, by rw [HS2.out]; simpa [svs] using hown4, hbel4⟩
              case measure => simp [intOf]; omega
          · have hmq : m = q.length := by omega
            have ho := HOut.out
            rw [hmq, List.take_length] at ho
            obtain ⟨A9, c9, rfl, _⟩ := own_rd ho
            have HO2 := Lib.hid (own_rd' (show wr.ownsRow w3.heap.size 9 1 (.slice A9 (waitsJ es q (s', t', 1, d')).length c9) _ _ from ho))
            have hcan := waitsJ_canon HUp.out (es := es) (j := (s', t', 1, d'))
            have hln := waitsJ_len' es q (s', t', 1, d')
            have HCn := Lib.hid hcan
            clear ho hcan
            go_wp2_with fail
            refine (rising_any A9 c9 (waitsJ es q (s', t', 1, d')) wr HO2.out (by omega)).mono ?_
            rw [HCn.out]
            rintro e v9 ⟨A7, c7, rfl, hc7, hr7, hb⟩
            have HR7 := Lib.hid hr7
            replace g0 := cellAt g0 hb (by omega)
            replace g1 := cellAt g1 hb (by omega)
            replace y0 := cellAt y0 hb (by omega)
            replace y1 := cellAt y1 hb (by omega)
            replace y2 := cellAt y2 hb (by omega)
            replace y3 := cellAt y3 hb (by omega)
            replace Hr := Lib.hid (Hr.out.at hb)
            replace HQ := Lib.hid (HQ.out.at hb)
            replace n1 : w.heap.size < v9.heap.size := ltAt n1 hb
            replace HB := Lib.hid (lift HB.out hb)
            replace hB : b < v9.heap.size := ltAt hB hb
            replace HOut := Lib.hid (own_on HOut.out hb)
            replace Hb := Lib.hid (lift Hb.out hb)
            clear hb
            go_wp2_with fail
            go_ret
            rw [HW.out]
            exact ⟨A7, c7, rfl, hc7, HR7.out, HB.out⟩
    · have HW := Lib.hid (waitsQ_other (es := es) hj r1)
      have rb : (r' == 1) = false := by simpa using r1
      clear hj
      go_wp2_with fail
      go_ret
      rw [HW.out]
      exact RdNil HB.out
set_option maxRecDepth 100000 in
set_option maxHeartbeats 16000000 in
theorem Ready20_any (An Ae : Option Addr) (nn cn ce : Nat) (es : List Ed) (A : Option Addr) (c : Nat) (q : List Jb) (w : World) (hr : Rd w w.heap.size 3 Ae es.length (edsC es)) (hq : Rd w w.heap.size 4 A q.length (jbsC q)) (hl : es.length ≤ 1000000) (hlq : q.length ≤ 100000) (hok : OkJs q) :
    Calls Tryz.prog 27 #[gV An nn cn Ae es.length ce, .slice A q.length c] w (RdIs 1 (readyQ es q).length (svs (readyQ es q)) w) := by
  obtain ⟨i0, hi, hz0, hz1, hz2⟩ := info_parts infoS
  have Hr := Lib.hid hr
  have HQ := Lib.hid hq
  have HOk := Lib.hid hok
  clear hr hq hok
  go_enter Tryz.func27, Tryz.ntmps27
  go_wp2_with fail
  first | (refine wp_named ?_; intro W1 hW) | (refine calls_named ?_; intro W1 hW)
  have B1 : Below w.heap.size w W1 := by rw [hW]; exact (by repeat (first | exact Below.refl _ _ | assumption | refine Below.alloc ?_ (by first | omega | (simp <;> omega)) _ | refine Below.setCell ?_ (by first | omega | (simp <;> omega)) _ | refine Below.drew ?_))
  replace Hr := Lib.hid (Hr.out.at B1)
  replace HQ := Lib.hid (HQ.out.at B1)
  have n1 : w.heap.size < W1.heap.size := by rw [hW]; simp <;> omega
  have g0 : W1.cell? ⟨w.heap.size, 0, none⟩ = some (.slice An nn cn) := by rw [hW]; go_simp
  have g1 : W1.cell? ⟨w.heap.size, 1, none⟩ = some (.slice Ae es.length ce) := by rw [hW]; go_simp
  clear hW
  have HB := Lib.hid B1
  clear B1
  refine (May20_any A c q W1 HQ.out HOk.out).mono ?_
  rintro e w3 ⟨rfl, hb⟩
  replace g0 := cellAt g0 hb (by omega)
  replace g1 := cellAt g1 hb (by omega)
  replace Hr := Lib.hid (Hr.out.at hb)
  replace HQ := Lib.hid (HQ.out.at hb)
  replace n1 : w.heap.size < w3.heap.size := ltAt n1 hb
  replace HB := Lib.hid (lift HB.out hb)
  clear hb
  cases hm : mayQ q
  · have HW := Lib.hid (show readyQ es q = [] by unfold readyQ; rw [hm]; simp)
    go_wp2_with fail
    go_ret
    rw [HW.out]
    exact RdNil HB.out
  · have HM := Lib.hid hm
    clear hm
    have hzw : w.heap.size ≤ w3.heap.size := HB.out.size
    go_wp2_with fail
    go_loopw [5, 13] (fun v i wr => ∃ m : Nat, m ≤ q.length ∧ i = .int .i64 m ∧ wr.ownsRow w3.heap.size 9 1 v (readyL es q m).length (svs (readyL es q m)) ∧ Below w3.heap.size w3 wr) (fun _ i _ => q.length - (intOf i).toNat)
    case atStart => exact ⟨0, Nat.zero_le _, rfl, World.ownsRow_nil _ _ _ _, Below.refl _ _⟩
    case round =>
      obtain ⟨m, hm, rfl, hown, hb⟩ := hrel
      have HOut := Lib.hid hown
      have Hb := Lib.hid hb
      clear hown
      replace g0 := cellAt g0 hb (by omega)
      replace g1 := cellAt g1 hb (by omega)
      replace Hr := Lib.hid (Hr.out.at hb)
      replace HQ := Lib.hid (HQ.out.at hb)
      replace n1 : w.heap.size < wr.heap.size := ltAt n1 hb
      replace HB := Lib.hid (lift HB.out hb)
      clear hb
      by_cases hlt : m < q.length
      · obtain ⟨b2, o2, hA, hB2, x0, x1, x2, x3⟩ := HQ.out.job hlt
        subst hA
        have hsucc := readyL_succ (es := es) hlt
        have hln := readyL_len es q m
        generalize q[m] = x at x0 x1 x2 x3 hsucc
        obtain ⟨s, t, r, d⟩ := x
        simp only at x0 x1 x2 x3 hsucc
        have hrb : readyB es q (s, t, r, d) = (r == 1 && (waitsQ es q s).isEmpty) := rfl
        rw [hrb] at hsucc
        have m1 : (0 : Int) ≤ (m : Int) := by omega
        have m2 : (m : Int) < (q.length : Int) := by omega
        by_cases r1 : r = 1
        · subst r1
          have HS := Lib.hid hsucc
          clear hsucc hrb
          go_wp2_with fail
          first | (refine wp_named ?_; intro W2 hW) | (refine calls_named ?_; intro W2 hW)
          have B2 : Below wr.heap.size wr W2 := by rw [hW]; exact (by repeat (first | exact Below.refl _ _ | assumption | refine Below.alloc ?_ (by first | omega | (simp <;> omega)) _ | refine Below.setCell ?_ (by first | omega | (simp <;> omega)) _ | refine Below.drew ?_))
          replace g0 := cellAt g0 B2 (by omega)
          replace g1 := cellAt g1 B2 (by omega)
          replace Hr := Lib.hid (Hr.out.at B2)
          replace HQ := Lib.hid (HQ.out.at B2)
          replace n1 : w.heap.size < W2.heap.size := ltAt n1 B2
          replace HB := Lib.hid (lift HB.out B2)
          replace HOut := Lib.hid (own_on HOut.out B2)
          replace Hb := Lib.hid (lift Hb.out B2)
          have p1 : wr.heap.size < W2.heap.size := by rw [hW]; simp <;> omega
          have e0 : W2.cell? ⟨wr.heap.size, 0, none⟩ = some (sv s) := by rw [hW]; go_simp
          have e1 : W2.cell? ⟨wr.heap.size, 1, none⟩ = some (.int .i64 t) := by rw [hW]; go_simp
          have e2 : W2.cell? ⟨wr.heap.size, 2, none⟩ = some (.int .i64 1) := by rw [hW]; go_simp
          have e3 : W2.cell? ⟨wr.heap.size, 3, none⟩ = some (.int .i64 d) := by rw [hW]; go_simp
          clear hW
          clear B2
          go_wp2_with fail
          refine (Waits20_any An Ae nn cn ce es _ c q s W2 Hr.out HQ.out hl hlq HOk.out).mono ?_
          rintro e v3 ⟨A5, c5, rfl, _, _, hb⟩
          replace g0 := cellAt g0 hb (by omega)
          replace g1 := cellAt g1 hb (by omega)
          replace e0 := cellAt e0 hb (by omega)
          replace e1 := cellAt e1 hb (by omega)
          replace e2 := cellAt e2 hb (by omega)
          replace e3 := cellAt e3 hb (by omega)
          replace Hr := Lib.hid (Hr.out.at hb)
          replace HQ := Lib.hid (HQ.out.at hb)
          replace n1 : w.heap.size < v3.heap.size := ltAt n1 hb
          replace HB := Lib.hid (lift HB.out hb)
          replace HOut := Lib.hid (own_on HOut.out hb)
          replace Hb := Lib.hid (lift Hb.out hb)
          replace p1 : wr.heap.size < v3.heap.size := ltAt p1 hb
          clear hb
          have hzb : w3.heap.size ≤ v3.heap.size := Hb.out.size
          cases hW : waitsQ es q s with
          | nil =>
            have HS2 := Lib.hid (show readyL es q (m + 1) = readyL es q m ++ [s] by rw [HS.out, hW]; simp)
            have h63 : (readyL es q m).length + 1 ≤ maxLen := by unfold maxLen; omega
            have hby : ((readyL es q m).length + 1) * 16 ≤ 140737488355328 := by omega
            go_wp2_with (first | (at_builtin; refine wpList_pushm w3 v3 (by rfl) (.tmp 29) (.tmp 32) 37 (by rfl) w3.heap.size 9 i0 _ 1 16 Tryz.underlying37 hi hz0 hz1 hz2 rfl (by decide) _ _ _ (by rfl) HOut.out [sv s] v3.heap.size rfl (by rfl) rfl (one_sv s) h63 hby hzb Hb.out ?_; intro A8 c8 w4 hown4 hbel4 hg4 hat4) | fail)
            go_roundw
            case rel => exact ⟨m + 1, by omega, by go_num, by rw [HS2.out]; simpa [svs] using hown4, hbel4⟩
            case measure => simp [intOf]; omega
          | cons z zs =>
            have HS2 := Lib.hid (show readyL es q (m + 1) = readyL es q m by rw [HS.out, hW]; simp)
            have hne : ((((z :: zs).length : Nat) : Int) == 0) = false := by simp; omega
            go_wp2_with fail
            go_roundw
            case rel => exact ⟨m + 1, by omega, by go_num, by rw [HS2.out]; exact HOut.out, Hb.out⟩
            case measure => simp [intOf]; omega
        · have rb : (r == 1) = false := by simpa using r1
          rw [rb] at hsucc
          have HS2 := Lib.hid (show readyL es q (m + 1) = readyL es q m by rw [hsucc]; simp)
          clear hsucc hrb r1
          go_wp2_with fail
          go_roundw
          case rel => exact ⟨m + 1, by omega, by go_num, by rw [HS2.out]; exact HOut.out.alloc _, Hb.out.alloc Hb.out.size _⟩
          case measure => simp [intOf]; omega
      · have hmq : m = q.length := by omega
        have ho := HOut.out
        rw [hmq, readyL_all HM.out] at ho
        obtain ⟨A9, c9, rfl, _⟩ := own_rd ho
        have HO2 := Lib.hid (own_rd' ho)
        have HCn := Lib.hid (readyQ_canon es q)
        have hln := readyQ_len es q
        clear ho
        go_wp2_with fail
        refine (rising_any A9 c9 (readyQ es q) wr HO2.out (by omega)).mono ?_
        rw [HCn.out]
        rintro e v9 ⟨A7, c7, rfl, hc7, hr7, hb⟩
        have HR7 := Lib.hid hr7
        replace g0 := cellAt g0 hb (by omega)
        replace g1 := cellAt g1 hb (by omega)
        replace Hr := Lib.hid (Hr.out.at hb)
        replace HQ := Lib.hid (HQ.out.at hb)
        replace n1 : w.heap.size < v9.heap.size := ltAt n1 hb
        replace HB := Lib.hid (lift HB.out hb)
        replace HOut := Lib.hid (own_on HOut.out hb)
        replace Hb := Lib.hid (lift Hb.out hb)
        clear hb
        go_wp2_with fail
        go_ret
        exact ⟨A7, c7, rfl, hc7, HR7.out, HB.out⟩
end Od
end Go.Proofs.YtanfnejbnmenkaaGreat
end

section
/- The walks of matinsref20.Begin and matinsref20.Finish. (bel2) -/
namespace Go.Proofs.YtanfnejbnmenkaaGreat
open Go.RowKit Go.Sort
set_option linter.unusedSimpArgs false

namespace Od
theorem JobsRet.own {x : List Jb} {w w' : World} {base c : Nat} {A : Option Addr} (h : w'.ownsRow base 50 4 (.slice A x.length c) x.length (jbsC x)) (hb : Below w.heap.size w w') : JobsRet (some x) w (.returned (.tuple #[.slice A x.length c, .bool true])) w' := .yes rfl h hb
set_option maxRecDepth 100000 in
set_option maxHeartbeats 8000000 in
theorem Begin20_any (An Ae : Option Addr) (nn cn ce : Nat) (es : List Ed) (A : Option Addr) (c : Nat) (q : List Jb) (u : Str) (w : World) (hr : Rd w w.heap.size 3 Ae es.length (edsC es)) (hq : QIn w A c q) (hl : es.length ≤ 100000) (hlq : q.length ≤ 100000) :
    Calls Tryz.prog 29 #[gV An nn cn Ae es.length ce, .slice A q.length c, sv u] w (JobsRet (beginQ es q u) w) := by
  have Hr := Lib.hid hr
  have HQ := Lib.hid hq
  clear hr hq
  go_enter Tryz.func29, Tryz.ntmps29
  go_wp2_with fail
  first | (refine wp_named ?_; intro W1 hW) | (refine calls_named ?_; intro W1 hW)
  have B1 : Below w.heap.size w W1 := by rw [hW]; exact (by repeat (first | exact Below.refl _ _ | assumption | refine Below.alloc ?_ (by first | omega | (simp <;> omega)) _ | refine Below.setCell ?_ (by first | omega | (simp <;> omega)) _ | refine Below.drew ?_))
  replace Hr := Lib.hid (Hr.out.at B1)
  replace HQ := Lib.hid (HQ.out.at B1)
  have n1 : w.heap.size < W1.heap.size := by rw [hW]; simp <;> omega
  have g0 : W1.cell? ⟨w.heap.size, 0, none⟩ = some (.slice An nn cn) := by rw [hW]; go_simp
  have g1 : W1.cell? ⟨w.heap.size, 1, none⟩ = some (.slice Ae es.length ce) := by rw [hW]; go_simp
  clear hW
  have HB := Lib.hid B1
  clear B1
  refine (May20_any A c q W1 HQ.out.rq HQ.out.ok).mono ?_
  rintro e w2 ⟨rfl, hb⟩
  replace g0 := cellAt g0 hb (by omega)
  replace g1 := cellAt g1 hb (by omega)
  replace Hr := Lib.hid (Hr.out.at hb)
  replace HQ := Lib.hid (HQ.out.at hb)
  replace n1 : w.heap.size < w2.heap.size := ltAt n1 hb
  replace HB := Lib.hid (lift HB.out hb)
  clear hb
  cases hm : mayQ q
  · have HBQ := Lib.hid (show beginQ es q u = none by unfold beginQ; rw [if_neg (fun hu => by have := readyQ_may hu; rw [hm] at this; cases this)])
    clear hm
    go_wp2_with fail
    go_ret2
    rw [HBQ.out]
    exact JobsRet.no HB.out
  · have HM := Lib.hid hm
    clear hm
    go_wp2_with fail
    refine (Ready20_any An Ae nn cn ce es A c q w2 Hr.out HQ.out.rq (by omega) hlq HQ.out.ok).mono ?_
    rintro e w3 ⟨A3, c3, rfl, _, hr3, hb⟩
    have HR3 := Lib.hid hr3
    replace g0 := cellAt g0 hb (by omega)
    replace g1 := cellAt g1 hb (by omega)
    replace Hr := Lib.hid (Hr.out.at hb)
    replace HQ := Lib.hid (HQ.out.at hb)
    replace n1 : w.heap.size < w3.heap.size := ltAt n1 hb
    replace HB := Lib.hid (lift HB.out hb)
    clear hb hr3
    have hrl := readyQ_len es q
    go_wp2_with fail
    refine (HasS_any A3 c3 (readyQ es q) u w3 HR3.out (by omega)).mono ?_
    rintro e w4 ⟨rfl, rfl⟩
    cases hu : hasB (readyQ es q) u
    · have HBQ := Lib.hid (show beginQ es q u = none by unfold beginQ; rw [if_neg (fun h => by rw [(hasB_iff _ _).2 h] at hu; cases hu)])
      clear hu
      go_wp2_with fail
      go_ret2
      rw [HBQ.out]
      exact JobsRet.no HB.out
    · have hu' := (hasB_iff _ _).1 hu
      obtain ⟨j0, hj0, hj1, hj2, _⟩ := (mem_readyQ HM.out).1 hu'
      have HBQ := Lib.hid (show beginQ es q u = some (updJ q u (begun es q)) by unfold beginQ; rw [if_pos hu'])
      have HJ0 := Lib.hid (And.intro hj0 hj1)
      clear hu hu' hj0 hj1 hj2
      go_wp2_with fail
      refine (at_any A c q u w3 HQ.out.rq (by omega)).mono ?_
      rintro e w6 ⟨r, rfl, hcase, hb⟩
      replace g0 := cellAt g0 hb (by omega)
      replace g1 := cellAt g1 hb (by omega)
      replace Hr := Lib.hid (Hr.out.at hb)
      replace HQ := Lib.hid (HQ.out.at hb)
      replace n1 : w.heap.size < w6.heap.size := ltAt n1 hb
      replace HB := Lib.hid (lift HB.out hb)
      clear hb
      rcases hcase with ⟨rfl, hnone⟩ | ⟨k, hk, rfl, hfind, hpk, _⟩
      · exact absurd (List.find?_eq_none.1 hnone _ HJ0.out.1) (by simp [HJ0.out.2])
      · obtain ⟨b2, o2, hA, hB2, y0, y1, y2, y3⟩ := HQ.out.rq.job hk
        subst hA
        have hku : q[k].1 = u := by simpa using hpk
        have hset : ∀ x : Jb, begun es q q[k] = x → q.set k x = updJ q u (begun es q) := fun x hx => set_updf (mayQ.dq HM.out) hk hku hx
        generalize hx : q[k] = x at y0 y1 y2 y3 hku hset
        obtain ⟨s, t, r, d⟩ := x
        simp only at y0 y1 y2 y3 hku
        subst hku
        have HSet := Lib.hid hset
        have k1 : (0 : Int) ≤ (k : Int) := by omega
        have k2 : (k : Int) < (q.length : Int) := by omega
        clear hset hfind hpk hx
        by_cases ht : t = 1
        · subst ht
          have HQ6' := HQ
          have HB6' := HB
          go_wp2_with fail
          first | (refine wp_named ?_; intro W7 hW) | (refine calls_named ?_; intro W7 hW)
          have B7 : Below w6.heap.size w6 W7 := by rw [hW]; exact (by repeat (first | exact Below.refl _ _ | assumption | refine Below.alloc ?_ (by first | omega | (simp <;> omega)) _ | refine Below.setCell ?_ (by first | omega | (simp <;> omega)) _ | refine Below.drew ?_))
          replace g0 := cellAt g0 B7 (by omega)
          replace g1 := cellAt g1 B7 (by omega)
          replace Hr := Lib.hid (Hr.out.at B7)
          replace HQ := Lib.hid (HQ.out.at B7)
          replace n1 : w.heap.size < W7.heap.size := ltAt n1 B7
          replace HB := Lib.hid (lift HB.out B7)
          have p1 : w6.heap.size < W7.heap.size := by rw [hW]; simp <;> omega
          have e0 : W7.cell? ⟨w6.heap.size, 0, none⟩ = some (sv s) := by rw [hW]; go_simp
          have e1 : W7.cell? ⟨w6.heap.size, 1, none⟩ = some (.int .i64 1) := by rw [hW]; go_simp
          have e2 : W7.cell? ⟨w6.heap.size, 2, none⟩ = some (.int .i64 2) := by rw [hW]; go_simp
          have e3 : W7.cell? ⟨w6.heap.size, 3, none⟩ = some (.int .i64 d) := by rw [hW]; go_simp
          have f0 : W7.frozen? ⟨w6.heap.size, 0, none⟩ = false := by rw [hW]; go_simp
          have f1 : W7.frozen? ⟨w6.heap.size, 1, none⟩ = false := by rw [hW]; go_simp
          have f2 : W7.frozen? ⟨w6.heap.size, 2, none⟩ = false := by rw [hW]; go_simp
          have f3 : W7.frozen? ⟨w6.heap.size, 3, none⟩ = false := by rw [hW]; go_simp
          clear hW
          clear y0 y1 y2 y3 hB2
          have HQ6 := HQ6'
          have HB6 := HB6'
          refine (lost_any An Ae nn cn ce es _ c q s W7 Hr.out HQ.out.rq hl (by omega)).mono ?_
          rintro e w8 ⟨rfl, hb⟩
          have hb68 := lift B7 hb
          replace g0 := cellAt g0 hb (by omega)
          replace g1 := cellAt g1 hb (by omega)
          replace e0 := cellAt e0 hb (by omega)
          replace e1 := cellAt e1 hb (by omega)
          replace e2 := cellAt e2 hb (by omega)
          replace e3 := cellAt e3 hb (by omega)
          replace f0 := froAt f0 hb (by omega)
          replace f1 := froAt f1 hb (by omega)
          replace f2 := froAt f2 hb (by omega)
          replace f3 := froAt f3 hb (by omega)
          replace Hr := Lib.hid (Hr.out.at hb)
          replace HQ := Lib.hid (HQ.out.at hb)
          replace n1 : w.heap.size < w8.heap.size := ltAt n1 hb
          replace HB := Lib.hid (lift HB.out hb)
          replace p1 : w6.heap.size < w8.heap.size := ltAt p1 hb
          clear hb
          have hll := lacks_lost (es := es) (mayQ.dq HM.out) s
          cases hlk : q.any (lostJ es s)
          · have HFin := Lib.hid (HSet.out (s, 1, 2, d) (by unfold begun; simp [hll, hlk]))
            clear hll
            go_wp2_with fail
            refine (with_any _ c q k s 1 2 d w8 HQ.out.rq hk (by omega)).mono ?_
            rintro e w9 ⟨A9, c9, rfl, ho9, hb⟩
            have HO9 := Lib.hid ho9
            replace g0 := cellAt g0 hb (by omega)
            replace g1 := cellAt g1 hb (by omega)
            replace e0 := cellAt e0 hb (by omega)
            replace e1 := cellAt e1 hb (by omega)
            replace e2 := cellAt e2 hb (by omega)
            replace e3 := cellAt e3 hb (by omega)
            replace f0 := froAt f0 hb (by omega)
            replace f1 := froAt f1 hb (by omega)
            replace f2 := froAt f2 hb (by omega)
            replace f3 := froAt f3 hb (by omega)
            replace Hr := Lib.hid (Hr.out.at hb)
            replace HQ := Lib.hid (HQ.out.at hb)
            replace n1 : w.heap.size < w9.heap.size := ltAt n1 hb
            replace HB := Lib.hid (lift HB.out hb)
            replace p1 : w6.heap.size < w9.heap.size := ltAt p1 hb
            clear hb ho9
            go_wp2_with fail
            go_ret2
            rw [HBQ.out, ← HFin.out]
            exact JobsRet.yes (by simp) (by have h := HO9.out; simp only [List.length_set] at h; exact h) HB.out
          · have HFin := Lib.hid (HSet.out (s, 1, 3, 3) (by unfold begun; simp [hll, hlk]))
            clear hll
            go_wp2_with fail
            refine calls_named ?_
            intro W10 hW10
            have hb10 : Below w6.heap.size w6 W10 := by rw [hW10]; exact (hb68.setCell (Nat.le_refl _) _).setCell (Nat.le_refl _) _
            have HQ := Lib.hid (HQ6.out.at hb10)
            have HB := Lib.hid (lift HB6.out hb10)
            clear hW10
            refine (with_any _ c q k s 1 3 3 W10 HQ.out.rq hk (by omega)).mono ?_
            rintro e w9 ⟨A9, c9, rfl, ho9, hb⟩
            have HO9 := Lib.hid ho9
            replace HQ := Lib.hid (HQ.out.at hb)
            replace HB := Lib.hid (lift HB.out hb)
            clear hb ho9
            go_wp2_with fail
            go_ret2
            rw [HBQ.out, ← HFin.out]
            exact JobsRet.yes (by simp) (by have h := HO9.out; simp only [List.length_set] at h; exact h) HB.out
        · have htb : (t == 1) = false := by simpa using ht
          have HFin := Lib.hid (HSet.out (s, t, 2, d) (by unfold begun; simp [htb]))
          go_wp2_with fail
          first | (refine wp_named ?_; intro W7 hW) | (refine calls_named ?_; intro W7 hW)
          have B7 : Below w6.heap.size w6 W7 := by rw [hW]; exact (by repeat (first | exact Below.refl _ _ | assumption | refine Below.alloc ?_ (by first | omega | (simp <;> omega)) _ | refine Below.setCell ?_ (by first | omega | (simp <;> omega)) _ | refine Below.drew ?_))
          replace g0 := cellAt g0 B7 (by omega)
          replace g1 := cellAt g1 B7 (by omega)
          replace Hr := Lib.hid (Hr.out.at B7)
          replace HQ := Lib.hid (HQ.out.at B7)
          replace n1 : w.heap.size < W7.heap.size := ltAt n1 B7
          replace HB := Lib.hid (lift HB.out B7)
          clear hW
          refine (with_any _ c q k s t 2 d W7 HQ.out.rq hk (by omega)).mono ?_
          rintro e w9 ⟨A9, c9, rfl, ho9, hb⟩
          have HO9 := Lib.hid ho9
          replace g0 := cellAt g0 hb (by omega)
          replace g1 := cellAt g1 hb (by omega)
          replace Hr := Lib.hid (Hr.out.at hb)
          replace HQ := Lib.hid (HQ.out.at hb)
          replace n1 : w.heap.size < w9.heap.size := ltAt n1 hb
          replace HB := Lib.hid (lift HB.out hb)
          clear hb ho9
          go_wp2_with fail
          go_ret2
          rw [HBQ.out, ← HFin.out]
          exact JobsRet.yes (by simp) (by have h := HO9.out; simp only [List.length_set] at h; exact h) HB.out
end Od
end Go.Proofs.YtanfnejbnmenkaaGreat
end

section
/- The walk of matinsref20.Finish. (bel2) -/
namespace Go.Proofs.YtanfnejbnmenkaaGreat
open Go.RowKit Go.Sort
set_option linter.unusedSimpArgs false

namespace Od
theorem runs_end {s : Str} {t d : Int} (h : mayJ (s, t, 2, d) = true) : d = 0 := by
  unfold mayJ stB at h
  simp at h
  exact h.2.2.2
set_option maxRecDepth 100000 in
set_option maxHeartbeats 8000000 in
theorem Finish20_any (A : Option Addr) (c : Nat) (q : List Jb) (u : Str) (e0 : Int) (w : World) (hq : QIn w A c q) (hlq : q.length ≤ 1000000) :
    Calls Tryz.prog 31 #[.slice A q.length c, sv u, .int .i64 e0] w (JobsRet (finishQ q u e0) w) := by
  have HQ := Lib.hid hq
  clear hq
  go_enter Tryz.func31, Tryz.ntmps31
  go_wp2_with fail
  refine (at_any A c q u w HQ.out.rq hlq).mono ?_
  rintro e w2 ⟨r, rfl, hcase, hb⟩
  have HC := Lib.hid hcase
  have HB := Lib.hid hb
  replace HQ := Lib.hid (HQ.out.at hb)
  clear hb hcase
  go_wp2_with fail
  refine (May20_any A c q w2 HQ.out.rq HQ.out.ok).mono ?_
  rintro e w3 ⟨rfl, hb⟩
  replace HQ := Lib.hid (HQ.out.at hb)
  replace HB := Lib.hid (lift HB.out hb)
  clear hb
  cases hm : mayQ q
  · have HF := Lib.hid (show finishQ q u e0 = none from finish_no (fun j hj => by simp [hm]))
    go_wp2_with fail
    go_ret2
    rw [HF.out]
    exact JobsRet.no HB.out
  · have HM := Lib.hid hm
    clear hm
    by_cases e1 : e0 < 1
    · have eb1 : decide (e0 < 1) = true := by rw [decide_eq_true_eq]; exact e1
      have HF := Lib.hid (show finishQ q u e0 = none from finish_no (fun j hj => by (obtain ⟨s, t, r, d⟩ := j; rw [mayEnd_mk, eb1]; simp)))
      go_wp2_with fail
      go_ret2
      rw [HF.out]
      exact JobsRet.no HB.out
    · have eb1 : decide (e0 < 1) = false := by rw [decide_eq_false_iff_not]; exact e1
      by_cases e4 : 4 < e0
      · have eb4 : decide (4 < e0) = true := by rw [decide_eq_true_eq]; exact e4
        have HF := Lib.hid (show finishQ q u e0 = none from finish_no (fun j hj => by (obtain ⟨s, t, r, d⟩ := j; rw [mayEnd_mk, eb4]; simp)))
        go_wp2_with fail
        go_ret2
        rw [HF.out]
        exact JobsRet.no HB.out
      · have eb4 : decide (4 < e0) = false := by rw [decide_eq_false_iff_not]; exact e4
        rcases HC.out with ⟨rfl, hnone⟩ | ⟨k, hk, rfl, hfind, hpk, _⟩
        · have hj0 : jobOf q u = none := hnone
          have HF := Lib.hid (show finishQ q u e0 = none from finish_no (fun j hj => by (rw [hj0] at hj; cases hj)))
          go_wp2_with fail
          go_ret2
          rw [HF.out]
          exact JobsRet.no HB.out
        · have hneg : decide ((k : Int) < 0) = false := by simp
          have hj0 : jobOf q u = some q[k] := hfind
          have hku : q[k].1 = u := by simpa using hpk
          have hmj : mayJ q[k] = true := (mayQ_iff.1 HM.out).2.1 _ (List.getElem_mem hk)
          have hset : ∀ x : Jb, ended e0 q[k] = x → q.set k x = updJ q u (ended e0) := fun x hx => set_updf (mayQ.dq HM.out) hk hku hx
          obtain ⟨b, o, hA, hB, y0, y1, y2, y3⟩ := HQ.out.rq.job hk
          subst hA
          generalize q[k] = x at y0 y1 y2 y3 hj0 hku hset hmj
          obtain ⟨s, t, r, d⟩ := x
          simp only at y0 y1 y2 y3 hku
          subst hku
          have HJ := Lib.hid hj0
          have HSet := Lib.hid hset
          have HMj := Lib.hid hmj
          clear hfind hpk hset hj0 HC hmj
          have k1 : (0 : Int) ≤ (k : Int) := by omega
          have k2 : (k : Int) < (q.length : Int) := by omega
          by_cases r3 : r = 3
          · have rb3 : (r == 3) = true := by simpa using r3
            have HO := Lib.hid (show openB (s, t, r, d) = false by simp [openB, r3])
            have HF := Lib.hid (show finishQ q s e0 = none from finish_no (fun j hj => by (rw [HJ.out] at hj; injection hj with hj; subst hj; rw [mayEnd_mk, HO.out]; simp)))
            go_wp2_with fail
            go_ret2
            rw [HF.out]
            exact JobsRet.no HB.out
          · have rb3 : (r == 3) = false := by simpa using r3
            by_cases hbad : r = 1 ∧ (e0 = 1 ∨ e0 = 2)
            · obtain ⟨r1, e12⟩ := hbad
              have rb : (r == 1) = true := by simpa using r1
              have el : decide (e0 ≤ 2) = true := by rw [decide_eq_true_eq]; omega
              have ee : (e0 == 1 || e0 == 2) = true := by rcases e12 with h | h <;> simp [h]
              clear e12
              have HF := Lib.hid (show finishQ q s e0 = none from finish_no (fun j hj => by (rw [HJ.out] at hj; injection hj with hj; subst hj; rw [mayEnd_mk, rb, ee]; simp)))
              go_wp2_with fail
              go_ret2
              rw [HF.out]
              exact JobsRet.no HB.out
            · have hyes := finish_yes HJ.out HM.out (show mayEnd e0 (s, t, r, d) = true from mayEnd_iff.2 ⟨by omega, by omega, r3, hbad⟩)
              have HF := Lib.hid hyes
              clear hyes
              by_cases r1 : r = 1
              · have rb : (r == 1) = true := by simpa using r1
                have rb2 : (r == 2) = false := by rw [beq_eq_false_iff_ne]; omega
                have el : decide (e0 ≤ 2) = false := by rw [decide_eq_false_iff_not]; omega
                clear hbad
                have hre : ¬ (t = 3 ∧ r = 2 ∧ e0 = 1) := by omega
                have HFin := Lib.hid (HSet.out (s, t, 3, e0) (by unfold ended; rw [if_neg hre]))
                have hcs : (t == 3) = false ∨ ((t == 3) = true ∧ (r == 2) = false) ∨ ((t == 3) = true ∧ (r == 2) = true ∧ (e0 == 1) = false) := by
                  by_cases a1 : t = 3
                  · by_cases a2 : r = 2
                    · exact .inr (.inr ⟨by simpa using a1, by simpa using a2, by rw [beq_eq_false_iff_ne]; intro h; exact hre ⟨a1, a2, h⟩⟩)
                    · exact .inr (.inl ⟨by simpa using a1, by simpa using a2⟩)
                  · exact .inl (by simpa using a1)
                clear hre
                rcases hcs with a1 | ⟨a1, a2⟩ | ⟨a1, a2, a3⟩
                · go_wp2_with fail
                  first | (refine wp_named ?_; intro W7 hW) | (refine calls_named ?_; intro W7 hW)
                  have B7 : Below w3.heap.size w3 W7 := by rw [hW]; exact (by repeat (first | exact Below.refl _ _ | assumption | refine Below.alloc ?_ (by first | omega | (simp <;> omega)) _ | refine Below.setCell ?_ (by first | omega | (simp <;> omega)) _ | refine Below.drew ?_))
                  replace HQ := Lib.hid (HQ.out.at B7)
                  replace HB := Lib.hid (lift HB.out B7)
                  clear hW
                  refine (with_any _ c q k s t 3 e0 W7 HQ.out.rq hk hlq).mono ?_
                  rintro e w9 ⟨A9, c9, rfl, ho9, hb⟩
                  have HO9 := Lib.hid ho9
                  replace HQ := Lib.hid (HQ.out.at hb)
                  replace HB := Lib.hid (lift HB.out hb)
                  clear hb ho9
                  go_wp2_with fail
                  go_ret2
                  rw [HF.out, ← HFin.out]
                  exact JobsRet.yes (by simp) (by have h := HO9.out; simp only [List.length_set] at h; exact h) HB.out
                · skip
                  go_wp2_with fail
                  first | (refine wp_named ?_; intro W7 hW) | (refine calls_named ?_; intro W7 hW)
                  have B7 : Below w3.heap.size w3 W7 := by rw [hW]; exact (by repeat (first | exact Below.refl _ _ | assumption | refine Below.alloc ?_ (by first | omega | (simp <;> omega)) _ | refine Below.setCell ?_ (by first | omega | (simp <;> omega)) _ | refine Below.drew ?_))
                  replace HQ := Lib.hid (HQ.out.at B7)
                  replace HB := Lib.hid (lift HB.out B7)
                  clear hW
                  refine (with_any _ c q k s t 3 e0 W7 HQ.out.rq hk hlq).mono ?_
                  rintro e w9 ⟨A9, c9, rfl, ho9, hb⟩
                  have HO9 := Lib.hid ho9
                  replace HQ := Lib.hid (HQ.out.at hb)
                  replace HB := Lib.hid (lift HB.out hb)
                  clear hb ho9
                  go_wp2_with fail
                  go_ret2
                  rw [HF.out, ← HFin.out]
                  exact JobsRet.yes (by simp) (by have h := HO9.out; simp only [List.length_set] at h; exact h) HB.out
                · skip
                  go_wp2_with fail
                  first | (refine wp_named ?_; intro W7 hW) | (refine calls_named ?_; intro W7 hW)
                  have B7 : Below w3.heap.size w3 W7 := by rw [hW]; exact (by repeat (first | exact Below.refl _ _ | assumption | refine Below.alloc ?_ (by first | omega | (simp <;> omega)) _ | refine Below.setCell ?_ (by first | omega | (simp <;> omega)) _ | refine Below.drew ?_))
                  replace HQ := Lib.hid (HQ.out.at B7)
                  replace HB := Lib.hid (lift HB.out B7)
                  clear hW
                  refine (with_any _ c q k s t 3 e0 W7 HQ.out.rq hk hlq).mono ?_
                  rintro e w9 ⟨A9, c9, rfl, ho9, hb⟩
                  have HO9 := Lib.hid ho9
                  replace HQ := Lib.hid (HQ.out.at hb)
                  replace HB := Lib.hid (lift HB.out hb)
                  clear hb ho9
                  go_wp2_with fail
                  go_ret2
                  rw [HF.out, ← HFin.out]
                  exact JobsRet.yes (by simp) (by have h := HO9.out; simp only [List.length_set] at h; exact h) HB.out
              · have rb : (r == 1) = false := by simpa using r1
                clear hbad
                by_cases hre : t = 3 ∧ r = 2 ∧ e0 = 1
                · obtain ⟨t3, r2, e01⟩ := hre
                  subst t3 r2 e01
                  have hd0 := runs_end HMj.out
                  subst hd0
                  have HFin := Lib.hid (HSet.out (s, 1, 1, 0) (by unfold ended; rw [if_pos ⟨rfl, rfl, rfl⟩]))
                  go_wp2_with fail
                  first | (refine wp_named ?_; intro W7 hW) | (refine calls_named ?_; intro W7 hW)
                  have B7 : Below w3.heap.size w3 W7 := by rw [hW]; exact (by repeat (first | exact Below.refl _ _ | assumption | refine Below.alloc ?_ (by first | omega | (simp <;> omega)) _ | refine Below.setCell ?_ (by first | omega | (simp <;> omega)) _ | refine Below.drew ?_))
                  replace HQ := Lib.hid (HQ.out.at B7)
                  replace HB := Lib.hid (lift HB.out B7)
                  clear hW
                  refine (with_any _ c q k s 1 1 0 W7 HQ.out.rq hk hlq).mono ?_
                  rintro e w9 ⟨A9, c9, rfl, ho9, hb⟩
                  have HO9 := Lib.hid ho9
                  replace HQ := Lib.hid (HQ.out.at hb)
                  replace HB := Lib.hid (lift HB.out hb)
                  clear hb ho9
                  go_wp2_with fail
                  go_ret2
                  rw [HF.out, ← HFin.out]
                  exact JobsRet.yes (by simp) (by have h := HO9.out; simp only [List.length_set] at h; exact h) HB.out
                · skip
                  have HFin := Lib.hid (HSet.out (s, t, 3, e0) (by unfold ended; rw [if_neg hre]))
                  have hcs : (t == 3) = false ∨ ((t == 3) = true ∧ (r == 2) = false) ∨ ((t == 3) = true ∧ (r == 2) = true ∧ (e0 == 1) = false) := by
                    by_cases a1 : t = 3
                    · by_cases a2 : r = 2
                      · exact .inr (.inr ⟨by simpa using a1, by simpa using a2, by rw [beq_eq_false_iff_ne]; intro h; exact hre ⟨a1, a2, h⟩⟩)
                      · exact .inr (.inl ⟨by simpa using a1, by simpa using a2⟩)
                    · exact .inl (by simpa using a1)
                  clear hre
                  rcases hcs with a1 | ⟨a1, a2⟩ | ⟨a1, a2, a3⟩
                  · go_wp2_with fail
                    first | (refine wp_named ?_; intro W7 hW) | (refine calls_named ?_; intro W7 hW)
                    have B7 : Below w3.heap.size w3 W7 := by rw [hW]; exact (by repeat (first | exact Below.refl _ _ | assumption | refine Below.alloc ?_ (by first | omega | (simp <;> omega)) _ | refine Below.setCell ?_ (by first | omega | (simp <;> omega)) _ | refine Below.drew ?_))
                    replace HQ := Lib.hid (HQ.out.at B7)
                    replace HB := Lib.hid (lift HB.out B7)
                    clear hW
                    refine (with_any _ c q k s t 3 e0 W7 HQ.out.rq hk hlq).mono ?_
                    rintro e w9 ⟨A9, c9, rfl, ho9, hb⟩
                    have HO9 := Lib.hid ho9
                    replace HQ := Lib.hid (HQ.out.at hb)
                    replace HB := Lib.hid (lift HB.out hb)
                    clear hb ho9
                    go_wp2_with fail
                    go_ret2
                    rw [HF.out, ← HFin.out]
                    exact JobsRet.yes (by simp) (by have h := HO9.out; simp only [List.length_set] at h; exact h) HB.out
                  · skip
                    go_wp2_with fail
                    first | (refine wp_named ?_; intro W7 hW) | (refine calls_named ?_; intro W7 hW)
                    have B7 : Below w3.heap.size w3 W7 := by rw [hW]; exact (by repeat (first | exact Below.refl _ _ | assumption | refine Below.alloc ?_ (by first | omega | (simp <;> omega)) _ | refine Below.setCell ?_ (by first | omega | (simp <;> omega)) _ | refine Below.drew ?_))
                    replace HQ := Lib.hid (HQ.out.at B7)
                    replace HB := Lib.hid (lift HB.out B7)
                    clear hW
                    refine (with_any _ c q k s t 3 e0 W7 HQ.out.rq hk hlq).mono ?_
                    rintro e w9 ⟨A9, c9, rfl, ho9, hb⟩
                    have HO9 := Lib.hid ho9
                    replace HQ := Lib.hid (HQ.out.at hb)
                    replace HB := Lib.hid (lift HB.out hb)
                    clear hb ho9
                    go_wp2_with fail
                    go_ret2
                    rw [HF.out, ← HFin.out]
                    exact JobsRet.yes (by simp) (by have h := HO9.out; simp only [List.length_set] at h; exact h) HB.out
                  · skip
                    go_wp2_with fail
                    first | (refine wp_named ?_; intro W7 hW) | (refine calls_named ?_; intro W7 hW)
                    have B7 : Below w3.heap.size w3 W7 := by rw [hW]; exact (by repeat (first | exact Below.refl _ _ | assumption | refine Below.alloc ?_ (by first | omega | (simp <;> omega)) _ | refine Below.setCell ?_ (by first | omega | (simp <;> omega)) _ | refine Below.drew ?_))
                    replace HQ := Lib.hid (HQ.out.at B7)
                    replace HB := Lib.hid (lift HB.out B7)
                    clear hW
                    refine (with_any _ c q k s t 3 e0 W7 HQ.out.rq hk hlq).mono ?_
                    rintro e w9 ⟨A9, c9, rfl, ho9, hb⟩
                    have HO9 := Lib.hid ho9
                    replace HQ := Lib.hid (HQ.out.at hb)
                    replace HB := Lib.hid (lift HB.out hb)
                    clear hb ho9
                    go_wp2_with fail
                    go_ret2
                    rw [HF.out, ← HFin.out]
                    exact JobsRet.yes (by simp) (by have h := HO9.out; simp only [List.length_set] at h; exact h) HB.out
end Od
end Go.Proofs.YtanfnejbnmenkaaGreat
end

section
/- append to a full slice: what comes of it is the call's own. No program. -/
namespace Go.Proofs.YtanfnejbnmenkaaGreat
open Go.RowKit
section
variable {P : Program}
theorem run_append_grown (w : World) (t ty e : TypeId) (i : TypeInfo) (z : Value) (size bytes : Nat) (ht : P.underlying t = some (.slice e)) (hi : P.info? e = some i) (hz : i.zero = some z)
    (hsize : i.size = size) (hby : i.bytes = bytes) (hzs : z.cells.size = size) (B : Nat) (A : Option Addr) (n : Nat) (xs : List Value) (hr : Rd w B size A n xs)
    (B2 : Nat) (A2 : Option Addr) (m c : Nat) (news : List Value) (hr2 : Rd w B2 size A2 m news) (h1 : ∀ u ∈ news, u.oneCell' = true) (h0 : 0 < m) (h63 : n + m ≤ maxLen) (hbytes : (n + m) * bytes ≤ 140737488355328) :
    ∃ A' c' w', (Builtin.append_ #[t, t] ty #[.slice A n n, .slice A2 m c]).run P w = .ok (.slice A' (n + m) c') w' ∧ w'.ownsRow w.heap.size e size (.slice A' (n + m) c') (n + m) (xs ++ news) ∧ Below w.heap.size w w' := by
  subst hsize
  subst hby
  have hs : Src P i.size t (.slice A2 m c) m news w := src_rd ht hr2 h1 fun e => by
    obtain ⟨ad, h, _⟩ := hr2.2 h0; rw [e] at h; cases h
  have hnl := hs.newsLen
  have hlen : (xs ++ news).length = (n + m) * i.size := by rw [List.length_append, hr.1, hnl, Nat.add_mul]
  have hold : (Builtin.firstCells i.size n (.slice A n n)).run P w.drew = .ok xs.toArray w.drew := by
    cases A with
    | none =>
      have hn : n = 0 := by
        rcases Nat.eq_zero_or_pos n with h | h
        · exact h
        · obtain ⟨ad, h, _⟩ := hr.2 h; cases h
      subst hn
      have hx : xs = [] := List.eq_nil_of_length_eq_zero (by simpa using hr.1)
      subst hx
      exact run_firstCells_none w.drew i.size 0 0 0
    | some ad =>
      refine run_firstCells_some w.drew i.size n ad n n xs hr.1 (fun j u hu => ?_)
      have hj : j < n * i.size := by
        have := (List.getElem?_eq_some_iff.1 hu).1
        rw [hr.1] at this
        exact this
      have hn0 : 0 < n := by
        rcases Nat.eq_zero_or_pos n with h | h
        · rw [h, Nat.zero_mul] at hj; omega
        · exact h
      obtain ⟨ad', he, _, hsp, hc⟩ := hr.2 hn0
      injection he with he
      subst he
      have hadd : ad.add j = ⟨ad.block, ad.off + j, none⟩ := by
        unfold Addr.add
        split
        · rename_i h0; subst h0; cases ad; simp_all
        · rfl
      rw [hadd]
      exact (hc j hj).trans hu
  have hm2 : n + m ≤ 9223372036854775807 := by simp only [maxLen] at h63; omega
  have hg : n < n + m := by omega
  have hrun := run_append_grow_src (P := P) w t t ty e i z ht hi hz A n n xs hold (.slice A2 m c) m news hs hg (by omega) (growslice_fits hg hbytes)
  have hge := grownCap_ge w (n + m) n e
  have hcm : grownCap w (n + m) n e ≤ maxLen := grownCap_le_maxLen w (n + m) n e h63
  refine ⟨some ⟨w.heap.size, 0, none⟩, grownCap w (n + m) n e, _, hrun, ⟨hlen, .inr ⟨w.heap.size, _, _, rfl, Nat.le_refl _, heap_alloc_new w.drew _, hge, hcm, ?_, ?_⟩⟩, ⟨rfl, rfl, rfl, by simp, fun k hk => Below.heap_alloc w.drew _ k hk⟩⟩
  · have h5 : (xs ++ news).toArray.size = (n + m) * i.size := by rw [List.size_toArray, hlen]
    rw [Array.size_append, size_zeroCells, hzs, h5, ← Nat.add_mul]
    congr 1
    omega
  · simp only [Array.toList_append]
    rw [← hlen]
    exact List.take_left
/-- At a step of a region that draws its order. -/
theorem step_append_grown {w : World} {ops : Array Oper} {o : Oper} {a : Act} {K : Act → World → Prop} {Q : Exit → Act → World → Prop} {E : Prop} (hw : Region.wanted o (yielded ops a.tmps) = true) (s x : Operand) (t : TypeId)
    (ho : o.op = .call { callee := .builtin .append, args := #[s, x], argTypes := #[t, t] })
    (e : TypeId) (i : TypeInfo) (z : Value) (size bytes : Nat) (ht : P.underlying t = some (.slice e)) (hi : P.info? e = some i) (hz : i.zero = some z)
    (hsize : i.size = size) (hby : i.bytes = bytes) (hzs : z.cells.size = size) (B : Nat) (A : Option Addr) (n : Nat) (xs : List Value) (hs : a.eval s = .slice A n n) (hr : Rd w B size A n xs)
    (B2 : Nat) (A2 : Option Addr) (m c : Nat) (news : List Value) (hx : a.eval x = .slice A2 m c) (hr2 : Rd w B2 size A2 m news) (h1 : ∀ u ∈ news, u.oneCell' = true) (h0 : 0 < m) (h63 : n + m ≤ maxLen) (hbytes : (n + m) * bytes ≤ 140737488355328)
    (h : ∀ A' c' w', w'.ownsRow w.heap.size e size (.slice A' (n + m) c') (n + m) (xs ++ news) → Below w.heap.size w w' → K (a.put o.dst (.slice A' (n + m) c')) w') :
    if Region.wanted o (yielded ops a.tmps) = true then Oper.wp P o a w K Q else E := by
  rw [if_pos hw]
  obtain ⟨A', c', w', hrun, h2, h3⟩ := run_append_grown (P := P) w t o.type e i z size bytes ht hi hz hsize hby hzs B A n xs hr B2 A2 m c news hr2 h1 h0 h63 hbytes
  unfold Oper.wp execOp
  simp only [ho, resolve, invoke, builtin, Sem.run_bind, Sem.run_pure, Result.andThen_ok, List.map_toArray, List.map_cons, List.map_nil, hs, hx, hrun]
  exact h A' c' w' h2 h3
end
end Go.Proofs.YtanfnejbnmenkaaGreat
end

section
/- The walk of matinsref20.Install. (bel2) -/
namespace Go.Proofs.YtanfnejbnmenkaaGreat
open Go.RowKit Go.Sort
set_option linter.unusedSimpArgs false

namespace Od
theorem any_of_take {α : Type} {p : α → Bool} {xs : List α} {m : Nat} (h : (xs.take m).any p = true) : xs.any p = true := by
  rw [List.any_eq_true] at h ⊢
  obtain ⟨x, hx, hx2⟩ := h
  exact ⟨x, List.mem_of_mem_take hx, hx2⟩
set_option maxRecDepth 100000 in
set_option maxHeartbeats 16000000 in
theorem Install20_any (A : Option Addr) (c : Nat) (q : List Jb) (A0 : Option Addr) (c0 : Nat) (jobs : List Jb) (mode0 : Int) (w : World) (hq : QIn w A c q) (hj : QIn w A0 c0 jobs) (hlq : q.length ≤ 100000) (hlj : jobs.length ≤ 100000) :
    Calls Tryz.prog 33 #[.slice A q.length c, .slice A0 jobs.length c0, .int .i64 mode0] w (InstRet (instQ q jobs mode0) w) := by
  have HQ := Lib.hid hq
  have HJ := Lib.hid hj
  clear hq hj
  go_enter Tryz.func33, Tryz.ntmps33
  go_wp2_with fail
  refine (May20_any A c q w HQ.out.rq HQ.out.ok).mono ?_
  rintro e w2 ⟨rfl, hb⟩
  have HB := Lib.hid hb
  replace HQ := Lib.hid (HQ.out.at hb)
  replace HJ := Lib.hid (HJ.out.at hb)
  clear hb
  cases hm : mayQ q
  · have HF := Lib.hid (okIn_no1 (jobs := jobs) hm mode0)
    go_wp2_with fail
    refine bodyPost_ret (v := .tuple #[.slice none 0 0, .slice none 0 0, .int .i64 1]) (by simp only [results, Tryz.results33]; go_simp) rfl ?_
    rw [HF.out]
    exact InstRet.no HB.out
  · have HM := Lib.hid hm
    clear hm
    go_wp2_with fail
    refine (May20_any A0 c0 jobs w2 HJ.out.rq HJ.out.ok).mono ?_
    rintro e w3 ⟨rfl, hb⟩
    replace HQ := Lib.hid (HQ.out.at hb)
    replace HJ := Lib.hid (HJ.out.at hb)
    replace HB := Lib.hid (lift HB.out hb)
    clear hb
    cases hm2 : mayQ jobs
    · have HF := Lib.hid (okIn_no2 (q := q) hm2 mode0)
      go_wp2_with fail
      refine bodyPost_ret (v := .tuple #[.slice none 0 0, .slice none 0 0, .int .i64 1]) (by simp only [results, Tryz.results33]; go_simp) rfl ?_
      rw [HF.out]
      exact InstRet.no HB.out
    · have HM2 := Lib.hid hm2
      clear hm2
      go_wp2_with fail
      go_loopw [32] (fun i wr => ∃ m : Nat, m ≤ jobs.length ∧ i = .int .i64 m ∧ Hid ((jobs.take m).any (fun j => j.2.2.1 != 1) = false) ∧ Below w3.heap.size w3 wr) (fun i _ => jobs.length - (intOf i).toNat)
      case atStart => exact ⟨0, Nat.zero_le _, rfl, rfl, Below.refl _ _⟩
      case round =>
        obtain ⟨m, hm, rfl, hall, hb⟩ := hrel
        by_cases hlt : m < jobs.length
        · have hs := any_succ hlt hall.out
          have HA := Lib.hid (fun h : (jobs.take (m + 1)).any (fun j => j.2.2.1 != 1) = true => any_of_take h)
          have HBl := Lib.hid hb
          replace HQ := Lib.hid (HQ.out.at hb)
          replace HJ := Lib.hid (HJ.out.at hb)
          replace HB := Lib.hid (lift HB.out hb)
          clear hb
          obtain ⟨b2, o2, hA, hB2, x0, x1, x2, x3⟩ := HJ.out.rq.job hlt
          subst hA
          generalize jobs[m] = x at x0 x1 x2 x3 hs
          obtain ⟨s, t, r, d⟩ := x
          simp only at x0 x1 x2 x3 hs
          have HS := Lib.hid hs
          clear hs
          have m1 : (0 : Int) ≤ (m : Int) := by omega
          have m2 : (m : Int) < (jobs.length : Int) := by omega
          cases rb : (r != 1)
          · go_wp2_with fail
            go_roundw
            case rel => exact ⟨m + 1, by omega, by go_num, by show _ = _; rw [HS.out, rb], HBl.out.alloc HBl.out.size _⟩
            case measure => simp [intOf]; omega
          · have HF := Lib.hid (okIn_no3 (q := q) (HA.out (HS.out.trans rb)) mode0)
            have HB := Lib.hid (HB.out.alloc HB.out.size (.cells #[sv s, .int .i64 t, .int .i64 r, .int .i64 d] 50))
            go_wp2_with fail
            refine bodyPost_ret (v := .tuple #[.slice none 0 0, .slice none 0 0, .int .i64 1]) (by simp only [results, Tryz.results33]; go_simp) rfl ?_
            rw [HF.out]
            exact InstRet.no HB.out
        · obtain rfl : m = jobs.length := by omega
          have h := hall.out
          rw [List.take_length] at h
          have HOk := Lib.hid (okIn_yes HM.out HM2.out h)
          clear h
          replace HQ := Lib.hid (HQ.out.at hb)
          replace HJ := Lib.hid (HJ.out.at hb)
          replace HB := Lib.hid (lift HB.out hb)
          clear hb
          by_cases hmode : mode0 ≠ 1 ∧ mode0 ≠ 2
          · have b1 : (mode0 == 1) = false := by simpa using hmode.1
            have b2 : (mode0 == 2) = false := by simpa using hmode.2
            have b3 : (mode0 != 1) = true := by simp [hmode.1]
            have b4 : (mode0 != 2) = true := by simp [hmode.2]
            have HF := Lib.hid (inst_mode HOk.out hmode.1 hmode.2)
            go_wp2_with fail
            refine bodyPost_ret (v := .tuple #[.slice none 0 0, .slice none 0 0, .int .i64 3]) (by simp only [results, Tryz.results33]; go_simp) rfl ?_
            rw [HF.out]
            exact InstRet.no HB.out
          · have hm12 : mode0 = 1 ∨ mode0 = 2 := by omega
            clear hmode
            rcases hm12 with h1 | h2
            · subst h1
              obtain ⟨w9, rfl⟩ : ∃ wo : World, wo = wr := ⟨_, rfl⟩
              go_wp2_with fail
              go_loopw [11, 50] (fun nv i wr => ∃ m : Nat, m ≤ jobs.length ∧ i = .int .i64 m ∧ nv = .int .i64 ((q.length : Int) + (newN q (jobs.take m) : Int)) ∧ Below w9.heap.size w9 wr) (fun _ i _ => jobs.length - (intOf i).toNat)
              case atStart => exact ⟨0, Nat.zero_le _, rfl, by first | rfl | simp [newN], Below.refl _ _⟩
              case round =>
                obtain ⟨m, hm, rfl, rfl, hb⟩ := hrel
                by_cases hlt : m < jobs.length
                · have hs := newN_succ (q := q) hlt
                  have HBl := Lib.hid hb
                  replace HQ := Lib.hid (HQ.out.at hb)
                  replace HJ := Lib.hid (HJ.out.at hb)
                  replace HB := Lib.hid (lift HB.out hb)
                  clear hb
                  obtain ⟨b2, o2, hA, hB2, x0, x1, x2, x3⟩ := HJ.out.rq.job hlt
                  subst hA
                  generalize jobs[m] = x at x0 x1 x2 x3 hs
                  obtain ⟨s, t, r, d⟩ := x
                  simp only at x0 x1 x2 x3 hs
                  have HS := Lib.hid hs
                  have hnl : newN q (jobs.take m) ≤ 100000 := Nat.le_trans (newN_le _ _) (by simp; omega)
                  clear hs
                  have m1 : (0 : Int) ≤ (m : Int) := by omega
                  have m2 : (m : Int) < (jobs.length : Int) := by omega
                  go_wp2_with fail
                  first | (refine wp_named ?_; intro W2 hW) | (refine calls_named ?_; intro W2 hW)
                  have B2 : Below wr.heap.size wr W2 := by rw [hW]; exact (by repeat (first | exact Below.refl _ _ | assumption | refine Below.alloc ?_ (by first | omega | (simp <;> omega)) _ | refine Below.setCell ?_ (by first | omega | (simp <;> omega)) _ | refine Below.drew ?_))
                  replace HQ := Lib.hid (HQ.out.at B2)
                  replace HJ := Lib.hid (HJ.out.at B2)
                  replace HB := Lib.hid (lift HB.out B2)
                  replace HBl := Lib.hid (lift HBl.out B2)
                  have p1 : wr.heap.size < W2.heap.size := by rw [hW]; simp <;> omega
                  have e0 : W2.cell? ⟨wr.heap.size, 0, none⟩ = some (sv s) := by rw [hW]; go_simp
                  have e1 : W2.cell? ⟨wr.heap.size, 1, none⟩ = some (.int .i64 t) := by rw [hW]; go_simp
                  have e2 : W2.cell? ⟨wr.heap.size, 2, none⟩ = some (.int .i64 r) := by rw [hW]; go_simp
                  have e3 : W2.cell? ⟨wr.heap.size, 3, none⟩ = some (.int .i64 d) := by rw [hW]; go_simp
                  clear hW
                  clear B2 x0 x1 x2 x3
                  refine (at_any A c q s W2 HQ.out.rq (by omega)).mono ?_
                  rintro e v3 ⟨rr, rfl, hcase, hb⟩
                  replace e0 := cellAt e0 hb (by omega)
                  replace e1 := cellAt e1 hb (by omega)
                  replace e2 := cellAt e2 hb (by omega)
                  replace e3 := cellAt e3 hb (by omega)
                  replace HQ := Lib.hid (HQ.out.at hb)
                  replace HJ := Lib.hid (HJ.out.at hb)
                  replace HB := Lib.hid (lift HB.out hb)
                  replace HBl := Lib.hid (lift HBl.out hb)
                  replace p1 : wr.heap.size < v3.heap.size := ltAt p1 hb
                  clear hb
                  rcases hcase with ⟨rfl, hnone⟩ | ⟨k, hk, rfl, hfind, hpk, _⟩
                  · have hn0 : jobOf q s = none := hnone
                    have HN := Lib.hid (HS.out.trans (by rw [hn0]))
                    clear hn0 hnone
                    try go_wp2_with fail
                    refine wp_region_held_drew (S := fun w' => Below v3.heap.size v3 w') (by kernel_rfl) (Below.drew (Below.refl _ _)) (fun hHeld => ?_)
                    refine tY (i := 0) (v := ?_) rfl ?_ hHeld ?_; rotate_left 1; focus (intro w' hSw; clear hSw; go_simp; try with_reducible rfl)
                    (try simp only [Act.put, zn1, zn2, zn3])
                    refine tY (i := 1) (v := ?_) rfl ?_ hHeld ?_; rotate_left 1; focus (intro w' hSw; clear hSw; go_simp; try with_reducible rfl)
                    (try simp only [Act.put, zn1, zn2, zn3])
                    refine tY (i := 2) (v := ?_) rfl ?_ hHeld ?_; rotate_left 1; focus (intro w' hSw; clear hSw; go_simp; try with_reducible rfl)
                    (try simp only [Act.put, zn1, zn2, zn3])
                    refine tS (i := 3) rfl hHeld ?_; (try simp only [Act.put, zn1, zn2, zn3])
                    refine tS (i := 4) rfl hHeld ?_; (try simp only [Act.put, zn1, zn2, zn3])
                    refine tY (i := 5) (v := ?_) rfl ?_ hHeld ?_; rotate_left 1; focus (intro w' hSw; clear hSw; go_simp; try with_reducible rfl)
                    (try simp only [Act.put, zn1, zn2, zn3])
                    refine tY (i := 6) (v := ?_) rfl ?_ hHeld ?_; rotate_left 1; focus (intro w' hSw; clear hSw; go_simp; try with_reducible rfl)
                    (try simp only [Act.put, zn1, zn2, zn3])
                    refine tS (i := 7) rfl hHeld ?_; (try simp only [Act.put, zn1, zn2, zn3])
                    refine tS (i := 8) rfl hHeld ?_; (try simp only [Act.put, zn1, zn2, zn3])
                    refine tS (i := 9) rfl hHeld ?_; (try simp only [Act.put, zn1, zn2, zn3])
                    refine tS (i := 10) rfl hHeld ?_; (try simp only [Act.put, zn1, zn2, zn3])
                    refine tS (i := 11) rfl hHeld ?_; (try simp only [Act.put, zn1, zn2, zn3])
                    refine tS (i := 12) rfl hHeld ?_; (try simp only [Act.put, zn1, zn2, zn3])
                    refine tY (i := 13) (v := ?_) rfl ?_ hHeld ?_; rotate_left 1; focus (intro w' hSw; clear hSw; go_simp; try with_reducible rfl)
                    (try simp only [Act.put, zn1, zn2, zn3])
                    refine tY (i := 14) (v := ?_) rfl ?_ hHeld ?_; rotate_left 1; focus (intro w' hSw; clear hSw; go_simp; try with_reducible rfl)
                    (try simp only [Act.put, zn1, zn2, zn3])
                    refine tS (i := 15) rfl hHeld ?_; (try simp only [Act.put, zn1, zn2, zn3])
                    refine tS (i := 16) rfl hHeld ?_; (try simp only [Act.put, zn1, zn2, zn3])
                    refine tS (i := 17) rfl hHeld ?_; (try simp only [Act.put, zn1, zn2, zn3])
                    refine tS (i := 18) rfl hHeld ?_; (try simp only [Act.put, zn1, zn2, zn3])
                    refine tS (i := 19) rfl hHeld ?_; (try simp only [Act.put, zn1, zn2, zn3])
                    refine tS (i := 20) rfl hHeld ?_; (try simp only [Act.put, zn1, zn2, zn3])
                    refine tY (i := 21) (v := ?_) rfl ?_ hHeld ?_; rotate_left 1; focus (intro w' hSw; clear hSw; go_simp; try with_reducible rfl)
                    (try simp only [Act.put, zn1, zn2, zn3])
                    refine wpAnyH_done (by kernel_rfl) ?_ _
                    go_wp2_with fail
                    go_roundw
                    case rel => exact ⟨m + 1, by omega, by go_num, by rw [HN.out]; go_num, HBl.out.drew⟩
                    case measure => simp [intOf]; omega
                  · have hneg : decide ((k : Int) < 0) = false := by simp
                    have hj0 : jobOf q s = some q[k] := hfind
                    have HN := Lib.hid (HS.out.trans (by rw [hj0]))
                    clear hj0 hfind
                    try go_wp2_with fail
                    refine wp_region_held_drew (S := fun w' => Below v3.heap.size v3 w') (by kernel_rfl) (Below.drew (Below.refl _ _)) (fun hHeld => ?_)
                    refine tY (i := 0) (v := ?_) rfl ?_ hHeld ?_; rotate_left 1; focus (intro w' hSw; clear hSw; go_simp; try with_reducible rfl)
                    (try simp only [Act.put, zn1, zn2, zn3])
                    refine tY (i := 1) (v := ?_) rfl ?_ hHeld ?_; rotate_left 1; focus (intro w' hSw; clear hSw; go_simp; try with_reducible rfl)
                    (try simp only [Act.put, zn1, zn2, zn3])
                    refine tY (i := 2) (v := ?_) rfl ?_ hHeld ?_; rotate_left 1; focus (intro w' hSw; clear hSw; go_simp; try with_reducible rfl)
                    (try simp only [Act.put, zn1, zn2, zn3])
                    refine tS (i := 3) rfl hHeld ?_; (try simp only [Act.put, zn1, zn2, zn3])
                    refine tS (i := 4) rfl hHeld ?_; (try simp only [Act.put, zn1, zn2, zn3])
                    refine tY (i := 5) (v := ?_) rfl ?_ hHeld ?_; rotate_left 1; focus (intro w' hSw; clear hSw; go_simp; try with_reducible rfl)
                    (try simp only [Act.put, zn1, zn2, zn3])
                    refine tY (i := 6) (v := ?_) rfl ?_ hHeld ?_; rotate_left 1; focus (intro w' hSw; clear hSw; go_simp; try with_reducible rfl)
                    (try simp only [Act.put, zn1, zn2, zn3])
                    refine tS (i := 7) rfl hHeld ?_; (try simp only [Act.put, zn1, zn2, zn3])
                    refine tS (i := 8) rfl hHeld ?_; (try simp only [Act.put, zn1, zn2, zn3])
                    refine tS (i := 9) rfl hHeld ?_; (try simp only [Act.put, zn1, zn2, zn3])
                    refine tS (i := 10) rfl hHeld ?_; (try simp only [Act.put, zn1, zn2, zn3])
                    refine tS (i := 11) rfl hHeld ?_; (try simp only [Act.put, zn1, zn2, zn3])
                    refine tS (i := 12) rfl hHeld ?_; (try simp only [Act.put, zn1, zn2, zn3])
                    refine tY (i := 13) (v := ?_) rfl ?_ hHeld ?_; rotate_left 1; focus (intro w' hSw; clear hSw; go_simp; try with_reducible rfl)
                    (try simp only [Act.put, zn1, zn2, zn3])
                    refine tY (i := 14) (v := ?_) rfl ?_ hHeld ?_; rotate_left 1; focus (intro w' hSw; clear hSw; go_simp; try with_reducible rfl)
                    (try simp only [Act.put, zn1, zn2, zn3])
                    refine tS (i := 15) rfl hHeld ?_; (try simp only [Act.put, zn1, zn2, zn3])
                    refine tS (i := 16) rfl hHeld ?_; (try simp only [Act.put, zn1, zn2, zn3])
                    refine tS (i := 17) rfl hHeld ?_; (try simp only [Act.put, zn1, zn2, zn3])
                    refine tS (i := 18) rfl hHeld ?_; (try simp only [Act.put, zn1, zn2, zn3])
                    refine tS (i := 19) rfl hHeld ?_; (try simp only [Act.put, zn1, zn2, zn3])
                    refine tS (i := 20) rfl hHeld ?_; (try simp only [Act.put, zn1, zn2, zn3])
                    refine tY (i := 21) (v := ?_) rfl ?_ hHeld ?_; rotate_left 1; focus (intro w' hSw; clear hSw; go_simp; try with_reducible rfl)
                    (try simp only [Act.put, zn1, zn2, zn3])
                    refine wpAnyH_done (by kernel_rfl) ?_ _
                    go_wp2_with fail
                    go_roundw
                    case rel => exact ⟨m + 1, by omega, by go_num, by rw [HN.out]; go_num, HBl.out.drew⟩
                    case measure => simp [intOf]; omega
                · obtain rfl : m = jobs.length := by omega
                  rw [List.take_length]
                  replace HQ := Lib.hid (HQ.out.at hb)
                  replace HJ := Lib.hid (HJ.out.at hb)
                  replace HB := Lib.hid (lift HB.out hb)
                  clear hb
                  have hln := tog_len (mayQ_iff.1 HM.out).2.2 (mayQ.dq HM2.out)
                  by_cases h64 : 64 < q.length + newN q jobs
                  · have d64 : decide ((64 : Int) < (q.length : Int) + (newN q jobs : Int)) = true := by rw [decide_eq_true_eq]; omega
                    have HF := Lib.hid (inst_many (mode := 1) HOk.out (.inl rfl) (by rw [hln]; exact h64))
                    clear h64 hln
                    go_wp2_with fail
                    refine bodyPost_ret (v := .tuple #[.slice none 0 0, .slice none 0 0, .int .i64 8]) (by simp only [results, Tryz.results33]; go_simp) rfl ?_
                    rw [HF.out]
                    exact InstRet.no HB.out
                  · have d64 : decide ((64 : Int) < (q.length : Int) + (newN q jobs : Int)) = false := by rw [decide_eq_false_iff_not]; omega
                    have HF := Lib.hid (inst_fine (mode := 1) HOk.out (.inl rfl) (by rw [hln]; exact h64))
                    clear h64 hln
                    obtain ⟨w10, rfl⟩ : ∃ wo : World, wo = wr := ⟨_, rfl⟩
                    obtain ⟨i0, hi, hz0, hz1, hz2⟩ := info_parts infoJb
                    obtain ⟨k0, ki, kz0, kz1, kz2⟩ := info_parts infoD
                    have h63a := Lib.hid (show 0 + q.length ≤ maxLen by unfold maxLen; omega)
                    have hbya := Lib.hid (show (0 + q.length) * 40 ≤ 140737488355328 by omega)
                    go_wp2_with (first | (at_builtin; refine wpList_append_rd w10 (by rfl) (.const (.slice none 0 0)) (.tmp 87) 26 (by rfl) w10.heap.size 50 i0 _ 4 40 Tryz.underlying26 hi hz0 hz1 hz2 rfl (by decide) (.slice none 0 0) 0 [] (by rfl) (World.ownsRow_nil _ _ _ _) _ A q.length c (jbsC q) (by rfl) HQ.out.rq (one_jbsC q) h63a.out hbya.out (Nat.le_refl _) ?_; intro A11 c11 w11 hown11 hg11 hat11) | fail)
                    have hb11 : Below w10.heap.size w10 w11 := (Below.refl _ _).grown hg11 (Nat.le_refl _) (fun k h => by cases h)
                    simp only [Nat.zero_add, List.nil_append] at hown11
                    have HO11 := Lib.hid hown11
                    have HB11 := Lib.hid hb11
                    clear hown11 hg11 hat11 hb11
                    go_wp2_with fail
                    go_loopw [15, 16, 91] (fun v1 v2 i wr => ∃ m : Nat, m ≤ jobs.length ∧ i = .int .i64 m ∧ wr.ownsRow w10.heap.size 50 4 v1 (togR q (jobs.take m)).1.length (jbsC (togR q (jobs.take m)).1) ∧ wr.ownsRow w10.heap.size 59 3 v2 (togR q (jobs.take m)).2.length (ndsC (togR q (jobs.take m)).2) ∧ Sep v1 v2 ∧ Below w10.heap.size w10 wr) (fun _ _ i _ => jobs.length - (intOf i).toNat)
                    case atStart => exact ⟨0, Nat.zero_le _, rfl, HO11.out, World.ownsRow_nil _ _ _ _, .inr (.inl rfl), HB11.out⟩
                    case round =>
                      obtain ⟨m, hm, rfl, hown1, hown2, hsep, hb⟩ := hrel
                      obtain ⟨A1, c1, hv1, _⟩ := own_rd hown1
                      obtain ⟨A2, c2, hv2, _⟩ := own_rd hown2
                      subst hv1 hv2
                      obtain ⟨w8, rfl⟩ : ∃ wo : World, wo = wr := ⟨_, rfl⟩
                      by_cases hlt : m < jobs.length
                      · have hst := togR_succ (q := q) hlt
                        have hup : upQ (togR q (jobs.take m)).1 := togR_up (mayQ_iff.1 HM.out).2.2
                        have hln := togR_len q jobs m hm
                        rcases hog : togR q (jobs.take m) with ⟨out, gone⟩
                        simp only [hog] at hst hup hln hown1 hown2 hsep ⊢
                        clear hog
                        have HO1 := Lib.hid hown1
                        have HO2 := Lib.hid hown2
                        have HSp := Lib.hid hsep
                        have Hb := Lib.hid hb
                        have HUp := Lib.hid hup
                        have hpw0 : (Value.slice A2 gone.length c2).ownBlock ≠ some w8.heap.size := fun e => by have h1 := (hown2.lt _ e).2; omega
                        clear hown1 hown2 hsep hup
                        replace HQ := Lib.hid (HQ.out.at hb)
                        replace HJ := Lib.hid (HJ.out.at hb)
                        replace HB := Lib.hid (lift HB.out hb)
                        clear hb
                        obtain ⟨b2, o2, hA, hB2, x0, x1, x2, x3⟩ := HJ.out.rq.job hlt
                        subst hA
                        generalize jobs[m] = x at x0 x1 x2 x3 hst
                        obtain ⟨s, t, r, d⟩ := x
                        simp only at x0 x1 x2 x3
                        have HS := Lib.hid hst
                        clear hst
                        have m1 : (0 : Int) ≤ (m : Int) := by omega
                        have m2 : (m : Int) < (jobs.length : Int) := by omega
                        have h63d := Lib.hid (show gone.length + 1 ≤ maxLen by unfold maxLen; omega)
                        have hbyd := Lib.hid (show (gone.length + 1) * 32 ≤ 140737488355328 by omega)
                        go_wp2_with fail
                        first | (refine wp_named ?_; intro W2 hW) | (refine calls_named ?_; intro W2 hW)
                        have B2 : Below w8.heap.size w8 W2 := by rw [hW]; exact (by repeat (first | exact Below.refl _ _ | assumption | refine Below.alloc ?_ (by first | omega | (simp <;> omega)) _ | refine Below.setCell ?_ (by first | omega | (simp <;> omega)) _ | refine Below.drew ?_))
                        replace HQ := Lib.hid (HQ.out.at B2)
                        replace HJ := Lib.hid (HJ.out.at B2)
                        replace HB := Lib.hid (lift HB.out B2)
                        replace HO1 := Lib.hid (own_on HO1.out B2)
                        replace HO2 := Lib.hid (own_on HO2.out B2)
                        replace Hb := Lib.hid (lift Hb.out B2)
                        have p1 : w8.heap.size < W2.heap.size := by rw [hW]; simp <;> omega
                        have e0 : W2.cell? ⟨w8.heap.size, 0, none⟩ = some (sv s) := by rw [hW]; go_simp
                        have e1 : W2.cell? ⟨w8.heap.size, 1, none⟩ = some (.int .i64 t) := by rw [hW]; go_simp
                        have e2 : W2.cell? ⟨w8.heap.size, 2, none⟩ = some (.int .i64 r) := by rw [hW]; go_simp
                        have e3 : W2.cell? ⟨w8.heap.size, 3, none⟩ = some (.int .i64 d) := by rw [hW]; go_simp
                        clear hW
                        clear B2 x0 x1 x2 x3
                        refine (at_any A1 c1 out s W2 (own_rd' HO1.out) (by omega)).mono ?_
                        rintro e v3 ⟨rr, rfl, hcase, hb⟩
                        replace e0 := cellAt e0 hb (by omega)
                        replace e1 := cellAt e1 hb (by omega)
                        replace e2 := cellAt e2 hb (by omega)
                        replace e3 := cellAt e3 hb (by omega)
                        replace HQ := Lib.hid (HQ.out.at hb)
                        replace HJ := Lib.hid (HJ.out.at hb)
                        replace HB := Lib.hid (lift HB.out hb)
                        replace HO1 := Lib.hid (own_on HO1.out hb)
                        replace HO2 := Lib.hid (own_on HO2.out hb)
                        replace Hb := Lib.hid (lift Hb.out hb)
                        replace p1 : w8.heap.size < v3.heap.size := ltAt p1 hb
                        clear hb
                        rcases hcase with ⟨rfl, hnone⟩ | ⟨k, hk, rfl, hfind, hpk, _⟩
                        · have hn0 : jobOf out s = none := hnone
                          have HN := Lib.hid (HS.out.trans (stepI_new (s := (out, gone)) (j := (s, t, r, d)) hn0))
                          clear hn0 hnone
                          go_wp2_with fail
                          go_loopw [20] (fun kv wr => ∃ k : Nat, k ≤ out.length ∧ kv = .int .i64 k ∧ Hid (∀ i (h : i < out.length), i < k → ltS out[i].1 s = true) ∧ Below v3.heap.size v3 wr) (fun kv _ => out.length - (intOf kv).toNat)
                          case atStart => exact ⟨0, Nat.zero_le _, rfl, fun i _ h => absurd h (by omega), Below.refl _ _⟩
                          case round =>
                            obtain ⟨k, hk, rfl, hall, hbq⟩ := hrel
                            have HBq := Lib.hid hbq
                            replace e0 := cellAt e0 hbq (by omega)
                            replace e1 := cellAt e1 hbq (by omega)
                            replace e2 := cellAt e2 hbq (by omega)
                            replace e3 := cellAt e3 hbq (by omega)
                            replace HQ := Lib.hid (HQ.out.at hbq)
                            replace HJ := Lib.hid (HJ.out.at hbq)
                            replace HB := Lib.hid (lift HB.out hbq)
                            replace HO1 := Lib.hid (own_on HO1.out hbq)
                            replace HO2 := Lib.hid (own_on HO2.out hbq)
                            replace Hb := Lib.hid (lift Hb.out hbq)
                            replace p1 : w8.heap.size < wr.heap.size := ltAt p1 hbq
                            clear hbq
                            have k1 : (0 : Int) ≤ (k : Int) := by omega
                            by_cases hlt2 : k < out.length
                            · have k2 : (k : Int) < (out.length : Int) := by omega
                              obtain ⟨gb, rfl, hgb, hgl, hcap⟩ := own_open HO1.out (by omega)
                              obtain ⟨y0, y1, y2, y3, yf⟩ := ownJ_cells HO1.out hlt2
                              obtain ⟨s', t', r', d', hx⟩ : ∃ s t r d, out[k] = (s, t, r, d) := ⟨_, _, _, _, rfl⟩
                              rw [hx] at y0 y1 y2 y3
                              simp only at y0 y1 y2 y3
                              have Hx := Lib.hid hx
                              clear hx yf hgb
                              cases hls : Op.bytesLess s' s
                              · have hge : ∀ h : k < out.length, ltS out[k].1 s = false := fun _ => by rw [Hx.out]; exact hls
                                try go_wp2_with fail
                                refine wp_region_held_drew (S := fun w' => Below wr.heap.size wr w') (by kernel_rfl) (Below.drew (Below.refl _ _)) (fun hHeld => ?_)
                                refine tY (i := 0) (v := ?_) rfl ?_ hHeld ?_; rotate_left 1; focus (intro w' hSw; clear hSw; go_simp; try with_reducible rfl)
                                (try simp only [Act.put, zn1, zn2, zn3])
                                refine tY (i := 1) (v := ?_) rfl ?_ hHeld ?_; rotate_left 1; focus (intro w' hSw; clear hSw; go_simp; try with_reducible rfl)
                                (try simp only [Act.put, zn1, zn2, zn3])
                                refine tY (i := 2) (v := ?_) rfl ?_ hHeld ?_; rotate_left 1; focus (intro w' hSw; clear hSw; go_simp; try with_reducible rfl)
                                (try simp only [Act.put, zn1, zn2, zn3])
                                refine tY (i := 3) (v := ?_) rfl ?_ hHeld ?_; rotate_left 1; focus (intro w' hSw; clear hSw; go_simp; try with_reducible rfl)
                                (try simp only [Act.put, zn1, zn2, zn3])
                                refine tY (i := 4) (v := ?_) rfl ?_ hHeld ?_; rotate_left 1; focus (intro w' hSw; clear hSw; go_simp; try with_reducible rfl)
                                (try simp only [Act.put, zn1, zn2, zn3])
                                refine tY (i := 5) (v := ?_) rfl ?_ hHeld ?_; rotate_left 1; focus (intro w' hSw; clear hSw; go_simp; try with_reducible rfl)
                                (try simp only [Act.put, zn1, zn2, zn3])
                                refine tY (i := 6) (v := ?_) rfl ?_ hHeld ?_; rotate_left 1; focus (intro w' hSw; clear hSw; go_simp; try with_reducible rfl)
                                (try simp only [Act.put, zn1, zn2, zn3])
                                refine tY (i := 7) (v := ?_) rfl ?_ hHeld ?_; rotate_left 1; focus (intro w' hSw; clear hSw; go_simp; try with_reducible rfl)
                                (try simp only [Act.put, zn1, zn2, zn3])
                                refine tY (i := 8) (v := ?_) rfl ?_ hHeld ?_; rotate_left 1; focus (intro w' hSw; clear hSw; go_simp; try with_reducible rfl)
                                (try simp only [Act.put, zn1, zn2, zn3])
                                refine tY (i := 9) (v := ?_) rfl ?_ hHeld ?_; rotate_left 1; focus (intro w' hSw; have hCell := fun (b o : Nat) (h : b < wr.heap.size) => hSw.cell (p := ⟨b, o, none⟩) h; clear hSw; go_simp; try with_reducible rfl)
                                (try simp only [Act.put, zn1, zn2, zn3])
                                refine tY (i := 10) (v := ?_) rfl ?_ hHeld ?_; rotate_left 1; focus (intro w' hSw; clear hSw; go_simp; try with_reducible rfl)
                                (try simp only [Act.put, zn1, zn2, zn3])
                                refine tY (i := 11) (v := ?_) rfl ?_ hHeld ?_; rotate_left 1; focus (intro w' hSw; have hCell := fun (b o : Nat) (h : b < wr.heap.size) => hSw.cell (p := ⟨b, o, none⟩) h; clear hSw; go_simp; try with_reducible rfl)
                                (try simp only [Act.put, zn1, zn2, zn3])
                                refine tY (i := 12) (v := ?_) rfl ?_ hHeld ?_; rotate_left 1; focus (intro w' hSw; clear hSw; go_simp; try with_reducible rfl)
                                (try simp only [Act.put, zn1, zn2, zn3])
                                refine tY (i := 13) (v := ?_) rfl ?_ hHeld ?_; rotate_left 1; focus (intro w' hSw; clear hSw; go_simp; try with_reducible rfl)
                                (try simp only [Act.put, zn1, zn2, zn3])
                                refine wpAnyH_done (by kernel_rfl) ?_ _
                                replace e0 := cellAt e0 hHeld (by omega)
                                replace e1 := cellAt e1 hHeld (by omega)
                                replace e2 := cellAt e2 hHeld (by omega)
                                replace e3 := cellAt e3 hHeld (by omega)
                                replace y0 := cellAt y0 hHeld (by omega)
                                replace HQ := Lib.hid (HQ.out.at hHeld)
                                replace HJ := Lib.hid (HJ.out.at hHeld)
                                replace HB := Lib.hid (lift HB.out hHeld)
                                replace HO1 := Lib.hid (own_on HO1.out hHeld)
                                replace HO2 := Lib.hid (own_on HO2.out hHeld)
                                replace Hb := Lib.hid (lift Hb.out hHeld)
                                replace p1 : w8.heap.size < wr.drew.heap.size := ltAt p1 hHeld
                                replace hgl : gb < wr.drew.heap.size := ltAt hgl hHeld
                                go_wp2_with fail
                                have HI := Lib.hid (insJ_at (j := (s, t, r, d)) (l := out) (k := k) hall.out hge (by omega))
                                first | (refine wp_named ?_; intro W4 hW) | (refine calls_named ?_; intro W4 hW)
                                have B4 : Below wr.drew.heap.size wr.drew W4 := by rw [hW]; exact (by repeat (first | exact Below.refl _ _ | assumption | refine Below.alloc ?_ (by first | omega | (simp <;> omega)) _ | refine Below.setCell ?_ (by first | omega | (simp <;> omega)) _ | refine Below.drew ?_))
                                replace e0 := cellAt e0 B4 (by omega)
                                replace e1 := cellAt e1 B4 (by omega)
                                replace e2 := cellAt e2 B4 (by omega)
                                replace e3 := cellAt e3 B4 (by omega)
                                replace y0 := cellAt y0 B4 (by omega)
                                replace HQ := Lib.hid (HQ.out.at B4)
                                replace HJ := Lib.hid (HJ.out.at B4)
                                replace HB := Lib.hid (lift HB.out B4)
                                replace HO1 := Lib.hid (own_on HO1.out B4)
                                replace HO2 := Lib.hid (own_on HO2.out B4)
                                replace Hb := Lib.hid (lift Hb.out B4)
                                replace p1 : w8.heap.size < W4.heap.size := ltAt p1 B4
                                replace hgl : gb < W4.heap.size := ltAt hgl B4
                                clear hW
                                clear B4
                                have hz4 : w10.heap.size ≤ W4.heap.size := Hb.out.size
                                obtain ⟨A7, c7, hv7, _⟩ := own_rd HO1.out
                                have HR0 := Lib.hid (own_rd' HO1.out)
                                have hcap0 := (own_cap HO1.out).1
                                have HR1 := Lib.hid (HR0.out.takeA (m := k) (by omega))
                                have HR2 := Lib.hid (HR0.out.dropA (m := k) (by omega) hcap0)
                                have hs1 := run_slice_full (P := Tryz.prog) Tryz.underlying26 hi (some ⟨gb, 0, none⟩) out.length c1 k (by omega)
                                have hs2 := run_slice_tail (P := Tryz.prog) Tryz.underlying26 hi (some ⟨gb, 0, none⟩) out.length c1 k (by omega)
                                rw [hz1] at hs1 hs2
                                have HLk := Lib.hid (show (out.drop k).length = out.length - k from List.length_drop)
                                try go_wp2_with fail
                                refine wp_region_held_drew (S := fun w' => Below W4.heap.size W4 w') (by kernel_rfl) (Below.drew (Below.refl _ _)) (fun hHeld => ?_)
                                refine tY (i := 0) (v := ?_) rfl ?_ hHeld ?_; rotate_left 1; focus (intro w' hSw; clear hSw; go_simp; try with_reducible rfl)
                                (try simp only [Act.put, zn1, zn2, zn3])
                                refine tY (i := 1) (v := ?_) rfl ?_ hHeld ?_; rotate_left 1; focus (intro w' hSw; clear hSw; go_simp; try with_reducible rfl)
                                (try simp only [Act.put, zn1, zn2, zn3])
                                refine tY (i := 2) (v := ?_) rfl ?_ hHeld ?_; rotate_left 1; focus (intro w' hSw; clear hSw; go_simp; try with_reducible rfl)
                                (try simp only [Act.put, zn1, zn2, zn3])
                                refine tY (i := 3) (v := ?_) rfl ?_ hHeld ?_; rotate_left 1; focus (intro w' hSw; clear hSw; go_simp; try with_reducible rfl)
                                (try simp only [Act.put, zn1, zn2, zn3])
                                refine tY (i := 4) (v := ?_) rfl ?_ hHeld ?_; rotate_left 1; focus (intro w' hSw; have hCell := fun (b o : Nat) (h : b < W4.heap.size) => hSw.cell (p := ⟨b, o, none⟩) h; clear hSw; go_simp; try with_reducible rfl)
                                (try simp only [Act.put, zn1, zn2, zn3])
                                refine tY (i := 6) (v := ?_) rfl ?_ hHeld ?_; rotate_left 1; focus (intro w' hSw; clear hSw; go_simp; try with_reducible rfl)
                                (try simp only [Act.put, zn1, zn2, zn3])
                                refine tY (i := 7) (v := ?_) rfl ?_ hHeld ?_; rotate_left 1; focus (intro w' hSw; clear hSw; go_simp; try with_reducible rfl)
                                (try simp only [Act.put, zn1, zn2, zn3])
                                refine tY (i := 8) (v := ?_) rfl ?_ hHeld ?_; rotate_left 1; focus (intro w' hSw; clear hSw; go_simp; try with_reducible rfl)
                                (try simp only [Act.put, zn1, zn2, zn3])
                                refine ready_one (i := 5) rfl (by kernel_rfl) (fun K hK => ?_)
                                go_simp
                                refine hK.out _ _ ?_ (fun hHeld2 => ?_)
                                · (try dsimp only); first | exact hHeld | exact (by repeat (first | exact Below.refl _ _ | assumption | refine Below.alloc ?_ (by first | omega | (simp <;> omega)) _ | refine Below.setCell ?_ (by first | omega | (simp <;> omega)) _ | refine Below.drew ?_))
                                clear hK K hHeld; have hHeld := hHeld2; clear hHeld2; (try simp only [Act.put, zn1, zn2, zn3])
                                refine ready_one (i := 9) rfl (by kernel_rfl) (fun K hK => ?_)
                                refine step_append_full (by rfl) (.tmp 122) (.tmp 125) 26 (by rfl) 50 i0 _ 4 40 Tryz.underlying26 hi hz0 hz1 hz2 rfl _ (some ⟨W4.heap.size, 0, none⟩) 1 (jbC (s, t, r, d)) (by rfl) (Rd.lit W4.drew (jbC (s, t, r, d)) 50 4 1 rfl) (Nat.le_refl _) _ _ (out.length - k) (c1 - k) _ (by rfl) (HR2.out.at' (Nat.le_refl _) hHeld) (one_drop (one_jbsC out) _) (by unfold maxLen; omega) (by omega) ?_
                                intro A2' c2' v2 hc2 hr2 hb
                                have HR3 := Lib.hid hr2
                                clear hr2
                                refine hK.out _ _ ?_ (fun hHeld2 => ?_)
                                · (try dsimp only); first | exact Below.trans hHeld (Below.mono hb hHeld.size) | exact hHeld | exact Below.drew hHeld | exact (by repeat (first | exact Below.refl _ _ | assumption | refine Below.alloc ?_ (by first | omega | (simp <;> omega)) _ | refine Below.setCell ?_ (by first | omega | (simp <;> omega)) _ | refine Below.drew ?_))
                                clear hK K hHeld; have hHeld := hHeld2; clear hHeld2; (try simp only [Act.put, zn1, zn2, zn3])
                                refine ready_one (i := 10) rfl (by kernel_rfl) (fun K hK => ?_)
                                refine step_append_grown (by rfl) (.tmp 120) (.tmp 126) 26 (by rfl) 50 i0 _ 4 40 Tryz.underlying26 hi hz0 hz1 hz2 rfl _ _ k _ (by rfl) (HR1.out.at' (Nat.le_refl _) hHeld) _ A2' (1 + (out.length - k)) c2' _ (by rfl) HR3.out (one_app (one_jbC _) (one_drop (one_jbsC out) _)) (by omega) (by unfold maxLen; omega) (by omega) ?_
                                intro A3 c3 v7 hown3 hb
                                have hz6 := hHeld.size
                                have hz5 := Nat.le_trans hz4 hHeld.size
                                have HO3 := Lib.hid hown3
                                clear hown3
                                refine hK.out _ _ ?_ (fun hHeld2 => ?_)
                                · (try dsimp only); first | exact Below.trans hHeld (Below.mono hb hHeld.size) | exact hHeld | exact Below.drew hHeld | exact (by repeat (first | exact Below.refl _ _ | assumption | refine Below.alloc ?_ (by first | omega | (simp <;> omega)) _ | refine Below.setCell ?_ (by first | omega | (simp <;> omega)) _ | refine Below.drew ?_))
                                clear hK K hHeld; have hHeld := hHeld2; clear hHeld2; (try simp only [Act.put, zn1, zn2, zn3])
                                refine tY (i := 11) (v := ?_) rfl ?_ hHeld ?_; rotate_left 1; focus (intro w' hSw; clear hSw; go_simp; try with_reducible rfl)
                                (try simp only [Act.put, zn1, zn2, zn3])
                                refine wpAnyH_done (by kernel_rfl) ?_ _
                                have HO24 := HO2
                                replace e0 := cellAt e0 hHeld (by omega)
                                replace e1 := cellAt e1 hHeld (by omega)
                                replace e2 := cellAt e2 hHeld (by omega)
                                replace e3 := cellAt e3 hHeld (by omega)
                                replace y0 := cellAt y0 hHeld (by omega)
                                replace HQ := Lib.hid (HQ.out.at hHeld)
                                replace HJ := Lib.hid (HJ.out.at hHeld)
                                replace HB := Lib.hid (lift HB.out hHeld)
                                replace HO1 := Lib.hid (own_on HO1.out hHeld)
                                replace HO2 := Lib.hid (own_on HO2.out hHeld)
                                replace Hb := Lib.hid (lift Hb.out hHeld)
                                replace p1 : w8.heap.size < v7.heap.size := ltAt p1 hHeld
                                replace hgl : gb < v7.heap.size := ltAt hgl hHeld
                                clear hs1 hs2
                                have hl3 : k + (1 + (out.length - k)) = (insJ (s, t, r, d) out).length := by rw [insJ_len]; omega
                                have hx3 : (jbsC out).take (k * 4) ++ (jbC (s, t, r, d) ++ (jbsC out).drop (k * 4)) = jbsC (insJ (s, t, r, d) out) := by rw [HI.out, ← jbsC_take, ← jbsC_drop]; simp [jbsC]
                                have ho3 := own_base HO3.out hz5
                                rw [hx3] at ho3
                                have HO4 := Lib.hid ho3
                                have HSp4 := Lib.hid (Sep.new HO24.out HO3.out hz6)
                                clear ho3 hx3 HO24
                                have HL3 := Lib.hid hl3
                                clear hl3
                                go_wp2_with fail
                                go_roundw
                                case rel =>
                                  refine ⟨m + 1, by omega, by go_num, ?_, ?_, HSp4.out, Hb.out⟩ <;> rw [HN.out]
                                  · have h := HO4.out
                                    rw [HL3.out] at h ⊢
                                    exact h
                                  · exact HO2.out
                                case measure => simp [intOf]; omega
                              · skip
                                try go_wp2_with fail
                                refine wp_region_held_drew (S := fun w' => Below wr.heap.size wr w') (by kernel_rfl) (Below.drew (Below.refl _ _)) (fun hHeld => ?_)
                                refine tY (i := 0) (v := ?_) rfl ?_ hHeld ?_; rotate_left 1; focus (intro w' hSw; clear hSw; go_simp; try with_reducible rfl)
                                (try simp only [Act.put, zn1, zn2, zn3])
                                refine tY (i := 1) (v := ?_) rfl ?_ hHeld ?_; rotate_left 1; focus (intro w' hSw; clear hSw; go_simp; try with_reducible rfl)
                                (try simp only [Act.put, zn1, zn2, zn3])
                                refine tY (i := 2) (v := ?_) rfl ?_ hHeld ?_; rotate_left 1; focus (intro w' hSw; clear hSw; go_simp; try with_reducible rfl)
                                (try simp only [Act.put, zn1, zn2, zn3])
                                refine tY (i := 3) (v := ?_) rfl ?_ hHeld ?_; rotate_left 1; focus (intro w' hSw; clear hSw; go_simp; try with_reducible rfl)
                                (try simp only [Act.put, zn1, zn2, zn3])
                                refine tY (i := 4) (v := ?_) rfl ?_ hHeld ?_; rotate_left 1; focus (intro w' hSw; clear hSw; go_simp; try with_reducible rfl)
                                (try simp only [Act.put, zn1, zn2, zn3])
                                refine tY (i := 5) (v := ?_) rfl ?_ hHeld ?_; rotate_left 1; focus (intro w' hSw; clear hSw; go_simp; try with_reducible rfl)
                                (try simp only [Act.put, zn1, zn2, zn3])
                                refine tY (i := 6) (v := ?_) rfl ?_ hHeld ?_; rotate_left 1; focus (intro w' hSw; clear hSw; go_simp; try with_reducible rfl)
                                (try simp only [Act.put, zn1, zn2, zn3])
                                refine tY (i := 7) (v := ?_) rfl ?_ hHeld ?_; rotate_left 1; focus (intro w' hSw; clear hSw; go_simp; try with_reducible rfl)
                                (try simp only [Act.put, zn1, zn2, zn3])
                                refine tY (i := 8) (v := ?_) rfl ?_ hHeld ?_; rotate_left 1; focus (intro w' hSw; clear hSw; go_simp; try with_reducible rfl)
                                (try simp only [Act.put, zn1, zn2, zn3])
                                refine tY (i := 9) (v := ?_) rfl ?_ hHeld ?_; rotate_left 1; focus (intro w' hSw; have hCell := fun (b o : Nat) (h : b < wr.heap.size) => hSw.cell (p := ⟨b, o, none⟩) h; clear hSw; go_simp; try with_reducible rfl)
                                (try simp only [Act.put, zn1, zn2, zn3])
                                refine tY (i := 10) (v := ?_) rfl ?_ hHeld ?_; rotate_left 1; focus (intro w' hSw; clear hSw; go_simp; try with_reducible rfl)
                                (try simp only [Act.put, zn1, zn2, zn3])
                                refine tY (i := 11) (v := ?_) rfl ?_ hHeld ?_; rotate_left 1; focus (intro w' hSw; have hCell := fun (b o : Nat) (h : b < wr.heap.size) => hSw.cell (p := ⟨b, o, none⟩) h; clear hSw; go_simp; try with_reducible rfl)
                                (try simp only [Act.put, zn1, zn2, zn3])
                                refine tY (i := 12) (v := ?_) rfl ?_ hHeld ?_; rotate_left 1; focus (intro w' hSw; clear hSw; go_simp; try with_reducible rfl)
                                (try simp only [Act.put, zn1, zn2, zn3])
                                refine tY (i := 13) (v := ?_) rfl ?_ hHeld ?_; rotate_left 1; focus (intro w' hSw; clear hSw; go_simp; try with_reducible rfl)
                                (try simp only [Act.put, zn1, zn2, zn3])
                                refine wpAnyH_done (by kernel_rfl) ?_ _
                                replace e0 := cellAt e0 hHeld (by omega)
                                replace e1 := cellAt e1 hHeld (by omega)
                                replace e2 := cellAt e2 hHeld (by omega)
                                replace e3 := cellAt e3 hHeld (by omega)
                                replace y0 := cellAt y0 hHeld (by omega)
                                replace HQ := Lib.hid (HQ.out.at hHeld)
                                replace HJ := Lib.hid (HJ.out.at hHeld)
                                replace HB := Lib.hid (lift HB.out hHeld)
                                replace HO1 := Lib.hid (own_on HO1.out hHeld)
                                replace HO2 := Lib.hid (own_on HO2.out hHeld)
                                replace Hb := Lib.hid (lift Hb.out hHeld)
                                replace p1 : w8.heap.size < wr.drew.heap.size := ltAt p1 hHeld
                                replace hgl : gb < wr.drew.heap.size := ltAt hgl hHeld
                                go_wp2_with fail
                                go_roundw
                                case rel =>
                                  refine ⟨k + 1, by omega, by go_num, fun i h hi => ?_, HBq.out.drew⟩
                                  rcases Nat.lt_or_ge i k with h1 | h1
                                  · exact hall.out i h h1
                                  · have : i = k := by omega
                                    subst this
                                    rw [Hx.out]; exact hls
                                case measure => simp [intOf]; omega
                            · have hge : ∀ h : k < out.length, ltS out[k].1 s = false := fun h => absurd h hlt2
                              try go_wp2_with fail
                              refine wp_region_held_drew (S := fun w' => Below wr.heap.size wr w') (by kernel_rfl) (Below.drew (Below.refl _ _)) (fun hHeld => ?_)
                              refine tY (i := 0) (v := ?_) rfl ?_ hHeld ?_; rotate_left 1; focus (intro w' hSw; clear hSw; go_simp; try with_reducible rfl)
                              (try simp only [Act.put, zn1, zn2, zn3])
                              refine tY (i := 1) (v := ?_) rfl ?_ hHeld ?_; rotate_left 1; focus (intro w' hSw; clear hSw; go_simp; try with_reducible rfl)
                              (try simp only [Act.put, zn1, zn2, zn3])
                              refine tY (i := 2) (v := ?_) rfl ?_ hHeld ?_; rotate_left 1; focus (intro w' hSw; clear hSw; go_simp; try with_reducible rfl)
                              (try simp only [Act.put, zn1, zn2, zn3])
                              refine tY (i := 3) (v := ?_) rfl ?_ hHeld ?_; rotate_left 1; focus (intro w' hSw; clear hSw; go_simp; try with_reducible rfl)
                              (try simp only [Act.put, zn1, zn2, zn3])
                              refine tY (i := 4) (v := ?_) rfl ?_ hHeld ?_; rotate_left 1; focus (intro w' hSw; clear hSw; go_simp; try with_reducible rfl)
                              (try simp only [Act.put, zn1, zn2, zn3])
                              refine tS (i := 5) rfl hHeld ?_; (try simp only [Act.put, zn1, zn2, zn3])
                              refine tS (i := 6) rfl hHeld ?_; (try simp only [Act.put, zn1, zn2, zn3])
                              refine tS (i := 7) rfl hHeld ?_; (try simp only [Act.put, zn1, zn2, zn3])
                              refine tS (i := 8) rfl hHeld ?_; (try simp only [Act.put, zn1, zn2, zn3])
                              refine tS (i := 9) rfl hHeld ?_; (try simp only [Act.put, zn1, zn2, zn3])
                              refine tS (i := 10) rfl hHeld ?_; (try simp only [Act.put, zn1, zn2, zn3])
                              refine tS (i := 11) rfl hHeld ?_; (try simp only [Act.put, zn1, zn2, zn3])
                              refine tS (i := 12) rfl hHeld ?_; (try simp only [Act.put, zn1, zn2, zn3])
                              refine tY (i := 13) (v := ?_) rfl ?_ hHeld ?_; rotate_left 1; focus (intro w' hSw; clear hSw; go_simp; try with_reducible rfl)
                              (try simp only [Act.put, zn1, zn2, zn3])
                              refine wpAnyH_done (by kernel_rfl) ?_ _
                              replace e0 := cellAt e0 hHeld (by omega)
                              replace e1 := cellAt e1 hHeld (by omega)
                              replace e2 := cellAt e2 hHeld (by omega)
                              replace e3 := cellAt e3 hHeld (by omega)
                              replace HQ := Lib.hid (HQ.out.at hHeld)
                              replace HJ := Lib.hid (HJ.out.at hHeld)
                              replace HB := Lib.hid (lift HB.out hHeld)
                              replace HO1 := Lib.hid (own_on HO1.out hHeld)
                              replace HO2 := Lib.hid (own_on HO2.out hHeld)
                              replace Hb := Lib.hid (lift Hb.out hHeld)
                              replace p1 : w8.heap.size < wr.drew.heap.size := ltAt p1 hHeld
                              go_wp2_with fail
                              have HI := Lib.hid (insJ_at (j := (s, t, r, d)) (l := out) (k := k) hall.out hge (by omega))
                              first | (refine wp_named ?_; intro W4 hW) | (refine calls_named ?_; intro W4 hW)
                              have B4 : Below wr.drew.heap.size wr.drew W4 := by rw [hW]; exact (by repeat (first | exact Below.refl _ _ | assumption | refine Below.alloc ?_ (by first | omega | (simp <;> omega)) _ | refine Below.setCell ?_ (by first | omega | (simp <;> omega)) _ | refine Below.drew ?_))
                              replace e0 := cellAt e0 B4 (by omega)
                              replace e1 := cellAt e1 B4 (by omega)
                              replace e2 := cellAt e2 B4 (by omega)
                              replace e3 := cellAt e3 B4 (by omega)
                              replace HQ := Lib.hid (HQ.out.at B4)
                              replace HJ := Lib.hid (HJ.out.at B4)
                              replace HB := Lib.hid (lift HB.out B4)
                              replace HO1 := Lib.hid (own_on HO1.out B4)
                              replace HO2 := Lib.hid (own_on HO2.out B4)
                              replace Hb := Lib.hid (lift Hb.out B4)
                              replace p1 : w8.heap.size < W4.heap.size := ltAt p1 B4
                              clear hW
                              clear B4
                              have hz4 : w10.heap.size ≤ W4.heap.size := Hb.out.size
                              obtain ⟨A7, c7, hv7, _⟩ := own_rd HO1.out
                              have HR0 := Lib.hid (own_rd' HO1.out)
                              have hcap0 := (own_cap HO1.out).1
                              have HR1 := Lib.hid (HR0.out.takeA (m := k) (by omega))
                              have HR2 := Lib.hid (HR0.out.dropA (m := k) (by omega) hcap0)
                              have hs1 := run_slice_full (P := Tryz.prog) Tryz.underlying26 hi A1 out.length c1 k (by omega)
                              have hs2 := run_slice_tail (P := Tryz.prog) Tryz.underlying26 hi A1 out.length c1 k (by omega)
                              rw [hz1] at hs1 hs2
                              have HLk := Lib.hid (show (out.drop k).length = out.length - k from List.length_drop)
                              try go_wp2_with fail
                              refine wp_region_held_drew (S := fun w' => Below W4.heap.size W4 w') (by kernel_rfl) (Below.drew (Below.refl _ _)) (fun hHeld => ?_)
                              refine tY (i := 0) (v := ?_) rfl ?_ hHeld ?_; rotate_left 1; focus (intro w' hSw; clear hSw; go_simp; try with_reducible rfl)
                              (try simp only [Act.put, zn1, zn2, zn3])
                              refine tY (i := 1) (v := ?_) rfl ?_ hHeld ?_; rotate_left 1; focus (intro w' hSw; clear hSw; go_simp; try with_reducible rfl)
                              (try simp only [Act.put, zn1, zn2, zn3])
                              refine tY (i := 2) (v := ?_) rfl ?_ hHeld ?_; rotate_left 1; focus (intro w' hSw; clear hSw; go_simp; try with_reducible rfl)
                              (try simp only [Act.put, zn1, zn2, zn3])
                              refine tY (i := 3) (v := ?_) rfl ?_ hHeld ?_; rotate_left 1; focus (intro w' hSw; clear hSw; go_simp; try with_reducible rfl)
                              (try simp only [Act.put, zn1, zn2, zn3])
                              refine tY (i := 4) (v := ?_) rfl ?_ hHeld ?_; rotate_left 1; focus (intro w' hSw; have hCell := fun (b o : Nat) (h : b < W4.heap.size) => hSw.cell (p := ⟨b, o, none⟩) h; clear hSw; go_simp; try with_reducible rfl)
                              (try simp only [Act.put, zn1, zn2, zn3])
                              refine tY (i := 6) (v := ?_) rfl ?_ hHeld ?_; rotate_left 1; focus (intro w' hSw; clear hSw; go_simp; try with_reducible rfl)
                              (try simp only [Act.put, zn1, zn2, zn3])
                              refine tY (i := 7) (v := ?_) rfl ?_ hHeld ?_; rotate_left 1; focus (intro w' hSw; clear hSw; go_simp; try with_reducible rfl)
                              (try simp only [Act.put, zn1, zn2, zn3])
                              refine tY (i := 8) (v := ?_) rfl ?_ hHeld ?_; rotate_left 1; focus (intro w' hSw; clear hSw; go_simp; try with_reducible rfl)
                              (try simp only [Act.put, zn1, zn2, zn3])
                              refine ready_one (i := 5) rfl (by kernel_rfl) (fun K hK => ?_)
                              go_simp
                              refine hK.out _ _ ?_ (fun hHeld2 => ?_)
                              · (try dsimp only); first | exact hHeld | exact (by repeat (first | exact Below.refl _ _ | assumption | refine Below.alloc ?_ (by first | omega | (simp <;> omega)) _ | refine Below.setCell ?_ (by first | omega | (simp <;> omega)) _ | refine Below.drew ?_))
                              clear hK K hHeld; have hHeld := hHeld2; clear hHeld2; (try simp only [Act.put, zn1, zn2, zn3])
                              refine ready_one (i := 9) rfl (by kernel_rfl) (fun K hK => ?_)
                              refine step_append_full (by rfl) (.tmp 122) (.tmp 125) 26 (by rfl) 50 i0 _ 4 40 Tryz.underlying26 hi hz0 hz1 hz2 rfl _ (some ⟨W4.heap.size, 0, none⟩) 1 (jbC (s, t, r, d)) (by rfl) (Rd.lit W4.drew (jbC (s, t, r, d)) 50 4 1 rfl) (Nat.le_refl _) _ _ (out.length - k) (c1 - k) _ (by rfl) (HR2.out.at' (Nat.le_refl _) hHeld) (one_drop (one_jbsC out) _) (by unfold maxLen; omega) (by omega) ?_
                              intro A2' c2' v2 hc2 hr2 hb
                              have HR3 := Lib.hid hr2
                              clear hr2
                              refine hK.out _ _ ?_ (fun hHeld2 => ?_)
                              · (try dsimp only); first | exact Below.trans hHeld (Below.mono hb hHeld.size) | exact hHeld | exact Below.drew hHeld | exact (by repeat (first | exact Below.refl _ _ | assumption | refine Below.alloc ?_ (by first | omega | (simp <;> omega)) _ | refine Below.setCell ?_ (by first | omega | (simp <;> omega)) _ | refine Below.drew ?_))
                              clear hK K hHeld; have hHeld := hHeld2; clear hHeld2; (try simp only [Act.put, zn1, zn2, zn3])
                              refine ready_one (i := 10) rfl (by kernel_rfl) (fun K hK => ?_)
                              refine step_append_grown (by rfl) (.tmp 120) (.tmp 126) 26 (by rfl) 50 i0 _ 4 40 Tryz.underlying26 hi hz0 hz1 hz2 rfl _ _ k _ (by rfl) (HR1.out.at' (Nat.le_refl _) hHeld) _ A2' (1 + (out.length - k)) c2' _ (by rfl) HR3.out (one_app (one_jbC _) (one_drop (one_jbsC out) _)) (by omega) (by unfold maxLen; omega) (by omega) ?_
                              intro A3 c3 v7 hown3 hb
                              have hz6 := hHeld.size
                              have hz5 := Nat.le_trans hz4 hHeld.size
                              have HO3 := Lib.hid hown3
                              clear hown3
                              refine hK.out _ _ ?_ (fun hHeld2 => ?_)
                              · (try dsimp only); first | exact Below.trans hHeld (Below.mono hb hHeld.size) | exact hHeld | exact Below.drew hHeld | exact (by repeat (first | exact Below.refl _ _ | assumption | refine Below.alloc ?_ (by first | omega | (simp <;> omega)) _ | refine Below.setCell ?_ (by first | omega | (simp <;> omega)) _ | refine Below.drew ?_))
                              clear hK K hHeld; have hHeld := hHeld2; clear hHeld2; (try simp only [Act.put, zn1, zn2, zn3])
                              refine tY (i := 11) (v := ?_) rfl ?_ hHeld ?_; rotate_left 1; focus (intro w' hSw; clear hSw; go_simp; try with_reducible rfl)
                              (try simp only [Act.put, zn1, zn2, zn3])
                              refine wpAnyH_done (by kernel_rfl) ?_ _
                              have HO24 := HO2
                              replace e0 := cellAt e0 hHeld (by omega)
                              replace e1 := cellAt e1 hHeld (by omega)
                              replace e2 := cellAt e2 hHeld (by omega)
                              replace e3 := cellAt e3 hHeld (by omega)
                              replace HQ := Lib.hid (HQ.out.at hHeld)
                              replace HJ := Lib.hid (HJ.out.at hHeld)
                              replace HB := Lib.hid (lift HB.out hHeld)
                              replace HO1 := Lib.hid (own_on HO1.out hHeld)
                              replace HO2 := Lib.hid (own_on HO2.out hHeld)
                              replace Hb := Lib.hid (lift Hb.out hHeld)
                              replace p1 : w8.heap.size < v7.heap.size := ltAt p1 hHeld
                              clear hs1 hs2
                              have hl3 : k + (1 + (out.length - k)) = (insJ (s, t, r, d) out).length := by rw [insJ_len]; omega
                              have hx3 : (jbsC out).take (k * 4) ++ (jbC (s, t, r, d) ++ (jbsC out).drop (k * 4)) = jbsC (insJ (s, t, r, d) out) := by rw [HI.out, ← jbsC_take, ← jbsC_drop]; simp [jbsC]
                              have ho3 := own_base HO3.out hz5
                              rw [hx3] at ho3
                              have HO4 := Lib.hid ho3
                              have HSp4 := Lib.hid (Sep.new HO24.out HO3.out hz6)
                              clear ho3 hx3 HO24
                              have HL3 := Lib.hid hl3
                              clear hl3
                              go_wp2_with fail
                              go_roundw
                              case rel =>
                                refine ⟨m + 1, by omega, by go_num, ?_, ?_, HSp4.out, Hb.out⟩ <;> rw [HN.out]
                                · have h := HO4.out
                                  rw [HL3.out] at h ⊢
                                  exact h
                                · exact HO2.out
                              case measure => simp [intOf]; omega
                        · have hneg : decide ((k : Int) < 0) = false := by simp
                          obtain ⟨gb, rfl, hgb, hgl, hcap⟩ := own_open HO1.out (by omega)
                          obtain ⟨y0, y1, y2, y3, yf⟩ := ownJ_cells HO1.out hk
                          have hku : out[k].1 = s := by simpa using hpk
                          obtain ⟨s', t', r', d', hx⟩ : ∃ s t r d, out[k] = (s, t, r, d) := ⟨_, _, _, _, rfl⟩
                          rw [hx] at y0 y1 y2 y3 hku
                          simp only at y0 y1 y2 y3 hku
                          subst hku
                          have k1 : (0 : Int) ≤ (k : Int) := by omega
                          have k2 : (k : Int) < (out.length : Int) := by omega
                          have Hx := Lib.hid hx
                          have HG := Lib.hid hgb
                          have yf0 := yf (k * 4)
                          have yf1 := yf (k * 4 + 1)
                          have yf2 := yf (k * 4 + 2)
                          have yf3 := yf (k * 4 + 3)
                          clear hx hfind hpk hgb yf
                          by_cases r3 : r' = 3
                          · subst r3
                            have HN := Lib.hid (HS.out.trans (stepI_over (s := (out, gone)) (j := (s', t, r, d)) (upQ.dq HUp.out) hk Hx.out rfl rfl))
                            go_wp2_with fail
                            go_roundw
                            case rel =>
                              refine ⟨m + 1, by omega, by go_num, ?_, ?_, ?_, ?_⟩ <;> (try rw [HN.out])
                              · simp only [List.length_set]; exact own_alloc (ownJ_put HO1.out hk s' t r d) _
                              · exact own_alloc (HSp.out.kept HO2.out (put_grown _ _ _ _ _ _ _ _ _ _)) _
                              · exact HSp.out
                              · exact ((((Hb.out.setCell HG.out _).setCell HG.out _).setCell HG.out _).setCell HG.out _).alloc (by have := Hb.out.size; simp only [World.size_setCell]; omega) _
                            case measure => simp [intOf]; omega
                          · have r3b : (r' == 3) = false := by simpa using r3
                            have hop : openB (s', t', r', d') = true := by simp [openB, r3]
                            have HN := Lib.hid (HS.out.trans (stepI_meet (s := (out, gone)) (j := (s', t, r, d)) (upQ.dq HUp.out) hk Hx.out rfl hop))
                            clear r3 hop
                            go_wp2_with fail
                            first | (refine wp_named ?_; intro W5 hW) | (refine calls_named ?_; intro W5 hW)
                            have B5 : Below v3.heap.size v3 W5 := by rw [hW]; exact (by repeat (first | exact Below.refl _ _ | assumption | refine Below.alloc ?_ (by first | omega | (simp <;> omega)) _ | refine Below.setCell ?_ (by first | omega | (simp <;> omega)) _ | refine Below.drew ?_))
                            replace e0 := cellAt e0 B5 (by omega)
                            replace e1 := cellAt e1 B5 (by omega)
                            replace e2 := cellAt e2 B5 (by omega)
                            replace e3 := cellAt e3 B5 (by omega)
                            replace HQ := Lib.hid (HQ.out.at B5)
                            replace HJ := Lib.hid (HJ.out.at B5)
                            replace HB := Lib.hid (lift HB.out B5)
                            replace HO1 := Lib.hid (own_on HO1.out B5)
                            replace HO2 := Lib.hid (own_on HO2.out B5)
                            replace Hb := Lib.hid (lift Hb.out B5)
                            replace p1 : w8.heap.size < W5.heap.size := ltAt p1 B5
                            replace hgl : gb < W5.heap.size := ltAt hgl B5
                            have p5 : v3.heap.size < W5.heap.size := by rw [hW]; simp <;> omega
                            have f0 : W5.cell? ⟨v3.heap.size, 0, none⟩ = some (sv s') := by rw [hW]; go_simp
                            have f1 : W5.cell? ⟨v3.heap.size, 1, none⟩ = some (.int .i64 t') := by rw [hW]; go_simp
                            have f2 : W5.cell? ⟨v3.heap.size, 2, none⟩ = some (.int .i64 r') := by rw [hW]; go_simp
                            have f3 : W5.cell? ⟨v3.heap.size, 3, none⟩ = some (.int .i64 d') := by rw [hW]; go_simp
                            clear hW
                            clear B5 y0 y1 y2 y3 yf0 yf1 yf2 yf3
                            refine (clashes_any s' t' r' d' s' t r d W5).mono ?_
                            rintro e v6 ⟨rfl, hb⟩
                            replace e0 := cellAt e0 hb (by omega)
                            replace e1 := cellAt e1 hb (by omega)
                            replace e2 := cellAt e2 hb (by omega)
                            replace e3 := cellAt e3 hb (by omega)
                            replace f0 := cellAt f0 hb (by omega)
                            replace f1 := cellAt f1 hb (by omega)
                            replace f2 := cellAt f2 hb (by omega)
                            replace f3 := cellAt f3 hb (by omega)
                            replace HQ := Lib.hid (HQ.out.at hb)
                            replace HJ := Lib.hid (HJ.out.at hb)
                            replace HB := Lib.hid (lift HB.out hb)
                            replace HO1 := Lib.hid (own_on HO1.out hb)
                            replace HO2 := Lib.hid (own_on HO2.out hb)
                            replace Hb := Lib.hid (lift Hb.out hb)
                            replace p1 : w8.heap.size < v6.heap.size := ltAt p1 hb
                            replace hgl : gb < v6.heap.size := ltAt hgl hb
                            replace p5 : v3.heap.size < v6.heap.size := ltAt p5 hb
                            clear hb
                            have hzb : w10.heap.size ≤ v6.heap.size := Hb.out.size
                            obtain ⟨y0, y1, y2, y3, yf⟩ := ownJ_cells HO1.out hk
                            rw [Hx.out] at y0 y1 y2 y3
                            simp only at y0 y1 y2 y3
                            have yf0 := yf (k * 4)
                            have yf1 := yf (k * 4 + 1)
                            have yf2 := yf (k * 4 + 2)
                            have yf3 := yf (k * 4 + 3)
                            clear yf
                            cases hmq : (meetQ (s', t', r', d') (s', t, r, d)).2
                            · by_cases r1 : r' = 1
                              · subst r1
                                have HMq := Lib.hid (meet_wait hmq rfl)
                                clear hmq
                                rcases hjn : Pr.jn t' t false with ⟨jt, jb⟩
                                have HJn := Lib.hid hjn
                                clear hjn
                                have ho7 := ownJ_set HO1.out hk 1 (by omega) (s', jt, 1, d') (.int .i64 jt) (by rw [Hx.out]; rfl)
                                have HO7 := Lib.hid ho7
                                clear ho7
                                go_wp2_with fail
                                refine (Pr.refJoin_any t' t false _).mono ?_
                                rintro e v7 ⟨rfl, rfl⟩
                                rw [HJn.out]
                                simp only
                                go_wp2_with fail
                                go_roundw
                                case rel =>
                                  refine ⟨m + 1, by omega, by go_num, ?_, ?_, ?_, ?_⟩ <;> (try rw [HN.out, HMq.out])
                                  · simp only [HJn.out, List.length_set]; have h := HO7.out; simp only [List.length_set] at h; exact h
                                  · simp only [Bool.false_eq_true, if_false]; exact HSp.out.kept HO2.out (grownBy_setCell _ _ _)
                                  · exact HSp.out
                                  · exact Hb.out.setCell HG.out _
                                case measure => simp [intOf]; omega
                              · have r1b : (r' == 1) = false := by simpa using r1
                                have HMq := Lib.hid (meet_run hmq r1)
                                clear hmq r1
                                have hset : out.set k (s', t', r', d') = out := by rw [← Hx.out]; exact List.set_getElem_self hk
                                have HSet := Lib.hid hset
                                clear hset
                                go_wp2_with fail
                                go_roundw
                                case rel =>
                                  refine ⟨m + 1, by omega, by go_num, ?_, ?_, ?_, ?_⟩ <;> (try rw [HN.out, HMq.out])
                                  · simp only [HSet.out]; exact HO1.out
                                  · simp only [Bool.false_eq_true, if_false]; exact HO2.out
                                  · exact HSp.out
                                  · exact Hb.out
                                case measure => simp [intOf]; omega
                            · have HMq := Lib.hid (meet_clash hmq)
                              clear hmq
                              go_wp2_with (first | (at_builtin; refine wpList_pushm w10 v6 (by rfl) (.tmp 144) (.tmp 150) 30 (by rfl) w10.heap.size 59 k0 _ 3 32 Tryz.underlying30 ki kz0 kz1 kz2 rfl (by decide) _ _ _ (by rfl) HO2.out (ndC (s', t', 4)) v6.heap.size rfl (by rfl) rfl (one_ndC (s', t', 4)) h63d.out hbyd.out hzb Hb.out ?_; intro A8 c8 w4 hown4 hbel4 hg4 hat4; have e0' := cell_kept e0 hg4 p1 hpw0; have e1' := cell_kept e1 hg4 p1 hpw0; have e2' := cell_kept e2 hg4 p1 hpw0; have e3' := cell_kept e3 hg4 p1 hpw0; have HO17 := Lib.hid (HSp.out.symm.kept HO1.out hg4); obtain ⟨z0, z1, z2, z3, zf⟩ := ownJ_cells HO17.out hk; rw [Hx.out] at z0 z1 z2 z3; simp only at z0 z1 z2 z3; have zf0 := zf (k * 4); have zf1 := zf (k * 4 + 1); have zf2 := zf (k * 4 + 2); have zf3 := zf (k * 4 + 3); clear zf) | fail)
                              go_roundw
                              case rel =>
                                refine ⟨m + 1, by omega, by go_num, ?_, ?_, ?_, ?_⟩ <;> (try rw [HN.out, HMq.out])
                                · simp only [List.length_set]; exact ownJ_put HO17.out hk s' t r d
                                · rw [if_pos rfl]
                                  have h4 : w4.ownsRow w10.heap.size 59 3 (.slice A8 (gone.length + 1) c8) (gone ++ [goneD (s', t', r', d') (s', t, r, d)]).length (ndsC (gone ++ [goneD (s', t', r', d') (s', t, r, d)])) := by simpa [ndsC, goneD] using hown4
                                  exact ((HSp.out.symm.push HO1.out hat4).symm).kept h4 (put_grown _ _ _ _ _ _ _ _ _ _)
                                · exact (HSp.out.symm.push HO1.out hat4).symm
                                · exact (((hbel4.setCell HG.out _).setCell HG.out _).setCell HG.out _).setCell HG.out _
                              case measure => simp [intOf]; omega
                      · obtain rfl : m = jobs.length := by omega
                        rw [List.take_length] at hown1 hown2 ⊢
                        have HO1 := Lib.hid hown1
                        have HO2 := Lib.hid hown2
                        replace HQ := Lib.hid (HQ.out.at hb)
                        replace HJ := Lib.hid (HJ.out.at hb)
                        replace HB := Lib.hid (lift HB.out hb)
                        clear hown1 hown2 hsep hb
                        go_wp2_with fail
                        refine bodyPost_ret (v := .tuple #[.slice A1 (togR q jobs).1.length c1, .slice A2 (togR q jobs).2.length c2, .int .i64 0]) (by simp only [results, Tryz.results33]; go_simp) rfl ?_
                        rw [HF.out]
                        exact ⟨A1, c1, A2, c2, rfl, (own_cap HO1.out).1, own_rd' HO1.out, own_rd' HO2.out, HB.out⟩
            · subst h2
              obtain ⟨w9, rfl⟩ : ∃ wo : World, wo = wr := ⟨_, rfl⟩
              go_wp2_with fail
              go_loopw [11, 50] (fun nv i wr => ∃ m : Nat, m ≤ jobs.length ∧ i = .int .i64 m ∧ nv = .int .i64 ((q.length : Int) + (newN q (jobs.take m) : Int)) ∧ Hid (∀ j ∈ jobs.take m, goneOf q j = none) ∧ Below w9.heap.size w9 wr) (fun _ i _ => jobs.length - (intOf i).toNat)
              case atStart => exact ⟨0, Nat.zero_le _, rfl, by first | rfl | simp [newN], fun j hj => by (first | cases hj | simp at hj), Below.refl _ _⟩
              case round =>
                obtain ⟨m, hm, rfl, rfl, hng, hb⟩ := hrel
                by_cases hlt : m < jobs.length
                · have hs := newN_succ (q := q) hlt
                  have hgs := gone_succ (q := q) hlt hng.out
                  have hin : jobs[m] ∈ jobs := List.getElem_mem hlt
                  have HBl := Lib.hid hb
                  replace HQ := Lib.hid (HQ.out.at hb)
                  replace HJ := Lib.hid (HJ.out.at hb)
                  replace HB := Lib.hid (lift HB.out hb)
                  clear hb
                  obtain ⟨b2, o2, hA, hB2, x0, x1, x2, x3⟩ := HJ.out.rq.job hlt
                  subst hA
                  generalize jobs[m] = x at x0 x1 x2 x3 hs hgs hin
                  obtain ⟨s, t, r, d⟩ := x
                  simp only at x0 x1 x2 x3 hs
                  have HS := Lib.hid hs
                  have HGs := Lib.hid hgs
                  have HIn := Lib.hid hin
                  have hnl : newN q (jobs.take m) ≤ 100000 := Nat.le_trans (newN_le _ _) (by simp; omega)
                  clear hs hgs hin
                  have m1 : (0 : Int) ≤ (m : Int) := by omega
                  have m2 : (m : Int) < (jobs.length : Int) := by omega
                  go_wp2_with fail
                  first | (refine wp_named ?_; intro W2 hW) | (refine calls_named ?_; intro W2 hW)
                  have B2 : Below wr.heap.size wr W2 := by rw [hW]; exact (by repeat (first | exact Below.refl _ _ | assumption | refine Below.alloc ?_ (by first | omega | (simp <;> omega)) _ | refine Below.setCell ?_ (by first | omega | (simp <;> omega)) _ | refine Below.drew ?_))
                  replace HQ := Lib.hid (HQ.out.at B2)
                  replace HJ := Lib.hid (HJ.out.at B2)
                  replace HB := Lib.hid (lift HB.out B2)
                  replace HBl := Lib.hid (lift HBl.out B2)
                  have p1 : wr.heap.size < W2.heap.size := by rw [hW]; simp <;> omega
                  have e0 : W2.cell? ⟨wr.heap.size, 0, none⟩ = some (sv s) := by rw [hW]; go_simp
                  have e1 : W2.cell? ⟨wr.heap.size, 1, none⟩ = some (.int .i64 t) := by rw [hW]; go_simp
                  have e2 : W2.cell? ⟨wr.heap.size, 2, none⟩ = some (.int .i64 r) := by rw [hW]; go_simp
                  have e3 : W2.cell? ⟨wr.heap.size, 3, none⟩ = some (.int .i64 d) := by rw [hW]; go_simp
                  clear hW
                  clear B2 x0 x1 x2 x3
                  refine (at_any A c q s W2 HQ.out.rq (by omega)).mono ?_
                  rintro e v3 ⟨rr, rfl, hcase, hb⟩
                  replace e0 := cellAt e0 hb (by omega)
                  replace e1 := cellAt e1 hb (by omega)
                  replace e2 := cellAt e2 hb (by omega)
                  replace e3 := cellAt e3 hb (by omega)
                  replace HQ := Lib.hid (HQ.out.at hb)
                  replace HJ := Lib.hid (HJ.out.at hb)
                  replace HB := Lib.hid (lift HB.out hb)
                  replace HBl := Lib.hid (lift HBl.out hb)
                  replace p1 : wr.heap.size < v3.heap.size := ltAt p1 hb
                  clear hb
                  rcases hcase with ⟨rfl, hnone⟩ | ⟨k, hk, rfl, hfind, hpk, _⟩
                  · have hn0 : jobOf q s = none := hnone
                    have HN := Lib.hid (HS.out.trans (by rw [hn0]))
                    have HG0 := Lib.hid (HGs.out (goneOf_new (j := (s, t, r, d)) hn0))
                    clear hn0 hnone
                    try go_wp2_with fail
                    refine wp_region_held_drew (S := fun w' => Below v3.heap.size v3 w') (by kernel_rfl) (Below.drew (Below.refl _ _)) (fun hHeld => ?_)
                    refine tY (i := 0) (v := ?_) rfl ?_ hHeld ?_; rotate_left 1; focus (intro w' hSw; clear hSw; go_simp; try with_reducible rfl)
                    (try simp only [Act.put, zn1, zn2, zn3])
                    refine tY (i := 1) (v := ?_) rfl ?_ hHeld ?_; rotate_left 1; focus (intro w' hSw; clear hSw; go_simp; try with_reducible rfl)
                    (try simp only [Act.put, zn1, zn2, zn3])
                    refine tY (i := 2) (v := ?_) rfl ?_ hHeld ?_; rotate_left 1; focus (intro w' hSw; clear hSw; go_simp; try with_reducible rfl)
                    (try simp only [Act.put, zn1, zn2, zn3])
                    refine tY (i := 3) (v := ?_) rfl ?_ hHeld ?_; rotate_left 1; focus (intro w' hSw; clear hSw; go_simp; try with_reducible rfl)
                    (try simp only [Act.put, zn1, zn2, zn3])
                    refine tY (i := 4) (v := ?_) rfl ?_ hHeld ?_; rotate_left 1; focus (intro w' hSw; clear hSw; go_simp; try with_reducible rfl)
                    (try simp only [Act.put, zn1, zn2, zn3])
                    refine tY (i := 5) (v := ?_) rfl ?_ hHeld ?_; rotate_left 1; focus (intro w' hSw; clear hSw; go_simp; try with_reducible rfl)
                    (try simp only [Act.put, zn1, zn2, zn3])
                    refine tY (i := 6) (v := ?_) rfl ?_ hHeld ?_; rotate_left 1; focus (intro w' hSw; clear hSw; go_simp; try with_reducible rfl)
                    (try simp only [Act.put, zn1, zn2, zn3])
                    refine tS (i := 7) rfl hHeld ?_; (try simp only [Act.put, zn1, zn2, zn3])
                    refine tS (i := 8) rfl hHeld ?_; (try simp only [Act.put, zn1, zn2, zn3])
                    refine tS (i := 9) rfl hHeld ?_; (try simp only [Act.put, zn1, zn2, zn3])
                    refine tS (i := 10) rfl hHeld ?_; (try simp only [Act.put, zn1, zn2, zn3])
                    refine tS (i := 11) rfl hHeld ?_; (try simp only [Act.put, zn1, zn2, zn3])
                    refine tS (i := 12) rfl hHeld ?_; (try simp only [Act.put, zn1, zn2, zn3])
                    refine tY (i := 13) (v := ?_) rfl ?_ hHeld ?_; rotate_left 1; focus (intro w' hSw; clear hSw; go_simp; try with_reducible rfl)
                    (try simp only [Act.put, zn1, zn2, zn3])
                    refine tY (i := 14) (v := ?_) rfl ?_ hHeld ?_; rotate_left 1; focus (intro w' hSw; clear hSw; go_simp; try with_reducible rfl)
                    (try simp only [Act.put, zn1, zn2, zn3])
                    refine tS (i := 15) rfl hHeld ?_; (try simp only [Act.put, zn1, zn2, zn3])
                    refine tS (i := 16) rfl hHeld ?_; (try simp only [Act.put, zn1, zn2, zn3])
                    refine tS (i := 17) rfl hHeld ?_; (try simp only [Act.put, zn1, zn2, zn3])
                    refine tS (i := 18) rfl hHeld ?_; (try simp only [Act.put, zn1, zn2, zn3])
                    refine tS (i := 19) rfl hHeld ?_; (try simp only [Act.put, zn1, zn2, zn3])
                    refine tS (i := 20) rfl hHeld ?_; (try simp only [Act.put, zn1, zn2, zn3])
                    refine tY (i := 21) (v := ?_) rfl ?_ hHeld ?_; rotate_left 1; focus (intro w' hSw; clear hSw; go_simp; try with_reducible rfl)
                    (try simp only [Act.put, zn1, zn2, zn3])
                    refine wpAnyH_done (by kernel_rfl) ?_ _
                    go_wp2_with fail
                    go_roundw
                    case rel => exact ⟨m + 1, by omega, by go_num, by rw [HN.out]; go_num, HG0, HBl.out.drew⟩
                    case measure => simp [intOf]; omega
                  · have hneg : decide ((k : Int) < 0) = false := by simp
                    have hge : decide ((0 : Int) ≤ (k : Int)) = true := by simp
                    have hj0 : jobOf q s = some q[k] := hfind
                    have HN := Lib.hid (HS.out.trans (by rw [hj0]))
                    obtain ⟨b3, o3, hA3, hB3, y0, y1, y2, y3⟩ := HQ.out.rq.job hk
                    subst hA3
                    generalize q[k] = y at y0 y1 y2 y3 hj0
                    obtain ⟨s', t', r', d'⟩ := y
                    simp only at y0 y1 y2 y3
                    have k1 : (0 : Int) ≤ (k : Int) := by omega
                    have k2 : (k : Int) < (q.length : Int) := by omega
                    have HJ0 := Lib.hid hj0
                    clear hj0 hfind hpk
                    by_cases r3 : r' = 3
                    · subst r3
                      have HG0 := Lib.hid (HGs.out (goneOf_over (j := (s, t, r, d)) HJ0.out rfl))
                      try go_wp2_with fail
                      refine wp_region_held_drew (S := fun w' => Below v3.heap.size v3 w') (by kernel_rfl) (Below.drew (Below.refl _ _)) (fun hHeld => ?_)
                      refine tY (i := 0) (v := ?_) rfl ?_ hHeld ?_; rotate_left 1; focus (intro w' hSw; clear hSw; go_simp; try with_reducible rfl)
                      (try simp only [Act.put, zn1, zn2, zn3])
                      refine tY (i := 1) (v := ?_) rfl ?_ hHeld ?_; rotate_left 1; focus (intro w' hSw; clear hSw; go_simp; try with_reducible rfl)
                      (try simp only [Act.put, zn1, zn2, zn3])
                      refine tY (i := 2) (v := ?_) rfl ?_ hHeld ?_; rotate_left 1; focus (intro w' hSw; clear hSw; go_simp; try with_reducible rfl)
                      (try simp only [Act.put, zn1, zn2, zn3])
                      refine tY (i := 3) (v := ?_) rfl ?_ hHeld ?_; rotate_left 1; focus (intro w' hSw; clear hSw; go_simp; try with_reducible rfl)
                      (try simp only [Act.put, zn1, zn2, zn3])
                      refine tY (i := 4) (v := ?_) rfl ?_ hHeld ?_; rotate_left 1; focus (intro w' hSw; clear hSw; go_simp; try with_reducible rfl)
                      (try simp only [Act.put, zn1, zn2, zn3])
                      refine tY (i := 5) (v := ?_) rfl ?_ hHeld ?_; rotate_left 1; focus (intro w' hSw; clear hSw; go_simp; try with_reducible rfl)
                      (try simp only [Act.put, zn1, zn2, zn3])
                      refine tY (i := 6) (v := ?_) rfl ?_ hHeld ?_; rotate_left 1; focus (intro w' hSw; clear hSw; go_simp; try with_reducible rfl)
                      (try simp only [Act.put, zn1, zn2, zn3])
                      refine tY (i := 7) (v := ?_) rfl ?_ hHeld ?_; rotate_left 1; focus (intro w' hSw; clear hSw; go_simp; try with_reducible rfl)
                      (try simp only [Act.put, zn1, zn2, zn3])
                      refine tY (i := 8) (v := ?_) rfl ?_ hHeld ?_; rotate_left 1; focus (intro w' hSw; clear hSw; go_simp; try with_reducible rfl)
                      (try simp only [Act.put, zn1, zn2, zn3])
                      refine tY (i := 9) (v := ?_) rfl ?_ hHeld ?_; rotate_left 1; focus (intro w' hSw; clear hSw; go_simp; try with_reducible rfl)
                      (try simp only [Act.put, zn1, zn2, zn3])
                      refine tY (i := 10) (v := ?_) rfl ?_ hHeld ?_; rotate_left 1; focus (intro w' hSw; clear hSw; go_simp; try with_reducible rfl)
                      (try simp only [Act.put, zn1, zn2, zn3])
                      refine tY (i := 11) (v := ?_) rfl ?_ hHeld ?_; rotate_left 1; focus (intro w' hSw; have hCell := fun (b o : Nat) (h : b < v3.heap.size) => hSw.cell (p := ⟨b, o, none⟩) h; clear hSw; go_simp; try with_reducible rfl)
                      (try simp only [Act.put, zn1, zn2, zn3])
                      refine tY (i := 12) (v := ?_) rfl ?_ hHeld ?_; rotate_left 1; focus (intro w' hSw; clear hSw; go_simp; try with_reducible rfl)
                      (try simp only [Act.put, zn1, zn2, zn3])
                      refine tY (i := 13) (v := ?_) rfl ?_ hHeld ?_; rotate_left 1; focus (intro w' hSw; clear hSw; go_simp; try with_reducible rfl)
                      (try simp only [Act.put, zn1, zn2, zn3])
                      refine tY (i := 14) (v := ?_) rfl ?_ hHeld ?_; rotate_left 1; focus (intro w' hSw; clear hSw; go_simp; try with_reducible rfl)
                      (try simp only [Act.put, zn1, zn2, zn3])
                      refine tS (i := 15) rfl hHeld ?_; (try simp only [Act.put, zn1, zn2, zn3])
                      refine tS (i := 16) rfl hHeld ?_; (try simp only [Act.put, zn1, zn2, zn3])
                      refine tS (i := 17) rfl hHeld ?_; (try simp only [Act.put, zn1, zn2, zn3])
                      refine tS (i := 18) rfl hHeld ?_; (try simp only [Act.put, zn1, zn2, zn3])
                      refine tS (i := 19) rfl hHeld ?_; (try simp only [Act.put, zn1, zn2, zn3])
                      refine tS (i := 20) rfl hHeld ?_; (try simp only [Act.put, zn1, zn2, zn3])
                      refine tY (i := 21) (v := ?_) rfl ?_ hHeld ?_; rotate_left 1; focus (intro w' hSw; clear hSw; go_simp; try with_reducible rfl)
                      (try simp only [Act.put, zn1, zn2, zn3])
                      refine wpAnyH_done (by kernel_rfl) ?_ _
                      go_wp2_with fail
                      go_roundw
                      case rel => exact ⟨m + 1, by omega, by go_num, by rw [HN.out]; go_num, HG0, HBl.out.drew⟩
                      case measure => simp [intOf]; omega
                    · have r3b : (r' != 3) = true := by simpa using r3
                      have hop : openB (s', t', r', d') = true := by simp [openB, r3]
                      have HOp := Lib.hid hop
                      clear r3 hop
                      try go_wp2_with fail
                      refine wp_region_held_drew (S := fun w' => Below v3.heap.size v3 w') (by kernel_rfl) (Below.drew (Below.refl _ _)) (fun hHeld => ?_)
                      refine tY (i := 0) (v := ?_) rfl ?_ hHeld ?_; rotate_left 1; focus (intro w' hSw; clear hSw; go_simp; try with_reducible rfl)
                      (try simp only [Act.put, zn1, zn2, zn3])
                      refine tY (i := 1) (v := ?_) rfl ?_ hHeld ?_; rotate_left 1; focus (intro w' hSw; clear hSw; go_simp; try with_reducible rfl)
                      (try simp only [Act.put, zn1, zn2, zn3])
                      refine tY (i := 2) (v := ?_) rfl ?_ hHeld ?_; rotate_left 1; focus (intro w' hSw; clear hSw; go_simp; try with_reducible rfl)
                      (try simp only [Act.put, zn1, zn2, zn3])
                      refine tY (i := 3) (v := ?_) rfl ?_ hHeld ?_; rotate_left 1; focus (intro w' hSw; clear hSw; go_simp; try with_reducible rfl)
                      (try simp only [Act.put, zn1, zn2, zn3])
                      refine tY (i := 4) (v := ?_) rfl ?_ hHeld ?_; rotate_left 1; focus (intro w' hSw; clear hSw; go_simp; try with_reducible rfl)
                      (try simp only [Act.put, zn1, zn2, zn3])
                      refine tY (i := 5) (v := ?_) rfl ?_ hHeld ?_; rotate_left 1; focus (intro w' hSw; clear hSw; go_simp; try with_reducible rfl)
                      (try simp only [Act.put, zn1, zn2, zn3])
                      refine tY (i := 6) (v := ?_) rfl ?_ hHeld ?_; rotate_left 1; focus (intro w' hSw; clear hSw; go_simp; try with_reducible rfl)
                      (try simp only [Act.put, zn1, zn2, zn3])
                      refine tY (i := 7) (v := ?_) rfl ?_ hHeld ?_; rotate_left 1; focus (intro w' hSw; clear hSw; go_simp; try with_reducible rfl)
                      (try simp only [Act.put, zn1, zn2, zn3])
                      refine tY (i := 8) (v := ?_) rfl ?_ hHeld ?_; rotate_left 1; focus (intro w' hSw; clear hSw; go_simp; try with_reducible rfl)
                      (try simp only [Act.put, zn1, zn2, zn3])
                      refine tY (i := 9) (v := ?_) rfl ?_ hHeld ?_; rotate_left 1; focus (intro w' hSw; clear hSw; go_simp; try with_reducible rfl)
                      (try simp only [Act.put, zn1, zn2, zn3])
                      refine tY (i := 10) (v := ?_) rfl ?_ hHeld ?_; rotate_left 1; focus (intro w' hSw; clear hSw; go_simp; try with_reducible rfl)
                      (try simp only [Act.put, zn1, zn2, zn3])
                      refine tY (i := 11) (v := ?_) rfl ?_ hHeld ?_; rotate_left 1; focus (intro w' hSw; have hCell := fun (b o : Nat) (h : b < v3.heap.size) => hSw.cell (p := ⟨b, o, none⟩) h; clear hSw; go_simp; try with_reducible rfl)
                      (try simp only [Act.put, zn1, zn2, zn3])
                      refine tY (i := 12) (v := ?_) rfl ?_ hHeld ?_; rotate_left 1; focus (intro w' hSw; clear hSw; go_simp; try with_reducible rfl)
                      (try simp only [Act.put, zn1, zn2, zn3])
                      refine tY (i := 13) (v := ?_) rfl ?_ hHeld ?_; rotate_left 1; focus (intro w' hSw; clear hSw; go_simp; try with_reducible rfl)
                      (try simp only [Act.put, zn1, zn2, zn3])
                      refine tY (i := 14) (v := ?_) rfl ?_ hHeld ?_; rotate_left 1; focus (intro w' hSw; clear hSw; go_simp; try with_reducible rfl)
                      (try simp only [Act.put, zn1, zn2, zn3])
                      refine tY (i := 15) (v := ?_) rfl ?_ hHeld ?_; rotate_left 1; focus (intro w' hSw; clear hSw; go_simp; try with_reducible rfl)
                      (try simp only [Act.put, zn1, zn2, zn3])
                      refine tY (i := 16) (v := ?_) rfl ?_ hHeld ?_; rotate_left 1; focus (intro w' hSw; clear hSw; go_simp; try with_reducible rfl)
                      (try simp only [Act.put, zn1, zn2, zn3])
                      refine tY (i := 17) (v := ?_) rfl ?_ hHeld ?_; rotate_left 1; focus (intro w' hSw; clear hSw; go_simp; try with_reducible rfl)
                      (try simp only [Act.put, zn1, zn2, zn3])
                      refine tY (i := 18) (v := ?_) rfl ?_ hHeld ?_; rotate_left 1; focus (intro w' hSw; have hCell := fun (b o : Nat) (h : b < v3.heap.size) => hSw.cell (p := ⟨b, o, none⟩) h; clear hSw; go_simp; try with_reducible rfl)
                      (try simp only [Act.put, zn1, zn2, zn3])
                      refine tY (i := 19) (v := ?_) rfl ?_ hHeld ?_; rotate_left 1; focus (intro w' hSw; have hCell := fun (b o : Nat) (h : b < v3.heap.size) => hSw.cell (p := ⟨b, o, none⟩) h; clear hSw; go_simp; try with_reducible rfl)
                      (try simp only [Act.put, zn1, zn2, zn3])
                      refine ready_one (i := 20) rfl (by kernel_rfl) (fun K hK => ?_)
                      go_simp
                      refine (clashes_any s' t' r' d' s t r d _).mono ?_
                      rintro e v5 ⟨rfl, hb⟩
                      refine hK.out _ _ ?_ (fun hHeld2 => ?_)
                      · (try dsimp only); first | exact Below.trans hHeld (Below.mono hb hHeld.size) | exact hHeld | exact Below.drew hHeld | exact (by repeat (first | exact Below.refl _ _ | assumption | refine Below.alloc ?_ (by first | omega | (simp <;> omega)) _ | refine Below.setCell ?_ (by first | omega | (simp <;> omega)) _ | refine Below.drew ?_))
                      clear hK K hHeld; have hHeld := hHeld2; clear hHeld2; (try simp only [Act.put, zn1, zn2, zn3])
                      refine tY (i := 21) (v := ?_) rfl ?_ hHeld ?_; rotate_left 1; focus (intro w' hSw; clear hSw; go_simp; try with_reducible rfl)
                      (try simp only [Act.put, zn1, zn2, zn3])
                      refine wpAnyH_done (by kernel_rfl) ?_ _
                      have hHeld2 := hHeld
                      replace e0 := cellAt e0 hHeld (by omega)
                      replace e1 := cellAt e1 hHeld (by omega)
                      replace e2 := cellAt e2 hHeld (by omega)
                      replace e3 := cellAt e3 hHeld (by omega)
                      replace y0 := cellAt y0 hHeld (by omega)
                      replace y1 := cellAt y1 hHeld (by omega)
                      replace y2 := cellAt y2 hHeld (by omega)
                      replace y3 := cellAt y3 hHeld (by omega)
                      replace HQ := Lib.hid (HQ.out.at hHeld)
                      replace HJ := Lib.hid (HJ.out.at hHeld)
                      replace HB := Lib.hid (lift HB.out hHeld)
                      replace HBl := Lib.hid (lift HBl.out hHeld)
                      replace p1 : wr.heap.size < v5.heap.size := ltAt p1 hHeld
                      replace hB3 : b3 < v5.heap.size := ltAt hB3 hHeld
                      cases hmq : (meetQ (s', t', r', d') (s, t, r, d)).2
                      · have HG0 := Lib.hid (HGs.out (goneOf_fine (j := (s, t, r, d)) HJ0.out hmq))
                        clear hmq
                        go_wp2_with fail
                        go_roundw
                        case rel => exact ⟨m + 1, by omega, by go_num, by rw [HN.out]; go_num, HG0, HBl.out⟩
                        case measure => simp [intOf]; omega
                      · have hne : (togR q jobs).2 ≠ [] := fun e => by
                          have h1 := (tog_gone (mayQ_iff.1 HM.out).2.2 (mayQ.dq HM2.out)).1 e _ HIn.out
                          rw [goneOf_clash HJ0.out HOp.out hmq] at h1
                          cases h1
                        have HF := Lib.hid (inst_clash HOk.out hne)
                        clear hmq hne
                        go_wp2_with fail
                        refine bodyPost_ret (v := .tuple #[.slice none 0 0, .slice none 0 0, .int .i64 7]) (by simp only [results, Tryz.results33]; go_simp) rfl ?_
                        rw [HF.out]
                        exact InstRet.no HB.out
                · obtain rfl : m = jobs.length := by omega
                  rw [List.take_length] at hng ⊢
                  replace HQ := Lib.hid (HQ.out.at hb)
                  replace HJ := Lib.hid (HJ.out.at hb)
                  replace HB := Lib.hid (lift HB.out hb)
                  clear hb
                  have hln := tog_len (mayQ_iff.1 HM.out).2.2 (mayQ.dq HM2.out)
                  have hno : (togR q jobs).2 = [] := (tog_gone (mayQ_iff.1 HM.out).2.2 (mayQ.dq HM2.out)).2 hng.out
                  by_cases h64 : 64 < q.length + newN q jobs
                  · have d64 : decide ((64 : Int) < (q.length : Int) + (newN q jobs : Int)) = true := by rw [decide_eq_true_eq]; omega
                    have HF := Lib.hid (inst_many (mode := 2) HOk.out (.inr ⟨rfl, hno⟩) (by rw [hln]; exact h64))
                    clear h64 hln
                    go_wp2_with fail
                    refine bodyPost_ret (v := .tuple #[.slice none 0 0, .slice none 0 0, .int .i64 8]) (by simp only [results, Tryz.results33]; go_simp) rfl ?_
                    rw [HF.out]
                    exact InstRet.no HB.out
                  · have d64 : decide ((64 : Int) < (q.length : Int) + (newN q jobs : Int)) = false := by rw [decide_eq_false_iff_not]; omega
                    have HF := Lib.hid (inst_fine (mode := 2) HOk.out (.inr ⟨rfl, hno⟩) (by rw [hln]; exact h64))
                    clear h64 hln
                    obtain ⟨w10, rfl⟩ : ∃ wo : World, wo = wr := ⟨_, rfl⟩
                    obtain ⟨i0, hi, hz0, hz1, hz2⟩ := info_parts infoJb
                    obtain ⟨k0, ki, kz0, kz1, kz2⟩ := info_parts infoD
                    have h63a := Lib.hid (show 0 + q.length ≤ maxLen by unfold maxLen; omega)
                    have hbya := Lib.hid (show (0 + q.length) * 40 ≤ 140737488355328 by omega)
                    go_wp2_with (first | (at_builtin; refine wpList_append_rd w10 (by rfl) (.const (.slice none 0 0)) (.tmp 87) 26 (by rfl) w10.heap.size 50 i0 _ 4 40 Tryz.underlying26 hi hz0 hz1 hz2 rfl (by decide) (.slice none 0 0) 0 [] (by rfl) (World.ownsRow_nil _ _ _ _) _ A q.length c (jbsC q) (by rfl) HQ.out.rq (one_jbsC q) h63a.out hbya.out (Nat.le_refl _) ?_; intro A11 c11 w11 hown11 hg11 hat11) | fail)
                    have hb11 : Below w10.heap.size w10 w11 := (Below.refl _ _).grown hg11 (Nat.le_refl _) (fun k h => by cases h)
                    simp only [Nat.zero_add, List.nil_append] at hown11
                    have HO11 := Lib.hid hown11
                    have HB11 := Lib.hid hb11
                    clear hown11 hg11 hat11 hb11
                    go_wp2_with fail
                    go_loopw [15, 16, 91] (fun v1 v2 i wr => ∃ m : Nat, m ≤ jobs.length ∧ i = .int .i64 m ∧ wr.ownsRow w10.heap.size 50 4 v1 (togR q (jobs.take m)).1.length (jbsC (togR q (jobs.take m)).1) ∧ wr.ownsRow w10.heap.size 59 3 v2 (togR q (jobs.take m)).2.length (ndsC (togR q (jobs.take m)).2) ∧ Sep v1 v2 ∧ Below w10.heap.size w10 wr) (fun _ _ i _ => jobs.length - (intOf i).toNat)
                    case atStart => exact ⟨0, Nat.zero_le _, rfl, HO11.out, World.ownsRow_nil _ _ _ _, .inr (.inl rfl), HB11.out⟩
                    case round =>
                      obtain ⟨m, hm, rfl, hown1, hown2, hsep, hb⟩ := hrel
                      obtain ⟨A1, c1, hv1, _⟩ := own_rd hown1
                      obtain ⟨A2, c2, hv2, _⟩ := own_rd hown2
                      subst hv1 hv2
                      obtain ⟨w8, rfl⟩ : ∃ wo : World, wo = wr := ⟨_, rfl⟩
                      by_cases hlt : m < jobs.length
                      · have hst := togR_succ (q := q) hlt
                        have hup : upQ (togR q (jobs.take m)).1 := togR_up (mayQ_iff.1 HM.out).2.2
                        have hln := togR_len q jobs m hm
                        rcases hog : togR q (jobs.take m) with ⟨out, gone⟩
                        simp only [hog] at hst hup hln hown1 hown2 hsep ⊢
                        clear hog
                        have HO1 := Lib.hid hown1
                        have HO2 := Lib.hid hown2
                        have HSp := Lib.hid hsep
                        have Hb := Lib.hid hb
                        have HUp := Lib.hid hup
                        have hpw0 : (Value.slice A2 gone.length c2).ownBlock ≠ some w8.heap.size := fun e => by have h1 := (hown2.lt _ e).2; omega
                        clear hown1 hown2 hsep hup
                        replace HQ := Lib.hid (HQ.out.at hb)
                        replace HJ := Lib.hid (HJ.out.at hb)
                        replace HB := Lib.hid (lift HB.out hb)
                        clear hb
                        obtain ⟨b2, o2, hA, hB2, x0, x1, x2, x3⟩ := HJ.out.rq.job hlt
                        subst hA
                        generalize jobs[m] = x at x0 x1 x2 x3 hst
                        obtain ⟨s, t, r, d⟩ := x
                        simp only at x0 x1 x2 x3
                        have HS := Lib.hid hst
                        clear hst
                        have m1 : (0 : Int) ≤ (m : Int) := by omega
                        have m2 : (m : Int) < (jobs.length : Int) := by omega
                        have h63d := Lib.hid (show gone.length + 1 ≤ maxLen by unfold maxLen; omega)
                        have hbyd := Lib.hid (show (gone.length + 1) * 32 ≤ 140737488355328 by omega)
                        go_wp2_with fail
                        first | (refine wp_named ?_; intro W2 hW) | (refine calls_named ?_; intro W2 hW)
                        have B2 : Below w8.heap.size w8 W2 := by rw [hW]; exact (by repeat (first | exact Below.refl _ _ | assumption | refine Below.alloc ?_ (by first | omega | (simp <;> omega)) _ | refine Below.setCell ?_ (by first | omega | (simp <;> omega)) _ | refine Below.drew ?_))
                        replace HQ := Lib.hid (HQ.out.at B2)
                        replace HJ := Lib.hid (HJ.out.at B2)
                        replace HB := Lib.hid (lift HB.out B2)
                        replace HO1 := Lib.hid (own_on HO1.out B2)
                        replace HO2 := Lib.hid (own_on HO2.out B2)
                        replace Hb := Lib.hid (lift Hb.out B2)
                        have p1 : w8.heap.size < W2.heap.size := by rw [hW]; simp <;> omega
                        have e0 : W2.cell? ⟨w8.heap.size, 0, none⟩ = some (sv s) := by rw [hW]; go_simp
                        have e1 : W2.cell? ⟨w8.heap.size, 1, none⟩ = some (.int .i64 t) := by rw [hW]; go_simp
                        have e2 : W2.cell? ⟨w8.heap.size, 2, none⟩ = some (.int .i64 r) := by rw [hW]; go_simp
                        have e3 : W2.cell? ⟨w8.heap.size, 3, none⟩ = some (.int .i64 d) := by rw [hW]; go_simp
                        clear hW
                        clear B2 x0 x1 x2 x3
                        refine (at_any A1 c1 out s W2 (own_rd' HO1.out) (by omega)).mono ?_
                        rintro e v3 ⟨rr, rfl, hcase, hb⟩
                        replace e0 := cellAt e0 hb (by omega)
                        replace e1 := cellAt e1 hb (by omega)
                        replace e2 := cellAt e2 hb (by omega)
                        replace e3 := cellAt e3 hb (by omega)
                        replace HQ := Lib.hid (HQ.out.at hb)
                        replace HJ := Lib.hid (HJ.out.at hb)
                        replace HB := Lib.hid (lift HB.out hb)
                        replace HO1 := Lib.hid (own_on HO1.out hb)
                        replace HO2 := Lib.hid (own_on HO2.out hb)
                        replace Hb := Lib.hid (lift Hb.out hb)
                        replace p1 : w8.heap.size < v3.heap.size := ltAt p1 hb
                        clear hb
                        rcases hcase with ⟨rfl, hnone⟩ | ⟨k, hk, rfl, hfind, hpk, _⟩
                        · have hn0 : jobOf out s = none := hnone
                          have HN := Lib.hid (HS.out.trans (stepI_new (s := (out, gone)) (j := (s, t, r, d)) hn0))
                          clear hn0 hnone
                          go_wp2_with fail
                          go_loopw [20] (fun kv wr => ∃ k : Nat, k ≤ out.length ∧ kv = .int .i64 k ∧ Hid (∀ i (h : i < out.length), i < k → ltS out[i].1 s = true) ∧ Below v3.heap.size v3 wr) (fun kv _ => out.length - (intOf kv).toNat)
                          case atStart => exact ⟨0, Nat.zero_le _, rfl, fun i _ h => absurd h (by omega), Below.refl _ _⟩
                          case round =>
                            obtain ⟨k, hk, rfl, hall, hbq⟩ := hrel
                            have HBq := Lib.hid hbq
                            replace e0 := cellAt e0 hbq (by omega)
                            replace e1 := cellAt e1 hbq (by omega)
                            replace e2 := cellAt e2 hbq (by omega)
                            replace e3 := cellAt e3 hbq (by omega)
                            replace HQ := Lib.hid (HQ.out.at hbq)
                            replace HJ := Lib.hid (HJ.out.at hbq)
                            replace HB := Lib.hid (lift HB.out hbq)
                            replace HO1 := Lib.hid (own_on HO1.out hbq)
                            replace HO2 := Lib.hid (own_on HO2.out hbq)
                            replace Hb := Lib.hid (lift Hb.out hbq)
                            replace p1 : w8.heap.size < wr.heap.size := ltAt p1 hbq
                            clear hbq
                            have k1 : (0 : Int) ≤ (k : Int) := by omega
                            by_cases hlt2 : k < out.length
                            · have k2 : (k : Int) < (out.length : Int) := by omega
                              obtain ⟨gb, rfl, hgb, hgl, hcap⟩ := own_open HO1.out (by omega)
                              obtain ⟨y0, y1, y2, y3, yf⟩ := ownJ_cells HO1.out hlt2
                              obtain ⟨s', t', r', d', hx⟩ : ∃ s t r d, out[k] = (s, t, r, d) := ⟨_, _, _, _, rfl⟩
                              rw [hx] at y0 y1 y2 y3
                              simp only at y0 y1 y2 y3
                              have Hx := Lib.hid hx
                              clear hx yf hgb
                              cases hls : Op.bytesLess s' s
                              · have hge : ∀ h : k < out.length, ltS out[k].1 s = false := fun _ => by rw [Hx.out]; exact hls
                                try go_wp2_with fail
                                refine wp_region_held_drew (S := fun w' => Below wr.heap.size wr w') (by kernel_rfl) (Below.drew (Below.refl _ _)) (fun hHeld => ?_)
                                refine tY (i := 0) (v := ?_) rfl ?_ hHeld ?_; rotate_left 1; focus (intro w' hSw; clear hSw; go_simp; try with_reducible rfl)
                                (try simp only [Act.put, zn1, zn2, zn3])
                                refine tY (i := 1) (v := ?_) rfl ?_ hHeld ?_; rotate_left 1; focus (intro w' hSw; clear hSw; go_simp; try with_reducible rfl)
                                (try simp only [Act.put, zn1, zn2, zn3])
                                refine tY (i := 2) (v := ?_) rfl ?_ hHeld ?_; rotate_left 1; focus (intro w' hSw; clear hSw; go_simp; try with_reducible rfl)
                                (try simp only [Act.put, zn1, zn2, zn3])
                                refine tY (i := 3) (v := ?_) rfl ?_ hHeld ?_; rotate_left 1; focus (intro w' hSw; clear hSw; go_simp; try with_reducible rfl)
                                (try simp only [Act.put, zn1, zn2, zn3])
                                refine tY (i := 4) (v := ?_) rfl ?_ hHeld ?_; rotate_left 1; focus (intro w' hSw; clear hSw; go_simp; try with_reducible rfl)
                                (try simp only [Act.put, zn1, zn2, zn3])
                                refine tY (i := 5) (v := ?_) rfl ?_ hHeld ?_; rotate_left 1; focus (intro w' hSw; clear hSw; go_simp; try with_reducible rfl)
                                (try simp only [Act.put, zn1, zn2, zn3])
                                refine tY (i := 6) (v := ?_) rfl ?_ hHeld ?_; rotate_left 1; focus (intro w' hSw; clear hSw; go_simp; try with_reducible rfl)
                                (try simp only [Act.put, zn1, zn2, zn3])
                                refine tY (i := 7) (v := ?_) rfl ?_ hHeld ?_; rotate_left 1; focus (intro w' hSw; clear hSw; go_simp; try with_reducible rfl)
                                (try simp only [Act.put, zn1, zn2, zn3])
                                refine tY (i := 8) (v := ?_) rfl ?_ hHeld ?_; rotate_left 1; focus (intro w' hSw; clear hSw; go_simp; try with_reducible rfl)
                                (try simp only [Act.put, zn1, zn2, zn3])
                                refine tY (i := 9) (v := ?_) rfl ?_ hHeld ?_; rotate_left 1; focus (intro w' hSw; have hCell := fun (b o : Nat) (h : b < wr.heap.size) => hSw.cell (p := ⟨b, o, none⟩) h; clear hSw; go_simp; try with_reducible rfl)
                                (try simp only [Act.put, zn1, zn2, zn3])
                                refine tY (i := 10) (v := ?_) rfl ?_ hHeld ?_; rotate_left 1; focus (intro w' hSw; clear hSw; go_simp; try with_reducible rfl)
                                (try simp only [Act.put, zn1, zn2, zn3])
                                refine tY (i := 11) (v := ?_) rfl ?_ hHeld ?_; rotate_left 1; focus (intro w' hSw; have hCell := fun (b o : Nat) (h : b < wr.heap.size) => hSw.cell (p := ⟨b, o, none⟩) h; clear hSw; go_simp; try with_reducible rfl)
                                (try simp only [Act.put, zn1, zn2, zn3])
                                refine tY (i := 12) (v := ?_) rfl ?_ hHeld ?_; rotate_left 1; focus (intro w' hSw; clear hSw; go_simp; try with_reducible rfl)
                                (try simp only [Act.put, zn1, zn2, zn3])
                                refine tY (i := 13) (v := ?_) rfl ?_ hHeld ?_; rotate_left 1; focus (intro w' hSw; clear hSw; go_simp; try with_reducible rfl)
                                (try simp only [Act.put, zn1, zn2, zn3])
                                refine wpAnyH_done (by kernel_rfl) ?_ _
                                replace e0 := cellAt e0 hHeld (by omega)
                                replace e1 := cellAt e1 hHeld (by omega)
                                replace e2 := cellAt e2 hHeld (by omega)
                                replace e3 := cellAt e3 hHeld (by omega)
                                replace y0 := cellAt y0 hHeld (by omega)
                                replace HQ := Lib.hid (HQ.out.at hHeld)
                                replace HJ := Lib.hid (HJ.out.at hHeld)
                                replace HB := Lib.hid (lift HB.out hHeld)
                                replace HO1 := Lib.hid (own_on HO1.out hHeld)
                                replace HO2 := Lib.hid (own_on HO2.out hHeld)
                                replace Hb := Lib.hid (lift Hb.out hHeld)
                                replace p1 : w8.heap.size < wr.drew.heap.size := ltAt p1 hHeld
                                replace hgl : gb < wr.drew.heap.size := ltAt hgl hHeld
                                go_wp2_with fail
                                have HI := Lib.hid (insJ_at (j := (s, t, r, d)) (l := out) (k := k) hall.out hge (by omega))
                                first | (refine wp_named ?_; intro W4 hW) | (refine calls_named ?_; intro W4 hW)
                                have B4 : Below wr.drew.heap.size wr.drew W4 := by rw [hW]; exact (by repeat (first | exact Below.refl _ _ | assumption | refine Below.alloc ?_ (by first | omega | (simp <;> omega)) _ | refine Below.setCell ?_ (by first | omega | (simp <;> omega)) _ | refine Below.drew ?_))
                                replace e0 := cellAt e0 B4 (by omega)
                                replace e1 := cellAt e1 B4 (by omega)
                                replace e2 := cellAt e2 B4 (by omega)
                                replace e3 := cellAt e3 B4 (by omega)
                                replace y0 := cellAt y0 B4 (by omega)
                                replace HQ := Lib.hid (HQ.out.at B4)
                                replace HJ := Lib.hid (HJ.out.at B4)
                                replace HB := Lib.hid (lift HB.out B4)
                                replace HO1 := Lib.hid (own_on HO1.out B4)
                                replace HO2 := Lib.hid (own_on HO2.out B4)
                                replace Hb := Lib.hid (lift Hb.out B4)
                                replace p1 : w8.heap.size < W4.heap.size := ltAt p1 B4
                                replace hgl : gb < W4.heap.size := ltAt hgl B4
                                clear hW
                                clear B4
                                have hz4 : w10.heap.size ≤ W4.heap.size := Hb.out.size
                                obtain ⟨A7, c7, hv7, _⟩ := own_rd HO1.out
                                have HR0 := Lib.hid (own_rd' HO1.out)
                                have hcap0 := (own_cap HO1.out).1
                                have HR1 := Lib.hid (HR0.out.takeA (m := k) (by omega))
                                have HR2 := Lib.hid (HR0.out.dropA (m := k) (by omega) hcap0)
                                have hs1 := run_slice_full (P := Tryz.prog) Tryz.underlying26 hi (some ⟨gb, 0, none⟩) out.length c1 k (by omega)
                                have hs2 := run_slice_tail (P := Tryz.prog) Tryz.underlying26 hi (some ⟨gb, 0, none⟩) out.length c1 k (by omega)
                                rw [hz1] at hs1 hs2
                                have HLk := Lib.hid (show (out.drop k).length = out.length - k from List.length_drop)
                                try go_wp2_with fail
                                refine wp_region_held_drew (S := fun w' => Below W4.heap.size W4 w') (by kernel_rfl) (Below.drew (Below.refl _ _)) (fun hHeld => ?_)
                                refine tY (i := 0) (v := ?_) rfl ?_ hHeld ?_; rotate_left 1; focus (intro w' hSw; clear hSw; go_simp; try with_reducible rfl)
                                (try simp only [Act.put, zn1, zn2, zn3])
                                refine tY (i := 1) (v := ?_) rfl ?_ hHeld ?_; rotate_left 1; focus (intro w' hSw; clear hSw; go_simp; try with_reducible rfl)
                                (try simp only [Act.put, zn1, zn2, zn3])
                                refine tY (i := 2) (v := ?_) rfl ?_ hHeld ?_; rotate_left 1; focus (intro w' hSw; clear hSw; go_simp; try with_reducible rfl)
                                (try simp only [Act.put, zn1, zn2, zn3])
                                refine tY (i := 3) (v := ?_) rfl ?_ hHeld ?_; rotate_left 1; focus (intro w' hSw; clear hSw; go_simp; try with_reducible rfl)
                                (try simp only [Act.put, zn1, zn2, zn3])
                                refine tY (i := 4) (v := ?_) rfl ?_ hHeld ?_; rotate_left 1; focus (intro w' hSw; have hCell := fun (b o : Nat) (h : b < W4.heap.size) => hSw.cell (p := ⟨b, o, none⟩) h; clear hSw; go_simp; try with_reducible rfl)
                                (try simp only [Act.put, zn1, zn2, zn3])
                                refine tY (i := 6) (v := ?_) rfl ?_ hHeld ?_; rotate_left 1; focus (intro w' hSw; clear hSw; go_simp; try with_reducible rfl)
                                (try simp only [Act.put, zn1, zn2, zn3])
                                refine tY (i := 7) (v := ?_) rfl ?_ hHeld ?_; rotate_left 1; focus (intro w' hSw; clear hSw; go_simp; try with_reducible rfl)
                                (try simp only [Act.put, zn1, zn2, zn3])
                                refine tY (i := 8) (v := ?_) rfl ?_ hHeld ?_; rotate_left 1; focus (intro w' hSw; clear hSw; go_simp; try with_reducible rfl)
                                (try simp only [Act.put, zn1, zn2, zn3])
                                refine ready_one (i := 5) rfl (by kernel_rfl) (fun K hK => ?_)
                                go_simp
                                refine hK.out _ _ ?_ (fun hHeld2 => ?_)
                                · (try dsimp only); first | exact hHeld | exact (by repeat (first | exact Below.refl _ _ | assumption | refine Below.alloc ?_ (by first | omega | (simp <;> omega)) _ | refine Below.setCell ?_ (by first | omega | (simp <;> omega)) _ | refine Below.drew ?_))
                                clear hK K hHeld; have hHeld := hHeld2; clear hHeld2; (try simp only [Act.put, zn1, zn2, zn3])
                                refine ready_one (i := 9) rfl (by kernel_rfl) (fun K hK => ?_)
                                refine step_append_full (by rfl) (.tmp 122) (.tmp 125) 26 (by rfl) 50 i0 _ 4 40 Tryz.underlying26 hi hz0 hz1 hz2 rfl _ (some ⟨W4.heap.size, 0, none⟩) 1 (jbC (s, t, r, d)) (by rfl) (Rd.lit W4.drew (jbC (s, t, r, d)) 50 4 1 rfl) (Nat.le_refl _) _ _ (out.length - k) (c1 - k) _ (by rfl) (HR2.out.at' (Nat.le_refl _) hHeld) (one_drop (one_jbsC out) _) (by unfold maxLen; omega) (by omega) ?_
                                intro A2' c2' v2 hc2 hr2 hb
                                have HR3 := Lib.hid hr2
                                clear hr2
                                refine hK.out _ _ ?_ (fun hHeld2 => ?_)
                                · (try dsimp only); first | exact Below.trans hHeld (Below.mono hb hHeld.size) | exact hHeld | exact Below.drew hHeld | exact (by repeat (first | exact Below.refl _ _ | assumption | refine Below.alloc ?_ (by first | omega | (simp <;> omega)) _ | refine Below.setCell ?_ (by first | omega | (simp <;> omega)) _ | refine Below.drew ?_))
                                clear hK K hHeld; have hHeld := hHeld2; clear hHeld2; (try simp only [Act.put, zn1, zn2, zn3])
                                refine ready_one (i := 10) rfl (by kernel_rfl) (fun K hK => ?_)
                                refine step_append_grown (by rfl) (.tmp 120) (.tmp 126) 26 (by rfl) 50 i0 _ 4 40 Tryz.underlying26 hi hz0 hz1 hz2 rfl _ _ k _ (by rfl) (HR1.out.at' (Nat.le_refl _) hHeld) _ A2' (1 + (out.length - k)) c2' _ (by rfl) HR3.out (one_app (one_jbC _) (one_drop (one_jbsC out) _)) (by omega) (by unfold maxLen; omega) (by omega) ?_
                                intro A3 c3 v7 hown3 hb
                                have hz6 := hHeld.size
                                have hz5 := Nat.le_trans hz4 hHeld.size
                                have HO3 := Lib.hid hown3
                                clear hown3
                                refine hK.out _ _ ?_ (fun hHeld2 => ?_)
                                · (try dsimp only); first | exact Below.trans hHeld (Below.mono hb hHeld.size) | exact hHeld | exact Below.drew hHeld | exact (by repeat (first | exact Below.refl _ _ | assumption | refine Below.alloc ?_ (by first | omega | (simp <;> omega)) _ | refine Below.setCell ?_ (by first | omega | (simp <;> omega)) _ | refine Below.drew ?_))
                                clear hK K hHeld; have hHeld := hHeld2; clear hHeld2; (try simp only [Act.put, zn1, zn2, zn3])
                                refine tY (i := 11) (v := ?_) rfl ?_ hHeld ?_; rotate_left 1; focus (intro w' hSw; clear hSw; go_simp; try with_reducible rfl)
                                (try simp only [Act.put, zn1, zn2, zn3])
                                refine wpAnyH_done (by kernel_rfl) ?_ _
                                have HO24 := HO2
                                replace e0 := cellAt e0 hHeld (by omega)
                                replace e1 := cellAt e1 hHeld (by omega)
                                replace e2 := cellAt e2 hHeld (by omega)
                                replace e3 := cellAt e3 hHeld (by omega)
                                replace y0 := cellAt y0 hHeld (by omega)
                                replace HQ := Lib.hid (HQ.out.at hHeld)
                                replace HJ := Lib.hid (HJ.out.at hHeld)
                                replace HB := Lib.hid (lift HB.out hHeld)
                                replace HO1 := Lib.hid (own_on HO1.out hHeld)
                                replace HO2 := Lib.hid (own_on HO2.out hHeld)
                                replace Hb := Lib.hid (lift Hb.out hHeld)
                                replace p1 : w8.heap.size < v7.heap.size := ltAt p1 hHeld
                                replace hgl : gb < v7.heap.size := ltAt hgl hHeld
                                clear hs1 hs2
                                have hl3 : k + (1 + (out.length - k)) = (insJ (s, t, r, d) out).length := by rw [insJ_len]; omega
                                have hx3 : (jbsC out).take (k * 4) ++ (jbC (s, t, r, d) ++ (jbsC out).drop (k * 4)) = jbsC (insJ (s, t, r, d) out) := by rw [HI.out, ← jbsC_take, ← jbsC_drop]; simp [jbsC]
                                have ho3 := own_base HO3.out hz5
                                rw [hx3] at ho3
                                have HO4 := Lib.hid ho3
                                have HSp4 := Lib.hid (Sep.new HO24.out HO3.out hz6)
                                clear ho3 hx3 HO24
                                have HL3 := Lib.hid hl3
                                clear hl3
                                go_wp2_with fail
                                go_roundw
                                case rel =>
                                  refine ⟨m + 1, by omega, by go_num, ?_, ?_, HSp4.out, Hb.out⟩ <;> rw [HN.out]
                                  · have h := HO4.out
                                    rw [HL3.out] at h ⊢
                                    exact h
                                  · exact HO2.out
                                case measure => simp [intOf]; omega
                              · skip
                                try go_wp2_with fail
                                refine wp_region_held_drew (S := fun w' => Below wr.heap.size wr w') (by kernel_rfl) (Below.drew (Below.refl _ _)) (fun hHeld => ?_)
                                refine tY (i := 0) (v := ?_) rfl ?_ hHeld ?_; rotate_left 1; focus (intro w' hSw; clear hSw; go_simp; try with_reducible rfl)
                                (try simp only [Act.put, zn1, zn2, zn3])
                                refine tY (i := 1) (v := ?_) rfl ?_ hHeld ?_; rotate_left 1; focus (intro w' hSw; clear hSw; go_simp; try with_reducible rfl)
                                (try simp only [Act.put, zn1, zn2, zn3])
                                refine tY (i := 2) (v := ?_) rfl ?_ hHeld ?_; rotate_left 1; focus (intro w' hSw; clear hSw; go_simp; try with_reducible rfl)
                                (try simp only [Act.put, zn1, zn2, zn3])
                                refine tY (i := 3) (v := ?_) rfl ?_ hHeld ?_; rotate_left 1; focus (intro w' hSw; clear hSw; go_simp; try with_reducible rfl)
                                (try simp only [Act.put, zn1, zn2, zn3])
                                refine tY (i := 4) (v := ?_) rfl ?_ hHeld ?_; rotate_left 1; focus (intro w' hSw; clear hSw; go_simp; try with_reducible rfl)
                                (try simp only [Act.put, zn1, zn2, zn3])
                                refine tY (i := 5) (v := ?_) rfl ?_ hHeld ?_; rotate_left 1; focus (intro w' hSw; clear hSw; go_simp; try with_reducible rfl)
                                (try simp only [Act.put, zn1, zn2, zn3])
                                refine tY (i := 6) (v := ?_) rfl ?_ hHeld ?_; rotate_left 1; focus (intro w' hSw; clear hSw; go_simp; try with_reducible rfl)
                                (try simp only [Act.put, zn1, zn2, zn3])
                                refine tY (i := 7) (v := ?_) rfl ?_ hHeld ?_; rotate_left 1; focus (intro w' hSw; clear hSw; go_simp; try with_reducible rfl)
                                (try simp only [Act.put, zn1, zn2, zn3])
                                refine tY (i := 8) (v := ?_) rfl ?_ hHeld ?_; rotate_left 1; focus (intro w' hSw; clear hSw; go_simp; try with_reducible rfl)
                                (try simp only [Act.put, zn1, zn2, zn3])
                                refine tY (i := 9) (v := ?_) rfl ?_ hHeld ?_; rotate_left 1; focus (intro w' hSw; have hCell := fun (b o : Nat) (h : b < wr.heap.size) => hSw.cell (p := ⟨b, o, none⟩) h; clear hSw; go_simp; try with_reducible rfl)
                                (try simp only [Act.put, zn1, zn2, zn3])
                                refine tY (i := 10) (v := ?_) rfl ?_ hHeld ?_; rotate_left 1; focus (intro w' hSw; clear hSw; go_simp; try with_reducible rfl)
                                (try simp only [Act.put, zn1, zn2, zn3])
                                refine tY (i := 11) (v := ?_) rfl ?_ hHeld ?_; rotate_left 1; focus (intro w' hSw; have hCell := fun (b o : Nat) (h : b < wr.heap.size) => hSw.cell (p := ⟨b, o, none⟩) h; clear hSw; go_simp; try with_reducible rfl)
                                (try simp only [Act.put, zn1, zn2, zn3])
                                refine tY (i := 12) (v := ?_) rfl ?_ hHeld ?_; rotate_left 1; focus (intro w' hSw; clear hSw; go_simp; try with_reducible rfl)
                                (try simp only [Act.put, zn1, zn2, zn3])
                                refine tY (i := 13) (v := ?_) rfl ?_ hHeld ?_; rotate_left 1; focus (intro w' hSw; clear hSw; go_simp; try with_reducible rfl)
                                (try simp only [Act.put, zn1, zn2, zn3])
                                refine wpAnyH_done (by kernel_rfl) ?_ _
                                replace e0 := cellAt e0 hHeld (by omega)
                                replace e1 := cellAt e1 hHeld (by omega)
                                replace e2 := cellAt e2 hHeld (by omega)
                                replace e3 := cellAt e3 hHeld (by omega)
                                replace y0 := cellAt y0 hHeld (by omega)
                                replace HQ := Lib.hid (HQ.out.at hHeld)
                                replace HJ := Lib.hid (HJ.out.at hHeld)
                                replace HB := Lib.hid (lift HB.out hHeld)
                                replace HO1 := Lib.hid (own_on HO1.out hHeld)
                                replace HO2 := Lib.hid (own_on HO2.out hHeld)
                                replace Hb := Lib.hid (lift Hb.out hHeld)
                                replace p1 : w8.heap.size < wr.drew.heap.size := ltAt p1 hHeld
                                replace hgl : gb < wr.drew.heap.size := ltAt hgl hHeld
                                go_wp2_with fail
                                go_roundw
                                case rel =>
                                  refine ⟨k + 1, by omega, by go_num, fun i h hi => ?_, HBq.out.drew⟩
                                  rcases Nat.lt_or_ge i k with h1 | h1
                                  · exact hall.out i h h1
                                  · have : i = k := by omega
                                    subst this
                                    rw [Hx.out]; exact hls
                                case measure => simp [intOf]; omega
                            · have hge : ∀ h : k < out.length, ltS out[k].1 s = false := fun h => absurd h hlt2
                              try go_wp2_with fail
                              refine wp_region_held_drew (S := fun w' => Below wr.heap.size wr w') (by kernel_rfl) (Below.drew (Below.refl _ _)) (fun hHeld => ?_)
                              refine tY (i := 0) (v := ?_) rfl ?_ hHeld ?_; rotate_left 1; focus (intro w' hSw; clear hSw; go_simp; try with_reducible rfl)
                              (try simp only [Act.put, zn1, zn2, zn3])
                              refine tY (i := 1) (v := ?_) rfl ?_ hHeld ?_; rotate_left 1; focus (intro w' hSw; clear hSw; go_simp; try with_reducible rfl)
                              (try simp only [Act.put, zn1, zn2, zn3])
                              refine tY (i := 2) (v := ?_) rfl ?_ hHeld ?_; rotate_left 1; focus (intro w' hSw; clear hSw; go_simp; try with_reducible rfl)
                              (try simp only [Act.put, zn1, zn2, zn3])
                              refine tY (i := 3) (v := ?_) rfl ?_ hHeld ?_; rotate_left 1; focus (intro w' hSw; clear hSw; go_simp; try with_reducible rfl)
                              (try simp only [Act.put, zn1, zn2, zn3])
                              refine tY (i := 4) (v := ?_) rfl ?_ hHeld ?_; rotate_left 1; focus (intro w' hSw; clear hSw; go_simp; try with_reducible rfl)
                              (try simp only [Act.put, zn1, zn2, zn3])
                              refine tS (i := 5) rfl hHeld ?_; (try simp only [Act.put, zn1, zn2, zn3])
                              refine tS (i := 6) rfl hHeld ?_; (try simp only [Act.put, zn1, zn2, zn3])
                              refine tS (i := 7) rfl hHeld ?_; (try simp only [Act.put, zn1, zn2, zn3])
                              refine tS (i := 8) rfl hHeld ?_; (try simp only [Act.put, zn1, zn2, zn3])
                              refine tS (i := 9) rfl hHeld ?_; (try simp only [Act.put, zn1, zn2, zn3])
                              refine tS (i := 10) rfl hHeld ?_; (try simp only [Act.put, zn1, zn2, zn3])
                              refine tS (i := 11) rfl hHeld ?_; (try simp only [Act.put, zn1, zn2, zn3])
                              refine tS (i := 12) rfl hHeld ?_; (try simp only [Act.put, zn1, zn2, zn3])
                              refine tY (i := 13) (v := ?_) rfl ?_ hHeld ?_; rotate_left 1; focus (intro w' hSw; clear hSw; go_simp; try with_reducible rfl)
                              (try simp only [Act.put, zn1, zn2, zn3])
                              refine wpAnyH_done (by kernel_rfl) ?_ _
                              replace e0 := cellAt e0 hHeld (by omega)
                              replace e1 := cellAt e1 hHeld (by omega)
                              replace e2 := cellAt e2 hHeld (by omega)
                              replace e3 := cellAt e3 hHeld (by omega)
                              replace HQ := Lib.hid (HQ.out.at hHeld)
                              replace HJ := Lib.hid (HJ.out.at hHeld)
                              replace HB := Lib.hid (lift HB.out hHeld)
                              replace HO1 := Lib.hid (own_on HO1.out hHeld)
                              replace HO2 := Lib.hid (own_on HO2.out hHeld)
                              replace Hb := Lib.hid (lift Hb.out hHeld)
                              replace p1 : w8.heap.size < wr.drew.heap.size := ltAt p1 hHeld
                              go_wp2_with fail
                              have HI := Lib.hid (insJ_at (j := (s, t, r, d)) (l := out) (k := k) hall.out hge (by omega))
                              first | (refine wp_named ?_; intro W4 hW) | (refine calls_named ?_; intro W4 hW)
                              have B4 : Below wr.drew.heap.size wr.drew W4 := by rw [hW]; exact (by repeat (first | exact Below.refl _ _ | assumption | refine Below.alloc ?_ (by first | omega | (simp <;> omega)) _ | refine Below.setCell ?_ (by first | omega | (simp <;> omega)) _ | refine Below.drew ?_))
                              replace e0 := cellAt e0 B4 (by omega)
                              replace e1 := cellAt e1 B4 (by omega)
                              replace e2 := cellAt e2 B4 (by omega)
                              replace e3 := cellAt e3 B4 (by omega)
                              replace HQ := Lib.hid (HQ.out.at B4)
                              replace HJ := Lib.hid (HJ.out.at B4)
                              replace HB := Lib.hid (lift HB.out B4)
                              replace HO1 := Lib.hid (own_on HO1.out B4)
                              replace HO2 := Lib.hid (own_on HO2.out B4)
                              replace Hb := Lib.hid (lift Hb.out B4)
                              replace p1 : w8.heap.size < W4.heap.size := ltAt p1 B4
                              clear hW
                              clear B4
                              have hz4 : w10.heap.size ≤ W4.heap.size := Hb.out.size
                              obtain ⟨A7, c7, hv7, _⟩ := own_rd HO1.out
                              have HR0 := Lib.hid (own_rd' HO1.out)
                              have hcap0 := (own_cap HO1.out).1
                              have HR1 := Lib.hid (HR0.out.takeA (m := k) (by omega))
                              have HR2 := Lib.hid (HR0.out.dropA (m := k) (by omega) hcap0)
                              have hs1 := run_slice_full (P := Tryz.prog) Tryz.underlying26 hi A1 out.length c1 k (by omega)
                              have hs2 := run_slice_tail (P := Tryz.prog) Tryz.underlying26 hi A1 out.length c1 k (by omega)
                              rw [hz1] at hs1 hs2
                              have HLk := Lib.hid (show (out.drop k).length = out.length - k from List.length_drop)
                              try go_wp2_with fail
                              refine wp_region_held_drew (S := fun w' => Below W4.heap.size W4 w') (by kernel_rfl) (Below.drew (Below.refl _ _)) (fun hHeld => ?_)
                              refine tY (i := 0) (v := ?_) rfl ?_ hHeld ?_; rotate_left 1; focus (intro w' hSw; clear hSw; go_simp; try with_reducible rfl)
                              (try simp only [Act.put, zn1, zn2, zn3])
                              refine tY (i := 1) (v := ?_) rfl ?_ hHeld ?_; rotate_left 1; focus (intro w' hSw; clear hSw; go_simp; try with_reducible rfl)
                              (try simp only [Act.put, zn1, zn2, zn3])
                              refine tY (i := 2) (v := ?_) rfl ?_ hHeld ?_; rotate_left 1; focus (intro w' hSw; clear hSw; go_simp; try with_reducible rfl)
                              (try simp only [Act.put, zn1, zn2, zn3])
                              refine tY (i := 3) (v := ?_) rfl ?_ hHeld ?_; rotate_left 1; focus (intro w' hSw; clear hSw; go_simp; try with_reducible rfl)
                              (try simp only [Act.put, zn1, zn2, zn3])
                              refine tY (i := 4) (v := ?_) rfl ?_ hHeld ?_; rotate_left 1; focus (intro w' hSw; have hCell := fun (b o : Nat) (h : b < W4.heap.size) => hSw.cell (p := ⟨b, o, none⟩) h; clear hSw; go_simp; try with_reducible rfl)
                              (try simp only [Act.put, zn1, zn2, zn3])
                              refine tY (i := 6) (v := ?_) rfl ?_ hHeld ?_; rotate_left 1; focus (intro w' hSw; clear hSw; go_simp; try with_reducible rfl)
                              (try simp only [Act.put, zn1, zn2, zn3])
                              refine tY (i := 7) (v := ?_) rfl ?_ hHeld ?_; rotate_left 1; focus (intro w' hSw; clear hSw; go_simp; try with_reducible rfl)
                              (try simp only [Act.put, zn1, zn2, zn3])
                              refine tY (i := 8) (v := ?_) rfl ?_ hHeld ?_; rotate_left 1; focus (intro w' hSw; clear hSw; go_simp; try with_reducible rfl)
                              (try simp only [Act.put, zn1, zn2, zn3])
                              refine ready_one (i := 5) rfl (by kernel_rfl) (fun K hK => ?_)
                              go_simp
                              refine hK.out _ _ ?_ (fun hHeld2 => ?_)
                              · (try dsimp only); first | exact hHeld | exact (by repeat (first | exact Below.refl _ _ | assumption | refine Below.alloc ?_ (by first | omega | (simp <;> omega)) _ | refine Below.setCell ?_ (by first | omega | (simp <;> omega)) _ | refine Below.drew ?_))
                              clear hK K hHeld; have hHeld := hHeld2; clear hHeld2; (try simp only [Act.put, zn1, zn2, zn3])
                              refine ready_one (i := 9) rfl (by kernel_rfl) (fun K hK => ?_)
                              refine step_append_full (by rfl) (.tmp 122) (.tmp 125) 26 (by rfl) 50 i0 _ 4 40 Tryz.underlying26 hi hz0 hz1 hz2 rfl _ (some ⟨W4.heap.size, 0, none⟩) 1 (jbC (s, t, r, d)) (by rfl) (Rd.lit W4.drew (jbC (s, t, r, d)) 50 4 1 rfl) (Nat.le_refl _) _ _ (out.length - k) (c1 - k) _ (by rfl) (HR2.out.at' (Nat.le_refl _) hHeld) (one_drop (one_jbsC out) _) (by unfold maxLen; omega) (by omega) ?_
                              intro A2' c2' v2 hc2 hr2 hb
                              have HR3 := Lib.hid hr2
                              clear hr2
                              refine hK.out _ _ ?_ (fun hHeld2 => ?_)
                              · (try dsimp only); first | exact Below.trans hHeld (Below.mono hb hHeld.size) | exact hHeld | exact Below.drew hHeld | exact (by repeat (first | exact Below.refl _ _ | assumption | refine Below.alloc ?_ (by first | omega | (simp <;> omega)) _ | refine Below.setCell ?_ (by first | omega | (simp <;> omega)) _ | refine Below.drew ?_))
                              clear hK K hHeld; have hHeld := hHeld2; clear hHeld2; (try simp only [Act.put, zn1, zn2, zn3])
                              refine ready_one (i := 10) rfl (by kernel_rfl) (fun K hK => ?_)
                              refine step_append_grown (by rfl) (.tmp 120) (.tmp 126) 26 (by rfl) 50 i0 _ 4 40 Tryz.underlying26 hi hz0 hz1 hz2 rfl _ _ k _ (by rfl) (HR1.out.at' (Nat.le_refl _) hHeld) _ A2' (1 + (out.length - k)) c2' _ (by rfl) HR3.out (one_app (one_jbC _) (one_drop (one_jbsC out) _)) (by omega) (by unfold maxLen; omega) (by omega) ?_
                              intro A3 c3 v7 hown3 hb
                              have hz6 := hHeld.size
                              have hz5 := Nat.le_trans hz4 hHeld.size
                              have HO3 := Lib.hid hown3
                              clear hown3
                              refine hK.out _ _ ?_ (fun hHeld2 => ?_)
                              · (try dsimp only); first | exact Below.trans hHeld (Below.mono hb hHeld.size) | exact hHeld | exact Below.drew hHeld | exact (by repeat (first | exact Below.refl _ _ | assumption | refine Below.alloc ?_ (by first | omega | (simp <;> omega)) _ | refine Below.setCell ?_ (by first | omega | (simp <;> omega)) _ | refine Below.drew ?_))
                              clear hK K hHeld; have hHeld := hHeld2; clear hHeld2; (try simp only [Act.put, zn1, zn2, zn3])
                              refine tY (i := 11) (v := ?_) rfl ?_ hHeld ?_; rotate_left 1; focus (intro w' hSw; clear hSw; go_simp; try with_reducible rfl)
                              (try simp only [Act.put, zn1, zn2, zn3])
                              refine wpAnyH_done (by kernel_rfl) ?_ _
                              have HO24 := HO2
                              replace e0 := cellAt e0 hHeld (by omega)
                              replace e1 := cellAt e1 hHeld (by omega)
                              replace e2 := cellAt e2 hHeld (by omega)
                              replace e3 := cellAt e3 hHeld (by omega)
                              replace HQ := Lib.hid (HQ.out.at hHeld)
                              replace HJ := Lib.hid (HJ.out.at hHeld)
                              replace HB := Lib.hid (lift HB.out hHeld)
                              replace HO1 := Lib.hid (own_on HO1.out hHeld)
                              replace HO2 := Lib.hid (own_on HO2.out hHeld)
                              replace Hb := Lib.hid (lift Hb.out hHeld)
                              replace p1 : w8.heap.size < v7.heap.size := ltAt p1 hHeld
                              clear hs1 hs2
                              have hl3 : k + (1 + (out.length - k)) = (insJ (s, t, r, d) out).length := by rw [insJ_len]; omega
                              have hx3 : (jbsC out).take (k * 4) ++ (jbC (s, t, r, d) ++ (jbsC out).drop (k * 4)) = jbsC (insJ (s, t, r, d) out) := by rw [HI.out, ← jbsC_take, ← jbsC_drop]; simp [jbsC]
                              have ho3 := own_base HO3.out hz5
                              rw [hx3] at ho3
                              have HO4 := Lib.hid ho3
                              have HSp4 := Lib.hid (Sep.new HO24.out HO3.out hz6)
                              clear ho3 hx3 HO24
                              have HL3 := Lib.hid hl3
                              clear hl3
                              go_wp2_with fail
                              go_roundw
                              case rel =>
                                refine ⟨m + 1, by omega, by go_num, ?_, ?_, HSp4.out, Hb.out⟩ <;> rw [HN.out]
                                · have h := HO4.out
                                  rw [HL3.out] at h ⊢
                                  exact h
                                · exact HO2.out
                              case measure => simp [intOf]; omega
                        · have hneg : decide ((k : Int) < 0) = false := by simp
                          obtain ⟨gb, rfl, hgb, hgl, hcap⟩ := own_open HO1.out (by omega)
                          obtain ⟨y0, y1, y2, y3, yf⟩ := ownJ_cells HO1.out hk
                          have hku : out[k].1 = s := by simpa using hpk
                          obtain ⟨s', t', r', d', hx⟩ : ∃ s t r d, out[k] = (s, t, r, d) := ⟨_, _, _, _, rfl⟩
                          rw [hx] at y0 y1 y2 y3 hku
                          simp only at y0 y1 y2 y3 hku
                          subst hku
                          have k1 : (0 : Int) ≤ (k : Int) := by omega
                          have k2 : (k : Int) < (out.length : Int) := by omega
                          have Hx := Lib.hid hx
                          have HG := Lib.hid hgb
                          have yf0 := yf (k * 4)
                          have yf1 := yf (k * 4 + 1)
                          have yf2 := yf (k * 4 + 2)
                          have yf3 := yf (k * 4 + 3)
                          clear hx hfind hpk hgb yf
                          by_cases r3 : r' = 3
                          · subst r3
                            have HN := Lib.hid (HS.out.trans (stepI_over (s := (out, gone)) (j := (s', t, r, d)) (upQ.dq HUp.out) hk Hx.out rfl rfl))
                            go_wp2_with fail
                            go_roundw
                            case rel =>
                              refine ⟨m + 1, by omega, by go_num, ?_, ?_, ?_, ?_⟩ <;> (try rw [HN.out])
                              · simp only [List.length_set]; exact own_alloc (ownJ_put HO1.out hk s' t r d) _
                              · exact own_alloc (HSp.out.kept HO2.out (put_grown _ _ _ _ _ _ _ _ _ _)) _
                              · exact HSp.out
                              · exact ((((Hb.out.setCell HG.out _).setCell HG.out _).setCell HG.out _).setCell HG.out _).alloc (by have := Hb.out.size; simp only [World.size_setCell]; omega) _
                            case measure => simp [intOf]; omega
                          · have r3b : (r' == 3) = false := by simpa using r3
                            have hop : openB (s', t', r', d') = true := by simp [openB, r3]
                            have HN := Lib.hid (HS.out.trans (stepI_meet (s := (out, gone)) (j := (s', t, r, d)) (upQ.dq HUp.out) hk Hx.out rfl hop))
                            clear r3 hop
                            go_wp2_with fail
                            first | (refine wp_named ?_; intro W5 hW) | (refine calls_named ?_; intro W5 hW)
                            have B5 : Below v3.heap.size v3 W5 := by rw [hW]; exact (by repeat (first | exact Below.refl _ _ | assumption | refine Below.alloc ?_ (by first | omega | (simp <;> omega)) _ | refine Below.setCell ?_ (by first | omega | (simp <;> omega)) _ | refine Below.drew ?_))
                            replace e0 := cellAt e0 B5 (by omega)
                            replace e1 := cellAt e1 B5 (by omega)
                            replace e2 := cellAt e2 B5 (by omega)
                            replace e3 := cellAt e3 B5 (by omega)
                            replace HQ := Lib.hid (HQ.out.at B5)
                            replace HJ := Lib.hid (HJ.out.at B5)
                            replace HB := Lib.hid (lift HB.out B5)
                            replace HO1 := Lib.hid (own_on HO1.out B5)
                            replace HO2 := Lib.hid (own_on HO2.out B5)
                            replace Hb := Lib.hid (lift Hb.out B5)
                            replace p1 : w8.heap.size < W5.heap.size := ltAt p1 B5
                            replace hgl : gb < W5.heap.size := ltAt hgl B5
                            have p5 : v3.heap.size < W5.heap.size := by rw [hW]; simp <;> omega
                            have f0 : W5.cell? ⟨v3.heap.size, 0, none⟩ = some (sv s') := by rw [hW]; go_simp
                            have f1 : W5.cell? ⟨v3.heap.size, 1, none⟩ = some (.int .i64 t') := by rw [hW]; go_simp
                            have f2 : W5.cell? ⟨v3.heap.size, 2, none⟩ = some (.int .i64 r') := by rw [hW]; go_simp
                            have f3 : W5.cell? ⟨v3.heap.size, 3, none⟩ = some (.int .i64 d') := by rw [hW]; go_simp
                            clear hW
                            clear B5 y0 y1 y2 y3 yf0 yf1 yf2 yf3
                            refine (clashes_any s' t' r' d' s' t r d W5).mono ?_
                            rintro e v6 ⟨rfl, hb⟩
                            replace e0 := cellAt e0 hb (by omega)
                            replace e1 := cellAt e1 hb (by omega)
                            replace e2 := cellAt e2 hb (by omega)
                            replace e3 := cellAt e3 hb (by omega)
                            replace f0 := cellAt f0 hb (by omega)
                            replace f1 := cellAt f1 hb (by omega)
                            replace f2 := cellAt f2 hb (by omega)
                            replace f3 := cellAt f3 hb (by omega)
                            replace HQ := Lib.hid (HQ.out.at hb)
                            replace HJ := Lib.hid (HJ.out.at hb)
                            replace HB := Lib.hid (lift HB.out hb)
                            replace HO1 := Lib.hid (own_on HO1.out hb)
                            replace HO2 := Lib.hid (own_on HO2.out hb)
                            replace Hb := Lib.hid (lift Hb.out hb)
                            replace p1 : w8.heap.size < v6.heap.size := ltAt p1 hb
                            replace hgl : gb < v6.heap.size := ltAt hgl hb
                            replace p5 : v3.heap.size < v6.heap.size := ltAt p5 hb
                            clear hb
                            have hzb : w10.heap.size ≤ v6.heap.size := Hb.out.size
                            obtain ⟨y0, y1, y2, y3, yf⟩ := ownJ_cells HO1.out hk
                            rw [Hx.out] at y0 y1 y2 y3
                            simp only at y0 y1 y2 y3
                            have yf0 := yf (k * 4)
                            have yf1 := yf (k * 4 + 1)
                            have yf2 := yf (k * 4 + 2)
                            have yf3 := yf (k * 4 + 3)
                            clear yf
                            cases hmq : (meetQ (s', t', r', d') (s', t, r, d)).2
                            · by_cases r1 : r' = 1
                              · subst r1
                                have HMq := Lib.hid (meet_wait hmq rfl)
                                clear hmq
                                rcases hjn : Pr.jn t' t false with ⟨jt, jb⟩
                                have HJn := Lib.hid hjn
                                clear hjn
                                have ho7 := ownJ_set HO1.out hk 1 (by omega) (s', jt, 1, d') (.int .i64 jt) (by rw [Hx.out]; rfl)
                                have HO7 := Lib.hid ho7
                                clear ho7
                                go_wp2_with fail
                                refine (Pr.refJoin_any t' t false _).mono ?_
                                rintro e v7 ⟨rfl, rfl⟩
                                rw [HJn.out]
                                simp only
                                go_wp2_with fail
                                go_roundw
                                case rel =>
                                  refine ⟨m + 1, by omega, by go_num, ?_, ?_, ?_, ?_⟩ <;> (try rw [HN.out, HMq.out])
                                  · simp only [HJn.out, List.length_set]; have h := HO7.out; simp only [List.length_set] at h; exact h
                                  · simp only [Bool.false_eq_true, if_false]; exact HSp.out.kept HO2.out (grownBy_setCell _ _ _)
                                  · exact HSp.out
                                  · exact Hb.out.setCell HG.out _
                                case measure => simp [intOf]; omega
                              · have r1b : (r' == 1) = false := by simpa using r1
                                have HMq := Lib.hid (meet_run hmq r1)
                                clear hmq r1
                                have hset : out.set k (s', t', r', d') = out := by rw [← Hx.out]; exact List.set_getElem_self hk
                                have HSet := Lib.hid hset
                                clear hset
                                go_wp2_with fail
                                go_roundw
                                case rel =>
                                  refine ⟨m + 1, by omega, by go_num, ?_, ?_, ?_, ?_⟩ <;> (try rw [HN.out, HMq.out])
                                  · simp only [HSet.out]; exact HO1.out
                                  · simp only [Bool.false_eq_true, if_false]; exact HO2.out
                                  · exact HSp.out
                                  · exact Hb.out
                                case measure => simp [intOf]; omega
                            · have HMq := Lib.hid (meet_clash hmq)
                              clear hmq
                              go_wp2_with (first | (at_builtin; refine wpList_pushm w10 v6 (by rfl) (.tmp 144) (.tmp 150) 30 (by rfl) w10.heap.size 59 k0 _ 3 32 Tryz.underlying30 ki kz0 kz1 kz2 rfl (by decide) _ _ _ (by rfl) HO2.out (ndC (s', t', 4)) v6.heap.size rfl (by rfl) rfl (one_ndC (s', t', 4)) h63d.out hbyd.out hzb Hb.out ?_; intro A8 c8 w4 hown4 hbel4 hg4 hat4; have e0' := cell_kept e0 hg4 p1 hpw0; have e1' := cell_kept e1 hg4 p1 hpw0; have e2' := cell_kept e2 hg4 p1 hpw0; have e3' := cell_kept e3 hg4 p1 hpw0; have HO17 := Lib.hid (HSp.out.symm.kept HO1.out hg4); obtain ⟨z0, z1, z2, z3, zf⟩ := ownJ_cells HO17.out hk; rw [Hx.out] at z0 z1 z2 z3; simp only at z0 z1 z2 z3; have zf0 := zf (k * 4); have zf1 := zf (k * 4 + 1); have zf2 := zf (k * 4 + 2); have zf3 := zf (k * 4 + 3); clear zf) | fail)
                              go_roundw
                              case rel =>
                                refine ⟨m + 1, by omega, by go_num, ?_, ?_, ?_, ?_⟩ <;> (try rw [HN.out, HMq.out])
                                · simp only [List.length_set]; exact ownJ_put HO17.out hk s' t r d
                                · rw [if_pos rfl]
                                  have h4 : w4.ownsRow w10.heap.size 59 3 (.slice A8 (gone.length + 1) c8) (gone ++ [goneD (s', t', r', d') (s', t, r, d)]).length (ndsC (gone ++ [goneD (s', t', r', d') (s', t, r, d)])) := by simpa [ndsC, goneD] using hown4
                                  exact ((HSp.out.symm.push HO1.out hat4).symm).kept h4 (put_grown _ _ _ _ _ _ _ _ _ _)
                                · exact (HSp.out.symm.push HO1.out hat4).symm
                                · exact (((hbel4.setCell HG.out _).setCell HG.out _).setCell HG.out _).setCell HG.out _
                              case measure => simp [intOf]; omega
                      · obtain rfl : m = jobs.length := by omega
                        rw [List.take_length] at hown1 hown2 ⊢
                        have HO1 := Lib.hid hown1
                        have HO2 := Lib.hid hown2
                        replace HQ := Lib.hid (HQ.out.at hb)
                        replace HJ := Lib.hid (HJ.out.at hb)
                        replace HB := Lib.hid (lift HB.out hb)
                        clear hown1 hown2 hsep hb
                        go_wp2_with fail
                        refine bodyPost_ret (v := .tuple #[.slice A1 (togR q jobs).1.length c1, .slice A2 (togR q jobs).2.length c2, .int .i64 0]) (by simp only [results, Tryz.results33]; go_simp) rfl ?_
                        rw [HF.out]
                        exact ⟨A1, c1, A2, c2, rfl, (own_cap HO1.out).1, own_rd' HO1.out, own_rd' HO2.out, HB.out⟩
end Od
end Go.Proofs.YtanfnejbnmenkaaGreat
end

section
/- Install of the reference, of jobs in any number. (bel2) -/
namespace Go.Proofs.YtanfnejbnmenkaaGreat
open Go.RowKit Go.Sort
set_option linter.unusedSimpArgs false

namespace Od
set_option maxRecDepth 100000 in
set_option maxHeartbeats 4000000 in
theorem Install20_no (A : Option Addr) (c : Nat) (q : List Jb) (A0 : Option Addr) (c0 : Nat) (jobs : List Jb) (mode0 : Int) (w : World) (hq : QIn w A c q) (hj : QIn w A0 c0 jobs) (hno : mayQ q = false ∨ mayQ jobs = false) :
    Calls Tryz.prog 33 #[.slice A q.length c, .slice A0 jobs.length c0, .int .i64 mode0] w (InstRet (instQ q jobs mode0) w) := by
  have HQ := Lib.hid hq
  have HJ := Lib.hid hj
  have HNo := Lib.hid hno
  clear hq hj hno
  go_enter Tryz.func33, Tryz.ntmps33
  go_wp2_with fail
  refine (May20_any A c q w HQ.out.rq HQ.out.ok).mono ?_
  rintro e w2 ⟨rfl, hb⟩
  have HB := Lib.hid hb
  replace HQ := Lib.hid (HQ.out.at hb)
  replace HJ := Lib.hid (HJ.out.at hb)
  clear hb
  cases hm : mayQ q
  · have HF := Lib.hid (okIn_no1 (jobs := jobs) hm mode0)
    go_wp2_with fail
    refine bodyPost_ret (v := .tuple #[.slice none 0 0, .slice none 0 0, .int .i64 1]) (by simp only [results, Tryz.results33]; go_simp) rfl ?_
    rw [HF.out]
    exact InstRet.no HB.out
  · have HM := Lib.hid hm
    clear hm
    go_wp2_with fail
    refine (May20_any A0 c0 jobs w2 HJ.out.rq HJ.out.ok).mono ?_
    have hm2 : mayQ jobs = false := HNo.out.resolve_left (by rw [HM.out]; simp)
    rw [hm2]
    have HF := Lib.hid (okIn_no2 (q := q) hm2 mode0)
    rintro e w3 ⟨rfl, hb⟩
    replace HQ := Lib.hid (HQ.out.at hb)
    replace HJ := Lib.hid (HJ.out.at hb)
    replace HB := Lib.hid (lift HB.out hb)
    clear hb hm2
    go_wp2_with fail
    refine bodyPost_ret (v := .tuple #[.slice none 0 0, .slice none 0 0, .int .i64 1]) (by simp only [results, Tryz.results33]; go_simp) rfl ?_
    rw [HF.out]
    exact InstRet.no HB.out
theorem Install20_all (A : Option Addr) (c : Nat) (q : List Jb) (A0 : Option Addr) (c0 : Nat) (jobs : List Jb) (mode0 : Int) (w : World) (hq : QIn w A c q) (hj : QIn w A0 c0 jobs) :
    Calls Tryz.prog 33 #[.slice A q.length c, .slice A0 jobs.length c0, .int .i64 mode0] w (InstRet (instQ q jobs mode0) w) := by
  by_cases h1 : q.length ≤ 64
  · by_cases h2 : jobs.length ≤ 64
    · exact Install20_any A c q A0 c0 jobs mode0 w hq hj (by omega) (by omega)
    · exact Install20_no A c q A0 c0 jobs mode0 w hq hj (.inr (mayQ_long (by omega)))
  · exact Install20_no A c q A0 c0 jobs mode0 w hq hj (.inl (mayQ_long (by omega)))
end Od
end Go.Proofs.YtanfnejbnmenkaaGreat
end

section
/- The walk of the law QueueInstall. (bel2) -/
namespace Go.Proofs.YtanfnejbnmenkaaGreat
open Go.RowKit Go.Sort
set_option linter.unusedSimpArgs false

namespace Od
set_option maxRecDepth 100000 in
set_option maxHeartbeats 8000000 in
theorem queueInstall_any (A : Option Addr) (c : Nat) (q : List Jb) (A0 : Option Addr) (c0 : Nat) (jobs : List Jb) (mode : Int) (w : World) (hq : QIn w A c q) (hj : QIn w A0 c0 jobs) (hlq : q.length ≤ 140737488351232) (hlj : jobs.length ≤ 140737488351232) :
    Calls Tryz.prog 5 #[.slice A q.length c, .slice A0 jobs.length c0, .int .i64 mode] w fun e w' => e = .returned (.bool true) ∧ Below w.heap.size w w' := by
  have HQ := Lib.hid hq
  have HJ := Lib.hid hj
  clear hq hj
  go_enter Tryz.func5, Tryz.ntmps5
  go_wp2_with fail
  refine (shown_any w).mono ?_
  rintro e w2 ⟨rfl, hb⟩
  have HB := Lib.hid hb
  replace HQ := Lib.hid (HQ.out.at hb)
  replace HJ := Lib.hid (HJ.out.at hb)
  clear hb
  go_wp2_with fail
  refine (InstallQ_all A c q A0 c0 jobs mode w2 HQ.out HJ.out (by omega) (by omega)).mono ?_
  rintro e w3 ⟨A1, k1, A2, k2, rfl, hk1, hr1, hr2, hb⟩
  have HR1 := Lib.hid hr1
  have HR2 := Lib.hid hr2
  replace HQ := Lib.hid (HQ.out.at hb)
  replace HJ := Lib.hid (HJ.out.at hb)
  replace HB := Lib.hid (lift HB.out hb)
  clear hb hr1 hr2
  go_wp2_with fail
  refine (Install20_all A c q A0 c0 jobs mode w3 HQ.out HJ.out).mono ?_
  rintro e w4 ⟨A3, k3, A4, k4, rfl, hk3, hr3, hr4, hb⟩
  have HR3 := Lib.hid hr3
  have HR4 := Lib.hid hr4
  replace HQ := Lib.hid (HQ.out.at hb)
  replace HJ := Lib.hid (HJ.out.at hb)
  replace HB := Lib.hid (lift HB.out hb)
  replace HR1 := Lib.hid (HR1.out.at hb)
  replace HR2 := Lib.hid (HR2.out.at hb)
  clear hb hr3 hr4
  obtain ⟨hl1, hl2⟩ := inst_len q jobs mode
  generalize instQ q jobs mode = R at *
  obtain ⟨⟨r1, r2⟩, r3⟩ := R
  simp only at hl1 hl2
  have hee : (r3 == r3) = true := by simp
  go_wp2_with fail
  refine (SameJobs_any A1 A3 k1 k3 r1 r1 w4 HR1.out HR3.out (by omega)).mono ?_
  rw [decide_eq_true rfl]
  rintro e v5 ⟨rfl, hb⟩
  replace HQ := Lib.hid (HQ.out.at hb)
  replace HJ := Lib.hid (HJ.out.at hb)
  replace HB := Lib.hid (lift HB.out hb)
  replace HR1 := Lib.hid (HR1.out.at hb)
  replace HR2 := Lib.hid (HR2.out.at hb)
  replace HR3 := Lib.hid (HR3.out.at hb)
  replace HR4 := Lib.hid (HR4.out.at hb)
  clear hb
  go_wp2_with fail
  refine (SameDone_any A2 A4 k2 k4 r2 r2 v5 HR2.out HR4.out (by omega)).mono ?_
  rw [decide_eq_true rfl]
  rintro e v6 ⟨rfl, hb⟩
  replace HQ := Lib.hid (HQ.out.at hb)
  replace HJ := Lib.hid (HJ.out.at hb)
  replace HB := Lib.hid (lift HB.out hb)
  replace HR1 := Lib.hid (HR1.out.at hb)
  replace HR2 := Lib.hid (HR2.out.at hb)
  replace HR3 := Lib.hid (HR3.out.at hb)
  replace HR4 := Lib.hid (HR4.out.at hb)
  clear hb
  go_wp2_with fail
  go_ret
  exact ⟨by simp, HB.out⟩
end Od
end Go.Proofs.YtanfnejbnmenkaaGreat
end
