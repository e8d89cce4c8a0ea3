/- My texts, joined for the claim: QWithW QLost20 RPut QGrown QRise20 QReady20 QMoves20 QFin20 WRefW GOff WRunRW LvB. -/
import Derived.Test.YtmlogmcnblgnbaaGreatZB12
import Derived.Test.YtmlogmcnblgnbaaGreatZB9
import Derived.Test.YtmlogmcnblgnbaaGreatZB0
import Derived.Test.YtmlogmcnblgnbaaGreatRows
import Derived.Test.YtmlogmcnblgnbaaGreatZB7
import Derived.Test.YtmlogmcnblgnbaaGreatZB3
import Derived.Maps.AppendAt
import Derived.Test.YtmlogmcnblgnbaaGreatZB14
import Derived.Test.YtmlogmcnblgnbaaGreatZB15

section
/- The walks of matinsref20.with and matinsref20.clashes. (bel2) -/
namespace Go.Proofs.YtmlogmcnblgnbaaGreat
open Go.RowKit Go.Sort
set_option linter.unusedSimpArgs false

theorem rd_news {w : World} {B k n : Nat} {xs : List Value} {ad : Addr} (hr : Rd w B k (some ad) n xs) : ∀ j u, xs[j]? = some u → w.cell? (ad.add j) = some u := by
  intro j u hu
  have hj : j < n * k := by
    have := (List.getElem?_eq_some_iff.1 hu).1
    rw [hr.1] at this
    exact this
  have hn0 : 0 < n := by
    rcases Nat.eq_zero_or_pos n with h | h
    · rw [h, Nat.zero_mul] at hj; omega
    · exact h
  obtain ⟨ad', he, _, hsp, hc⟩ := hr.2 hn0
  injection he with he
  subst he
  have hadd : ad.add j = ⟨ad.block, ad.off + j, none⟩ := by
    unfold Addr.add
    split
    · rename_i h0; subst h0; cases ad; simp_all
    · rfl
  rw [hadd]
  exact (hc j hj).trans hu
namespace Od
set_option maxRecDepth 100000 in
set_option maxHeartbeats 4000000 in
theorem with_any (A : Option Addr) (c : Nat) (q : List Jb) (k : Nat) (s : Str) (t r d : Int) (w : World) (hr : Rd w w.heap.size 4 A q.length (jbsC q)) (hk : k < q.length) (hl : q.length ≤ 1000000) :
    Calls Tryz.prog 77 #[.slice A q.length c, .int .i64 k, .agg #[sv s, .int .i64 t, .int .i64 r, .int .i64 d]] w (OwnJ (q.set k (s, t, r, d)) w) := by
  obtain ⟨i0, hi, hz0, hz1, hz2⟩ := info_parts infoJb
  obtain ⟨b, o, rfl, _⟩ := hr.open (by omega)
  have Hr := Lib.hid hr
  have h63 := Lib.hid (show 0 + q.length ≤ maxLen by unfold maxLen; omega)
  have hby := Lib.hid (show (0 + q.length) * 40 ≤ 140737488355328 by omega)
  clear hr
  go_enter Tryz.func77, Tryz.ntmps77
  go_wp2_with (first | (at_builtin; go_loud (refine wpList_append_rd (w.alloc (.cells #[sv s, .int .i64 t, .int .i64 r, .int .i64 d] 48)) (by rfl) (.const (.slice none 0 0)) (.tmp 8) 26 (by rfl) w.heap.size 48 i0 _ 4 40 Tryz.underlying26 hi hz0 hz1 hz2 rfl (by decide) (.slice none 0 0) 0 [] (by rfl) (World.ownsRow_nil _ _ _ _) _ (some ⟨b, o, none⟩) q.length c (jbsC q) (by rfl) (Hr.out.alloc (Nat.le_refl _) _) (one_jbsC q) h63.out hby.out (by simp) ?_; intro A5 c5 w4 hown4 hg4 hat4; have p0 : w.heap.size < (w.alloc (.cells #[sv s, .int .i64 t, .int .i64 r, .int .i64 d] 48)).heap.size := (by simp); have e0 := cell_kept (w := (w.alloc (.cells #[sv s, .int .i64 t, .int .i64 r, .int .i64 d] 48))) (b := w.heap.size) (o := 0) (v := sv s) (by go_simp) hg4 p0 (fun h => by cases h); have e1 := cell_kept (w := (w.alloc (.cells #[sv s, .int .i64 t, .int .i64 r, .int .i64 d] 48))) (b := w.heap.size) (o := 1) (v := .int .i64 t) (by go_simp) hg4 p0 (fun h => by cases h); have e2 := cell_kept (w := (w.alloc (.cells #[sv s, .int .i64 t, .int .i64 r, .int .i64 d] 48))) (b := w.heap.size) (o := 2) (v := .int .i64 r) (by go_simp) hg4 p0 (fun h => by cases h); have e3 := cell_kept (w := (w.alloc (.cells #[sv s, .int .i64 t, .int .i64 r, .int .i64 d] 48))) (b := w.heap.size) (o := 3) (v := .int .i64 d) (by go_simp) hg4 p0 (fun h => by cases h); have p1 : w.heap.size < w4.heap.size := Nat.lt_of_lt_of_le p0 hg4.size; have hb4 : Below w.heap.size w w4 := ((Below.refl w.heap.size w).alloc (Nat.le_refl _) (.cells #[sv s, .int .i64 t, .int .i64 r, .int .i64 d] 48)).grown hg4 (by simp) (fun k h => by cases h); clear p0; simp only [Nat.zero_add, List.nil_append] at hown4; obtain ⟨g, rfl, hgb, hgl, hcap⟩ := own_open hown4 (by omega); obtain ⟨y0, y1, y2, y3, yf⟩ := ownJ_cells hown4 hk; have HO := Lib.hid (ownJ_put hown4 hk s t r d); have HB := Lib.hid hb4; have k1 : (0 : Int) ≤ (k : Int) := (by omega); have k2 : (k : Int) < (q.length : Int) := (by omega); have yf0 := yf (k * 4); have yf1 := yf (k * 4 + 1); have yf2 := yf (k * 4 + 2); have yf3 := yf (k * 4 + 3); clear hb4 hown4 hg4 hat4 yf)) | fail)
  go_wp2_with fail
  go_ret
  exact ⟨some ⟨g, 0, none⟩, c5, by rw [List.length_set]; rfl, by rw [List.length_set]; exact HO.out, (((HB.out.setCell hgb _).setCell hgb _).setCell hgb _).setCell hgb _⟩
end Od
end Go.Proofs.YtmlogmcnblgnbaaGreat
end

section
/- The walk of matinsref20.lost. (bel2) -/
namespace Go.Proofs.YtmlogmcnblgnbaaGreat
open Go.RowKit Go.Sort
set_option linter.unusedSimpArgs false

namespace Od
theorem any_succ {α : Type} {p : α → Bool} {xs : List α} {k : Nat} (hk : k < xs.length) (h : (xs.take k).any p = false) : (xs.take (k + 1)).any p = p xs[k] := by
  rw [List.take_succ_eq_append_getElem hk, List.any_append, h]
  simp
theorem lostJ_mk (es : List Ed) (u s : Str) (t r d : Int) : lostJ es u (s, t, r, d) = ((hasE es u s 1 || hasE es u s 4) && (Ah es s u && ((r == 3) && ((t == 1 || t == 3) && (d != 1))))) := rfl
set_option maxRecDepth 100000 in
set_option maxHeartbeats 8000000 in
theorem lost_any (An Ae : Option Addr) (nn cn ce : Nat) (es : List Ed) (A : Option Addr) (c : Nat) (q : List Jb) (u : Str) (w : World) (hr : Rd w w.heap.size 3 Ae es.length (edsC es)) (hq : Rd w w.heap.size 4 A q.length (jbsC q)) (hl : es.length ≤ 100000) (hlq : q.length ≤ 1000000) :
    Calls Tryz.prog 78 #[gV An nn cn Ae es.length ce, .slice A q.length c, sv u] w fun e w' => e = .returned (.bool (q.any (lostJ es u))) ∧ Below w.heap.size w w' := by
  have Hr := Lib.hid hr
  have Hq := Lib.hid hq
  clear hr hq
  go_enter Tryz.func78, Tryz.ntmps78
  go_wp2_with fail
  first | (refine wp_named ?_; intro W1 hW) | (refine calls_named ?_; intro W1 hW)
  have B1 : Below w.heap.size w W1 := by rw [hW]; exact (by repeat (first | exact Below.refl _ _ | assumption | refine Below.alloc ?_ (by first | omega | (simp <;> omega)) _ | refine Below.setCell ?_ (by first | omega | (simp <;> omega)) _ | refine Below.drew ?_))
  replace Hr := Lib.hid (Hr.out.at B1)
  replace Hq := Lib.hid (Hq.out.at B1)
  have n1 : w.heap.size < W1.heap.size := by rw [hW]; simp <;> omega
  have g0 : W1.cell? ⟨w.heap.size, 0, none⟩ = some (.slice An nn cn) := by rw [hW]; go_simp
  have g1 : W1.cell? ⟨w.heap.size, 1, none⟩ = some (.slice Ae es.length ce) := by rw [hW]; go_simp
  clear hW
  have HB1 := Lib.hid B1
  clear B1
  go_wp2_with fail
  go_loopw [12] (fun i wr => ∃ m : Nat, m ≤ q.length ∧ i = .int .i64 m ∧ Hid ((q.take m).any (lostJ es u) = false) ∧ Below W1.heap.size W1 wr) (fun i _ => q.length - (intOf i).toNat)
  case atStart => exact ⟨0, Nat.zero_le _, rfl, rfl, Below.refl _ _⟩
  case round =>
    obtain ⟨m, hm, rfl, hall, hb⟩ := hrel
    have HB := Lib.hid (lift HB1.out hb)
    have HBl := Lib.hid hb
    by_cases hlt : m < q.length
    · have hs := any_succ hlt hall.out
      have ha : (q.take (m + 1)).any (lostJ es u) = true → q.any (lostJ es u) = true := fun h => by
        rw [List.any_eq_true] at h ⊢
        obtain ⟨x, hx, hx2⟩ := h
        exact ⟨x, List.mem_of_mem_take hx, hx2⟩
      have HA := Lib.hid ha
      replace g0 := cellAt g0 hb (by omega)
      replace g1 := cellAt g1 hb (by omega)
      replace Hr := Lib.hid (Hr.out.at hb)
      replace Hq := Lib.hid (Hq.out.at hb)
      replace n1 : w.heap.size < wr.heap.size := ltAt n1 hb
      clear hb ha
      obtain ⟨b2, o2, hA, hB2, x0, x1, x2, x3⟩ := Hq.out.job hlt
      subst hA
      generalize q[m] = x at x0 x1 x2 x3 hs
      obtain ⟨s, t, r, d⟩ := x
      simp only at x0 x1 x2 x3
      have HS := Lib.hid hs
      clear hs
      have m1 : (0 : Int) ≤ (m : Int) := by omega
      have m2 : (m : Int) < (q.length : Int) := by omega
      go_wp2_with fail
      first | (refine wp_named ?_; intro W2 hW) | (refine calls_named ?_; intro W2 hW)
      have B2 : Below wr.heap.size wr W2 := by rw [hW]; exact (by repeat (first | exact Below.refl _ _ | assumption | refine Below.alloc ?_ (by first | omega | (simp <;> omega)) _ | refine Below.setCell ?_ (by first | omega | (simp <;> omega)) _ | refine Below.drew ?_))
      replace g0 := cellAt g0 B2 (by omega)
      replace g1 := cellAt g1 B2 (by omega)
      replace Hr := Lib.hid (Hr.out.at B2)
      replace Hq := Lib.hid (Hq.out.at B2)
      replace n1 : w.heap.size < W2.heap.size := ltAt n1 B2
      replace HB := Lib.hid (lift HB.out B2)
      replace HBl := Lib.hid (lift HBl.out B2)
      have p1 : wr.heap.size < W2.heap.size := by rw [hW]; simp <;> omega
      have e0 : W2.cell? ⟨wr.heap.size, 0, none⟩ = some (sv s) := by rw [hW]; go_simp
      have e1 : W2.cell? ⟨wr.heap.size, 1, none⟩ = some (.int .i64 t) := by rw [hW]; go_simp
      have e2 : W2.cell? ⟨wr.heap.size, 2, none⟩ = some (.int .i64 r) := by rw [hW]; go_simp
      have e3 : W2.cell? ⟨wr.heap.size, 3, none⟩ = some (.int .i64 d) := by rw [hW]; go_simp
      clear hW
      clear B2 x0 x1 x2 x3
      refine (Has_any An Ae nn cn ce es u s 1 _ Hr.out (by omega)).mono ?_
      rintro e v3 ⟨rfl, hb⟩
      replace g0 := cellAt g0 hb (by omega)
      replace g1 := cellAt g1 hb (by omega)
      replace e0 := cellAt e0 hb (by omega)
      replace e1 := cellAt e1 hb (by omega)
      replace e2 := cellAt e2 hb (by omega)
      replace e3 := cellAt e3 hb (by omega)
      replace Hr := Lib.hid (Hr.out.at hb)
      replace Hq := Lib.hid (Hq.out.at hb)
      replace n1 : w.heap.size < v3.heap.size := ltAt n1 hb
      replace HB := Lib.hid (lift HB.out hb)
      replace HBl := Lib.hid (lift HBl.out hb)
      replace p1 : wr.heap.size < v3.heap.size := ltAt p1 hb
      clear hb
      cases h1 : es.any (· == (u, s, 1))
      · have h1' : hasE es u s 1 = false := h1
        go_wp2_with fail
        refine (Has_any An Ae nn cn ce es u s 4 _ Hr.out (by omega)).mono ?_
        rintro e v4 ⟨rfl, hb⟩
        replace g0 := cellAt g0 hb (by omega)
        replace g1 := cellAt g1 hb (by omega)
        replace e0 := cellAt e0 hb (by omega)
        replace e1 := cellAt e1 hb (by omega)
        replace e2 := cellAt e2 hb (by omega)
        replace e3 := cellAt e3 hb (by omega)
        replace Hr := Lib.hid (Hr.out.at hb)
        replace Hq := Lib.hid (Hq.out.at hb)
        replace n1 : w.heap.size < v4.heap.size := ltAt n1 hb
        replace HB := Lib.hid (lift HB.out hb)
        replace HBl := Lib.hid (lift HBl.out hb)
        replace p1 : wr.heap.size < v4.heap.size := ltAt p1 hb
        clear hb
        cases h4 : es.any (· == (u, s, 4))
        · have h4' : hasE es u s 4 = false := h4
          have HF := Lib.hid (show lostJ es u (s, t, r, d) = false by rw [lostJ_mk]; simp only [h1', h4', Bool.true_and, Bool.and_true, Bool.false_and, Bool.and_false, Bool.true_or, Bool.or_true, Bool.false_or, Bool.or_false, Bool.or_self, Bool.and_self])
          go_wp2_with fail
          go_roundw
          case rel => exact ⟨m + 1, by omega, by go_num, by show _ = _; rw [HS.out, HF.out], HBl.out⟩
          case measure => simp [intOf]; omega
        · have h4' : hasE es u s 4 = true := h4
          go_wp2_with fail
          refine (refAhead_any An Ae nn cn ce es s u _ Hr.out (by omega)).mono ?_
          rintro e v5 ⟨rfl, hb⟩
          replace g0 := cellAt g0 hb (by omega)
          replace g1 := cellAt g1 hb (by omega)
          replace e0 := cellAt e0 hb (by omega)
          replace e1 := cellAt e1 hb (by omega)
          replace e2 := cellAt e2 hb (by omega)
          replace e3 := cellAt e3 hb (by omega)
          replace Hr := Lib.hid (Hr.out.at hb)
          replace Hq := Lib.hid (Hq.out.at hb)
          replace n1 : w.heap.size < v5.heap.size := ltAt n1 hb
          replace HB := Lib.hid (lift HB.out hb)
          replace HBl := Lib.hid (lift HBl.out hb)
          replace p1 : wr.heap.size < v5.heap.size := ltAt p1 hb
          clear hb
          cases ha : es.any (aheadB s u)
          · have ha' : Ah es s u = false := ha
            have HF := Lib.hid (show lostJ es u (s, t, r, d) = false by rw [lostJ_mk]; simp only [ha', Bool.true_and, Bool.and_true, Bool.false_and, Bool.and_false, Bool.true_or, Bool.or_true, Bool.false_or, Bool.or_false, Bool.or_self, Bool.and_self])
            go_wp2_with fail
            go_roundw
            case rel => exact ⟨m + 1, by omega, by go_num, by show _ = _; rw [HS.out, HF.out], HBl.out⟩
            case measure => simp [intOf]; omega
          · have ha' : Ah es s u = true := ha
            cases rb : (r == 3)
            · have HF := Lib.hid (show lostJ es u (s, t, r, d) = false by rw [lostJ_mk]; simp only [rb, Bool.true_and, Bool.and_true, Bool.false_and, Bool.and_false, Bool.true_or, Bool.or_true, Bool.false_or, Bool.or_false, Bool.or_self, Bool.and_self])
              go_wp2_with fail
              go_roundw
              case rel => exact ⟨m + 1, by omega, by go_num, by show _ = _; rw [HS.out, HF.out], HBl.out⟩
              case measure => simp [intOf]; omega
            · cases tb : (t == 1)
              · cases tc : (t == 3)
                · have HF := Lib.hid (show lostJ es u (s, t, r, d) = false by rw [lostJ_mk]; simp only [tb, tc, Bool.true_and, Bool.and_true, Bool.false_and, Bool.and_false, Bool.true_or, Bool.or_true, Bool.false_or, Bool.or_false, Bool.or_self, Bool.and_self])
                  go_wp2_with fail
                  go_roundw
                  case rel => exact ⟨m + 1, by omega, by go_num, by show _ = _; rw [HS.out, HF.out], HBl.out⟩
                  case measure => simp [intOf]; omega
                · cases db : (d != 1)
                  · have HF := Lib.hid (show lostJ es u (s, t, r, d) = false by rw [lostJ_mk]; simp only [db, Bool.true_and, Bool.and_true, Bool.false_and, Bool.and_false, Bool.true_or, Bool.or_true, Bool.false_or, Bool.or_false, Bool.or_self, Bool.and_self])
                    go_wp2_with fail
                    go_roundw
                    case rel => exact ⟨m + 1, by omega, by go_num, by show _ = _; rw [HS.out, HF.out], HBl.out⟩
                    case measure => simp [intOf]; omega
                  · have HF := Lib.hid (show lostJ es u (s, t, r, d) = true by rw [lostJ_mk]; simp only [ha', h4', rb, tb, tc, db, Bool.true_and, Bool.and_true, Bool.false_and, Bool.and_false, Bool.true_or, Bool.or_true, Bool.false_or, Bool.or_false, Bool.or_self, Bool.and_self])
                    go_wp2_with fail
                    go_ret
                    exact ⟨ret_bool (by rw [HA.out (HS.out.trans HF.out)]), HB.out⟩
              · cases db : (d != 1)
                · have HF := Lib.hid (show lostJ es u (s, t, r, d) = false by rw [lostJ_mk]; simp only [db, Bool.true_and, Bool.and_true, Bool.false_and, Bool.and_false, Bool.true_or, Bool.or_true, Bool.false_or, Bool.or_false, Bool.or_self, Bool.and_self])
                  go_wp2_with fail
                  go_roundw
                  case rel => exact ⟨m + 1, by omega, by go_num, by show _ = _; rw [HS.out, HF.out], HBl.out⟩
                  case measure => simp [intOf]; omega
                · have HF := Lib.hid (show lostJ es u (s, t, r, d) = true by rw [lostJ_mk]; simp only [ha', h4', rb, tb, db, Bool.true_and, Bool.and_true, Bool.false_and, Bool.and_false, Bool.true_or, Bool.or_true, Bool.false_or, Bool.or_false, Bool.or_self, Bool.and_self])
                  go_wp2_with fail
                  go_ret
                  exact ⟨ret_bool (by rw [HA.out (HS.out.trans HF.out)]), HB.out⟩
      · have h1' : hasE es u s 1 = true := h1
        go_wp2_with fail
        refine (refAhead_any An Ae nn cn ce es s u _ Hr.out (by omega)).mono ?_
        rintro e v5 ⟨rfl, hb⟩
        replace g0 := cellAt g0 hb (by omega)
        replace g1 := cellAt g1 hb (by omega)
        replace e0 := cellAt e0 hb (by omega)
        replace e1 := cellAt e1 hb (by omega)
        replace e2 := cellAt e2 hb (by omega)
        replace e3 := cellAt e3 hb (by omega)
        replace Hr := Lib.hid (Hr.out.at hb)
        replace Hq := Lib.hid (Hq.out.at hb)
        replace n1 : w.heap.size < v5.heap.size := ltAt n1 hb
        replace HB := Lib.hid (lift HB.out hb)
        replace HBl := Lib.hid (lift HBl.out hb)
        replace p1 : wr.heap.size < v5.heap.size := ltAt p1 hb
        clear hb
        cases ha : es.any (aheadB s u)
        · have ha' : Ah es s u = false := ha
          have HF := Lib.hid (show lostJ es u (s, t, r, d) = false by rw [lostJ_mk]; simp only [ha', Bool.true_and, Bool.and_true, Bool.false_and, Bool.and_false, Bool.true_or, Bool.or_true, Bool.false_or, Bool.or_false, Bool.or_self, Bool.and_self])
          go_wp2_with fail
          go_roundw
          case rel => exact ⟨m + 1, by omega, by go_num, by show _ = _; rw [HS.out, HF.out], HBl.out⟩
          case measure => simp [intOf]; omega
        · have ha' : Ah es s u = true := ha
          cases rb : (r == 3)
          · have HF := Lib.hid (show lostJ es u (s, t, r, d) = false by rw [lostJ_mk]; simp only [rb, Bool.true_and, Bool.and_true, Bool.false_and, Bool.and_false, Bool.true_or, Bool.or_true, Bool.false_or, Bool.or_false, Bool.or_self, Bool.and_self])
            go_wp2_with fail
            go_roundw
            case rel => exact ⟨m + 1, by omega, by go_num, by show _ = _; rw [HS.out, HF.out], HBl.out⟩
            case measure => simp [intOf]; omega
          · cases tb : (t == 1)
            · cases tc : (t == 3)
              · have HF := Lib.hid (show lostJ es u (s, t, r, d) = false by rw [lostJ_mk]; simp only [tb, tc, Bool.true_and, Bool.and_true, Bool.false_and, Bool.and_false, Bool.true_or, Bool.or_true, Bool.false_or, Bool.or_false, Bool.or_self, Bool.and_self])
                go_wp2_with fail
                go_roundw
                case rel => exact ⟨m + 1, by omega, by go_num, by show _ = _; rw [HS.out, HF.out], HBl.out⟩
                case measure => simp [intOf]; omega
              · cases db : (d != 1)
                · have HF := Lib.hid (show lostJ es u (s, t, r, d) = false by rw [lostJ_mk]; simp only [db, Bool.true_and, Bool.and_true, Bool.false_and, Bool.and_false, Bool.true_or, Bool.or_true, Bool.false_or, Bool.or_false, Bool.or_self, Bool.and_self])
                  go_wp2_with fail
                  go_roundw
                  case rel => exact ⟨m + 1, by omega, by go_num, by show _ = _; rw [HS.out, HF.out], HBl.out⟩
                  case measure => simp [intOf]; omega
                · have HF := Lib.hid (show lostJ es u (s, t, r, d) = true by rw [lostJ_mk]; simp only [ha', h1', rb, tb, tc, db, Bool.true_and, Bool.and_true, Bool.false_and, Bool.and_false, Bool.true_or, Bool.or_true, Bool.false_or, Bool.or_false, Bool.or_self, Bool.and_self])
                  go_wp2_with fail
                  go_ret
                  exact ⟨ret_bool (by rw [HA.out (HS.out.trans HF.out)]), HB.out⟩
            · cases db : (d != 1)
              · have HF := Lib.hid (show lostJ es u (s, t, r, d) = false by rw [lostJ_mk]; simp only [db, Bool.true_and, Bool.and_true, Bool.false_and, Bool.and_false, Bool.true_or, Bool.or_true, Bool.false_or, Bool.or_false, Bool.or_self, Bool.and_self])
                go_wp2_with fail
                go_roundw
                case rel => exact ⟨m + 1, by omega, by go_num, by show _ = _; rw [HS.out, HF.out], HBl.out⟩
                case measure => simp [intOf]; omega
              · have HF := Lib.hid (show lostJ es u (s, t, r, d) = true by rw [lostJ_mk]; simp only [ha', h1', rb, tb, db, Bool.true_and, Bool.and_true, Bool.false_and, Bool.and_false, Bool.true_or, Bool.or_true, Bool.false_or, Bool.or_false, Bool.or_self, Bool.and_self])
                go_wp2_with fail
                go_ret
                exact ⟨ret_bool (by rw [HA.out (HS.out.trans HF.out)]), HB.out⟩
    · have hmq : m = q.length := by omega
      have h := hall.out
      rw [hmq, List.take_length] at h
      have HN := Lib.hid h
      clear h
      go_wp2_with fail
      go_ret
      exact ⟨ret_bool (by rw [HN.out]), HB.out⟩
end Od
end Go.Proofs.YtmlogmcnblgnbaaGreat
end

section
/- The walk of matinsref15.put: a text into a rising row, once. -/
namespace Go.Proofs.YtmlogmcnblgnbaaGreat
open Go.RowKit Go.Sort

namespace Od
theorem svs_app (a b : List Str) : svs (a ++ b) = svs a ++ svs b := by simp [svs]
set_option maxRecDepth 100000 in
set_option maxHeartbeats 1000000 in
theorem put15_any (A : Option Addr) (c : Nat) (ss : List Str) (s : Str) (w : World) (hr : Rd w w.heap.size 1 A ss.length (svs ss)) (hc : ss.length ≤ c) (hl : ss.length ≤ 1000000) :
    Calls Tryz.prog 66 #[.slice A ss.length c, sv s] w (RdIs 1 (insL ltS s ss).length (svs (insL ltS s ss)) w) := by
  obtain ⟨i0, hi, hz0, hz1, hz2⟩ := info_parts inS
  have Hr := Lib.hid hr
  clear hr
  go_enter Tryz.func66, Tryz.ntmps66
  go_wp2_with fail
  go_loop [5] (fun i => ∃ k : Nat, k ≤ ss.length ∧ i = .int .i64 k ∧ Hid (∀ y ∈ ss.take k, ltS y s = true)) (fun i => ss.length - (intOf i).toNat)
  case atStart => exact ⟨0, Nat.zero_le _, rfl, by simp [Hid]⟩
  case round =>
    obtain ⟨k, hk, rfl, hall⟩ := hrel
    by_cases hlt : k < ss.length
    · obtain ⟨b, o, rfl, hB, hc0⟩ := Hr.out.str hlt
      generalize hx : ss[k] = x at hc0
      have Hx := Lib.hid hx
      clear hx
      cases hlx : Op.bytesLess x s
      · have hge : ∀ h : k < ss.length, ltS ss[k] s = false := fun _ => by rw [Hx.out]; exact hlx
        have Hge := Lib.hid hge
        clear hge
        cases hxs : (x == s)
        · go_wp2_with fail
          have hge := Hge.out
          have hne : ¬ ss[k]? = some s := by rw [List.getElem?_eq_getElem hlt, Hx.out]; intro e; injection e with e; rw [e] at hxs; simp at hxs
          clear hlx hxs
          have hins : insL ltS s ss = ss.take k ++ s :: ss.drop k := by rw [insL_cut ss k hk hall hge, if_neg hne]
          have HI := Lib.hid hins
          have HR1 := Lib.hid (Hr.out.takeA hk)
          have HR2 := Lib.hid (Hr.out.dropA hk hc)
          have hs1 := run_slice_full (P := Tryz.prog) Tryz.underlying27 hi (some ⟨b, o, none⟩) ss.length c k (Nat.le_trans hk hc)
          have hs2 := run_slice_tail (P := Tryz.prog) Tryz.underlying27 hi (some ⟨b, o, none⟩) ss.length c k hk
          rw [hz1] at hs1 hs2
          clear hins hne hge
          have hlk : (ss.drop k).length = ss.length - k := List.length_drop
          have HLk := Lib.hid hlk
          clear hlk
          try go_wp2_with fail
          refine wp_region_held_drew (S := fun w' => Below w.heap.size w w') (by kernel_rfl) (Below.drew (Below.refl _ _)) (fun hHeld => ?_)
          refine tY (i := 0) (v := ?_) rfl ?_ hHeld ?_; rotate_left 1; focus (intro w' hSw; clear hSw; go_simp; try with_reducible rfl)
          (try simp only [Act.put, zn1, zn2, zn3])
          refine tY (i := 1) (v := ?_) rfl ?_ hHeld ?_; rotate_left 1; focus (intro w' hSw; clear hSw; go_simp; try with_reducible rfl)
          (try simp only [Act.put, zn1, zn2, zn3])
          refine tY (i := 2) (v := ?_) rfl ?_ hHeld ?_; rotate_left 1; focus (intro w' hSw; clear hSw; go_simp; try with_reducible rfl)
          (try simp only [Act.put, zn1, zn2, zn3])
          refine tY (i := 3) (v := ?_) rfl ?_ hHeld ?_; rotate_left 1; focus (intro w' hSw; clear hSw; go_simp; try with_reducible rfl)
          (try simp only [Act.put, zn1, zn2, zn3])
          refine tY (i := 4) (v := ?_) rfl ?_ hHeld ?_; rotate_left 1; focus (intro w' hSw; clear hSw; go_simp; try with_reducible rfl)
          (try simp only [Act.put, zn1, zn2, zn3])
          refine tY (i := 6) (v := ?_) rfl ?_ hHeld ?_; rotate_left 1; focus (intro w' hSw; clear hSw; go_simp; try with_reducible rfl)
          (try simp only [Act.put, zn1, zn2, zn3])
          refine tY (i := 7) (v := ?_) rfl ?_ hHeld ?_; rotate_left 1; focus (intro w' hSw; clear hSw; go_simp; try with_reducible rfl)
          (try simp only [Act.put, zn1, zn2, zn3])
          refine tY (i := 8) (v := ?_) rfl ?_ hHeld ?_; rotate_left 1; focus (intro w' hSw; clear hSw; go_simp; try with_reducible rfl)
          (try simp only [Act.put, zn1, zn2, zn3])
          refine ready_one (i := 5) rfl (by kernel_rfl) (fun K hK => ?_)
          go_simp
          refine hK.out _ _ ?_ (fun hHeld2 => ?_)
          · (try dsimp only); first | exact hHeld | exact (by repeat (first | exact Below.refl _ _ | assumption | refine Below.alloc ?_ (by simp <;> omega) _ | refine Below.setCell ?_ (by simp <;> omega) _ | refine Below.drew ?_))
          clear hK K hHeld; have hHeld := hHeld2; clear hHeld2; (try simp only [Act.put, zn1, zn2, zn3])
          refine ready_one (i := 9) rfl (by kernel_rfl) (fun K hK => ?_)
          refine step_append_full (by rfl) (.tmp 38) (.tmp 41) 27 (by rfl) 9 i0 (.string ⟨#[]⟩) 1 16 Tryz.underlying27 hi hz0 hz1 hz2 rfl _ (some ⟨w.heap.size, 0, none⟩) 1 [sv s] (by rfl) (Rd.lit w.drew [sv s] 9 1 1 rfl) (Nat.le_refl _) _ _ (ss.length - k) (c - k) _ (by rfl) (HR2.out.at' (Nat.le_refl _) hHeld) (one_drop (one_svs ss) _) (by unfold maxLen; omega) (by omega) ?_
          intro A2 c2 v2 hc2 hr2 hb
          have HR3 := Lib.hid hr2
          clear hr2
          refine hK.out _ _ ?_ (fun hHeld2 => ?_)
          · (try dsimp only); first | exact Below.trans hHeld (Below.mono hb hHeld.size) | exact hHeld | exact Below.drew hHeld | exact (by repeat (first | exact Below.refl _ _ | assumption | refine Below.alloc ?_ (by simp <;> omega) _ | refine Below.setCell ?_ (by simp <;> omega) _ | refine Below.drew ?_))
          clear hK K hHeld; have hHeld := hHeld2; clear hHeld2; (try simp only [Act.put, zn1, zn2, zn3])
          refine ready_one (i := 10) rfl (by kernel_rfl) (fun K hK => ?_)
          refine step_append_full (by rfl) (.tmp 36) (.tmp 42) 27 (by rfl) 9 i0 (.string ⟨#[]⟩) 1 16 Tryz.underlying27 hi hz0 hz1 hz2 rfl _ _ k _ (by rfl) (HR1.out.at' (Nat.le_refl _) hHeld) (Nat.le_refl _) _ A2 (1 + (ss.length - k)) c2 _ (by rfl) HR3.out (one_app (one_sv s) (one_drop (one_svs ss) _)) (by unfold maxLen; omega) (by omega) ?_
          intro A3 c3 v3 hc3 hr3 hb
          have HR4 := Lib.hid hr3
          clear hr3
          refine hK.out _ _ ?_ (fun hHeld2 => ?_)
          · (try dsimp only); first | exact Below.trans hHeld (Below.mono hb hHeld.size) | exact hHeld | exact Below.drew hHeld | exact (by repeat (first | exact Below.refl _ _ | assumption | refine Below.alloc ?_ (by simp <;> omega) _ | refine Below.setCell ?_ (by simp <;> omega) _ | refine Below.drew ?_))
          clear hK K hHeld; have hHeld := hHeld2; clear hHeld2; (try simp only [Act.put, zn1, zn2, zn3])
          refine tY (i := 11) (v := ?_) rfl ?_ hHeld ?_; rotate_left 1; focus (intro w' hSw; clear hSw; go_simp; try with_reducible rfl)
          (try simp only [Act.put, zn1, zn2, zn3])
          refine wpAnyH_done (by kernel_rfl) ?_ _
          go_wp2_with fail
          go_ret
          refine RdIs.of hc3 HR4.out hHeld ?_ ?_
          · rw [HI.out, List.length_append, List.length_cons, List.length_take, HLk.out]; omega
          · rw [HI.out]; simp [svs, List.map_take, List.map_drop]
        · go_wp2_with fail
          go_ret
          have hins : insL ltS s ss = ss := by rw [insL_cut ss k hk hall Hge.out, if_pos]; rw [List.getElem?_eq_getElem hlt, Hx.out]; simpa using hxs
          exact RdIs.of hc Hr.out (Below.refl _ _) (by rw [hins]) (by rw [hins])
      · go_wp2_with fail
        go_round
        case rel =>
          refine ⟨k + 1, by omega, by go_num, fun y hy => ?_⟩
          rw [List.take_succ_eq_append_getElem hlt, List.mem_append, List.mem_singleton] at hy
          rcases hy with h | h
          · exact hall y h
          · rw [h, Hx.out]; exact hlx
        case measure => simp [intOf]; omega
    · have hge : ∀ h : k < ss.length, ltS ss[k] s = false := fun h => absurd h hlt
      have hne : ¬ ss[k]? = some s := by rw [List.getElem?_eq_none (by omega)]; simp
      go_wp2_with fail
      have hins : insL ltS s ss = ss.take k ++ s :: ss.drop k := by rw [insL_cut ss k hk hall hge, if_neg hne]
      have HI := Lib.hid hins
      have HR1 := Lib.hid (Hr.out.takeA hk)
      have HR2 := Lib.hid (Hr.out.dropA hk hc)
      have hs1 := run_slice_full (P := Tryz.prog) Tryz.underlying27 hi A ss.length c k (Nat.le_trans hk hc)
      have hs2 := run_slice_tail (P := Tryz.prog) Tryz.underlying27 hi A ss.length c k hk
      rw [hz1] at hs1 hs2
      clear hins hne hge
      have hlk : (ss.drop k).length = ss.length - k := List.length_drop
      have HLk := Lib.hid hlk
      clear hlk
      try go_wp2_with fail
      refine wp_region_held_drew (S := fun w' => Below w.heap.size w w') (by kernel_rfl) (Below.drew (Below.refl _ _)) (fun hHeld => ?_)
      refine tY (i := 0) (v := ?_) rfl ?_ hHeld ?_; rotate_left 1; focus (intro w' hSw; clear hSw; go_simp; try with_reducible rfl)
      (try simp only [Act.put, zn1, zn2, zn3])
      refine tY (i := 1) (v := ?_) rfl ?_ hHeld ?_; rotate_left 1; focus (intro w' hSw; clear hSw; go_simp; try with_reducible rfl)
      (try simp only [Act.put, zn1, zn2, zn3])
      refine tY (i := 2) (v := ?_) rfl ?_ hHeld ?_; rotate_left 1; focus (intro w' hSw; clear hSw; go_simp; try with_reducible rfl)
      (try simp only [Act.put, zn1, zn2, zn3])
      refine tY (i := 3) (v := ?_) rfl ?_ hHeld ?_; rotate_left 1; focus (intro w' hSw; clear hSw; go_simp; try with_reducible rfl)
      (try simp only [Act.put, zn1, zn2, zn3])
      refine tY (i := 4) (v := ?_) rfl ?_ hHeld ?_; rotate_left 1; focus (intro w' hSw; clear hSw; go_simp; try with_reducible rfl)
      (try simp only [Act.put, zn1, zn2, zn3])
      refine tY (i := 6) (v := ?_) rfl ?_ hHeld ?_; rotate_left 1; focus (intro w' hSw; clear hSw; go_simp; try with_reducible rfl)
      (try simp only [Act.put, zn1, zn2, zn3])
      refine tY (i := 7) (v := ?_) rfl ?_ hHeld ?_; rotate_left 1; focus (intro w' hSw; clear hSw; go_simp; try with_reducible rfl)
      (try simp only [Act.put, zn1, zn2, zn3])
      refine tY (i := 8) (v := ?_) rfl ?_ hHeld ?_; rotate_left 1; focus (intro w' hSw; clear hSw; go_simp; try with_reducible rfl)
      (try simp only [Act.put, zn1, zn2, zn3])
      refine ready_one (i := 5) rfl (by kernel_rfl) (fun K hK => ?_)
      go_simp
      refine hK.out _ _ ?_ (fun hHeld2 => ?_)
      · (try dsimp only); first | exact hHeld | exact (by repeat (first | exact Below.refl _ _ | assumption | refine Below.alloc ?_ (by simp <;> omega) _ | refine Below.setCell ?_ (by simp <;> omega) _ | refine Below.drew ?_))
      clear hK K hHeld; have hHeld := hHeld2; clear hHeld2; (try simp only [Act.put, zn1, zn2, zn3])
      refine ready_one (i := 9) rfl (by kernel_rfl) (fun K hK => ?_)
      refine step_append_full (by rfl) (.tmp 38) (.tmp 41) 27 (by rfl) 9 i0 (.string ⟨#[]⟩) 1 16 Tryz.underlying27 hi hz0 hz1 hz2 rfl _ (some ⟨w.heap.size, 0, none⟩) 1 [sv s] (by rfl) (Rd.lit w.drew [sv s] 9 1 1 rfl) (Nat.le_refl _) _ _ (ss.length - k) (c - k) _ (by rfl) (HR2.out.at' (Nat.le_refl _) hHeld) (one_drop (one_svs ss) _) (by unfold maxLen; omega) (by omega) ?_
      intro A2 c2 v2 hc2 hr2 hb
      have HR3 := Lib.hid hr2
      clear hr2
      refine hK.out _ _ ?_ (fun hHeld2 => ?_)
      · (try dsimp only); first | exact Below.trans hHeld (Below.mono hb hHeld.size) | exact hHeld | exact Below.drew hHeld | exact (by repeat (first | exact Below.refl _ _ | assumption | refine Below.alloc ?_ (by simp <;> omega) _ | refine Below.setCell ?_ (by simp <;> omega) _ | refine Below.drew ?_))
      clear hK K hHeld; have hHeld := hHeld2; clear hHeld2; (try simp only [Act.put, zn1, zn2, zn3])
      refine ready_one (i := 10) rfl (by kernel_rfl) (fun K hK => ?_)
      refine step_append_full (by rfl) (.tmp 36) (.tmp 42) 27 (by rfl) 9 i0 (.string ⟨#[]⟩) 1 16 Tryz.underlying27 hi hz0 hz1 hz2 rfl _ _ k _ (by rfl) (HR1.out.at' (Nat.le_refl _) hHeld) (Nat.le_refl _) _ A2 (1 + (ss.length - k)) c2 _ (by rfl) HR3.out (one_app (one_sv s) (one_drop (one_svs ss) _)) (by unfold maxLen; omega) (by omega) ?_
      intro A3 c3 v3 hc3 hr3 hb
      have HR4 := Lib.hid hr3
      clear hr3
      refine hK.out _ _ ?_ (fun hHeld2 => ?_)
      · (try dsimp only); first | exact Below.trans hHeld (Below.mono hb hHeld.size) | exact hHeld | exact Below.drew hHeld | exact (by repeat (first | exact Below.refl _ _ | assumption | refine Below.alloc ?_ (by simp <;> omega) _ | refine Below.setCell ?_ (by simp <;> omega) _ | refine Below.drew ?_))
      clear hK K hHeld; have hHeld := hHeld2; clear hHeld2; (try simp only [Act.put, zn1, zn2, zn3])
      refine tY (i := 11) (v := ?_) rfl ?_ hHeld ?_; rotate_left 1; focus (intro w' hSw; clear hSw; go_simp; try with_reducible rfl)
      (try simp only [Act.put, zn1, zn2, zn3])
      refine wpAnyH_done (by kernel_rfl) ?_ _
      go_wp2_with fail
      go_ret
      refine RdIs.of hc3 HR4.out hHeld ?_ ?_
      · rw [HI.out, List.length_append, List.length_cons, List.length_take, HLk.out]; omega
      · rw [HI.out]; simp [svs, List.map_take, List.map_drop]
end Od
end Go.Proofs.YtmlogmcnblgnbaaGreat
end

section
/- append to a full slice: what comes of it is the call's own. No program. -/
namespace Go.Proofs.YtmlogmcnblgnbaaGreat
open Go.RowKit
section
variable {P : Program}
theorem run_append_grown (w : World) (t ty e : TypeId) (i : TypeInfo) (z : Value) (size bytes : Nat) (ht : P.underlying t = some (.slice e)) (hi : P.info? e = some i) (hz : i.zero = some z)
    (hsize : i.size = size) (hby : i.bytes = bytes) (hzs : z.cells.size = size) (B : Nat) (A : Option Addr) (n : Nat) (xs : List Value) (hr : Rd w B size A n xs)
    (B2 : Nat) (A2 : Option Addr) (m c : Nat) (news : List Value) (hr2 : Rd w B2 size A2 m news) (h1 : ∀ u ∈ news, u.oneCell' = true) (h0 : 0 < m) (h63 : n + m ≤ maxLen) (hbytes : (n + m) * bytes ≤ 140737488355328) :
    ∃ A' c' w', (Builtin.append_ #[t, t] ty #[.slice A n n, .slice A2 m c]).run P w = .ok (.slice A' (n + m) c') w' ∧ w'.ownsRow w.heap.size e size (.slice A' (n + m) c') (n + m) (xs ++ news) ∧ Below w.heap.size w w' := by
  subst hsize
  subst hby
  have hs : Src P i.size t (.slice A2 m c) m news w := src_rd ht hr2 h1 fun e => by
    obtain ⟨ad, h, _⟩ := hr2.2 h0; rw [e] at h; cases h
  have hnl := hs.newsLen
  have hlen : (xs ++ news).length = (n + m) * i.size := by rw [List.length_append, hr.1, hnl, Nat.add_mul]
  have hold : (Builtin.firstCells i.size n (.slice A n n)).run P w.drew = .ok xs.toArray w.drew := by
    cases A with
    | none =>
      have hn : n = 0 := by
        rcases Nat.eq_zero_or_pos n with h | h
        · exact h
        · obtain ⟨ad, h, _⟩ := hr.2 h; cases h
      subst hn
      have hx : xs = [] := List.eq_nil_of_length_eq_zero (by simpa using hr.1)
      subst hx
      exact run_firstCells_none w.drew i.size 0 0 0
    | some ad =>
      refine run_firstCells_some w.drew i.size n ad n n xs hr.1 (fun j u hu => ?_)
      have hj : j < n * i.size := by
        have := (List.getElem?_eq_some_iff.1 hu).1
        rw [hr.1] at this
        exact this
      have hn0 : 0 < n := by
        rcases Nat.eq_zero_or_pos n with h | h
        · rw [h, Nat.zero_mul] at hj; omega
        · exact h
      obtain ⟨ad', he, _, hsp, hc⟩ := hr.2 hn0
      injection he with he
      subst he
      have hadd : ad.add j = ⟨ad.block, ad.off + j, none⟩ := by
        unfold Addr.add
        split
        · rename_i h0; subst h0; cases ad; simp_all
        · rfl
      rw [hadd]
      exact (hc j hj).trans hu
  have hm2 : n + m ≤ 9223372036854775807 := by simp only [maxLen] at h63; omega
  have hg : n < n + m := by omega
  have hrun := run_append_grow_src (P := P) w t t ty e i z ht hi hz A n n xs hold (.slice A2 m c) m news hs hg (by omega) (growslice_fits hg hbytes)
  have hge := grownCap_ge w (n + m) n e
  have hcm : grownCap w (n + m) n e ≤ maxLen := grownCap_le_maxLen w (n + m) n e h63
  refine ⟨some ⟨w.heap.size, 0, none⟩, grownCap w (n + m) n e, _, hrun, ⟨hlen, .inr ⟨w.heap.size, _, _, rfl, Nat.le_refl _, heap_alloc_new w.drew _, hge, hcm, ?_, ?_⟩⟩, ⟨rfl, rfl, rfl, by simp, fun k hk => Below.heap_alloc w.drew _ k hk⟩⟩
  · have h5 : (xs ++ news).toArray.size = (n + m) * i.size := by rw [List.size_toArray, hlen]
    rw [Array.size_append, size_zeroCells, hzs, h5, ← Nat.add_mul]
    congr 1
    omega
  · simp only [Array.toList_append]
    rw [← hlen]
    exact List.take_left
/-- At a step of a region that draws its order. -/
theorem step_append_grown {w : World} {ops : Array Oper} {o : Oper} {a : Act} {K : Act → World → Prop} {Q : Exit → Act → World → Prop} {E : Prop} (hw : Region.wanted o (yielded ops a.tmps) = true) (s x : Operand) (t : TypeId)
    (ho : o.op = .call { callee := .builtin .append, args := #[s, x], argTypes := #[t, t] })
    (e : TypeId) (i : TypeInfo) (z : Value) (size bytes : Nat) (ht : P.underlying t = some (.slice e)) (hi : P.info? e = some i) (hz : i.zero = some z)
    (hsize : i.size = size) (hby : i.bytes = bytes) (hzs : z.cells.size = size) (B : Nat) (A : Option Addr) (n : Nat) (xs : List Value) (hs : a.eval s = .slice A n n) (hr : Rd w B size A n xs)
    (B2 : Nat) (A2 : Option Addr) (m c : Nat) (news : List Value) (hx : a.eval x = .slice A2 m c) (hr2 : Rd w B2 size A2 m news) (h1 : ∀ u ∈ news, u.oneCell' = true) (h0 : 0 < m) (h63 : n + m ≤ maxLen) (hbytes : (n + m) * bytes ≤ 140737488355328)
    (h : ∀ A' c' w', w'.ownsRow w.heap.size e size (.slice A' (n + m) c') (n + m) (xs ++ news) → Below w.heap.size w w' → K (a.put o.dst (.slice A' (n + m) c')) w') :
    if Region.wanted o (yielded ops a.tmps) = true then Oper.wp P o a w K Q else E := by
  rw [if_pos hw]
  obtain ⟨A', c', w', hrun, h2, h3⟩ := run_append_grown (P := P) w t o.type e i z size bytes ht hi hz hsize hby hzs B A n xs hr B2 A2 m c news hr2 h1 h0 h63 hbytes
  unfold Oper.wp execOp
  simp only [ho, resolve, invoke, builtin, Sem.run_bind, Sem.run_pure, Result.andThen_ok, List.map_toArray, List.map_cons, List.map_nil, hs, hx, hrun]
  exact h A' c' w' h2 h3
end
end Go.Proofs.YtmlogmcnblgnbaaGreat
end

section
/- The walk of matinsref20.rising: texts in order, each once. (bel2) -/
namespace Go.Proofs.YtmlogmcnblgnbaaGreat
open Go.RowKit Go.Sort
set_option linter.unusedSimpArgs false

namespace Od
theorem canon_succ {us : List Str} {j : Nat} (hj : j < us.length) : canon ltS (us.take (j + 1)) = insL ltS us[j] (canon ltS (us.take j)) := by
  unfold canon; rw [List.take_succ_eq_append_getElem hj, List.foldl_append]; rfl
theorem canon_take_len (us : List Str) (j : Nat) : (canon ltS (us.take j)).length ≤ us.length := Nat.le_trans (canon_len _) (by simp; omega)
set_option maxRecDepth 100000 in
set_option maxHeartbeats 8000000 in
theorem rising_own (A : Option Addr) (c : Nat) (ss : List Str) (w : World) (hr : Rd w w.heap.size 1 A ss.length (svs ss)) (hl : ss.length ≤ 100000) :
    Calls Tryz.prog 53 #[.slice A ss.length c] w (OwnS (canon ltS ss) w) := by
  obtain ⟨i0, hi, hz0, hz1, hz2⟩ := info_parts inS
  have Hr := Lib.hid hr
  clear hr
  go_enter Tryz.func53, Tryz.ntmps53
  go_wp2_with fail
  go_loopw [3, 9] (fun v i wr => ∃ (m : Nat) (B : Option Addr) (d : Nat) (L : List Str), m ≤ ss.length ∧ i = .int .i64 m ∧ v = .slice B L.length d ∧ wr.ownsRow w.heap.size 9 1 (.slice B L.length d) L.length (svs L) ∧ L = canon ltS (ss.take m) ∧ Below w.heap.size w wr) (fun _ i _ => ss.length - (intOf i).toNat)
  case atStart => exact ⟨0, none, 0, [], Nat.zero_le _, rfl, rfl, World.ownsRow_nil _ _ _ _, rfl, Below.refl _ _⟩
  case round =>
    obtain ⟨m, B, d, L, hm, rfl, rfl, hown, hC, hb⟩ := hrel
    have HO := Lib.hid hown
    have hd := (own_cap hown).1
    have hrL := own_rd' hown
    clear hown
    have HBw := Lib.hid hb
    replace Hr := Lib.hid (Hr.out.at hb)
    clear hb
    have HL := Lib.hid hrL
    have hLl : L.length ≤ ss.length := by rw [hC]; exact canon_take_len ss m
    clear hrL
    by_cases hlt : m < ss.length
    · obtain ⟨b1, o1, rfl, hB1, x0⟩ := Hr.out.str hlt
      have hcs := canon_succ hlt
      rw [← hC] at hcs
      generalize ss[m] = s at x0 hcs
      have HC := Lib.hid hcs
      clear hcs hC
      have m1 : (0 : Int) ≤ (m : Int) := by omega
      have m2 : (m : Int) < (ss.length : Int) := by omega
      go_wp2_with fail
      go_loop [6] (fun i => ∃ k : Nat, k ≤ L.length ∧ i = .int .i64 k ∧ Hid (∀ y ∈ L.take k, ltS y s = true)) (fun i => L.length - (intOf i).toNat)
      case atStart => exact ⟨0, Nat.zero_le _, rfl, by simp [Hid]⟩
      case round =>
        obtain ⟨k, hk2, rfl, hall2⟩ := hrel
        have k1 : (0 : Int) ≤ (k : Int) := by omega
        by_cases hlt2 : k < L.length
        · have k2 : (k : Int) < (L.length : Int) := by omega
          have k3 : ((k : Int) == (L.length : Int)) = false := by rw [beq_eq_false_iff_ne]; omega
          obtain ⟨b, o, hA, hB, hc0⟩ := HL.out.str hlt2
          subst hA
          generalize hx : L[k] = x at hc0
          have Hx := Lib.hid hx
          clear hx
          cases hlx : Op.bytesLess x s
          · have hge : ∀ h : k < L.length, ltS L[k] s = false := fun _ => by rw [Hx.out]; exact hlx
            cases hxs : (x == s)
            · have hne : ¬ L[k]? = some s := by rw [List.getElem?_eq_getElem hlt2, Hx.out]; intro e; injection e with e; rw [e] at hxs; simp at hxs
              have hins : insL ltS s L = L.take k ++ s :: L.drop k := by rw [insL_cut L k hk2 hall2 hge, if_neg hne]
              have HI := Lib.hid hins
              have HR1 := Lib.hid (HL.out.takeA hk2)
              have HR2 := Lib.hid (HL.out.dropA hk2 hd)
              have hs1 := run_slice_full (P := Tryz.prog) Tryz.underlying27 hi (some ⟨b, o, none⟩) L.length d k (Nat.le_trans hk2 hd)
              have hs2 := run_slice_tail (P := Tryz.prog) Tryz.underlying27 hi (some ⟨b, o, none⟩) L.length d k hk2
              rw [hz1] at hs1 hs2
              clear hins hne hge
              have hlk : (L.drop k).length = L.length - k := List.length_drop
              have HLk := Lib.hid hlk
              clear hlk
              go_wp2_with fail
              try go_wp2_with fail
              refine wp_region_held_drew (S := fun w' => Below wr.heap.size wr w') (by kernel_rfl) (Below.drew (Below.refl _ _)) (fun hHeld => ?_)
              refine tY (i := 0) (v := ?_) rfl ?_ hHeld ?_; rotate_left 1; focus (intro w' hSw; clear hSw; go_simp; try with_reducible rfl)
              (try simp only [Act.put, zn1, zn2, zn3])
              refine tY (i := 1) (v := ?_) rfl ?_ hHeld ?_; rotate_left 1; focus (intro w' hSw; clear hSw; go_simp; try with_reducible rfl)
              (try simp only [Act.put, zn1, zn2, zn3])
              refine tY (i := 2) (v := ?_) rfl ?_ hHeld ?_; rotate_left 1; focus (intro w' hSw; clear hSw; go_simp; try with_reducible rfl)
              (try simp only [Act.put, zn1, zn2, zn3])
              refine tY (i := 3) (v := ?_) rfl ?_ hHeld ?_; rotate_left 1; focus (intro w' hSw; clear hSw; go_simp; try with_reducible rfl)
              (try simp only [Act.put, zn1, zn2, zn3])
              refine tY (i := 4) (v := ?_) rfl ?_ hHeld ?_; rotate_left 1; focus (intro w' hSw; clear hSw; go_simp; try with_reducible rfl)
              (try simp only [Act.put, zn1, zn2, zn3])
              refine tY (i := 6) (v := ?_) rfl ?_ hHeld ?_; rotate_left 1; focus (intro w' hSw; clear hSw; go_simp; try with_reducible rfl)
              (try simp only [Act.put, zn1, zn2, zn3])
              refine tY (i := 7) (v := ?_) rfl ?_ hHeld ?_; rotate_left 1; focus (intro w' hSw; clear hSw; go_simp; try with_reducible rfl)
              (try simp only [Act.put, zn1, zn2, zn3])
              refine tY (i := 8) (v := ?_) rfl ?_ hHeld ?_; rotate_left 1; focus (intro w' hSw; clear hSw; go_simp; try with_reducible rfl)
              (try simp only [Act.put, zn1, zn2, zn3])
              refine ready_one (i := 5) rfl (by kernel_rfl) (fun K hK => ?_)
              go_simp
              refine hK.out _ _ ?_ (fun hHeld2 => ?_)
              · (try dsimp only); first | exact hHeld | exact (by repeat (first | exact Below.refl _ _ | assumption | refine Below.alloc ?_ (by first | omega | (simp <;> omega)) _ | refine Below.setCell ?_ (by first | omega | (simp <;> omega)) _ | refine Below.drew ?_))
              clear hK K hHeld; have hHeld := hHeld2; clear hHeld2; (try simp only [Act.put, zn1, zn2, zn3])
              refine ready_one (i := 9) rfl (by kernel_rfl) (fun K hK => ?_)
              refine step_append_full (by rfl) (.tmp 44) (.tmp 47) 27 (by rfl) 9 i0 (.string ⟨#[]⟩) 1 16 Tryz.underlying27 hi hz0 hz1 hz2 rfl _ (some ⟨wr.heap.size, 0, none⟩) 1 [sv s] (by rfl) (Rd.lit wr.drew [sv s] 9 1 1 rfl) (Nat.le_refl _) _ _ (L.length - k) (d - k) _ (by rfl) (HR2.out.at' (Nat.le_refl _) hHeld) (one_drop (one_svs L) _) (by unfold maxLen; omega) (by omega) ?_
              intro A2 c2 v2 hc2 hr2 hb
              have HR3 := Lib.hid hr2
              clear hr2
              refine hK.out _ _ ?_ (fun hHeld2 => ?_)
              · (try dsimp only); first | exact Below.trans hHeld (Below.mono hb hHeld.size) | exact hHeld | exact Below.drew hHeld | exact (by repeat (first | exact Below.refl _ _ | assumption | refine Below.alloc ?_ (by first | omega | (simp <;> omega)) _ | refine Below.setCell ?_ (by first | omega | (simp <;> omega)) _ | refine Below.drew ?_))
              clear hK K hHeld; have hHeld := hHeld2; clear hHeld2; (try simp only [Act.put, zn1, zn2, zn3])
              refine ready_one (i := 10) rfl (by kernel_rfl) (fun K hK => ?_)
              refine step_append_grown (by rfl) (.tmp 42) (.tmp 48) 27 (by rfl) 9 i0 (.string ⟨#[]⟩) 1 16 Tryz.underlying27 hi hz0 hz1 hz2 rfl _ _ k _ (by rfl) (HR1.out.at' (Nat.le_refl _) hHeld) _ A2 (1 + (L.length - k)) c2 _ (by rfl) HR3.out (one_app (one_sv s) (one_drop (one_svs L) _)) (by omega) (by unfold maxLen; omega) (by omega) ?_
              intro A3 c3 v3 hown3 hb
              have hz5 := Nat.le_trans HBw.out.size hHeld.size
              have HO3 := Lib.hid hown3
              clear hown3
              refine hK.out _ _ ?_ (fun hHeld2 => ?_)
              · (try dsimp only); first | exact Below.trans hHeld (Below.mono hb hHeld.size) | exact hHeld | exact Below.drew hHeld | exact (by repeat (first | exact Below.refl _ _ | assumption | refine Below.alloc ?_ (by first | omega | (simp <;> omega)) _ | refine Below.setCell ?_ (by first | omega | (simp <;> omega)) _ | refine Below.drew ?_))
              clear hK K hHeld; have hHeld := hHeld2; clear hHeld2; (try simp only [Act.put, zn1, zn2, zn3])
              refine tY (i := 11) (v := ?_) rfl ?_ hHeld ?_; rotate_left 1; focus (intro w' hSw; clear hSw; go_simp; try with_reducible rfl)
              (try simp only [Act.put, zn1, zn2, zn3])
              refine wpAnyH_done (by kernel_rfl) ?_ _
              go_wp2_with fail
              go_roundw
              case rel =>
                have hl4 : k + (1 + (L.length - k)) = (insL ltS s L).length := by rw [HI.out, List.length_append, List.length_cons, List.length_take, HLk.out]; omega
                have hx4 : (svs L).take (k * 1) ++ ([sv s] ++ (svs L).drop (k * 1)) = svs (insL ltS s L) := by rw [HI.out]; simp [svs, List.map_take, List.map_drop]
                have ho4 := own_base HO3.out hz5
                rw [hx4] at ho4
                rw [hl4] at ho4 ⊢
                exact ⟨m + 1, A3, c3, insL ltS s L, by omega, by go_num, rfl, ho4, HC.out.symm, HBw.out.trans (hHeld.mono HBw.out.size)⟩
              case measure => simp [intOf]; omega
            · have hins : insL ltS s L = L := by rw [insL_cut L k hk2 hall2 hge, if_pos]; rw [List.getElem?_eq_getElem hlt2, Hx.out]; simpa using hxs
              have HI := Lib.hid (hins.symm.trans HC.out.symm)
              clear hge hins
              go_wp2_with fail
              go_roundw
              case rel => exact ⟨m + 1, _, d, L, by omega, by go_num, rfl, HO.out, HI.out, HBw.out⟩
              case measure => simp [intOf]; omega
          · go_wp2_with fail
            go_round
            case rel =>
              refine ⟨k + 1, by omega, by go_num, fun y hy => ?_⟩
              rw [List.take_succ_eq_append_getElem hlt2, List.mem_append, List.mem_singleton] at hy
              rcases hy with h | h
              · exact hall2 y h
              · rw [h, Hx.out]; exact hlx
            case measure => simp [intOf]; omega
        · have hge : ∀ h : k < L.length, ltS L[k] s = false := fun h => absurd h hlt2
          have hne : ¬ L[k]? = some s := by rw [List.getElem?_eq_none (by omega)]; simp
          have k2 : ¬ (k : Int) < (L.length : Int) := by omega
          have k3 : ((k : Int) == (L.length : Int)) = true := by rw [beq_iff_eq]; omega
          have hins : insL ltS s L = L.take k ++ s :: L.drop k := by rw [insL_cut L k hk2 hall2 hge, if_neg hne]
          have HI := Lib.hid hins
          have HR1 := Lib.hid (HL.out.takeA hk2)
          have HR2 := Lib.hid (HL.out.dropA hk2 hd)
          have hs1 := run_slice_full (P := Tryz.prog) Tryz.underlying27 hi B L.length d k (Nat.le_trans hk2 hd)
          have hs2 := run_slice_tail (P := Tryz.prog) Tryz.underlying27 hi B L.length d k hk2
          rw [hz1] at hs1 hs2
          clear hins hne hge
          have hlk : (L.drop k).length = L.length - k := List.length_drop
          have HLk := Lib.hid hlk
          clear hlk
          go_wp2_with fail
          try go_wp2_with fail
          refine wp_region_held_drew (S := fun w' => Below wr.heap.size wr w') (by kernel_rfl) (Below.drew (Below.refl _ _)) (fun hHeld => ?_)
          refine tY (i := 0) (v := ?_) rfl ?_ hHeld ?_; rotate_left 1; focus (intro w' hSw; clear hSw; go_simp; try with_reducible rfl)
          (try simp only [Act.put, zn1, zn2, zn3])
          refine tY (i := 1) (v := ?_) rfl ?_ hHeld ?_; rotate_left 1; focus (intro w' hSw; clear hSw; go_simp; try with_reducible rfl)
          (try simp only [Act.put, zn1, zn2, zn3])
          refine tY (i := 2) (v := ?_) rfl ?_ hHeld ?_; rotate_left 1; focus (intro w' hSw; clear hSw; go_simp; try with_reducible rfl)
          (try simp only [Act.put, zn1, zn2, zn3])
          refine tY (i := 3) (v := ?_) rfl ?_ hHeld ?_; rotate_left 1; focus (intro w' hSw; clear hSw; go_simp; try with_reducible rfl)
          (try simp only [Act.put, zn1, zn2, zn3])
          refine tY (i := 4) (v := ?_) rfl ?_ hHeld ?_; rotate_left 1; focus (intro w' hSw; clear hSw; go_simp; try with_reducible rfl)
          (try simp only [Act.put, zn1, zn2, zn3])
          refine tY (i := 6) (v := ?_) rfl ?_ hHeld ?_; rotate_left 1; focus (intro w' hSw; clear hSw; go_simp; try with_reducible rfl)
          (try simp only [Act.put, zn1, zn2, zn3])
          refine tY (i := 7) (v := ?_) rfl ?_ hHeld ?_; rotate_left 1; focus (intro w' hSw; clear hSw; go_simp; try with_reducible rfl)
          (try simp only [Act.put, zn1, zn2, zn3])
          refine tY (i := 8) (v := ?_) rfl ?_ hHeld ?_; rotate_left 1; focus (intro w' hSw; clear hSw; go_simp; try with_reducible rfl)
          (try simp only [Act.put, zn1, zn2, zn3])
          refine ready_one (i := 5) rfl (by kernel_rfl) (fun K hK => ?_)
          go_simp
          refine hK.out _ _ ?_ (fun hHeld2 => ?_)
          · (try dsimp only); first | exact hHeld | exact (by repeat (first | exact Below.refl _ _ | assumption | refine Below.alloc ?_ (by first | omega | (simp <;> omega)) _ | refine Below.setCell ?_ (by first | omega | (simp <;> omega)) _ | refine Below.drew ?_))
          clear hK K hHeld; have hHeld := hHeld2; clear hHeld2; (try simp only [Act.put, zn1, zn2, zn3])
          refine ready_one (i := 9) rfl (by kernel_rfl) (fun K hK => ?_)
          refine step_append_full (by rfl) (.tmp 44) (.tmp 47) 27 (by rfl) 9 i0 (.string ⟨#[]⟩) 1 16 Tryz.underlying27 hi hz0 hz1 hz2 rfl _ (some ⟨wr.heap.size, 0, none⟩) 1 [sv s] (by rfl) (Rd.lit wr.drew [sv s] 9 1 1 rfl) (Nat.le_refl _) _ _ (L.length - k) (d - k) _ (by rfl) (HR2.out.at' (Nat.le_refl _) hHeld) (one_drop (one_svs L) _) (by unfold maxLen; omega) (by omega) ?_
          intro A2 c2 v2 hc2 hr2 hb
          have HR3 := Lib.hid hr2
          clear hr2
          refine hK.out _ _ ?_ (fun hHeld2 => ?_)
          · (try dsimp only); first | exact Below.trans hHeld (Below.mono hb hHeld.size) | exact hHeld | exact Below.drew hHeld | exact (by repeat (first | exact Below.refl _ _ | assumption | refine Below.alloc ?_ (by first | omega | (simp <;> omega)) _ | refine Below.setCell ?_ (by first | omega | (simp <;> omega)) _ | refine Below.drew ?_))
          clear hK K hHeld; have hHeld := hHeld2; clear hHeld2; (try simp only [Act.put, zn1, zn2, zn3])
          refine ready_one (i := 10) rfl (by kernel_rfl) (fun K hK => ?_)
          refine step_append_grown (by rfl) (.tmp 42) (.tmp 48) 27 (by rfl) 9 i0 (.string ⟨#[]⟩) 1 16 Tryz.underlying27 hi hz0 hz1 hz2 rfl _ _ k _ (by rfl) (HR1.out.at' (Nat.le_refl _) hHeld) _ A2 (1 + (L.length - k)) c2 _ (by rfl) HR3.out (one_app (one_sv s) (one_drop (one_svs L) _)) (by omega) (by unfold maxLen; omega) (by omega) ?_
          intro A3 c3 v3 hown3 hb
          have hz5 := Nat.le_trans HBw.out.size hHeld.size
          have HO3 := Lib.hid hown3
          clear hown3
          refine hK.out _ _ ?_ (fun hHeld2 => ?_)
          · (try dsimp only); first | exact Below.trans hHeld (Below.mono hb hHeld.size) | exact hHeld | exact Below.drew hHeld | exact (by repeat (first | exact Below.refl _ _ | assumption | refine Below.alloc ?_ (by first | omega | (simp <;> omega)) _ | refine Below.setCell ?_ (by first | omega | (simp <;> omega)) _ | refine Below.drew ?_))
          clear hK K hHeld; have hHeld := hHeld2; clear hHeld2; (try simp only [Act.put, zn1, zn2, zn3])
          refine tY (i := 11) (v := ?_) rfl ?_ hHeld ?_; rotate_left 1; focus (intro w' hSw; clear hSw; go_simp; try with_reducible rfl)
          (try simp only [Act.put, zn1, zn2, zn3])
          refine wpAnyH_done (by kernel_rfl) ?_ _
          go_wp2_with fail
          go_roundw
          case rel =>
            have hl4 : k + (1 + (L.length - k)) = (insL ltS s L).length := by rw [HI.out, List.length_append, List.length_cons, List.length_take, HLk.out]; omega
            have hx4 : (svs L).take (k * 1) ++ ([sv s] ++ (svs L).drop (k * 1)) = svs (insL ltS s L) := by rw [HI.out]; simp [svs, List.map_take, List.map_drop]
            have ho4 := own_base HO3.out hz5
            rw [hx4] at ho4
            rw [hl4] at ho4 ⊢
            exact ⟨m + 1, A3, c3, insL ltS s L, by omega, by go_num, rfl, ho4, HC.out.symm, HBw.out.trans (hHeld.mono HBw.out.size)⟩
          case measure => simp [intOf]; omega
    · have hmn : m = ss.length := by omega
      rw [hmn, List.take_length] at hC
      have HC := Lib.hid hC
      clear hC
      go_wp2_with fail
      go_ret
      rw [← HC.out]
      exact ⟨B, d, rfl, HO.out, HBw.out⟩
theorem OwnS.is {ss : List Str} {w w' : World} {e : Ending} (h : OwnS ss w e w') : RdIs 1 ss.length (svs ss) w e w' := by
  obtain ⟨A, c, h1, h2, h3⟩ := h
  exact ⟨A, c, h1, (own_cap h2).1, own_rd' h2, h3⟩
theorem rising_any (A : Option Addr) (c : Nat) (ss : List Str) (w : World) (hr : Rd w w.heap.size 1 A ss.length (svs ss)) (hl : ss.length ≤ 100000) :
    Calls Tryz.prog 53 #[.slice A ss.length c] w (RdIs 1 (canon ltS ss).length (svs (canon ltS ss)) w) := (rising_own A c ss w hr hl).mono fun _ _ h => h.is
end Od
end Go.Proofs.YtmlogmcnblgnbaaGreat
end

section
/- The walks of matinsref20.Waits and matinsref20.Ready. (bel2) -/
namespace Go.Proofs.YtmlogmcnblgnbaaGreat
open Go.RowKit Go.Sort
set_option linter.unusedSimpArgs false

namespace Od
theorem canon_self {l : List Str} (h : SS ltS l) : canon ltS l = l := (SS.eq_canon toS h fun _ => Iff.rfl).symm
theorem waitsJ_canon {es : List Ed} {q : List Jb} {j : Jb} (h : upQ q) : canon ltS (waitsJ es q j) = waitsJ es q j := by
  refine canon_self ?_
  have : upQ (q.filter (fun x => aheadJ es x j)) := List.Pairwise.sublist List.filter_sublist h
  exact upQ_map.1 this
theorem readyQ_canon (es : List Ed) (q : List Jb) : canon ltS (readyQ es q) = readyQ es q := canon_self readyQ_up
theorem RdNil {w w' : World} (hb : Below w.heap.size w w') : RdIs 1 ([] : List Str).length (svs []) w (.returned (.slice none 0 0)) w' := ⟨none, 0, rfl, Nat.le_refl _, Rd.none_, hb⟩
set_option maxRecDepth 100000 in
set_option maxHeartbeats 16000000 in
theorem Waits20_any (An Ae : Option Addr) (nn cn ce : Nat) (es : List Ed) (A : Option Addr) (c : Nat) (q : List Jb) (u : Str) (w : World) (hr : Rd w w.heap.size 3 Ae es.length (edsC es)) (hq : Rd w w.heap.size 4 A q.length (jbsC q)) (hl : es.length ≤ 1000000) (hlq : q.length ≤ 100000) (hok : OkJs q) :
    Calls Tryz.prog 82 #[gV An nn cn Ae es.length ce, .slice A q.length c, sv u] w (RdIs 1 (waitsQ es q u).length (svs (waitsQ es q u)) w) := by
  obtain ⟨i0, hi, hz0, hz1, hz2⟩ := info_parts infoS
  have Hr := Lib.hid hr
  have HQ := Lib.hid hq
  have HOk := Lib.hid hok
  clear hr hq hok
  go_enter Tryz.func82, Tryz.ntmps82
  go_wp2_with fail
  first | (refine wp_named ?_; intro W1 hW) | (refine calls_named ?_; intro W1 hW)
  have B1 : Below w.heap.size w W1 := by rw [hW]; exact (by repeat (first | exact Below.refl _ _ | assumption | refine Below.alloc ?_ (by first | omega | (simp <;> omega)) _ | refine Below.setCell ?_ (by first | omega | (simp <;> omega)) _ | refine Below.drew ?_))
  replace Hr := Lib.hid (Hr.out.at B1)
  replace HQ := Lib.hid (HQ.out.at B1)
  have n1 : w.heap.size < W1.heap.size := by rw [hW]; simp <;> omega
  have g0 : W1.cell? ⟨w.heap.size, 0, none⟩ = some (.slice An nn cn) := by rw [hW]; go_simp
  have g1 : W1.cell? ⟨w.heap.size, 1, none⟩ = some (.slice Ae es.length ce) := by rw [hW]; go_simp
  clear hW
  have HB := Lib.hid B1
  clear B1
  refine (at_any A c q u W1 HQ.out (by omega)).mono ?_
  rintro e w2 ⟨r, rfl, hcase, hb⟩
  have HC := Lib.hid hcase
  replace g0 := cellAt g0 hb (by omega)
  replace g1 := cellAt g1 hb (by omega)
  replace Hr := Lib.hid (Hr.out.at hb)
  replace HQ := Lib.hid (HQ.out.at hb)
  replace n1 : w.heap.size < w2.heap.size := ltAt n1 hb
  replace HB := Lib.hid (lift HB.out hb)
  clear hb hcase
  rcases HC.out with ⟨rfl, hnone⟩ | ⟨k, hk, rfl, hfind, _, _⟩
  · have HW := Lib.hid (waitsQ_none (es := es) hnone)
    clear hnone
    go_wp2_with fail
    go_ret
    rw [HW.out]
    exact RdNil HB.out
  · have hneg : decide ((k : Int) < 0) = false := by simp
    have hj : jobOf q u = some q[k] := hfind
    obtain ⟨b, o, hA, hB, y0, y1, y2, y3⟩ := HQ.out.job hk
    subst hA
    generalize q[k] = x at y0 y1 y2 y3 hj
    clear hfind
    obtain ⟨s', t', r', d'⟩ := x
    simp only at y0 y1 y2 y3
    have k1 : (0 : Int) ≤ (k : Int) := by omega
    have k2 : (k : Int) < (q.length : Int) := by omega
    clear HC
    by_cases r1 : r' = 1
    · subst r1
      have HJ := Lib.hid hj
      clear hj
      go_wp2_with fail
      refine (May20_any _ c q w2 HQ.out HOk.out).mono ?_
      rintro e w3 ⟨rfl, hb⟩
      replace g0 := cellAt g0 hb (by omega)
      replace g1 := cellAt g1 hb (by omega)
      replace y0 := cellAt y0 hb (by omega)
      replace y1 := cellAt y1 hb (by omega)
      replace y2 := cellAt y2 hb (by omega)
      replace y3 := cellAt y3 hb (by omega)
      replace Hr := Lib.hid (Hr.out.at hb)
      replace HQ := Lib.hid (HQ.out.at hb)
      replace n1 : w.heap.size < w3.heap.size := ltAt n1 hb
      replace HB := Lib.hid (lift HB.out hb)
      replace hB : b < w3.heap.size := ltAt hB hb
      clear hb
      cases hm : mayQ q
      · have HW := Lib.hid (waitsQ_notmay (es := es) (u := u) hm)
        go_wp2_with fail
        go_ret
        rw [HW.out]
        exact RdNil HB.out
      · have HW := Lib.hid (waitsQ_at (es := es) HJ.out hm rfl)
        have HUp := Lib.hid (mayQ_iff.1 hm).2.2
        clear hm
        have hzw : w.heap.size ≤ w3.heap.size := HB.out.size
        go_wp2_with fail
        go_loopw [8, 31] (fun v i wr => ∃ m : Nat, m ≤ q.length ∧ i = .int .i64 m ∧ wr.ownsRow w3.heap.size 9 1 v (waitsJ es (q.take m) (s', t', 1, d')).length (svs (waitsJ es (q.take m) (s', t', 1, d'))) ∧ Below w3.heap.size w3 wr) (fun _ i _ => q.length - (intOf i).toNat)
        case atStart => exact ⟨0, Nat.zero_le _, rfl, World.ownsRow_nil _ _ _ _, Below.refl _ _⟩
        case round =>
          obtain ⟨m, hm, rfl, hown, hb⟩ := hrel
          have HOut := Lib.hid hown
          have Hb := Lib.hid hb
          clear hown
          replace g0 := cellAt g0 hb (by omega)
          replace g1 := cellAt g1 hb (by omega)
          replace y0 := cellAt y0 hb (by omega)
          replace y1 := cellAt y1 hb (by omega)
          replace y2 := cellAt y2 hb (by omega)
          replace y3 := cellAt y3 hb (by omega)
          replace Hr := Lib.hid (Hr.out.at hb)
          replace HQ := Lib.hid (HQ.out.at hb)
          replace n1 : w.heap.size < wr.heap.size := ltAt n1 hb
          replace HB := Lib.hid (lift HB.out hb)
          replace hB : b < wr.heap.size := ltAt hB hb
          clear hb
          by_cases hlt : m < q.length
          · obtain ⟨b2, o2, hA, hB2, x0, x1, x2, x3⟩ := HQ.out.job hlt
            injection hA with hA
            injection hA with hA1 hA2
            subst hA1 hA2
            have hsucc := waitsJ_succ (es := es) (j := (s', t', 1, d')) hlt
            have hln := waitsJ_len es q (s', t', 1, d') m
            generalize q[m] = x at x0 x1 x2 x3 hsucc
            obtain ⟨s, t, r, d⟩ := x
            simp only at x0 x1 x2 x3 hsucc
            have HS := Lib.hid hsucc
            clear hsucc
            have m1 : (0 : Int) ≤ (m : Int) := by omega
            have m2 : (m : Int) < (q.length : Int) := by omega
            go_wp2_with fail
            first | (refine wp_named ?_; intro W2 hW) | (refine calls_named ?_; intro W2 hW)
            have B2 : Below wr.heap.size wr W2 := by rw [hW]; exact (by repeat (first | exact Below.refl _ _ | assumption | refine Below.alloc ?_ (by first | omega | (simp <;> omega)) _ | refine Below.setCell ?_ (by first | omega | (simp <;> omega)) _ | refine Below.drew ?_))
            replace g0 := cellAt g0 B2 (by omega)
            replace g1 := cellAt g1 B2 (by omega)
            replace y0 := cellAt y0 B2 (by omega)
            replace y1 := cellAt y1 B2 (by omega)
            replace y2 := cellAt y2 B2 (by omega)
            replace y3 := cellAt y3 B2 (by omega)
            replace Hr := Lib.hid (Hr.out.at B2)
            replace HQ := Lib.hid (HQ.out.at B2)
            replace n1 : w.heap.size < W2.heap.size := ltAt n1 B2
            replace HB := Lib.hid (lift HB.out B2)
            replace hB : b < W2.heap.size := ltAt hB B2
            replace HOut := Lib.hid (own_on HOut.out B2)
            replace Hb := Lib.hid (lift Hb.out B2)
            have p1 : wr.heap.size < W2.heap.size := by rw [hW]; simp <;> omega
            have e0 : W2.cell? ⟨wr.heap.size, 0, none⟩ = some (sv s) := by rw [hW]; go_simp
            have e1 : W2.cell? ⟨wr.heap.size, 1, none⟩ = some (.int .i64 t) := by rw [hW]; go_simp
            have e2 : W2.cell? ⟨wr.heap.size, 2, none⟩ = some (.int .i64 r) := by rw [hW]; go_simp
            have e3 : W2.cell? ⟨wr.heap.size, 3, none⟩ = some (.int .i64 d) := by rw [hW]; go_simp
            clear hW
            clear B2
            try go_wp2_with fail
            refine wp_region_held_drew (S := fun w' => Below W2.heap.size W2 w') (by kernel_rfl) (Below.drew (Below.refl _ _)) (fun hHeld => ?_)
            refine tY (i := 0) (v := ?_) rfl ?_ hHeld ?_; rotate_left 1; focus (intro w' hSw; have hCell := fun (b o : Nat) (h : b < W2.heap.size) => hSw.cell (p := ⟨b, o, none⟩) h; clear hSw; go_simp; try with_reducible rfl)
            (try simp only [Act.put, zn1, zn2, zn3])
            refine tY (i := 1) (v := ?_) rfl ?_ hHeld ?_; rotate_left 1; focus (intro w' hSw; have hCell := fun (b o : Nat) (h : b < W2.heap.size) => hSw.cell (p := ⟨b, o, none⟩) h; clear hSw; go_simp; try with_reducible rfl)
            (try simp only [Act.put, zn1, zn2, zn3])
            refine tY (i := 2) (v := ?_) rfl ?_ hHeld ?_; rotate_left 1; focus (intro w' hSw; clear hSw; go_simp; try with_reducible rfl)
            (try simp only [Act.put, zn1, zn2, zn3])
            refine tY (i := 3) (v := ?_) rfl ?_ hHeld ?_; rotate_left 1; focus (intro w' hSw; clear hSw; go_simp; try with_reducible rfl)
            (try simp only [Act.put, zn1, zn2, zn3])
            refine tY (i := 4) (v := ?_) rfl ?_ hHeld ?_; rotate_left 1; focus (intro w' hSw; clear hSw; go_simp; try with_reducible rfl)
            (try simp only [Act.put, zn1, zn2, zn3])
            refine tY (i := 5) (v := ?_) rfl ?_ hHeld ?_; rotate_left 1; focus (intro w' hSw; have hCell := fun (b o : Nat) (h : b < W2.heap.size) => hSw.cell (p := ⟨b, o, none⟩) h; clear hSw; go_simp; try with_reducible rfl)
            (try simp only [Act.put, zn1, zn2, zn3])
            refine ready_one (i := 6) rfl (by kernel_rfl) (fun K hK => ?_)
            go_simp
            refine (ahead20_any An Ae nn cn ce es s s' t r d t' 1 d' _ (Hr.out.at hHeld) hl rfl).mono ?_
            rintro e v3 ⟨rfl, hb⟩
            refine hK.out _ _ ?_ (fun hHeld2 => ?_)
            · (try dsimp only); first | exact Below.trans hHeld (Below.mono hb hHeld.size) | exact hHeld | exact Below.drew hHeld | exact (by repeat (first | exact Below.refl _ _ | assumption | refine Below.alloc ?_ (by first | omega | (simp <;> omega)) _ | refine Below.setCell ?_ (by first | omega | (simp <;> omega)) _ | refine Below.drew ?_))
            clear hK K hHeld; have hHeld := hHeld2; clear hHeld2; (try simp only [Act.put, zn1, zn2, zn3])
            refine wpAnyH_done (by kernel_rfl) ?_ _
            replace g0 := cellAt g0 hHeld (by omega)
            replace g1 := cellAt g1 hHeld (by omega)
            replace y0 := cellAt y0 hHeld (by omega)
            replace y1 := cellAt y1 hHeld (by omega)
            replace y2 := cellAt y2 hHeld (by omega)
            replace y3 := cellAt y3 hHeld (by omega)
            replace e0 := cellAt e0 hHeld (by omega)
            replace e1 := cellAt e1 hHeld (by omega)
            replace e2 := cellAt e2 hHeld (by omega)
            replace e3 := cellAt e3 hHeld (by omega)
            replace Hr := Lib.hid (Hr.out.at hHeld)
            replace HQ := Lib.hid (HQ.out.at hHeld)
            replace n1 : w.heap.size < v3.heap.size := ltAt n1 hHeld
            replace HB := Lib.hid (lift HB.out hHeld)
            replace hB : b < v3.heap.size := ltAt hB hHeld
            replace HOut := Lib.hid (own_on HOut.out hHeld)
            replace Hb := Lib.hid (lift Hb.out hHeld)
            replace p1 : wr.heap.size < v3.heap.size := ltAt p1 hHeld
            clear hHeld
            have hzb : w3.heap.size ≤ v3.heap.size := Hb.out.size
            cases hah : aheadJ es (s, t, r, d) (s', t', 1, d')
            · have HS2 := Lib.hid (show waitsJ es (q.take (m + 1)) (s', t', 1, d') = waitsJ es (q.take m) (s', t', 1, d') by rw [HS.out, hah]; simp)
              go_wp2_with fail
              go_roundw
              case rel => exact ⟨m + 1, by omega, by go_num, by rw [HS2.out]; exact HOut.out, Hb.out⟩
              case measure => simp [intOf]; omega
            · have HS2 := Lib.hid (show waitsJ es (q.take (m + 1)) (s', t', 1, d') = waitsJ es (q.take m) (s', t', 1, d') ++ [s] by rw [HS.out, hah]; simp)
              have h63 : (waitsJ es (q.take m) (s', t', 1, d')).length + 1 ≤ maxLen := by unfold maxLen; omega
              have hby : ((waitsJ es (q.take m) (s', t', 1, d')).length + 1) * 16 ≤ 140737488355328 := by omega
              go_wp2_with (first | (at_builtin; refine wpList_pushm w3 v3 (by rfl) (.tmp 42) (.tmp 45) 27 (by rfl) w3.heap.size 9 i0 _ 1 16 Tryz.underlying27 hi hz0 hz1 hz2 rfl (by decide) _ _ _ (by rfl) HOut.out [sv s] v3.heap.size rfl (by rfl) rfl (one_sv s) h63 hby hzb Hb.out ?_; intro A8 c8 w4 hown4 hbel4 hg4 hat4) | fail)
              go_roundw
              case rel => exact ⟨m + 1, by omega, by go_num, by rw [HS2.out]; simpa [svs] using hown4, hbel4⟩
              case measure => simp [intOf]; omega
          · have hmq : m = q.length := by omega
            have ho := HOut.out
            rw [hmq, List.take_length] at ho
            obtain ⟨A9, c9, rfl, _⟩ := own_rd ho
            have HO2 := Lib.hid (own_rd' (show wr.ownsRow w3.heap.size 9 1 (.slice A9 (waitsJ es q (s', t', 1, d')).length c9) _ _ from ho))
            have hcan := waitsJ_canon HUp.out (es := es) (j := (s', t', 1, d'))
            have hln := waitsJ_len' es q (s', t', 1, d')
            have HCn := Lib.hid hcan
            clear ho hcan
            go_wp2_with fail
            refine (rising_any A9 c9 (waitsJ es q (s', t', 1, d')) wr HO2.out (by omega)).mono ?_
            rw [HCn.out]
            rintro e v9 ⟨A7, c7, rfl, hc7, hr7, hb⟩
            have HR7 := Lib.hid hr7
            replace g0 := cellAt g0 hb (by omega)
            replace g1 := cellAt g1 hb (by omega)
            replace y0 := cellAt y0 hb (by omega)
            replace y1 := cellAt y1 hb (by omega)
            replace y2 := cellAt y2 hb (by omega)
            replace y3 := cellAt y3 hb (by omega)
            replace Hr := Lib.hid (Hr.out.at hb)
            replace HQ := Lib.hid (HQ.out.at hb)
            replace n1 : w.heap.size < v9.heap.size := ltAt n1 hb
            replace HB := Lib.hid (lift HB.out hb)
            replace hB : b < v9.heap.size := ltAt hB hb
            replace HOut := Lib.hid (own_on HOut.out hb)
            replace Hb := Lib.hid (lift Hb.out hb)
            clear hb
            go_wp2_with fail
            go_ret
            rw [HW.out]
            exact ⟨A7, c7, rfl, hc7, HR7.out, HB.out⟩
    · have HW := Lib.hid (waitsQ_other (es := es) hj r1)
      have rb : (r' == 1) = false := by simpa using r1
      clear hj
      go_wp2_with fail
      go_ret
      rw [HW.out]
      exact RdNil HB.out
set_option maxRecDepth 100000 in
set_option maxHeartbeats 16000000 in
theorem Ready20_own (An Ae : Option Addr) (nn cn ce : Nat) (es : List Ed) (A : Option Addr) (c : Nat) (q : List Jb) (w : World) (hr : Rd w w.heap.size 3 Ae es.length (edsC es)) (hq : Rd w w.heap.size 4 A q.length (jbsC q)) (hl : es.length ≤ 1000000) (hlq : q.length ≤ 100000) (hok : OkJs q) :
    Calls Tryz.prog 52 #[gV An nn cn Ae es.length ce, .slice A q.length c] w (OwnS (readyQ es q) w) := by
  obtain ⟨i0, hi, hz0, hz1, hz2⟩ := info_parts infoS
  have Hr := Lib.hid hr
  have HQ := Lib.hid hq
  have HOk := Lib.hid hok
  clear hr hq hok
  go_enter Tryz.func52, Tryz.ntmps52
  go_wp2_with fail
  first | (refine wp_named ?_; intro W1 hW) | (refine calls_named ?_; intro W1 hW)
  have B1 : Below w.heap.size w W1 := by rw [hW]; exact (by repeat (first | exact Below.refl _ _ | assumption | refine Below.alloc ?_ (by first | omega | (simp <;> omega)) _ | refine Below.setCell ?_ (by first | omega | (simp <;> omega)) _ | refine Below.drew ?_))
  replace Hr := Lib.hid (Hr.out.at B1)
  replace HQ := Lib.hid (HQ.out.at B1)
  have n1 : w.heap.size < W1.heap.size := by rw [hW]; simp <;> omega
  have g0 : W1.cell? ⟨w.heap.size, 0, none⟩ = some (.slice An nn cn) := by rw [hW]; go_simp
  have g1 : W1.cell? ⟨w.heap.size, 1, none⟩ = some (.slice Ae es.length ce) := by rw [hW]; go_simp
  clear hW
  have HB := Lib.hid B1
  clear B1
  refine (May20_any A c q W1 HQ.out HOk.out).mono ?_
  rintro e w3 ⟨rfl, hb⟩
  replace g0 := cellAt g0 hb (by omega)
  replace g1 := cellAt g1 hb (by omega)
  replace Hr := Lib.hid (Hr.out.at hb)
  replace HQ := Lib.hid (HQ.out.at hb)
  replace n1 : w.heap.size < w3.heap.size := ltAt n1 hb
  replace HB := Lib.hid (lift HB.out hb)
  clear hb
  cases hm : mayQ q
  · have HW := Lib.hid (show readyQ es q = [] by unfold readyQ; rw [hm]; simp)
    go_wp2_with fail
    go_ret
    rw [HW.out]
    exact OwnS.nil HB.out
  · have HM := Lib.hid hm
    clear hm
    have hzw : w.heap.size ≤ w3.heap.size := HB.out.size
    go_wp2_with fail
    go_loopw [5, 13] (fun v i wr => ∃ m : Nat, m ≤ q.length ∧ i = .int .i64 m ∧ wr.ownsRow w3.heap.size 9 1 v (readyL es q m).length (svs (readyL es q m)) ∧ Below w3.heap.size w3 wr) (fun _ i _ => q.length - (intOf i).toNat)
    case atStart => exact ⟨0, Nat.zero_le _, rfl, World.ownsRow_nil _ _ _ _, Below.refl _ _⟩
    case round =>
      obtain ⟨m, hm, rfl, hown, hb⟩ := hrel
      have HOut := Lib.hid hown
      have Hb := Lib.hid hb
      clear hown
      replace g0 := cellAt g0 hb (by omega)
      replace g1 := cellAt g1 hb (by omega)
      replace Hr := Lib.hid (Hr.out.at hb)
      replace HQ := Lib.hid (HQ.out.at hb)
      replace n1 : w.heap.size < wr.heap.size := ltAt n1 hb
      replace HB := Lib.hid (lift HB.out hb)
      clear hb
      by_cases hlt : m < q.length
      · obtain ⟨b2, o2, hA, hB2, x0, x1, x2, x3⟩ := HQ.out.job hlt
        subst hA
        have hsucc := readyL_succ (es := es) hlt
        have hln := readyL_len es q m
        generalize q[m] = x at x0 x1 x2 x3 hsucc
        obtain ⟨s, t, r, d⟩ := x
        simp only at x0 x1 x2 x3 hsucc
        have hrb : readyB es q (s, t, r, d) = (r == 1 && (waitsQ es q s).isEmpty) := rfl
        rw [hrb] at hsucc
        have m1 : (0 : Int) ≤ (m : Int) := by omega
        have m2 : (m : Int) < (q.length : Int) := by omega
        by_cases r1 : r = 1
        · subst r1
          have HS := Lib.hid hsucc
          clear hsucc hrb
          go_wp2_with fail
          first | (refine wp_named ?_; intro W2 hW) | (refine calls_named ?_; intro W2 hW)
          have B2 : Below wr.heap.size wr W2 := by rw [hW]; exact (by repeat (first | exact Below.refl _ _ | assumption | refine Below.alloc ?_ (by first | omega | (simp <;> omega)) _ | refine Below.setCell ?_ (by first | omega | (simp <;> omega)) _ | refine Below.drew ?_))
          replace g0 := cellAt g0 B2 (by omega)
          replace g1 := cellAt g1 B2 (by omega)
          replace Hr := Lib.hid (Hr.out.at B2)
          replace HQ := Lib.hid (HQ.out.at B2)
          replace n1 : w.heap.size < W2.heap.size := ltAt n1 B2
          replace HB := Lib.hid (lift HB.out B2)
          replace HOut := Lib.hid (own_on HOut.out B2)
          replace Hb := Lib.hid (lift Hb.out B2)
          have p1 : wr.heap.size < W2.heap.size := by rw [hW]; simp <;> omega
          have e0 : W2.cell? ⟨wr.heap.size, 0, none⟩ = some (sv s) := by rw [hW]; go_simp
          have e1 : W2.cell? ⟨wr.heap.size, 1, none⟩ = some (.int .i64 t) := by rw [hW]; go_simp
          have e2 : W2.cell? ⟨wr.heap.size, 2, none⟩ = some (.int .i64 1) := by rw [hW]; go_simp
          have e3 : W2.cell? ⟨wr.heap.size, 3, none⟩ = some (.int .i64 d) := by rw [hW]; go_simp
          clear hW
          clear B2
          go_wp2_with fail
          refine (Waits20_any An Ae nn cn ce es _ c q s W2 Hr.out HQ.out hl hlq HOk.out).mono ?_
          rintro e v3 ⟨A5, c5, rfl, _, _, hb⟩
          replace g0 := cellAt g0 hb (by omega)
          replace g1 := cellAt g1 hb (by omega)
          replace e0 := cellAt e0 hb (by omega)
          replace e1 := cellAt e1 hb (by omega)
          replace e2 := cellAt e2 hb (by omega)
          replace e3 := cellAt e3 hb (by omega)
          replace Hr := Lib.hid (Hr.out.at hb)
          replace HQ := Lib.hid (HQ.out.at hb)
          replace n1 : w.heap.size < v3.heap.size := ltAt n1 hb
          replace HB := Lib.hid (lift HB.out hb)
          replace HOut := Lib.hid (own_on HOut.out hb)
          replace Hb := Lib.hid (lift Hb.out hb)
          replace p1 : wr.heap.size < v3.heap.size := ltAt p1 hb
          clear hb
          have hzb : w3.heap.size ≤ v3.heap.size := Hb.out.size
          cases hW : waitsQ es q s with
          | nil =>
            have HS2 := Lib.hid (show readyL es q (m + 1) = readyL es q m ++ [s] by rw [HS.out, hW]; simp)
            have h63 : (readyL es q m).length + 1 ≤ maxLen := by unfold maxLen; omega
            have hby : ((readyL es q m).length + 1) * 16 ≤ 140737488355328 := by omega
            go_wp2_with (first | (at_builtin; refine wpList_pushm w3 v3 (by rfl) (.tmp 29) (.tmp 32) 27 (by rfl) w3.heap.size 9 i0 _ 1 16 Tryz.underlying27 hi hz0 hz1 hz2 rfl (by decide) _ _ _ (by rfl) HOut.out [sv s] v3.heap.size rfl (by rfl) rfl (one_sv s) h63 hby hzb Hb.out ?_; intro A8 c8 w4 hown4 hbel4 hg4 hat4) | fail)
            go_roundw
            case rel => exact ⟨m + 1, by omega, by go_num, by rw [HS2.out]; simpa [svs] using hown4, hbel4⟩
            case measure => simp [intOf]; omega
          | cons z zs =>
            have HS2 := Lib.hid (show readyL es q (m + 1) = readyL es q m by rw [HS.out, hW]; simp)
            have hne : ((((z :: zs).length : Nat) : Int) == 0) = false := by simp; omega
            go_wp2_with fail
            go_roundw
            case rel => exact ⟨m + 1, by omega, by go_num, by rw [HS2.out]; exact HOut.out, Hb.out⟩
            case measure => simp [intOf]; omega
        · have rb : (r == 1) = false := by simpa using r1
          rw [rb] at hsucc
          have HS2 := Lib.hid (show readyL es q (m + 1) = readyL es q m by rw [hsucc]; simp)
          clear hsucc hrb r1
          go_wp2_with fail
          go_roundw
          case rel => exact ⟨m + 1, by omega, by go_num, by rw [HS2.out]; exact HOut.out.alloc _, Hb.out.alloc Hb.out.size _⟩
          case measure => simp [intOf]; omega
      · have hmq : m = q.length := by omega
        have ho := HOut.out
        rw [hmq, readyL_all HM.out] at ho
        obtain ⟨A9, c9, rfl, _⟩ := own_rd ho
        have HO2 := Lib.hid (own_rd' ho)
        have HCn := Lib.hid (readyQ_canon es q)
        have hln := readyQ_len es q
        clear ho
        go_wp2_with fail
        have hz9 := HB.out.size
        refine (rising_own A9 c9 (readyQ es q) wr HO2.out (by omega)).mono ?_
        rw [HCn.out]
        rintro e v9 ⟨A7, c7, rfl, hr7, hb⟩
        have HR7 := Lib.hid hr7
        replace g0 := cellAt g0 hb (by omega)
        replace g1 := cellAt g1 hb (by omega)
        replace Hr := Lib.hid (Hr.out.at hb)
        replace HQ := Lib.hid (HQ.out.at hb)
        replace n1 : w.heap.size < v9.heap.size := ltAt n1 hb
        replace HB := Lib.hid (lift HB.out hb)
        replace HOut := Lib.hid (own_on HOut.out hb)
        replace Hb := Lib.hid (lift Hb.out hb)
        clear hb
        go_wp2_with fail
        go_ret
        exact OwnS.of HR7.out hz9 HB.out
theorem Ready20_any (An Ae : Option Addr) (nn cn ce : Nat) (es : List Ed) (A : Option Addr) (c : Nat) (q : List Jb) (w : World) (hr : Rd w w.heap.size 3 Ae es.length (edsC es)) (hq : Rd w w.heap.size 4 A q.length (jbsC q)) (hl : es.length ≤ 1000000) (hlq : q.length ≤ 100000) (hok : OkJs q) :
    Calls Tryz.prog 52 #[gV An nn cn Ae es.length ce, .slice A q.length c] w (RdIs 1 (readyQ es q).length (svs (readyQ es q)) w) := (Ready20_own An Ae nn cn ce es A c q w hr hq hl hlq hok).mono fun _ _ h => h.is
end Od
end Go.Proofs.YtmlogmcnblgnbaaGreat
end

section
/- The walks of matinsref20.Begin and matinsref20.Finish. (bel2) -/
namespace Go.Proofs.YtmlogmcnblgnbaaGreat
open Go.RowKit Go.Sort
set_option linter.unusedSimpArgs false

namespace Od
theorem JobsRet.own {x : List Jb} {w w' : World} {base c : Nat} {A : Option Addr} (h : w'.ownsRow base 48 4 (.slice A x.length c) x.length (jbsC x)) (hb : Below w.heap.size w w') : JobsRet (some x) w (.returned (.tuple #[.slice A x.length c, .bool true])) w' := .yes rfl h hb
set_option maxRecDepth 100000 in
set_option maxHeartbeats 8000000 in
theorem Begin20F_any (An Ae : Option Addr) (nn cn ce : Nat) (es : List Ed) (A : Option Addr) (c : Nat) (q : List Jb) (u : Str) (w : World) (hr : Rd w w.heap.size 3 Ae es.length (edsC es)) (hq : QIn w A c q) (hl : es.length ≤ 100000) (hlq : q.length ≤ 100000) :
    Calls Tryz.prog 48 #[gV An nn cn Ae es.length ce, .slice A q.length c, sv u] w (JobsRetF (beginQ es q u) w) := by
  have Hr := Lib.hid hr
  have HQ := Lib.hid hq
  clear hr hq
  go_enter Tryz.func48, Tryz.ntmps48
  go_wp2_with fail
  first | (refine wp_named ?_; intro W1 hW) | (refine calls_named ?_; intro W1 hW)
  have B1 : Below w.heap.size w W1 := by rw [hW]; exact (by repeat (first | exact Below.refl _ _ | assumption | refine Below.alloc ?_ (by first | omega | (simp <;> omega)) _ | refine Below.setCell ?_ (by first | omega | (simp <;> omega)) _ | refine Below.drew ?_))
  replace Hr := Lib.hid (Hr.out.at B1)
  replace HQ := Lib.hid (HQ.out.at B1)
  have n1 : w.heap.size < W1.heap.size := by rw [hW]; simp <;> omega
  have g0 : W1.cell? ⟨w.heap.size, 0, none⟩ = some (.slice An nn cn) := by rw [hW]; go_simp
  have g1 : W1.cell? ⟨w.heap.size, 1, none⟩ = some (.slice Ae es.length ce) := by rw [hW]; go_simp
  clear hW
  have HB := Lib.hid B1
  clear B1
  refine (May20_any A c q W1 HQ.out.rq HQ.out.ok).mono ?_
  rintro e w2 ⟨rfl, hb⟩
  replace g0 := cellAt g0 hb (by omega)
  replace g1 := cellAt g1 hb (by omega)
  replace Hr := Lib.hid (Hr.out.at hb)
  replace HQ := Lib.hid (HQ.out.at hb)
  replace n1 : w.heap.size < w2.heap.size := ltAt n1 hb
  replace HB := Lib.hid (lift HB.out hb)
  clear hb
  cases hm : mayQ q
  · have HBQ := Lib.hid (show beginQ es q u = none by unfold beginQ; rw [if_neg (fun hu => by have := readyQ_may hu; rw [hm] at this; cases this)])
    clear hm
    go_wp2_with fail
    go_ret2
    rw [HBQ.out]
    exact JobsRetF.no HB.out
  · have HM := Lib.hid hm
    clear hm
    go_wp2_with fail
    refine (Ready20_any An Ae nn cn ce es A c q w2 Hr.out HQ.out.rq (by omega) hlq HQ.out.ok).mono ?_
    rintro e w3 ⟨A3, c3, rfl, _, hr3, hb⟩
    have HR3 := Lib.hid hr3
    replace g0 := cellAt g0 hb (by omega)
    replace g1 := cellAt g1 hb (by omega)
    replace Hr := Lib.hid (Hr.out.at hb)
    replace HQ := Lib.hid (HQ.out.at hb)
    replace n1 : w.heap.size < w3.heap.size := ltAt n1 hb
    replace HB := Lib.hid (lift HB.out hb)
    clear hb hr3
    have hrl := readyQ_len es q
    go_wp2_with fail
    refine (HasS_any A3 c3 (readyQ es q) u w3 HR3.out (by omega)).mono ?_
    rintro e w4 ⟨rfl, rfl⟩
    cases hu : hasB (readyQ es q) u
    · have HBQ := Lib.hid (show beginQ es q u = none by unfold beginQ; rw [if_neg (fun h => by rw [(hasB_iff _ _).2 h] at hu; cases hu)])
      clear hu
      go_wp2_with fail
      go_ret2
      rw [HBQ.out]
      exact JobsRetF.no HB.out
    · have hu' := (hasB_iff _ _).1 hu
      obtain ⟨j0, hj0, hj1, hj2, _⟩ := (mem_readyQ HM.out).1 hu'
      have HBQ := Lib.hid (show beginQ es q u = some (updJ q u (begun es q)) by unfold beginQ; rw [if_pos hu'])
      have HJ0 := Lib.hid (And.intro hj0 hj1)
      clear hu hu' hj0 hj1 hj2
      go_wp2_with fail
      refine (at_any A c q u w3 HQ.out.rq (by omega)).mono ?_
      rintro e w6 ⟨r, rfl, hcase, hb⟩
      replace g0 := cellAt g0 hb (by omega)
      replace g1 := cellAt g1 hb (by omega)
      replace Hr := Lib.hid (Hr.out.at hb)
      replace HQ := Lib.hid (HQ.out.at hb)
      replace n1 : w.heap.size < w6.heap.size := ltAt n1 hb
      replace HB := Lib.hid (lift HB.out hb)
      clear hb
      rcases hcase with ⟨rfl, hnone⟩ | ⟨k, hk, rfl, hfind, hpk, _⟩
      · exact absurd (List.find?_eq_none.1 hnone _ HJ0.out.1) (by simp [HJ0.out.2])
      · obtain ⟨b2, o2, hA, hB2, y0, y1, y2, y3⟩ := HQ.out.rq.job hk
        subst hA
        have hku : q[k].1 = u := by simpa using hpk
        have hset : ∀ x : Jb, begun es q q[k] = x → q.set k x = updJ q u (begun es q) := fun x hx => set_updf (mayQ.dq HM.out) hk hku hx
        generalize hx : q[k] = x at y0 y1 y2 y3 hku hset
        obtain ⟨s, t, r, d⟩ := x
        simp only at y0 y1 y2 y3 hku
        subst hku
        have HSet := Lib.hid hset
        have k1 : (0 : Int) ≤ (k : Int) := by omega
        have k2 : (k : Int) < (q.length : Int) := by omega
        clear hset hfind hpk hx
        by_cases ht : t = 1
        · subst ht
          have HQ6' := HQ
          have HB6' := HB
          go_wp2_with fail
          first | (refine wp_named ?_; intro W7 hW) | (refine calls_named ?_; intro W7 hW)
          have B7 : Below w6.heap.size w6 W7 := by rw [hW]; exact (by repeat (first | exact Below.refl _ _ | assumption | refine Below.alloc ?_ (by first | omega | (simp <;> omega)) _ | refine Below.setCell ?_ (by first | omega | (simp <;> omega)) _ | refine Below.drew ?_))
          replace g0 := cellAt g0 B7 (by omega)
          replace g1 := cellAt g1 B7 (by omega)
          replace Hr := Lib.hid (Hr.out.at B7)
          replace HQ := Lib.hid (HQ.out.at B7)
          replace n1 : w.heap.size < W7.heap.size := ltAt n1 B7
          replace HB := Lib.hid (lift HB.out B7)
          have p1 : w6.heap.size < W7.heap.size := by rw [hW]; simp <;> omega
          have e0 : W7.cell? ⟨w6.heap.size, 0, none⟩ = some (sv s) := by rw [hW]; go_simp
          have e1 : W7.cell? ⟨w6.heap.size, 1, none⟩ = some (.int .i64 1) := by rw [hW]; go_simp
          have e2 : W7.cell? ⟨w6.heap.size, 2, none⟩ = some (.int .i64 2) := by rw [hW]; go_simp
          have e3 : W7.cell? ⟨w6.heap.size, 3, none⟩ = some (.int .i64 d) := by rw [hW]; go_simp
          have f0 : W7.frozen? ⟨w6.heap.size, 0, none⟩ = false := by rw [hW]; go_simp
          have f1 : W7.frozen? ⟨w6.heap.size, 1, none⟩ = false := by rw [hW]; go_simp
          have f2 : W7.frozen? ⟨w6.heap.size, 2, none⟩ = false := by rw [hW]; go_simp
          have f3 : W7.frozen? ⟨w6.heap.size, 3, none⟩ = false := by rw [hW]; go_simp
          clear hW
          clear y0 y1 y2 y3 hB2
          have HQ6 := HQ6'
          have HB6 := HB6'
          refine (lost_any An Ae nn cn ce es _ c q s W7 Hr.out HQ.out.rq hl (by omega)).mono ?_
          rintro e w8 ⟨rfl, hb⟩
          have hb68 := lift B7 hb
          replace g0 := cellAt g0 hb (by omega)
          replace g1 := cellAt g1 hb (by omega)
          replace e0 := cellAt e0 hb (by omega)
          replace e1 := cellAt e1 hb (by omega)
          replace e2 := cellAt e2 hb (by omega)
          replace e3 := cellAt e3 hb (by omega)
          replace f0 := froAt f0 hb (by omega)
          replace f1 := froAt f1 hb (by omega)
          replace f2 := froAt f2 hb (by omega)
          replace f3 := froAt f3 hb (by omega)
          replace Hr := Lib.hid (Hr.out.at hb)
          replace HQ := Lib.hid (HQ.out.at hb)
          replace n1 : w.heap.size < w8.heap.size := ltAt n1 hb
          replace HB := Lib.hid (lift HB.out hb)
          replace p1 : w6.heap.size < w8.heap.size := ltAt p1 hb
          clear hb
          have hll := lacks_lost (es := es) (mayQ.dq HM.out) s
          cases hlk : q.any (lostJ es s)
          · have HFin := Lib.hid (HSet.out (s, 1, 2, d) (by unfold begun; simp [hll, hlk]))
            clear hll
            go_wp2_with fail
            have hz9 := HB.out.size
            refine (with_any _ c q k s 1 2 d w8 HQ.out.rq hk (by omega)).mono ?_
            rintro e w9 ⟨A9, c9, rfl, ho9, hb⟩
            have HO9 := Lib.hid ho9
            replace g0 := cellAt g0 hb (by omega)
            replace g1 := cellAt g1 hb (by omega)
            replace e0 := cellAt e0 hb (by omega)
            replace e1 := cellAt e1 hb (by omega)
            replace e2 := cellAt e2 hb (by omega)
            replace e3 := cellAt e3 hb (by omega)
            replace f0 := froAt f0 hb (by omega)
            replace f1 := froAt f1 hb (by omega)
            replace f2 := froAt f2 hb (by omega)
            replace f3 := froAt f3 hb (by omega)
            replace Hr := Lib.hid (Hr.out.at hb)
            replace HQ := Lib.hid (HQ.out.at hb)
            replace n1 : w.heap.size < w9.heap.size := ltAt n1 hb
            replace HB := Lib.hid (lift HB.out hb)
            replace p1 : w6.heap.size < w9.heap.size := ltAt p1 hb
            clear hb ho9
            go_wp2_with fail
            go_ret2
            rw [HBQ.out, ← HFin.out]
            exact JobsRetF.yes (by simp) (by have h := HO9.out; simp only [List.length_set] at h; exact h) HB.out hz9
          · have HFin := Lib.hid (HSet.out (s, 1, 3, 3) (by unfold begun; simp [hll, hlk]))
            clear hll
            go_wp2_with fail
            refine calls_named ?_
            intro W10 hW10
            have hb10 : Below w6.heap.size w6 W10 := by rw [hW10]; exact (hb68.setCell (Nat.le_refl _) _).setCell (Nat.le_refl _) _
            have HQ := Lib.hid (HQ6.out.at hb10)
            have HB := Lib.hid (lift HB6.out hb10)
            clear hW10
            have hz9 := HB.out.size
            refine (with_any _ c q k s 1 3 3 W10 HQ.out.rq hk (by omega)).mono ?_
            rintro e w9 ⟨A9, c9, rfl, ho9, hb⟩
            have HO9 := Lib.hid ho9
            replace HQ := Lib.hid (HQ.out.at hb)
            replace HB := Lib.hid (lift HB.out hb)
            clear hb ho9
            go_wp2_with fail
            go_ret2
            rw [HBQ.out, ← HFin.out]
            exact JobsRetF.yes (by simp) (by have h := HO9.out; simp only [List.length_set] at h; exact h) HB.out hz9
        · have htb : (t == 1) = false := by simpa using ht
          have HFin := Lib.hid (HSet.out (s, t, 2, d) (by unfold begun; simp [htb]))
          go_wp2_with fail
          first | (refine wp_named ?_; intro W7 hW) | (refine calls_named ?_; intro W7 hW)
          have B7 : Below w6.heap.size w6 W7 := by rw [hW]; exact (by repeat (first | exact Below.refl _ _ | assumption | refine Below.alloc ?_ (by first | omega | (simp <;> omega)) _ | refine Below.setCell ?_ (by first | omega | (simp <;> omega)) _ | refine Below.drew ?_))
          replace g0 := cellAt g0 B7 (by omega)
          replace g1 := cellAt g1 B7 (by omega)
          replace Hr := Lib.hid (Hr.out.at B7)
          replace HQ := Lib.hid (HQ.out.at B7)
          replace n1 : w.heap.size < W7.heap.size := ltAt n1 B7
          replace HB := Lib.hid (lift HB.out B7)
          clear hW
          have hz9 := HB.out.size
          refine (with_any _ c q k s t 2 d W7 HQ.out.rq hk (by omega)).mono ?_
          rintro e w9 ⟨A9, c9, rfl, ho9, hb⟩
          have HO9 := Lib.hid ho9
          replace g0 := cellAt g0 hb (by omega)
          replace g1 := cellAt g1 hb (by omega)
          replace Hr := Lib.hid (Hr.out.at hb)
          replace HQ := Lib.hid (HQ.out.at hb)
          replace n1 : w.heap.size < w9.heap.size := ltAt n1 hb
          replace HB := Lib.hid (lift HB.out hb)
          clear hb ho9
          go_wp2_with fail
          go_ret2
          rw [HBQ.out, ← HFin.out]
          exact JobsRetF.yes (by simp) (by have h := HO9.out; simp only [List.length_set] at h; exact h) HB.out hz9
theorem Begin20_any (An Ae : Option Addr) (nn cn ce : Nat) (es : List Ed) (A : Option Addr) (c : Nat) (q : List Jb) (u : Str) (w : World) (hr : Rd w w.heap.size 3 Ae es.length (edsC es)) (hq : QIn w A c q) (hl : es.length ≤ 100000) (hlq : q.length ≤ 100000) :
    Calls Tryz.prog 48 #[gV An nn cn Ae es.length ce, .slice A q.length c, sv u] w (JobsRet (beginQ es q u) w) := (Begin20F_any An Ae nn cn ce es A c q u w hr hq hl hlq).mono fun _ _ h => h.weak
end Od
end Go.Proofs.YtmlogmcnblgnbaaGreat
end

section
/- The walk of matinsref20.Finish. (bel2) -/
namespace Go.Proofs.YtmlogmcnblgnbaaGreat
open Go.RowKit Go.Sort
set_option linter.unusedSimpArgs false

namespace Od
theorem runs_end {s : Str} {t d : Int} (h : mayJ (s, t, 2, d) = true) : d = 0 := by
  unfold mayJ stB at h
  simp at h
  exact h.2.2.2
set_option maxRecDepth 100000 in
set_option maxHeartbeats 8000000 in
theorem Finish20F_any (A : Option Addr) (c : Nat) (q : List Jb) (u : Str) (e0 : Int) (w : World) (hq : QIn w A c q) (hlq : q.length ≤ 1000000) :
    Calls Tryz.prog 47 #[.slice A q.length c, sv u, .int .i64 e0] w (JobsRetF (finishQ q u e0) w) := by
  have HQ := Lib.hid hq
  clear hq
  go_enter Tryz.func47, Tryz.ntmps47
  go_wp2_with fail
  refine (at_any A c q u w HQ.out.rq hlq).mono ?_
  rintro e w2 ⟨r, rfl, hcase, hb⟩
  have HC := Lib.hid hcase
  have HB := Lib.hid hb
  replace HQ := Lib.hid (HQ.out.at hb)
  clear hb hcase
  go_wp2_with fail
  refine (May20_any A c q w2 HQ.out.rq HQ.out.ok).mono ?_
  rintro e w3 ⟨rfl, hb⟩
  replace HQ := Lib.hid (HQ.out.at hb)
  replace HB := Lib.hid (lift HB.out hb)
  clear hb
  cases hm : mayQ q
  · have HF := Lib.hid (show finishQ q u e0 = none from finish_no (fun j hj => by simp [hm]))
    go_wp2_with fail
    go_ret2
    rw [HF.out]
    exact JobsRetF.no HB.out
  · have HM := Lib.hid hm
    clear hm
    by_cases e1 : e0 < 1
    · have eb1 : decide (e0 < 1) = true := by rw [decide_eq_true_eq]; exact e1
      have HF := Lib.hid (show finishQ q u e0 = none from finish_no (fun j hj => by (obtain ⟨s, t, r, d⟩ := j; rw [mayEnd_mk, eb1]; simp)))
      go_wp2_with fail
      go_ret2
      rw [HF.out]
      exact JobsRetF.no HB.out
    · have eb1 : decide (e0 < 1) = false := by rw [decide_eq_false_iff_not]; exact e1
      by_cases e4 : 4 < e0
      · have eb4 : decide (4 < e0) = true := by rw [decide_eq_true_eq]; exact e4
        have HF := Lib.hid (show finishQ q u e0 = none from finish_no (fun j hj => by (obtain ⟨s, t, r, d⟩ := j; rw [mayEnd_mk, eb4]; simp)))
        go_wp2_with fail
        go_ret2
        rw [HF.out]
        exact JobsRetF.no HB.out
      · have eb4 : decide (4 < e0) = false := by rw [decide_eq_false_iff_not]; exact e4
        rcases HC.out with ⟨rfl, hnone⟩ | ⟨k, hk, rfl, hfind, hpk, _⟩
        · have hj0 : jobOf q u = none := hnone
          have HF := Lib.hid (show finishQ q u e0 = none from finish_no (fun j hj => by (rw [hj0] at hj; cases hj)))
          go_wp2_with fail
          go_ret2
          rw [HF.out]
          exact JobsRetF.no HB.out
        · have hneg : decide ((k : Int) < 0) = false := by simp
          have hj0 : jobOf q u = some q[k] := hfind
          have hku : q[k].1 = u := by simpa using hpk
          have hmj : mayJ q[k] = true := (mayQ_iff.1 HM.out).2.1 _ (List.getElem_mem hk)
          have hset : ∀ x : Jb, ended e0 q[k] = x → q.set k x = updJ q u (ended e0) := fun x hx => set_updf (mayQ.dq HM.out) hk hku hx
          obtain ⟨b, o, hA, hB, y0, y1, y2, y3⟩ := HQ.out.rq.job hk
          subst hA
          generalize q[k] = x at y0 y1 y2 y3 hj0 hku hset hmj
          obtain ⟨s, t, r, d⟩ := x
          simp only at y0 y1 y2 y3 hku
          subst hku
          have HJ := Lib.hid hj0
          have HSet := Lib.hid hset
          have HMj := Lib.hid hmj
          clear hfind hpk hset hj0 HC hmj
          have k1 : (0 : Int) ≤ (k : Int) := by omega
          have k2 : (k : Int) < (q.length : Int) := by omega
          by_cases r3 : r = 3
          · have rb3 : (r == 3) = true := by simpa using r3
            have HO := Lib.hid (show openB (s, t, r, d) = false by simp [openB, r3])
            have HF := Lib.hid (show finishQ q s e0 = none from finish_no (fun j hj => by (rw [HJ.out] at hj; injection hj with hj; subst hj; rw [mayEnd_mk, HO.out]; simp)))
            go_wp2_with fail
            go_ret2
            rw [HF.out]
            exact JobsRetF.no HB.out
          · have rb3 : (r == 3) = false := by simpa using r3
            by_cases hbad : r = 1 ∧ (e0 = 1 ∨ e0 = 2)
            · obtain ⟨r1, e12⟩ := hbad
              have rb : (r == 1) = true := by simpa using r1
              have el : decide (e0 ≤ 2) = true := by rw [decide_eq_true_eq]; omega
              have ee : (e0 == 1 || e0 == 2) = true := by rcases e12 with h | h <;> simp [h]
              clear e12
              have HF := Lib.hid (show finishQ q s e0 = none from finish_no (fun j hj => by (rw [HJ.out] at hj; injection hj with hj; subst hj; rw [mayEnd_mk, rb, ee]; simp)))
              go_wp2_with fail
              go_ret2
              rw [HF.out]
              exact JobsRetF.no HB.out
            · have hyes := finish_yes HJ.out HM.out (show mayEnd e0 (s, t, r, d) = true from mayEnd_iff.2 ⟨by omega, by omega, r3, hbad⟩)
              have HF := Lib.hid hyes
              clear hyes
              by_cases r1 : r = 1
              · have rb : (r == 1) = true := by simpa using r1
                have rb2 : (r == 2) = false := by rw [beq_eq_false_iff_ne]; omega
                have el : decide (e0 ≤ 2) = false := by rw [decide_eq_false_iff_not]; omega
                clear hbad
                have hre : ¬ (t = 3 ∧ r = 2 ∧ e0 = 1) := by omega
                have HFin := Lib.hid (HSet.out (s, t, 3, e0) (by unfold ended; rw [if_neg hre]))
                have hcs : (t == 3) = false ∨ ((t == 3) = true ∧ (r == 2) = false) ∨ ((t == 3) = true ∧ (r == 2) = true ∧ (e0 == 1) = false) := by
                  by_cases a1 : t = 3
                  · by_cases a2 : r = 2
                    · exact .inr (.inr ⟨by simpa using a1, by simpa using a2, by rw [beq_eq_false_iff_ne]; intro h; exact hre ⟨a1, a2, h⟩⟩)
                    · exact .inr (.inl ⟨by simpa using a1, by simpa using a2⟩)
                  · exact .inl (by simpa using a1)
                clear hre
                rcases hcs with a1 | ⟨a1, a2⟩ | ⟨a1, a2, a3⟩
                · go_wp2_with fail
                  first | (refine wp_named ?_; intro W7 hW) | (refine calls_named ?_; intro W7 hW)
                  have B7 : Below w3.heap.size w3 W7 := by rw [hW]; exact (by repeat (first | exact Below.refl _ _ | assumption | refine Below.alloc ?_ (by first | omega | (simp <;> omega)) _ | refine Below.setCell ?_ (by first | omega | (simp <;> omega)) _ | refine Below.drew ?_))
                  replace HQ := Lib.hid (HQ.out.at B7)
                  replace HB := Lib.hid (lift HB.out B7)
                  clear hW
                  have hz9 : w.heap.size ≤ W7.heap.size := HB.out.size
                  refine (with_any _ c q k s t 3 e0 W7 HQ.out.rq hk hlq).mono ?_
                  rintro e w9 ⟨A9, c9, rfl, ho9, hb⟩
                  have HO9 := Lib.hid ho9
                  replace HQ := Lib.hid (HQ.out.at hb)
                  replace HB := Lib.hid (lift HB.out hb)
                  clear hb ho9
                  go_wp2_with fail
                  go_ret2
                  rw [HF.out, ← HFin.out]
                  exact JobsRetF.yes (by simp) (by have h := HO9.out; simp only [List.length_set] at h; exact h) HB.out hz9
                · skip
                  go_wp2_with fail
                  first | (refine wp_named ?_; intro W7 hW) | (refine calls_named ?_; intro W7 hW)
                  have B7 : Below w3.heap.size w3 W7 := by rw [hW]; exact (by repeat (first | exact Below.refl _ _ | assumption | refine Below.alloc ?_ (by first | omega | (simp <;> omega)) _ | refine Below.setCell ?_ (by first | omega | (simp <;> omega)) _ | refine Below.drew ?_))
                  replace HQ := Lib.hid (HQ.out.at B7)
                  replace HB := Lib.hid (lift HB.out B7)
                  clear hW
                  have hz9 : w.heap.size ≤ W7.heap.size := HB.out.size
                  refine (with_any _ c q k s t 3 e0 W7 HQ.out.rq hk hlq).mono ?_
                  rintro e w9 ⟨A9, c9, rfl, ho9, hb⟩
                  have HO9 := Lib.hid ho9
                  replace HQ := Lib.hid (HQ.out.at hb)
                  replace HB := Lib.hid (lift HB.out hb)
                  clear hb ho9
                  go_wp2_with fail
                  go_ret2
                  rw [HF.out, ← HFin.out]
                  exact JobsRetF.yes (by simp) (by have h := HO9.out; simp only [List.length_set] at h; exact h) HB.out hz9
                · skip
                  go_wp2_with fail
                  first | (refine wp_named ?_; intro W7 hW) | (refine calls_named ?_; intro W7 hW)
                  have B7 : Below w3.heap.size w3 W7 := by rw [hW]; exact (by repeat (first | exact Below.refl _ _ | assumption | refine Below.alloc ?_ (by first | omega | (simp <;> omega)) _ | refine Below.setCell ?_ (by first | omega | (simp <;> omega)) _ | refine Below.drew ?_))
                  replace HQ := Lib.hid (HQ.out.at B7)
                  replace HB := Lib.hid (lift HB.out B7)
                  clear hW
                  have hz9 : w.heap.size ≤ W7.heap.size := HB.out.size
                  refine (with_any _ c q k s t 3 e0 W7 HQ.out.rq hk hlq).mono ?_
                  rintro e w9 ⟨A9, c9, rfl, ho9, hb⟩
                  have HO9 := Lib.hid ho9
                  replace HQ := Lib.hid (HQ.out.at hb)
                  replace HB := Lib.hid (lift HB.out hb)
                  clear hb ho9
                  go_wp2_with fail
                  go_ret2
                  rw [HF.out, ← HFin.out]
                  exact JobsRetF.yes (by simp) (by have h := HO9.out; simp only [List.length_set] at h; exact h) HB.out hz9
              · have rb : (r == 1) = false := by simpa using r1
                clear hbad
                by_cases hre : t = 3 ∧ r = 2 ∧ e0 = 1
                · obtain ⟨t3, r2, e01⟩ := hre
                  subst t3 r2 e01
                  have hd0 := runs_end HMj.out
                  subst hd0
                  have HFin := Lib.hid (HSet.out (s, 1, 1, 0) (by unfold ended; rw [if_pos ⟨rfl, rfl, rfl⟩]))
                  go_wp2_with fail
                  first | (refine wp_named ?_; intro W7 hW) | (refine calls_named ?_; intro W7 hW)
                  have B7 : Below w3.heap.size w3 W7 := by rw [hW]; exact (by repeat (first | exact Below.refl _ _ | assumption | refine Below.alloc ?_ (by first | omega | (simp <;> omega)) _ | refine Below.setCell ?_ (by first | omega | (simp <;> omega)) _ | refine Below.drew ?_))
                  replace HQ := Lib.hid (HQ.out.at B7)
                  replace HB := Lib.hid (lift HB.out B7)
                  clear hW
                  have hz9 : w.heap.size ≤ W7.heap.size := HB.out.size
                  refine (with_any _ c q k s 1 1 0 W7 HQ.out.rq hk hlq).mono ?_
                  rintro e w9 ⟨A9, c9, rfl, ho9, hb⟩
                  have HO9 := Lib.hid ho9
                  replace HQ := Lib.hid (HQ.out.at hb)
                  replace HB := Lib.hid (lift HB.out hb)
                  clear hb ho9
                  go_wp2_with fail
                  go_ret2
                  rw [HF.out, ← HFin.out]
                  exact JobsRetF.yes (by simp) (by have h := HO9.out; simp only [List.length_set] at h; exact h) HB.out hz9
                · skip
                  have HFin := Lib.hid (HSet.out (s, t, 3, e0) (by unfold ended; rw [if_neg hre]))
                  have hcs : (t == 3) = false ∨ ((t == 3) = true ∧ (r == 2) = false) ∨ ((t == 3) = true ∧ (r == 2) = true ∧ (e0 == 1) = false) := by
                    by_cases a1 : t = 3
                    · by_cases a2 : r = 2
                      · exact .inr (.inr ⟨by simpa using a1, by simpa using a2, by rw [beq_eq_false_iff_ne]; intro h; exact hre ⟨a1, a2, h⟩⟩)
                      · exact .inr (.inl ⟨by simpa using a1, by simpa using a2⟩)
                    · exact .inl (by simpa using a1)
                  clear hre
                  rcases hcs with a1 | ⟨a1, a2⟩ | ⟨a1, a2, a3⟩
                  · go_wp2_with fail
                    first | (refine wp_named ?_; intro W7 hW) | (refine calls_named ?_; intro W7 hW)
                    have B7 : Below w3.heap.size w3 W7 := by rw [hW]; exact (by repeat (first | exact Below.refl _ _ | assumption | refine Below.alloc ?_ (by first | omega | (simp <;> omega)) _ | refine Below.setCell ?_ (by first | omega | (simp <;> omega)) _ | refine Below.drew ?_))
                    replace HQ := Lib.hid (HQ.out.at B7)
                    replace HB := Lib.hid (lift HB.out B7)
                    clear hW
                    have hz9 : w.heap.size ≤ W7.heap.size := HB.out.size
                    refine (with_any _ c q k s t 3 e0 W7 HQ.out.rq hk hlq).mono ?_
                    rintro e w9 ⟨A9, c9, rfl, ho9, hb⟩
                    have HO9 := Lib.hid ho9
                    replace HQ := Lib.hid (HQ.out.at hb)
                    replace HB := Lib.hid (lift HB.out hb)
                    clear hb ho9
                    go_wp2_with fail
                    go_ret2
                    rw [HF.out, ← HFin.out]
                    exact JobsRetF.yes (by simp) (by have h := HO9.out; simp only [List.length_set] at h; exact h) HB.out hz9
                  · skip
                    go_wp2_with fail
                    first | (refine wp_named ?_; intro W7 hW) | (refine calls_named ?_; intro W7 hW)
                    have B7 : Below w3.heap.size w3 W7 := by rw [hW]; exact (by repeat (first | exact Below.refl _ _ | assumption | refine Below.alloc ?_ (by first | omega | (simp <;> omega)) _ | refine Below.setCell ?_ (by first | omega | (simp <;> omega)) _ | refine Below.drew ?_))
                    replace HQ := Lib.hid (HQ.out.at B7)
                    replace HB := Lib.hid (lift HB.out B7)
                    clear hW
                    have hz9 : w.heap.size ≤ W7.heap.size := HB.out.size
                    refine (with_any _ c q k s t 3 e0 W7 HQ.out.rq hk hlq).mono ?_
                    rintro e w9 ⟨A9, c9, rfl, ho9, hb⟩
                    have HO9 := Lib.hid ho9
                    replace HQ := Lib.hid (HQ.out.at hb)
                    replace HB := Lib.hid (lift HB.out hb)
                    clear hb ho9
                    go_wp2_with fail
                    go_ret2
                    rw [HF.out, ← HFin.out]
                    exact JobsRetF.yes (by simp) (by have h := HO9.out; simp only [List.length_set] at h; exact h) HB.out hz9
                  · skip
                    go_wp2_with fail
                    first | (refine wp_named ?_; intro W7 hW) | (refine calls_named ?_; intro W7 hW)
                    have B7 : Below w3.heap.size w3 W7 := by rw [hW]; exact (by repeat (first | exact Below.refl _ _ | assumption | refine Below.alloc ?_ (by first | omega | (simp <;> omega)) _ | refine Below.setCell ?_ (by first | omega | (simp <;> omega)) _ | refine Below.drew ?_))
                    replace HQ := Lib.hid (HQ.out.at B7)
                    replace HB := Lib.hid (lift HB.out B7)
                    clear hW
                    have hz9 : w.heap.size ≤ W7.heap.size := HB.out.size
                    refine (with_any _ c q k s t 3 e0 W7 HQ.out.rq hk hlq).mono ?_
                    rintro e w9 ⟨A9, c9, rfl, ho9, hb⟩
                    have HO9 := Lib.hid ho9
                    replace HQ := Lib.hid (HQ.out.at hb)
                    replace HB := Lib.hid (lift HB.out hb)
                    clear hb ho9
                    go_wp2_with fail
                    go_ret2
                    rw [HF.out, ← HFin.out]
                    exact JobsRetF.yes (by simp) (by have h := HO9.out; simp only [List.length_set] at h; exact h) HB.out hz9
theorem Finish20_any (A : Option Addr) (c : Nat) (q : List Jb) (u : Str) (e0 : Int) (w : World) (hq : QIn w A c q) (hlq : q.length ≤ 1000000) :
    Calls Tryz.prog 47 #[.slice A q.length c, sv u, .int .i64 e0] w (JobsRet (finishQ q u e0) w) := (Finish20F_any A c q u e0 w hq hlq).mono fun _ _ h => h.weak
end Od
end Go.Proofs.YtmlogmcnblgnbaaGreat
end

section
/- The walks of matinsref20.fallen, Step and Steps. (bel2) -/
namespace Go.Proofs.YtmlogmcnblgnbaaGreat
open Go.RowKit Go.Sort
set_option linter.unusedSimpArgs false

namespace Od
theorem hasB_dec (xs : List Str) (s : Str) : hasB xs s = decide (s ∈ xs) := by
  rw [Bool.eq_iff_iff, hasB_iff]; simp
theorem endJ_has (fails : List Str) (s : Str) (t r d : Int) : endJ fails (s, t, r, d) = if (hasB fails s && canF t) = true then 2 else 1 := by
  unfold endJ; rw [hasB_dec, Bool.and_comm]
set_option maxHeartbeats 1000000 in
theorem fallen_any (Af : Option Addr) (cf : Nat) (fails : List Str) (s : Str) (t r d : Int) (w : World) (hf : Rd w w.heap.size 1 Af fails.length (svs fails)) (hlf : fails.length ≤ 140737488355328) :
    Calls Tryz.prog 46 #[.slice Af fails.length cf, jbV (s, t, r, d)] w fun e w' => e = .returned (.bool (hasB fails s && canF t)) ∧ Below w.heap.size w w' := by
  have Hf := Lib.hid hf
  have HC := Lib.hid (show canF t = (t == 1 || t == 4) from rfl)
  clear hf
  cases hh : hasB fails s
  · go_enter Tryz.func46, Tryz.ntmps46
    go_wp2_with fail
    first | (refine wp_named ?_; intro W1 hW) | (refine calls_named ?_; intro W1 hW)
    have B1 : Below w.heap.size w W1 := by rw [hW]; exact (by repeat (first | exact Below.refl _ _ | assumption | refine Below.alloc ?_ (by first | omega | (simp <;> omega)) _ | refine Below.setCell ?_ (by first | omega | (simp <;> omega)) _ | refine Below.drew ?_))
    replace Hf := Lib.hid (Hf.out.at B1)
    have n1 : w.heap.size < W1.heap.size := by rw [hW]; simp <;> omega
    have g0 : W1.cell? ⟨w.heap.size, 0, none⟩ = some (sv s) := by rw [hW]; go_simp
    clear hW
    refine (HasS_any Af cf fails s W1 Hf.out hlf).mono ?_
    rw [hh]
    rintro e w2 ⟨rfl, rfl⟩
    go_wp2_with fail
    go_ret
    exact ⟨rfl, B1⟩
  · by_cases t1 : t = 1
    · subst t1
      go_enter Tryz.func46, Tryz.ntmps46
      go_wp2_with fail
      first | (refine wp_named ?_; intro W1 hW) | (refine calls_named ?_; intro W1 hW)
      have B1 : Below w.heap.size w W1 := by rw [hW]; exact (by repeat (first | exact Below.refl _ _ | assumption | refine Below.alloc ?_ (by first | omega | (simp <;> omega)) _ | refine Below.setCell ?_ (by first | omega | (simp <;> omega)) _ | refine Below.drew ?_))
      replace Hf := Lib.hid (Hf.out.at B1)
      have n1 : w.heap.size < W1.heap.size := by rw [hW]; simp <;> omega
      have g0 : W1.cell? ⟨w.heap.size, 0, none⟩ = some (sv s) := by rw [hW]; go_simp
      have g1 : W1.cell? ⟨w.heap.size, 1, none⟩ = some (.int .i64 1) := by rw [hW]; go_simp
      clear hW
      refine (HasS_any Af cf fails s W1 Hf.out hlf).mono ?_
      rw [hh]
      rintro e w2 ⟨rfl, rfl⟩
      go_wp2_with fail
      go_ret
      exact ⟨rfl, B1⟩
    · have b1 : (t == 1) = false := by simpa using t1
      cases b4 : (t == 4)
      · go_enter Tryz.func46, Tryz.ntmps46
        go_wp2_with fail
        first | (refine wp_named ?_; intro W1 hW) | (refine calls_named ?_; intro W1 hW)
        have B1 : Below w.heap.size w W1 := by rw [hW]; exact (by repeat (first | exact Below.refl _ _ | assumption | refine Below.alloc ?_ (by first | omega | (simp <;> omega)) _ | refine Below.setCell ?_ (by first | omega | (simp <;> omega)) _ | refine Below.drew ?_))
        replace Hf := Lib.hid (Hf.out.at B1)
        have n1 : w.heap.size < W1.heap.size := by rw [hW]; simp <;> omega
        have g0 : W1.cell? ⟨w.heap.size, 0, none⟩ = some (sv s) := by rw [hW]; go_simp
        have g1 : W1.cell? ⟨w.heap.size, 1, none⟩ = some (.int .i64 t) := by rw [hW]; go_simp
        clear hW
        refine (HasS_any Af cf fails s W1 Hf.out hlf).mono ?_
        rw [hh]
        rintro e w2 ⟨rfl, rfl⟩
        go_wp2_with fail
        go_ret
        exact ⟨ret_bool (by rw [HC.out, b1, b4]; rfl), B1⟩
      · go_enter Tryz.func46, Tryz.ntmps46
        go_wp2_with fail
        first | (refine wp_named ?_; intro W1 hW) | (refine calls_named ?_; intro W1 hW)
        have B1 : Below w.heap.size w W1 := by rw [hW]; exact (by repeat (first | exact Below.refl _ _ | assumption | refine Below.alloc ?_ (by first | omega | (simp <;> omega)) _ | refine Below.setCell ?_ (by first | omega | (simp <;> omega)) _ | refine Below.drew ?_))
        replace Hf := Lib.hid (Hf.out.at B1)
        have n1 : w.heap.size < W1.heap.size := by rw [hW]; simp <;> omega
        have g0 : W1.cell? ⟨w.heap.size, 0, none⟩ = some (sv s) := by rw [hW]; go_simp
        have g1 : W1.cell? ⟨w.heap.size, 1, none⟩ = some (.int .i64 t) := by rw [hW]; go_simp
        clear hW
        refine (HasS_any Af cf fails s W1 Hf.out hlf).mono ?_
        rw [hh]
        rintro e w2 ⟨rfl, rfl⟩
        go_wp2_with fail
        go_ret
        exact ⟨ret_bool (by rw [HC.out, b1, b4]; rfl), B1⟩
theorem step_noMay {es : List Ed} {fails : List Str} {q : List Jb} (hm : mayQ q = false) (u : Str) : stepW es fails q u = none := by
  rw [step_no (by intro h; unfold runsU at h; rw [if_neg (by simp [hm])] at h; cases h)]
  unfold beginQ; rw [if_neg]; intro hu; rw [readyQ_may hu] at hm; cases hm
theorem step_wait {es : List Ed} {fails : List Str} {q : List Jb} {u : Str} (h : ∀ j, jobOf q u = some j → j.2.2.1 ≠ 2) : stepW es fails q u = beginQ es q u := by
  refine step_no fun hu => ?_
  obtain ⟨j, hj, _, _⟩ := step_yes (es := es) (fails := fails) hu
  have hm : mayQ q = true := by
    cases hm : mayQ q
    · unfold runsU at hu; rw [if_neg (by simp [hm])] at hu; cases hu
    · rfl
  obtain ⟨k, hk, e, h2⟩ := (mem_runsU hm).1 hu
  have := jobOf_of (mayQ.dq hm) hk
  rw [e, hj] at this
  injection this with this
  subst this
  exact h _ hj h2
theorem step_runs {es : List Ed} {fails : List Str} {q : List Jb} (hm : mayQ q = true) {u : Str} {j : Jb} (hj : jobOf q u = some j) (h2 : j.2.2.1 = 2) : stepW es fails q u = finishQ q u (endJ fails j) := by
  obtain ⟨h1, rfl⟩ := jobOf_mem hj
  obtain ⟨k, hk, _, h3⟩ := step_yes (es := es) (fails := fails) ((mem_runsU hm).2 ⟨j, h1, rfl, h2⟩)
  rw [hj] at hk
  injection hk with hk
  subst hk
  exact h3
set_option maxRecDepth 100000 in
set_option maxHeartbeats 4000000 in
theorem StepR_any (An Ae : Option Addr) (nn cn ce : Nat) (es : List Ed) (A : Option Addr) (c : Nat) (q : List Jb) (Af : Option Addr) (cf : Nat) (fails : List Str) (u : Str) (w : World) (hr : Rd w w.heap.size 3 Ae es.length (edsC es)) (hq : QIn w A c q) (hf : Rd w w.heap.size 1 Af fails.length (svs fails)) (hl : es.length ≤ 100000) (hlq : q.length ≤ 100000) (hlf : fails.length ≤ 140737488355328) :
    Calls Tryz.prog 18 #[gV An nn cn Ae es.length ce, .slice A q.length c, .slice Af fails.length cf, sv u] w (JobsRetF (stepW es fails q u) w) := by
  have Hr := Lib.hid hr
  have HQ := Lib.hid hq
  have HFl := Lib.hid hf
  clear hr hq hf
  go_enter Tryz.func18, Tryz.ntmps18
  go_wp2_with fail
  first | (refine wp_named ?_; intro W1 hW) | (refine calls_named ?_; intro W1 hW)
  have B1 : Below w.heap.size w W1 := by rw [hW]; exact (by repeat (first | exact Below.refl _ _ | assumption | refine Below.alloc ?_ (by first | omega | (simp <;> omega)) _ | refine Below.setCell ?_ (by first | omega | (simp <;> omega)) _ | refine Below.drew ?_))
  replace Hr := Lib.hid (Hr.out.at B1)
  replace HQ := Lib.hid (HQ.out.at B1)
  replace HFl := Lib.hid (HFl.out.at B1)
  have n1 : w.heap.size < W1.heap.size := by rw [hW]; simp <;> omega
  have g0 : W1.cell? ⟨w.heap.size, 0, none⟩ = some (.slice An nn cn) := by rw [hW]; go_simp
  have g1 : W1.cell? ⟨w.heap.size, 1, none⟩ = some (.slice Ae es.length ce) := by rw [hW]; go_simp
  clear hW
  have HB := Lib.hid B1
  clear B1
  refine (May20_any A c q W1 HQ.out.rq HQ.out.ok).mono ?_
  rintro e w2 ⟨rfl, hb⟩
  replace g0 := cellAt g0 hb (by omega)
  replace g1 := cellAt g1 hb (by omega)
  replace Hr := Lib.hid (Hr.out.at hb)
  replace HQ := Lib.hid (HQ.out.at hb)
  replace HFl := Lib.hid (HFl.out.at hb)
  replace n1 : w.heap.size < w2.heap.size := ltAt n1 hb
  replace HB := Lib.hid (lift HB.out hb)
  clear hb
  cases hm : mayQ q
  · have HE := Lib.hid (step_noMay (es := es) (fails := fails) hm u)
    go_wp2_with fail
    go_ret2
    rw [HE.out]
    exact JobsRetF.no HB.out
  · have HM := Lib.hid hm
    clear hm
    go_wp2_with fail
    refine (at_any A c q u w2 HQ.out.rq (by omega)).mono ?_
    rintro e w3 ⟨r, rfl, hcase, hb⟩
    replace g0 := cellAt g0 hb (by omega)
    replace g1 := cellAt g1 hb (by omega)
    replace Hr := Lib.hid (Hr.out.at hb)
    replace HQ := Lib.hid (HQ.out.at hb)
    replace HFl := Lib.hid (HFl.out.at hb)
    replace n1 : w.heap.size < w3.heap.size := ltAt n1 hb
    replace HB := Lib.hid (lift HB.out hb)
    clear hb
    rcases hcase with ⟨rfl, hnone⟩ | ⟨k, hk, rfl, hfind, hpk, _⟩
    · have hn0 : jobOf q u = none := hnone
      have HE := Lib.hid (step_wait (es := es) (fails := fails) (q := q) (u := u) (fun j hj => by rw [hn0] at hj; cases hj))
      clear hn0 hnone
      go_wp2_with fail
      first | (refine wp_named ?_; intro W5 hW) | (refine calls_named ?_; intro W5 hW)
      have B5 : Below w3.heap.size w3 W5 := by rw [hW]; exact (by repeat (first | exact Below.refl _ _ | assumption | refine Below.alloc ?_ (by first | omega | (simp <;> omega)) _ | refine Below.setCell ?_ (by first | omega | (simp <;> omega)) _ | refine Below.drew ?_))
      replace g0 := cellAt g0 B5 (by omega)
      replace g1 := cellAt g1 B5 (by omega)
      replace Hr := Lib.hid (Hr.out.at B5)
      replace HQ := Lib.hid (HQ.out.at B5)
      replace HFl := Lib.hid (HFl.out.at B5)
      replace n1 : w.heap.size < W5.heap.size := ltAt n1 B5
      replace HB := Lib.hid (lift HB.out B5)
      clear hW
      clear B5
      refine (Begin20F_any An Ae nn cn ce es _ c q u W5 Hr.out HQ.out (by omega) (by omega)).mono ?_
      rintro e w6 ⟨A6, c6, rfl, hc6, hr6, hf6, hb⟩
      have hz6 := HB.out.size
      have HR6 := Lib.hid hr6
      have HF6 := Lib.hid (hf6.low hz6)
      replace g0 := cellAt g0 hb (by omega)
      replace g1 := cellAt g1 hb (by omega)
      replace Hr := Lib.hid (Hr.out.at hb)
      replace HQ := Lib.hid (HQ.out.at hb)
      replace HFl := Lib.hid (HFl.out.at hb)
      replace n1 : w.heap.size < w6.heap.size := ltAt n1 hb
      replace HB := Lib.hid (lift HB.out hb)
      clear hb hr6 hf6
      go_wp2_with fail
      go_ret2
      rw [HE.out]
      exact ⟨A6, c6, rfl, hc6, HR6.out, HF6.out, HB.out⟩
    · have hj0 : jobOf q u = some q[k] := hfind
      obtain ⟨b2, o2, hA, hB2, x0, x1, x2, x3⟩ := HQ.out.rq.job hk
      have hku : q[k].1 = u := by simpa using hpk
      generalize q[k] = x at x0 x1 x2 x3 hj0 hku
      obtain ⟨s, t, r, d⟩ := x
      simp only at x0 x1 x2 x3 hku
      subst hku
      have HJ := Lib.hid hj0
      have k0 : decide ((0 : Int) ≤ (k : Int)) = true := by simp
      have k1 : (0 : Int) ≤ (k : Int) := by omega
      have k2 : (k : Int) < (q.length : Int) := by omega
      clear hj0 hfind hpk
      subst hA
      by_cases r2 : r = 2
      · subst r2
        have HS := Lib.hid (step_runs (es := es) (fails := fails) HM.out HJ.out rfl)
        go_wp2_with fail
        first | (refine wp_named ?_; intro W4 hW) | (refine calls_named ?_; intro W4 hW)
        have B4 : Below w3.heap.size w3 W4 := by rw [hW]; exact (by repeat (first | exact Below.refl _ _ | assumption | refine Below.alloc ?_ (by first | omega | (simp <;> omega)) _ | refine Below.setCell ?_ (by first | omega | (simp <;> omega)) _ | refine Below.drew ?_))
        replace g0 := cellAt g0 B4 (by omega)
        replace g1 := cellAt g1 B4 (by omega)
        replace Hr := Lib.hid (Hr.out.at B4)
        replace HQ := Lib.hid (HQ.out.at B4)
        replace HFl := Lib.hid (HFl.out.at B4)
        replace n1 : w.heap.size < W4.heap.size := ltAt n1 B4
        replace HB := Lib.hid (lift HB.out B4)
        clear hW
        clear B4 x0 x1 x2 x3
        refine (fallen_any Af cf fails s t 2 d W4 HFl.out hlf).mono ?_
        rintro e w5 ⟨rfl, hb⟩
        replace g0 := cellAt g0 hb (by omega)
        replace g1 := cellAt g1 hb (by omega)
        replace Hr := Lib.hid (Hr.out.at hb)
        replace HQ := Lib.hid (HQ.out.at hb)
        replace HFl := Lib.hid (HFl.out.at hb)
        replace n1 : w.heap.size < w5.heap.size := ltAt n1 hb
        replace HB := Lib.hid (lift HB.out hb)
        clear hb
        cases hfb : (hasB fails s && canF t)
        · have HE := Lib.hid (show stepW es fails q s = finishQ q s 1 by rw [HS.out, endJ_has, hfb]; simp)
          go_wp2_with fail
          refine (Finish20F_any _ c q s 1 w5 HQ.out (by omega)).mono ?_
          rintro e w6 ⟨A6, c6, rfl, hc6, hr6, hf6, hb⟩
          have hz6 := HB.out.size
          have HR6 := Lib.hid hr6
          have HF6 := Lib.hid (hf6.low hz6)
          replace g0 := cellAt g0 hb (by omega)
          replace g1 := cellAt g1 hb (by omega)
          replace Hr := Lib.hid (Hr.out.at hb)
          replace HQ := Lib.hid (HQ.out.at hb)
          replace HFl := Lib.hid (HFl.out.at hb)
          replace n1 : w.heap.size < w6.heap.size := ltAt n1 hb
          replace HB := Lib.hid (lift HB.out hb)
          clear hb hr6 hf6
          go_wp2_with fail
          go_ret2
          rw [HE.out]
          exact ⟨A6, c6, rfl, hc6, HR6.out, HF6.out, HB.out⟩
        · have HE := Lib.hid (show stepW es fails q s = finishQ q s 2 by rw [HS.out, endJ_has, hfb]; simp)
          go_wp2_with fail
          refine (Finish20F_any _ c q s 2 w5 HQ.out (by omega)).mono ?_
          rintro e w6 ⟨A6, c6, rfl, hc6, hr6, hf6, hb⟩
          have hz6 := HB.out.size
          have HR6 := Lib.hid hr6
          have HF6 := Lib.hid (hf6.low hz6)
          replace g0 := cellAt g0 hb (by omega)
          replace g1 := cellAt g1 hb (by omega)
          replace Hr := Lib.hid (Hr.out.at hb)
          replace HQ := Lib.hid (HQ.out.at hb)
          replace HFl := Lib.hid (HFl.out.at hb)
          replace n1 : w.heap.size < w6.heap.size := ltAt n1 hb
          replace HB := Lib.hid (lift HB.out hb)
          clear hb hr6 hf6
          go_wp2_with fail
          go_ret2
          rw [HE.out]
          exact ⟨A6, c6, rfl, hc6, HR6.out, HF6.out, HB.out⟩
      · have r2b : (r == 2) = false := by simpa using r2
        have HE := Lib.hid (step_wait (es := es) (fails := fails) (q := q) (u := s) (fun j hj => by rw [HJ.out] at hj; injection hj with hj; subst hj; exact r2))
        clear r2
        go_wp2_with fail
        first | (refine wp_named ?_; intro W5 hW) | (refine calls_named ?_; intro W5 hW)
        have B5 : Below w3.heap.size w3 W5 := by rw [hW]; exact (by repeat (first | exact Below.refl _ _ | assumption | refine Below.alloc ?_ (by first | omega | (simp <;> omega)) _ | refine Below.setCell ?_ (by first | omega | (simp <;> omega)) _ | refine Below.drew ?_))
        replace g0 := cellAt g0 B5 (by omega)
        replace g1 := cellAt g1 B5 (by omega)
        replace Hr := Lib.hid (Hr.out.at B5)
        replace HQ := Lib.hid (HQ.out.at B5)
        replace HFl := Lib.hid (HFl.out.at B5)
        replace n1 : w.heap.size < W5.heap.size := ltAt n1 B5
        replace HB := Lib.hid (lift HB.out B5)
        clear hW
        clear B5
        refine (Begin20F_any An Ae nn cn ce es _ c q s W5 Hr.out HQ.out (by omega) (by omega)).mono ?_
        rintro e w6 ⟨A6, c6, rfl, hc6, hr6, hf6, hb⟩
        have hz6 := HB.out.size
        have HR6 := Lib.hid hr6
        have HF6 := Lib.hid (hf6.low hz6)
        replace g0 := cellAt g0 hb (by omega)
        replace g1 := cellAt g1 hb (by omega)
        replace Hr := Lib.hid (Hr.out.at hb)
        replace HQ := Lib.hid (HQ.out.at hb)
        replace HFl := Lib.hid (HFl.out.at hb)
        replace n1 : w.heap.size < w6.heap.size := ltAt n1 hb
        replace HB := Lib.hid (lift HB.out hb)
        clear hb hr6 hf6
        go_wp2_with fail
        go_ret2
        rw [HE.out]
        exact ⟨A6, c6, rfl, hc6, HR6.out, HF6.out, HB.out⟩
set_option maxRecDepth 100000 in
set_option maxHeartbeats 16000000 in
theorem StepsR_any (An Ae : Option Addr) (nn cn ce : Nat) (es : List Ed) (A : Option Addr) (c : Nat) (q : List Jb) (w : World) (hr : Rd w w.heap.size 3 Ae es.length (edsC es)) (hq : QIn w A c q) (hl : es.length ≤ 100000) (hlq : q.length ≤ 10000) :
    Calls Tryz.prog 21 #[gV An nn cn Ae es.length ce, .slice A q.length c] w (OwnS (stepsQ es q) w) := by
  obtain ⟨i0, hi, hz0, hz1, hz2⟩ := info_parts infoS
  have Hr := Lib.hid hr
  have HQ := Lib.hid hq
  clear hr hq
  have hrl := readyQ_len es q
  have hul := runsU_len q
  go_enter Tryz.func21, Tryz.ntmps21
  go_wp2_with fail
  first | (refine wp_named ?_; intro W1 hW) | (refine calls_named ?_; intro W1 hW)
  have B1 : Below w.heap.size w W1 := by rw [hW]; exact (by repeat (first | exact Below.refl _ _ | assumption | refine Below.alloc ?_ (by first | omega | (simp <;> omega)) _ | refine Below.setCell ?_ (by first | omega | (simp <;> omega)) _ | refine Below.drew ?_))
  replace Hr := Lib.hid (Hr.out.at B1)
  replace HQ := Lib.hid (HQ.out.at B1)
  have n1 : w.heap.size < W1.heap.size := by rw [hW]; simp <;> omega
  have g0 : W1.cell? ⟨w.heap.size, 0, none⟩ = some (.slice An nn cn) := by rw [hW]; go_simp
  have g1 : W1.cell? ⟨w.heap.size, 1, none⟩ = some (.slice Ae es.length ce) := by rw [hW]; go_simp
  clear hW
  have HB := Lib.hid B1
  clear B1
  refine (May20_any A c q W1 HQ.out.rq HQ.out.ok).mono ?_
  rintro e w2 ⟨rfl, hb⟩
  replace g0 := cellAt g0 hb (by omega)
  replace g1 := cellAt g1 hb (by omega)
  replace Hr := Lib.hid (Hr.out.at hb)
  replace HQ := Lib.hid (HQ.out.at hb)
  replace n1 : w.heap.size < w2.heap.size := ltAt n1 hb
  replace HB := Lib.hid (lift HB.out hb)
  clear hb
  cases hm : mayQ q
  · have HE := Lib.hid (stepsQ_no (es := es) hm)
    go_wp2_with fail
    go_ret
    rw [HE.out]
    exact OwnS.nil HB.out
  · have HM := Lib.hid hm
    clear hm
    have hz2w : w.heap.size ≤ w2.heap.size := HB.out.size
    go_wp2_with fail
    have HQ2 := HQ
    have HBw2 := HB
    refine (Ready20_own An Ae nn cn ce es A c q w2 Hr.out HQ.out.rq (by omega) (by omega) HQ.out.ok).mono ?_
    rintro e w3 ⟨A3, c3, rfl, ho3, hb⟩
    have HO3 := Lib.hid ho3
    replace g0 := cellAt g0 hb (by omega)
    replace g1 := cellAt g1 hb (by omega)
    replace Hr := Lib.hid (Hr.out.at hb)
    replace HQ := Lib.hid (HQ.out.at hb)
    replace n1 : w.heap.size < w3.heap.size := ltAt n1 hb
    replace HB := Lib.hid (lift HB.out hb)
    have HB3 := Lib.hid hb
    clear hb ho3
    go_wp2_with fail
    go_loopw [5, 16] (fun v i wr => ∃ m : Nat, m ≤ q.length ∧ i = .int .i64 m ∧ wr.ownsRow w2.heap.size 9 1 v (readyQ es q ++ runsK q m).length (svs (readyQ es q ++ runsK q m)) ∧ Below w2.heap.size w2 wr) (fun _ i _ => q.length - (intOf i).toNat)
    case atStart => exact ⟨0, Nat.zero_le _, rfl, by rw [runsK_zero, List.append_nil]; exact HO3.out, HB3.out⟩
    case round =>
      obtain ⟨m, hm, rfl, hown, hb⟩ := hrel
      have HOut := Lib.hid hown
      have Hb := Lib.hid hb
      have HQr := Lib.hid (HQ2.out.at hb)
      have HBr := Lib.hid (lift HBw2.out hb)
      have hzb : w2.heap.size ≤ wr.heap.size := hb.size
      have hkl := runsK_len q m
      have hLl : (readyQ es q ++ runsK q m).length ≤ 20000 := by rw [List.length_append]; omega
      clear hown HO3 hb HQ HB
      generalize hL : readyQ es q ++ runsK q m = L at *
      have HLd := Lib.hid hL
      clear hL
      obtain ⟨A9, c9, hv9, _⟩ := own_rd HOut.out
      subst hv9
      by_cases hlt : m < q.length
      · obtain ⟨b2, o2, hA, hB2, x0, x1, x2, x3⟩ := HQr.out.rq.job hlt
        subst hA
        have hsucc := runsK_succ (q := q) HM.out hlt
        generalize q[m] = x at x0 x1 x2 x3 hsucc
        obtain ⟨s, t, r, d⟩ := x
        simp only at x0 x1 x2 x3 hsucc
        have m1 : (0 : Int) ≤ (m : Int) := by omega
        have m2 : (m : Int) < (q.length : Int) := by omega
        by_cases r2 : r = 2
        · subst r2
          have HS2 := Lib.hid (show readyQ es q ++ runsK q (m + 1) = L ++ [s] by rw [hsucc, ← HLd.out]; simp)
          have h63 := Lib.hid (show L.length + 1 ≤ maxLen by unfold maxLen; omega)
          have hby := Lib.hid (show (L.length + 1) * 16 ≤ 140737488355328 by omega)
          have HOa := Lib.hid (own_alloc HOut.out (.cells #[sv s, .int .i64 t, .int .i64 2, .int .i64 d] 48))
          have Hba := Lib.hid (Hb.out.alloc hzb (.cells #[sv s, .int .i64 t, .int .i64 2, .int .i64 d] 48))
          have hza := Lib.hid (show w2.heap.size ≤ (wr.alloc (.cells #[sv s, .int .i64 t, .int .i64 2, .int .i64 d] 48)).heap.size by simp; omega)
          clear hsucc
          go_wp2_with (first | (at_builtin; refine wpList_pushm w2 (wr.alloc (.cells #[sv s, .int .i64 t, .int .i64 2, .int .i64 d] 48)) (by rfl) (.tmp 23) (.tmp 26) 27 (by rfl) w2.heap.size 9 i0 _ 1 16 Tryz.underlying27 hi hz0 hz1 hz2 rfl (by decide) _ _ _ (by rfl) HOa.out [sv s] (wr.heap.size + 1) (by simp) (by rfl) rfl (one_sv s) h63.out hby.out hza.out Hba.out ?_; intro A8 c8 w4 hown4 hbel4 hg4 hat4) | fail)
          go_roundw
          case rel => exact ⟨m + 1, by omega, by go_num, by rw [HS2.out]; simpa [svs] using hown4, hbel4⟩
          case measure => simp [intOf]; omega
        · have rb : (r == 2) = false := by simpa using r2
          have HS2 := Lib.hid (show readyQ es q ++ runsK q (m + 1) = L by rw [hsucc, rb, ← HLd.out]; simp)
          clear hsucc r2
          go_wp2_with fail
          go_roundw
          case rel => exact ⟨m + 1, by omega, by go_num, by rw [HS2.out]; exact own_alloc HOut.out _, Hb.out.alloc hzb _⟩
          case measure => simp [intOf]; omega
      · obtain rfl : m = q.length := by omega
        have hC : canon ltS L = stepsQ es q := by rw [← HLd.out, runsK_all]; rfl
        have hln : L.length ≤ 100000 := by omega
        have HO2 := Lib.hid (own_rd' HOut.out)
        have HC := Lib.hid hC
        clear hC
        have hz9 := HBr.out.size
        go_wp2_with fail
        refine (rising_own A9 c9 L wr HO2.out hln).mono ?_
        rw [HC.out]
        rintro e v9 ⟨A7, c7, rfl, hr7, hb⟩
        have HR7 := Lib.hid hr7
        have HB7 := Lib.hid (lift HBr.out hb)
        clear hb hr7
        go_wp2_with fail
        go_ret
        exact OwnS.of HR7.out hz9 HB7.out
end Od
end Go.Proofs.YtmlogmcnblgnbaaGreat
end

section
/- A slice that reads as a list while a row of the call's own is appended to. No program. -/
namespace Go.Proofs.YtmlogmcnblgnbaaGreat
open Go.RowKit
/-- The block at A is not the one that v owns. -/
def OffA (A : Option Addr) (n : Nat) (v : Value) : Prop := 0 < n → ∀ ad, A = some ad → v.ownBlock ≠ some ad.block
section
variable {w w' : World} {B k n : Nat} {A : Option Addr} {xs : List Value} {v v2 : Value}
theorem OffA.nil : OffA A n (.slice none 0 0) := fun _ _ _ h => by cases h
theorem OffA.fresh {base e k' n' : Nat} {xs' : List Value} (h : FreshA B A n) (ho : w.ownsRow base e k' v n' xs') (hB : w.heap.size ≤ B) : OffA A n v := fun hn ad hA hv => by
  have h1 := h hn ad hA
  have h2 := (ho.lt _ hv).2
  omega
theorem Rd.kept (h : Rd w w.heap.size k A n xs) (hoff : OffA A n v) (hg : w.grownBy w' v.ownBlock) : Rd w' w'.heap.size k A n xs :=
  ⟨h.1, fun hn => by
    obtain ⟨ad, e, hb, hs, hc⟩ := h.2 hn
    exact ⟨ad, e, Nat.lt_of_lt_of_le hb hg.size, hs, fun j hj => (World.cell?_of_block (a := ⟨ad.block, ad.off + j, none⟩) (hg.block ad.block hb (fun e' => hoff hn ad e e'.symm))).trans (hc j hj)⟩⟩
theorem OffA.push (h : OffA A n v) (hr : Rd w w.heap.size k A n xs) (hat : v2.ownBlock = v.ownBlock ∨ v2.ownBlock = some (w.heap.size + 1)) : OffA A n v2 := fun hn ad hA hv => by
  rcases hat with e | e
  · exact h hn ad hA (e ▸ hv)
  · obtain ⟨ad', e', hb, _⟩ := hr.2 hn
    rw [hA] at e'; injection e' with e'; subst e'
    rw [e] at hv; injection hv with hv
    omega
end
end Go.Proofs.YtmlogmcnblgnbaaGreat
end

section
/- The walk of matinsref20.Run. (bel2) -/
namespace Go.Proofs.YtmlogmcnblgnbaaGreat
open Go.RowKit Go.Sort
set_option linter.unusedSimpArgs false

namespace Od
/-- All blocks but the one that v owns. -/
def OffB (w : World) (v : Value) (b : Nat) : Prop := b < w.heap.size ∧ v.ownBlock ≠ some b
section
variable {w w' w'' : World} {v : Value}
theorem OffB.below (hb : Below w.heap.size w w') : Keeps (OffB w v) w w' := ⟨hb.os, hb.tape, hb.output, hb.size, fun j hj => hb.block j hj.1⟩
theorem OffB.alloc (h : Keeps (OffB w v) w w') (o : Obj) : Keeps (OffB w v) w (w'.alloc o) := h.then (fun _ hj => hj.1) ((Below.refl _ _).alloc (Nat.le_refl _) _)
theorem OffB.grown (h : Keeps (OffB w v) w w') (hg : w'.grownBy w'' v.ownBlock) : Keeps (OffB w v) w w'' :=
  ⟨hg.os.trans h.os, hg.tape.trans h.tape, hg.output.trans h.output, Nat.le_trans h.size hg.size, fun j hj => (hg.block j (Nat.lt_of_lt_of_le hj.1 h.size) (fun e => hj.2 e.symm)).trans (h.block j hj)⟩
theorem Rd.offB {k n : Nat} {A : Option Addr} {xs : List Value} (h : Rd w w.heap.size k A n xs) (hoff : OffA A n v) (hk : Keeps (OffB w v) w w') : Rd w' w'.heap.size k A n xs :=
  ⟨h.1, fun hn => by
    obtain ⟨b, o, e, hb, hc⟩ := h.open hn
    exact ⟨_, e, Nat.lt_of_lt_of_le hb hk.size, rfl, fun j hj => (World.cell?_of_block (a := ⟨b, o + j, none⟩) (hk.block b ⟨hb, hoff hn _ e⟩)).trans (hc j hj)⟩⟩
end
/-- A call hands back jobs, and ends, in words of two lists. -/
def RunRet (x : List Jb) (o : List Nd) (w : World) (e : Ending) (w' : World) : Prop := ∃ A c A' c', e = .returned (.tuple #[.slice A x.length c, .slice A' o.length c']) ∧ Rd w' w'.heap.size 4 A x.length (jbsC x) ∧ Rd w' w'.heap.size 3 A' o.length (ndsC o) ∧ Below w.heap.size w w'
theorem infoDn' : (Tryz.prog.info? 50).map (fun i => (i.zero, i.size, i.bytes)) = some (some (.agg #[.string ⟨#[]⟩, .int .i64 0, .int .i64 0]), 3, 32) := by kernel_rfl
theorem one_ndN (n : Nd) : ∀ u ∈ ndC n, u.oneCell' = true := fun u hu => by
  simp only [ndC, List.mem_cons, List.not_mem_nil, or_false] at hu
  rcases hu with rfl | rfl | rfl <;> rfl
theorem below_app {w w' : World} {B : Nat} (h : Below B w w') (hB : B ≤ w'.heap.size) {o : Obj} : Below B w (w'.drew.alloc o) := (h.drew).alloc hB _
theorem FreshA.fresh_ {w4 : World} {A : Option Addr} {n base e k n' : Nat} {v : Value} {xs : List Value} (h : FreshA w4.heap.size A n) (ho : w4.ownsRow base e k v n' xs) : OffA A n v := OffA.fresh h ho (Nat.le_refl _)
set_option maxRecDepth 100000 in
set_option maxHeartbeats 16000000 in
theorem RunR_any (An Ae : Option Addr) (nn cn ce : Nat) (es : List Ed) (A : Option Addr) (c : Nat) (q : List Jb) (Af : Option Addr) (cf : Nat) (fails : List Str) (Ap : Option Addr) (cp : Nat) (picks : List Int) (w : World) (hr : Rd w w.heap.size 3 Ae es.length (edsC es)) (hq : QIn w A c q) (hf : Rd w w.heap.size 1 Af fails.length (svs fails)) (hp : Rd w w.heap.size 1 Ap picks.length (ints picks)) (hl : es.length ≤ 100000) (hlq : q.length ≤ 1000) (hlf : fails.length ≤ 140737488355328) :
    Calls Tryz.prog 23 #[gV An nn cn Ae es.length ce, .slice A q.length c, .slice Af fails.length cf, .slice Ap picks.length cp] w (RunRet (runR es fails picks q) (trR es fails picks q) w) := by
  obtain ⟨i0, hi, hz0, hz1, hz2⟩ := info_parts infoDn'
  obtain ⟨j0, ji, jz0, jz1, jz2⟩ := info_parts infoJb
  have Hr := Lib.hid hr
  have HQ := Lib.hid hq
  have HFl := Lib.hid hf
  have HP := Lib.hid hp
  clear hr hq hf hp
  go_enter Tryz.func23, Tryz.ntmps23
  go_wp2_with fail
  first | (refine wp_named ?_; intro W1 hW) | (refine calls_named ?_; intro W1 hW)
  have B1 : Below w.heap.size w W1 := by rw [hW]; exact (by repeat (first | exact Below.refl _ _ | assumption | refine Below.alloc ?_ (by first | omega | (simp <;> omega)) _ | refine Below.setCell ?_ (by first | omega | (simp <;> omega)) _ | refine Below.drew ?_))
  replace Hr := Lib.hid (Hr.out.at B1)
  replace HQ := Lib.hid (HQ.out.at B1)
  replace HFl := Lib.hid (HFl.out.at B1)
  replace HP := Lib.hid (HP.out.at B1)
  have n1 : w.heap.size < W1.heap.size := by rw [hW]; simp <;> omega
  have g0 : W1.cell? ⟨w.heap.size, 0, none⟩ = some (.slice An nn cn) := by rw [hW]; go_simp
  have g1 : W1.cell? ⟨w.heap.size, 1, none⟩ = some (.slice Ae es.length ce) := by rw [hW]; go_simp
  clear hW
  have HB := Lib.hid B1
  clear B1
  refine (May20_any A c q W1 HQ.out.rq HQ.out.ok).mono ?_
  rintro e w2 ⟨rfl, hb⟩
  replace g0 := cellAt g0 hb (by omega)
  replace g1 := cellAt g1 hb (by omega)
  replace Hr := Lib.hid (Hr.out.at hb)
  replace HQ := Lib.hid (HQ.out.at hb)
  replace HFl := Lib.hid (HFl.out.at hb)
  replace HP := Lib.hid (HP.out.at hb)
  replace n1 : w.heap.size < w2.heap.size := ltAt n1 hb
  replace HB := Lib.hid (lift HB.out hb)
  clear hb
  cases hm : mayQ q
  · have HE1 := Lib.hid (show runR es fails picks q = [] by unfold runR; rw [hm]; rfl)
    have HE2 := Lib.hid (show trR es fails picks q = [] by unfold trR; rw [hm]; rfl)
    go_wp2_with fail
    go_ret2
    rw [HE1.out, HE2.out]
    exact ⟨none, 0, none, 0, rfl, Rd.none_, Rd.none_, HB.out⟩
  · have HM := Lib.hid hm
    clear hm
    have h63 := Lib.hid (show 0 + q.length ≤ maxLen by unfold maxLen; omega)
    have hby := Lib.hid (show (0 + q.length) * 40 ≤ 140737488355328 by omega)
    go_wp2_with (first | (at_builtin; refine wpList_append_rd w2 (by rfl) (.const (.slice none 0 0)) (.tmp 20) 26 (by rfl) w2.heap.size 48 j0 _ 4 40 Tryz.underlying26 ji jz0 jz1 jz2 rfl (by decide) (.slice none 0 0) 0 [] (by rfl) (World.ownsRow_nil _ _ _ _) _ A q.length c (jbsC q) (by rfl) HQ.out.rq (one_jbsC q) h63.out hby.out (Nat.le_refl _) ?_; intro A3 c3 w3 hown3 hg3 hat3; simp only [Nat.zero_add, List.nil_append] at hown3 ⊢; have hb3 : Below w2.heap.size w2 w3 := (Below.refl w2.heap.size w2).grown hg3 (Nat.le_refl _) (fun k h => by cases h); have HX0 : Hid (QIn w3 A3 c3 q) := ⟨own_rd' hown3, HQ.out.ok, (own_cap hown3).1⟩; have Hb3 := Lib.hid hb3; clear hown3 hg3 hat3 hb3) | fail)
    have hb := Hb3.out
    clear Hb3
    replace g0 := cellAt g0 hb (by omega)
    replace g1 := cellAt g1 hb (by omega)
    replace Hr := Lib.hid (Hr.out.at hb)
    replace HQ := Lib.hid (HQ.out.at hb)
    replace HFl := Lib.hid (HFl.out.at hb)
    replace HP := Lib.hid (HP.out.at hb)
    replace n1 : w.heap.size < w3.heap.size := ltAt n1 hb
    replace HB := Lib.hid (lift HB.out hb)
    clear hb
    go_loopw [1, 10, 11] (fun v ov i wr => ∃ (m : Nat) (x : List Jb) (A1 : Option Addr) (c1 : Nat) (o : List Nd) (A9 : Option Addr) (c9 : Nat), v = .slice A1 x.length c1 ∧ ov = .slice A9 o.length c9 ∧ i = .int .i64 m ∧ Hid (Far es fails picks q m x o) ∧ Hid (QIn wr A1 c1 x) ∧ Hid (wr.ownsRow w3.heap.size 50 3 (.slice A9 o.length c9) o.length (ndsC o)) ∧ Hid (OffA A1 x.length (.slice A9 o.length c9)) ∧ Below w3.heap.size w3 wr) (fun _ _ i _ => 4 * q.length + 1 - (intOf i).toNat)
    case atStart => exact ⟨0, q, A3, c3, [], none, 0, rfl, rfl, rfl, Far.zero HM.out, HX0, World.ownsRow_nil _ _ _ _, OffA.nil, Below.refl _ _⟩
    case round =>
      obtain ⟨m, x, A1, c1, o, A9, c9, rfl, rfl, rfl, hfar, HX, HOv, HOff, hb⟩ := hrel
      have HBl := Lib.hid hb
      replace g0 := cellAt g0 hb (by omega)
      replace g1 := cellAt g1 hb (by omega)
      replace Hr := Lib.hid (Hr.out.at hb)
      replace HQ := Lib.hid (HQ.out.at hb)
      replace HFl := Lib.hid (HFl.out.at hb)
      replace HP := Lib.hid (HP.out.at hb)
      replace n1 : w.heap.size < wr.heap.size := ltAt n1 hb
      replace HB := Lib.hid (lift HB.out hb)
      clear hb HX0
      have hxl : x.length ≤ 1000 := by have := hfar.out.len; omega
      have hol : o.length ≤ 1000 := by have := hfar.out.over; omega
      have hml := hfar.out.lt
      have hsl := stepsQ_len es x
      go_wp2_with fail
      refine (StepsR_any An Ae nn cn ce es A1 c1 x wr Hr.out HX.out (by omega) (by omega)).mono ?_
      rintro e w4 ⟨A4, c4, rfl, ho4, hb⟩
      have HR4 := Lib.hid (own_rd' ho4)
      replace g0 := cellAt g0 hb (by omega)
      replace g1 := cellAt g1 hb (by omega)
      replace Hr := Lib.hid (Hr.out.at hb)
      replace HQ := Lib.hid (HQ.out.at hb)
      replace HFl := Lib.hid (HFl.out.at hb)
      replace HP := Lib.hid (HP.out.at hb)
      replace n1 : w.heap.size < w4.heap.size := ltAt n1 hb
      replace HB := Lib.hid (lift HB.out hb)
      replace HBl := Lib.hid (lift HBl.out hb)
      replace HX := Lib.hid (HX.out.at hb)
      replace HOv := Lib.hid (own_on HOv.out hb)
      clear hb ho4
      have HO4 := HOv
      by_cases hn : stepsQ es x = []
      · have HE1 := Lib.hid (show runR es fails picks q = x by unfold runR; rw [if_pos HM.out, hfar.out.end_ HM.out hn])
        have HE2 := Lib.hid (show trR es fails picks q = o by unfold trR; rw [if_pos HM.out, hfar.out.end_ HM.out hn])
        rw [hn]
        simp only [List.length_nil]
        clear hn
        go_wp2_with fail
        go_ret2
        rw [HE1.out, HE2.out]
        exact ⟨A1, c1, A9, c9, rfl, HX.out.rq, own_rd' HOv.out, HB.out⟩
      · obtain ⟨hk, y, hst, hfy, hovs⟩ := hfar.out.step hn
        generalize hL : stepsQ es x = L at *
        have hpos : 0 < L.length := List.length_pos_iff.2 hn
        have hne : ((L.length : Int) == 0) = false := by rw [beq_eq_false_iff_ne]; omega
        obtain ⟨b4, o4, hA4, hB4, z0⟩ := HR4.out.str hk
        have hpk : pickW picks m L.length = (match picks[m]? with | none => 0 | some p => (p % (L.length : Int)).toNat) := rfl
        generalize pickW picks m L.length = k at *
        generalize L[k] = u at *
        have HSt := Lib.hid hst
        have HFar := Lib.hid hfy
        have HOvs := Lib.hid hovs
        have HPk := Lib.hid hpk
        have HL := Lib.hid hL
        have HFx := Lib.hid hfar.out.len
        clear hst hfy hovs hpk hL hn hfar
        have k1 : (0 : Int) ≤ (k : Int) := by omega
        have k2 : (k : Int) < (L.length : Int) := by omega
        subst hA4
        by_cases hmp : m < picks.length
        · obtain ⟨b6, o6, hA6, hB6, hc6⟩ := HP.out.open (by omega)
          have p0 := (hc6 m (by omega)).trans (ints_at hmp)
          have hpk2 : k = (picks[m] % (L.length : Int)).toNat := by rw [HPk.out, List.getElem?_eq_getElem hmp]
          generalize picks[m] = p at p0 hpk2
          have hmod := go_mod p hpos
          rw [← hpk2] at hmod
          have HMod := Lib.hid hmod
          have m1 : (0 : Int) ≤ (m : Int) := by omega
          have m2 : (m : Int) < (picks.length : Int) := by omega
          clear hmod hpk2 hc6
          subst hA6
          have hw0 := tmod_in p hpos
          have hw1 : IntKind.i64.wrap (p.tmod (L.length : Int) + (L.length : Int)) = p.tmod (L.length : Int) + (L.length : Int) := IntWalk.i64_in _ (by omega)
          have hw2 : (p.tmod (L.length : Int) + (L.length : Int)).tmod (L.length : Int) = (k : Int) := HMod.out
          clear hw0
          go_wp2_with fail
          try go_wp2_with fail
          refine wp_region_held_drew (S := fun w' => Below w4.heap.size w4 w') (by kernel_rfl) (Below.drew (Below.refl _ _)) (fun hHeld => ?_)
          refine tY (i := 0) (v := ?_) rfl ?_ hHeld ?_; rotate_left 1; focus (intro w' hSw; have hCell := fun (b o : Nat) (h : b < w4.heap.size) => hSw.cell (p := ⟨b, o, none⟩) h; clear hSw; go_simp; try with_reducible rfl)
          (try simp only [Act.put, zn1, zn2, zn3])
          refine tY (i := 1) (v := ?_) rfl ?_ hHeld ?_; rotate_left 1; focus (intro w' hSw; clear hSw; go_simp; try with_reducible rfl)
          (try simp only [Act.put, zn1, zn2, zn3])
          refine tY (i := 2) (v := ?_) rfl ?_ hHeld ?_; rotate_left 1; focus (intro w' hSw; clear hSw; go_simp; try with_reducible rfl)
          (try simp only [Act.put, zn1, zn2, zn3])
          refine tY (i := 3) (v := ?_) rfl ?_ hHeld ?_; rotate_left 1; focus (intro w' hSw; clear hSw; go_simp; try with_reducible rfl)
          (try simp only [Act.put, zn1, zn2, zn3])
          refine tY (i := 4) (v := ?_) rfl ?_ hHeld ?_; rotate_left 1; focus (intro w' hSw; clear hSw; go_simp; try with_reducible rfl)
          (try simp only [Act.put, zn1, zn2, zn3])
          refine tY (i := 5) (v := ?_) rfl ?_ hHeld ?_; rotate_left 1; focus (intro w' hSw; clear hSw; go_simp; try with_reducible rfl)
          (try simp only [Act.put, zn1, zn2, zn3])
          refine tY (i := 6) (v := ?_) rfl ?_ hHeld ?_; rotate_left 1; focus (intro w' hSw; have hCell := fun (b o : Nat) (h : b < w4.heap.size) => hSw.cell (p := ⟨b, o, none⟩) h; clear hSw; go_simp; try with_reducible rfl)
          (try simp only [Act.put, zn1, zn2, zn3])
          refine ready_one (i := 7) rfl (by kernel_rfl) (fun K hK => ?_)
          go_simp
          refine (StepR_any An Ae nn cn ce es A1 c1 x Af cf fails u _ (Hr.out.at hHeld) (HX.out.at hHeld) (HFl.out.at hHeld) hl (by omega) hlf).mono ?_
          rw [HSt.out]
          rintro e w5 ⟨A5, c5, rfl, hc5, hr5, hf5, hb⟩
          have HF5 := Lib.hid (hf5.low hHeld.size)
          have HY := Lib.hid (And.intro hc5 hr5)
          clear hc5 hr5 hf5
          refine hK.out _ _ ?_ (fun hHeld2 => ?_)
          · (try dsimp only); first | exact Below.trans hHeld (Below.mono hb hHeld.size) | exact hHeld | exact Below.drew hHeld | exact (by repeat (first | exact Below.refl _ _ | assumption | refine Below.alloc ?_ (by first | omega | (simp <;> omega)) _ | refine Below.setCell ?_ (by first | omega | (simp <;> omega)) _ | refine Below.drew ?_))
          clear hK K hHeld; have hHeld := hHeld2; clear hHeld2; (try simp only [Act.put, zn1, zn2, zn3])
          refine tY (i := 8) (v := ?_) rfl ?_ hHeld ?_; rotate_left 1; focus (intro w' hSw; clear hSw; go_simp; try with_reducible rfl)
          (try simp only [Act.put, zn1, zn2, zn3])
          refine tY (i := 9) (v := ?_) rfl ?_ hHeld ?_; rotate_left 1; focus (intro w' hSw; clear hSw; go_simp; try with_reducible rfl)
          (try simp only [Act.put, zn1, zn2, zn3])
          refine tY (i := 10) (v := ?_) rfl ?_ hHeld ?_; rotate_left 1; focus (intro w' hSw; clear hSw; go_simp; try with_reducible rfl)
          (try simp only [Act.put, zn1, zn2, zn3])
          refine tY (i := 11) (v := ?_) rfl ?_ hHeld ?_; rotate_left 1; focus (intro w' hSw; clear hSw; go_simp; try with_reducible rfl)
          (try simp only [Act.put, zn1, zn2, zn3])
          refine tY (i := 12) (v := ?_) rfl ?_ hHeld ?_; rotate_left 1; focus (intro w' hSw; clear hSw; go_simp; try with_reducible rfl)
          (try simp only [Act.put, zn1, zn2, zn3])
          refine wpAnyH_done (by kernel_rfl) ?_ _
          simp only [Option.getD_some, Option.isSome_some] at HY HF5 ⊢
          have HY2 : Hid (QIn w5 A5 c5 y) := ⟨HY.out.2, mayQ.okW HFar.out.may, HY.out.1⟩
          have hylx : y.length ≤ x.length := by have := HFar.out.len; have := HFx.out; omega
          have HYl := Lib.hid (show y.length = x.length by have := HFar.out.len; have := HFx.out; omega)
          have HOffY := Lib.hid (FreshA.fresh_ HF5.out HO4.out)
          replace g0 := cellAt g0 hHeld (by omega)
          replace g1 := cellAt g1 hHeld (by omega)
          replace z0 := cellAt z0 hHeld (by omega)
          replace Hr := Lib.hid (Hr.out.at hHeld)
          replace HQ := Lib.hid (HQ.out.at hHeld)
          replace HFl := Lib.hid (HFl.out.at hHeld)
          replace HP := Lib.hid (HP.out.at hHeld)
          replace n1 : w.heap.size < w5.heap.size := ltAt n1 hHeld
          replace HB := Lib.hid (lift HB.out hHeld)
          replace HBl := Lib.hid (lift HBl.out hHeld)
          replace HX := Lib.hid (HX.out.at hHeld)
          replace HOv := Lib.hid (own_on HOv.out hHeld)
          replace HR4 := Lib.hid (HR4.out.at hHeld)
          replace hB4 : b4 < w5.heap.size := ltAt hB4 hHeld
          clear HY HF5 hHeld
          have HO0 := Lib.hid (show o ++ ovK x y 0 = o by rw [ovK_zero, List.append_nil])
          obtain ⟨w9, rfl⟩ : ∃ wo : World, wo = wr := ⟨_, rfl⟩
          go_wp2_with fail
          go_loopw [10, 62] (fun ov i wr => ∃ (k : Nat) (A9 : Option Addr) (c9 : Nat), k ≤ y.length ∧ i = .int .i64 k ∧ ov = .slice A9 (o ++ ovK x y k).length c9 ∧ Hid (wr.ownsRow w3.heap.size 50 3 (.slice A9 (o ++ ovK x y k).length c9) (o ++ ovK x y k).length (ndsC (o ++ ovK x y k))) ∧ Hid (QIn wr A5 c5 y) ∧ Hid (QIn wr A1 c1 x) ∧ Hid (OffA A5 y.length (.slice A9 (o ++ ovK x y k).length c9)) ∧ Hid (OffA A1 x.length (.slice A9 (o ++ ovK x y k).length c9)) ∧ Below w3.heap.size w3 wr) (fun _ i _ => y.length - (intOf i).toNat)
          case atStart => exact ⟨0, A9, c9, Nat.zero_le _, rfl, by rw [HO0.out], by rw [HO0.out]; exact HOv, HY2, HX, by rw [HO0.out]; exact HOffY, by rw [HO0.out]; exact HOff, HBl.out⟩
          case round =>
            obtain ⟨k2, A8, c8, hk2, rfl, rfl, HO2, HYr, HXr, HOfY, HOfX, hb3⟩ := hrel
            have HBr := Lib.hid hb3
            clear hb3 HO0 HY2 HX HOffY HOff HBl HOv
            by_cases hlt : k2 < y.length
            · have hltx : k2 < x.length := by omega
              obtain ⟨by1, oy1, hAy, hBy, y0, y1, y2, y3⟩ := HYr.out.rq.job hlt
              obtain ⟨bx1, ox1, hAx, hBx, x0, x1, x2, x3⟩ := HXr.out.rq.job hltx
              have hoy := HOfY.out (by omega) _ hAy
              subst hAy hAx
              have hsu := ovK_succ (q := x) (x := y) hlt hltx
              have hll := ovK_len x y k2
              generalize y[k2] = yj at y0 y1 y2 y3 hsu
              generalize x[k2] = xj at x0 x1 x2 x3 hsu
              obtain ⟨s, t, r, d⟩ := yj
              obtain ⟨s', t', r', d'⟩ := xj
              simp only at y0 y1 y2 y3 x0 x1 x2 x3
              have HSu := Lib.hid (show o ++ ovK x y (k2 + 1) = (o ++ ovK x y k2) ++ (if (r == 3 && r' != 3) = true then [(s, t, d)] else []) by rw [hsu, List.append_assoc]; rfl)
              have hLl : (o ++ ovK x y k2).length ≤ 20000 := by rw [List.length_append]; omega
              clear hsu x0 x1 x3
              have m1 : (0 : Int) ≤ (k2 : Int) := by omega
              have m2 : (k2 : Int) < (y.length : Int) := by omega
              have m3 : (k2 : Int) < (x.length : Int) := by omega
              cases er : (r == 3)
              · have HS2 := Lib.hid (show o ++ ovK x y (k2 + 1) = o ++ ovK x y k2 by rw [HSu.out, er]; simp)
                go_wp2_with fail
                go_roundw
                case rel => exact ⟨k2 + 1, A8, c8, by omega, by go_num, by rw [HS2.out], by rw [HS2.out]; exact HO2, HYr, HXr, by rw [HS2.out]; exact HOfY, by rw [HS2.out]; exact HOfX, HBr.out⟩
                case measure => simp [intOf]; omega
              · have hr3 : r = 3 := by simpa using er
                subst hr3
                cases er2 : (r' != 3)
                · have HS2 := Lib.hid (show o ++ ovK x y (k2 + 1) = o ++ ovK x y k2 by rw [HSu.out, er2]; simp)
                  go_wp2_with fail
                  go_roundw
                  case rel => exact ⟨k2 + 1, A8, c8, by omega, by go_num, by rw [HS2.out], by rw [HS2.out]; exact HO2, HYr, HXr, by rw [HS2.out]; exact HOfY, by rw [HS2.out]; exact HOfX, HBr.out⟩
                  case measure => simp [intOf]; omega
                · have HS2 := Lib.hid (show o ++ ovK x y (k2 + 1) = (o ++ ovK x y k2) ++ [(s, t, d)] by rw [HSu.out, er2]; rfl)
                  generalize o ++ ovK x y k2 = L at HO2 hLl HS2 HOfY HOfX hoy ⊢
                  generalize hovr : Value.slice A8 L.length c8 = ovr at HO2 HOfY HOfX hoy ⊢
                  simp only at hoy
                  have hz3 : w3.heap.size ≤ wr.heap.size := HBr.out.size
                  have h63 := Lib.hid (show L.length + 1 ≤ maxLen by unfold maxLen; omega)
                  have hby := Lib.hid (show (L.length + 1) * 32 ≤ 140737488355328 by omega)
                  clear HSu
                  try go_wp2_with fail
                  refine wp_region_held_drew (S := fun w' => Keeps (OffB wr ovr) wr w') (by kernel_rfl) (OffB.below (Below.drew (Below.refl _ _))) (fun hHeld => ?_)
                  refine tY (i := 0) (v := ?_) rfl ?_ hHeld ?_; rotate_left 1; focus (intro w' hSw; clear hSw; go_simp; try with_reducible rfl)
                  (try simp only [Act.put, zn1, zn2, zn3])
                  refine tY (i := 1) (v := ?_) rfl ?_ hHeld ?_; rotate_left 1; focus (intro w' hSw; clear hSw; go_simp; try with_reducible rfl)
                  (try simp only [Act.put, zn1, zn2, zn3])
                  refine tY (i := 2) (v := ?_) rfl ?_ hHeld ?_; rotate_left 1; focus (intro w' hSw; clear hSw; go_simp; try with_reducible rfl)
                  (try simp only [Act.put, zn1, zn2, zn3])
                  refine tY (i := 3) (v := ?_) rfl ?_ hHeld ?_; rotate_left 1; focus (intro w' hSw; clear hSw; go_simp; try with_reducible rfl)
                  (try simp only [Act.put, zn1, zn2, zn3])
                  refine tY (i := 4) (v := ?_) rfl ?_ hHeld ?_; rotate_left 1; focus (intro w' hSw; clear hSw; go_simp; try with_reducible rfl)
                  (try simp only [Act.put, zn1, zn2, zn3])
                  refine tY (i := 5) (v := ?_) rfl ?_ hHeld ?_; rotate_left 1; focus (intro w' hSw; have hCell := fun (b o : Nat) (h : b < wr.heap.size) (h2 : ¬ ovr.ownBlock = some b) => World.cell?_of_block (a := ⟨b, o, none⟩) (hSw.block b ⟨h, h2⟩); clear hSw; go_simp; try with_reducible rfl)
                  (try simp only [Act.put, zn1, zn2, zn3])
                  refine tY (i := 6) (v := ?_) rfl ?_ hHeld ?_; rotate_left 1; focus (intro w' hSw; clear hSw; go_simp; try with_reducible rfl)
                  (try simp only [Act.put, zn1, zn2, zn3])
                  refine tY (i := 7) (v := ?_) rfl ?_ hHeld ?_; rotate_left 1; focus (intro w' hSw; clear hSw; go_simp; try with_reducible rfl)
                  (try simp only [Act.put, zn1, zn2, zn3])
                  refine tY (i := 8) (v := ?_) rfl ?_ hHeld ?_; rotate_left 1; focus (intro w' hSw; clear hSw; go_simp; try with_reducible rfl)
                  (try simp only [Act.put, zn1, zn2, zn3])
                  refine tY (i := 9) (v := ?_) rfl ?_ hHeld ?_; rotate_left 1; focus (intro w' hSw; clear hSw; go_simp; try with_reducible rfl)
                  (try simp only [Act.put, zn1, zn2, zn3])
                  refine tY (i := 10) (v := ?_) rfl ?_ hHeld ?_; rotate_left 1; focus (intro w' hSw; have hCell := fun (b o : Nat) (h : b < wr.heap.size) (h2 : ¬ ovr.ownBlock = some b) => World.cell?_of_block (a := ⟨b, o, none⟩) (hSw.block b ⟨h, h2⟩); clear hSw; go_simp; try with_reducible rfl)
                  (try simp only [Act.put, zn1, zn2, zn3])
                  refine tY (i := 11) (v := ?_) rfl ?_ hHeld ?_; rotate_left 1; focus (intro w' hSw; clear hSw; go_simp; try with_reducible rfl)
                  (try simp only [Act.put, zn1, zn2, zn3])
                  refine tY (i := 12) (v := ?_) rfl ?_ hHeld ?_; rotate_left 1; focus (intro w' hSw; clear hSw; go_simp; try with_reducible rfl)
                  (try simp only [Act.put, zn1, zn2, zn3])
                  refine tY (i := 13) (v := ?_) rfl ?_ hHeld ?_; rotate_left 1; focus (intro w' hSw; clear hSw; go_simp; try with_reducible rfl)
                  (try simp only [Act.put, zn1, zn2, zn3])
                  refine tY (i := 14) (v := ?_) rfl ?_ hHeld ?_; rotate_left 1; focus (intro w' hSw; clear hSw; go_simp; try with_reducible rfl)
                  (try simp only [Act.put, zn1, zn2, zn3])
                  refine tY (i := 15) (v := ?_) rfl ?_ hHeld ?_; rotate_left 1; focus (intro w' hSw; have hCell := fun (b o : Nat) (h : b < wr.heap.size) (h2 : ¬ ovr.ownBlock = some b) => World.cell?_of_block (a := ⟨b, o, none⟩) (hSw.block b ⟨h, h2⟩); clear hSw; go_simp; try with_reducible rfl)
                  (try simp only [Act.put, zn1, zn2, zn3])
                  refine ready_one (i := 16) rfl (by kernel_rfl) (fun K hK => ?_)
                  go_simp
                  refine hK.out _ _ ?_ (fun hHeld2 => ?_)
                  · (try dsimp only); first | exact hHeld | exact OffB.alloc hHeld _
                  clear hK K hHeld; have hHeld := hHeld2; clear hHeld2; (try simp only [Act.put, zn1, zn2, zn3])
                  refine ready_one (i := 17) rfl (by kernel_rfl) (fun K hK => ?_)
                  go_simp
                  refine hK.out _ _ ?_ (fun hHeld2 => ?_)
                  · (try dsimp only); first | exact hHeld | exact OffB.alloc hHeld _
                  clear hK K hHeld; have hHeld := hHeld2; clear hHeld2; (try simp only [Act.put, zn1, zn2, zn3])
                  refine ready_one (i := 18) rfl (by kernel_rfl) (fun K hK => ?_)
                  refine step_append_rd _ (by rfl) (.tmp 79) (.tmp 96) 37 (by rfl) w3.heap.size 50 i0 _ 3 32 Tryz.underlying37 hi hz0 hz1 hz2 rfl (by decide) ovr _ _ (by rfl) (own_alloc (own_on HO2.out (Below.drew (Below.refl _ _))) _) _ (some ⟨wr.heap.size, 0, none⟩) 1 1 (ndC (s, t, d)) (by rfl) (Rd.lit wr.drew (ndC (s, t, d)) 50 3 1 rfl) (one_ndN (s, t, d)) h63.out hby.out (by simp; omega) ?_
                  intro A7 c7 w8 ho8 hg8 hat8
                  have hS := OffB.grown hHeld hg8
                  have HG8 := Lib.hid hg8
                  have HAt8 := Lib.hid hat8
                  have HO8 := Lib.hid ho8
                  clear hg8 hat8 ho8
                  refine hK.out _ _ ?_ (fun hHeld2 => ?_)
                  · (try dsimp only); exact hS
                  clear hK K hHeld; have hHeld := hHeld2; clear hHeld2; (try simp only [Act.put, zn1, zn2, zn3])
                  refine tY (i := 19) (v := ?_) rfl ?_ hHeld ?_; rotate_left 1; focus (intro w' hSw; clear hSw; go_simp; try with_reducible rfl)
                  (try simp only [Act.put, zn1, zn2, zn3])
                  refine wpAnyH_done (by kernel_rfl) ?_ _
                  have HH := Lib.hid hHeld
                  clear hHeld
                  go_wp2_with fail
                  go_roundw
                  case rel =>
                    have hat : (Value.slice A7 (L.length + 1) c7).ownBlock = ovr.ownBlock ∨ (Value.slice A7 (L.length + 1) c7).ownBlock = some (wr.heap.size + 1) := by simpa using HAt8.out
                    have hbl : Below w3.heap.size w3 w8 := Below.grown (below_app HBr.out hz3) HG8.out (by simp; omega) (fun k hk => (HO2.out.lt k hk).1)
                    have hll2 : (o ++ ovK x y (k2 + 1)).length = L.length + 1 := by rw [HS2.out]; simp
                    refine ⟨k2 + 1, A7, c7, by omega, by go_num, by rw [hll2], ?_, ⟨Rd.offB HYr.out.rq HOfY.out HH.out, HYr.out.ok, HYr.out.cap⟩, ⟨Rd.offB HXr.out.rq HOfX.out HH.out, HXr.out.ok, HXr.out.cap⟩, by rw [hll2]; exact HOfY.out.push HYr.out.rq hat, by rw [hll2]; exact HOfX.out.push HXr.out.rq hat, hbl⟩
                    rw [hll2, HS2.out]
                    simpa [ndsC, Hid] using HO8.out
                  case measure => simp [intOf]; omega
            · have hk2e : k2 = y.length := by omega
              have HS3 := Lib.hid (show o ++ ovK x y k2 = o ++ endedOf y u by rw [hk2e, ovK_all HYl.out, HOvs.out])
              go_wp2_with fail
              go_roundw
              case rel => exact ⟨m + 1, y, A5, c5, o ++ endedOf y u, A8, c8, rfl, by rw [HS3.out], by go_num, HFar, HYr, by rw [← HS3.out]; exact HO2, by rw [← HS3.out]; exact HOfY, HBr.out⟩
              case measure => simp [intOf]; omega
        · have hk0 : k = 0 := by rw [HPk.out, List.getElem?_eq_none (by omega)]
          subst hk0
          simp only [Nat.add_zero] at z0
          have m2 : decide ((m : Int) < (picks.length : Int)) = false := by rw [decide_eq_false_iff_not]; omega
          go_wp2_with fail
          try go_wp2_with fail
          refine wp_region_held_drew (S := fun w' => Below w4.heap.size w4 w') (by kernel_rfl) (Below.drew (Below.refl _ _)) (fun hHeld => ?_)
          refine tY (i := 0) (v := ?_) rfl ?_ hHeld ?_; rotate_left 1; focus (intro w' hSw; have hCell := fun (b o : Nat) (h : b < w4.heap.size) => hSw.cell (p := ⟨b, o, none⟩) h; clear hSw; go_simp; try with_reducible rfl)
          (try simp only [Act.put, zn1, zn2, zn3])
          refine tY (i := 1) (v := ?_) rfl ?_ hHeld ?_; rotate_left 1; focus (intro w' hSw; clear hSw; go_simp; try with_reducible rfl)
          (try simp only [Act.put, zn1, zn2, zn3])
          refine tY (i := 2) (v := ?_) rfl ?_ hHeld ?_; rotate_left 1; focus (intro w' hSw; clear hSw; go_simp; try with_reducible rfl)
          (try simp only [Act.put, zn1, zn2, zn3])
          refine tY (i := 3) (v := ?_) rfl ?_ hHeld ?_; rotate_left 1; focus (intro w' hSw; clear hSw; go_simp; try with_reducible rfl)
          (try simp only [Act.put, zn1, zn2, zn3])
          refine tY (i := 4) (v := ?_) rfl ?_ hHeld ?_; rotate_left 1; focus (intro w' hSw; clear hSw; go_simp; try with_reducible rfl)
          (try simp only [Act.put, zn1, zn2, zn3])
          refine tY (i := 5) (v := ?_) rfl ?_ hHeld ?_; rotate_left 1; focus (intro w' hSw; clear hSw; go_simp; try with_reducible rfl)
          (try simp only [Act.put, zn1, zn2, zn3])
          refine tY (i := 6) (v := ?_) rfl ?_ hHeld ?_; rotate_left 1; focus (intro w' hSw; have hCell := fun (b o : Nat) (h : b < w4.heap.size) => hSw.cell (p := ⟨b, o, none⟩) h; clear hSw; go_simp; try with_reducible rfl)
          (try simp only [Act.put, zn1, zn2, zn3])
          refine ready_one (i := 7) rfl (by kernel_rfl) (fun K hK => ?_)
          go_simp
          refine (StepR_any An Ae nn cn ce es A1 c1 x Af cf fails u _ (Hr.out.at hHeld) (HX.out.at hHeld) (HFl.out.at hHeld) hl (by omega) hlf).mono ?_
          rw [HSt.out]
          rintro e w5 ⟨A5, c5, rfl, hc5, hr5, hf5, hb⟩
          have HF5 := Lib.hid (hf5.low hHeld.size)
          have HY := Lib.hid (And.intro hc5 hr5)
          clear hc5 hr5 hf5
          refine hK.out _ _ ?_ (fun hHeld2 => ?_)
          · (try dsimp only); first | exact Below.trans hHeld (Below.mono hb hHeld.size) | exact hHeld | exact Below.drew hHeld | exact (by repeat (first | exact Below.refl _ _ | assumption | refine Below.alloc ?_ (by first | omega | (simp <;> omega)) _ | refine Below.setCell ?_ (by first | omega | (simp <;> omega)) _ | refine Below.drew ?_))
          clear hK K hHeld; have hHeld := hHeld2; clear hHeld2; (try simp only [Act.put, zn1, zn2, zn3])
          refine tY (i := 8) (v := ?_) rfl ?_ hHeld ?_; rotate_left 1; focus (intro w' hSw; clear hSw; go_simp; try with_reducible rfl)
          (try simp only [Act.put, zn1, zn2, zn3])
          refine tY (i := 9) (v := ?_) rfl ?_ hHeld ?_; rotate_left 1; focus (intro w' hSw; clear hSw; go_simp; try with_reducible rfl)
          (try simp only [Act.put, zn1, zn2, zn3])
          refine tY (i := 10) (v := ?_) rfl ?_ hHeld ?_; rotate_left 1; focus (intro w' hSw; clear hSw; go_simp; try with_reducible rfl)
          (try simp only [Act.put, zn1, zn2, zn3])
          refine tY (i := 11) (v := ?_) rfl ?_ hHeld ?_; rotate_left 1; focus (intro w' hSw; clear hSw; go_simp; try with_reducible rfl)
          (try simp only [Act.put, zn1, zn2, zn3])
          refine tY (i := 12) (v := ?_) rfl ?_ hHeld ?_; rotate_left 1; focus (intro w' hSw; clear hSw; go_simp; try with_reducible rfl)
          (try simp only [Act.put, zn1, zn2, zn3])
          refine wpAnyH_done (by kernel_rfl) ?_ _
          simp only [Option.getD_some, Option.isSome_some] at HY HF5 ⊢
          have HY2 : Hid (QIn w5 A5 c5 y) := ⟨HY.out.2, mayQ.okW HFar.out.may, HY.out.1⟩
          have hylx : y.length ≤ x.length := by have := HFar.out.len; have := HFx.out; omega
          have HYl := Lib.hid (show y.length = x.length by have := HFar.out.len; have := HFx.out; omega)
          have HOffY := Lib.hid (FreshA.fresh_ HF5.out HO4.out)
          replace g0 := cellAt g0 hHeld (by omega)
          replace g1 := cellAt g1 hHeld (by omega)
          replace z0 := cellAt z0 hHeld (by omega)
          replace Hr := Lib.hid (Hr.out.at hHeld)
          replace HQ := Lib.hid (HQ.out.at hHeld)
          replace HFl := Lib.hid (HFl.out.at hHeld)
          replace HP := Lib.hid (HP.out.at hHeld)
          replace n1 : w.heap.size < w5.heap.size := ltAt n1 hHeld
          replace HB := Lib.hid (lift HB.out hHeld)
          replace HBl := Lib.hid (lift HBl.out hHeld)
          replace HX := Lib.hid (HX.out.at hHeld)
          replace HOv := Lib.hid (own_on HOv.out hHeld)
          replace HR4 := Lib.hid (HR4.out.at hHeld)
          replace hB4 : b4 < w5.heap.size := ltAt hB4 hHeld
          clear HY HF5 hHeld
          have HO0 := Lib.hid (show o ++ ovK x y 0 = o by rw [ovK_zero, List.append_nil])
          obtain ⟨w9, rfl⟩ : ∃ wo : World, wo = wr := ⟨_, rfl⟩
          go_wp2_with fail
          go_loopw [10, 62] (fun ov i wr => ∃ (k : Nat) (A9 : Option Addr) (c9 : Nat), k ≤ y.length ∧ i = .int .i64 k ∧ ov = .slice A9 (o ++ ovK x y k).length c9 ∧ Hid (wr.ownsRow w3.heap.size 50 3 (.slice A9 (o ++ ovK x y k).length c9) (o ++ ovK x y k).length (ndsC (o ++ ovK x y k))) ∧ Hid (QIn wr A5 c5 y) ∧ Hid (QIn wr A1 c1 x) ∧ Hid (OffA A5 y.length (.slice A9 (o ++ ovK x y k).length c9)) ∧ Hid (OffA A1 x.length (.slice A9 (o ++ ovK x y k).length c9)) ∧ Below w3.heap.size w3 wr) (fun _ i _ => y.length - (intOf i).toNat)
          case atStart => exact ⟨0, A9, c9, Nat.zero_le _, rfl, by rw [HO0.out], by rw [HO0.out]; exact HOv, HY2, HX, by rw [HO0.out]; exact HOffY, by rw [HO0.out]; exact HOff, HBl.out⟩
          case round =>
            obtain ⟨k2, A8, c8, hk2, rfl, rfl, HO2, HYr, HXr, HOfY, HOfX, hb3⟩ := hrel
            have HBr := Lib.hid hb3
            clear hb3 HO0 HY2 HX HOffY HOff HBl HOv
            by_cases hlt : k2 < y.length
            · have hltx : k2 < x.length := by omega
              obtain ⟨by1, oy1, hAy, hBy, y0, y1, y2, y3⟩ := HYr.out.rq.job hlt
              obtain ⟨bx1, ox1, hAx, hBx, x0, x1, x2, x3⟩ := HXr.out.rq.job hltx
              have hoy := HOfY.out (by omega) _ hAy
              subst hAy hAx
              have hsu := ovK_succ (q := x) (x := y) hlt hltx
              have hll := ovK_len x y k2
              generalize y[k2] = yj at y0 y1 y2 y3 hsu
              generalize x[k2] = xj at x0 x1 x2 x3 hsu
              obtain ⟨s, t, r, d⟩ := yj
              obtain ⟨s', t', r', d'⟩ := xj
              simp only at y0 y1 y2 y3 x0 x1 x2 x3
              have HSu := Lib.hid (show o ++ ovK x y (k2 + 1) = (o ++ ovK x y k2) ++ (if (r == 3 && r' != 3) = true then [(s, t, d)] else []) by rw [hsu, List.append_assoc]; rfl)
              have hLl : (o ++ ovK x y k2).length ≤ 20000 := by rw [List.length_append]; omega
              clear hsu x0 x1 x3
              have m1 : (0 : Int) ≤ (k2 : Int) := by omega
              have m2 : (k2 : Int) < (y.length : Int) := by omega
              have m3 : (k2 : Int) < (x.length : Int) := by omega
              cases er : (r == 3)
              · have HS2 := Lib.hid (show o ++ ovK x y (k2 + 1) = o ++ ovK x y k2 by rw [HSu.out, er]; simp)
                go_wp2_with fail
                go_roundw
                case rel => exact ⟨k2 + 1, A8, c8, by omega, by go_num, by rw [HS2.out], by rw [HS2.out]; exact HO2, HYr, HXr, by rw [HS2.out]; exact HOfY, by rw [HS2.out]; exact HOfX, HBr.out⟩
                case measure => simp [intOf]; omega
              · have hr3 : r = 3 := by simpa using er
                subst hr3
                cases er2 : (r' != 3)
                · have HS2 := Lib.hid (show o ++ ovK x y (k2 + 1) = o ++ ovK x y k2 by rw [HSu.out, er2]; simp)
                  go_wp2_with fail
                  go_roundw
                  case rel => exact ⟨k2 + 1, A8, c8, by omega, by go_num, by rw [HS2.out], by rw [HS2.out]; exact HO2, HYr, HXr, by rw [HS2.out]; exact HOfY, by rw [HS2.out]; exact HOfX, HBr.out⟩
                  case measure => simp [intOf]; omega
                · have HS2 := Lib.hid (show o ++ ovK x y (k2 + 1) = (o ++ ovK x y k2) ++ [(s, t, d)] by rw [HSu.out, er2]; rfl)
                  generalize o ++ ovK x y k2 = L at HO2 hLl HS2 HOfY HOfX hoy ⊢
                  generalize hovr : Value.slice A8 L.length c8 = ovr at HO2 HOfY HOfX hoy ⊢
                  simp only at hoy
                  have hz3 : w3.heap.size ≤ wr.heap.size := HBr.out.size
                  have h63 := Lib.hid (show L.length + 1 ≤ maxLen by unfold maxLen; omega)
                  have hby := Lib.hid (show (L.length + 1) * 32 ≤ 140737488355328 by omega)
                  clear HSu
                  try go_wp2_with fail
                  refine wp_region_held_drew (S := fun w' => Keeps (OffB wr ovr) wr w') (by kernel_rfl) (OffB.below (Below.drew (Below.refl _ _))) (fun hHeld => ?_)
                  refine tY (i := 0) (v := ?_) rfl ?_ hHeld ?_; rotate_left 1; focus (intro w' hSw; clear hSw; go_simp; try with_reducible rfl)
                  (try simp only [Act.put, zn1, zn2, zn3])
                  refine tY (i := 1) (v := ?_) rfl ?_ hHeld ?_; rotate_left 1; focus (intro w' hSw; clear hSw; go_simp; try with_reducible rfl)
                  (try simp only [Act.put, zn1, zn2, zn3])
                  refine tY (i := 2) (v := ?_) rfl ?_ hHeld ?_; rotate_left 1; focus (intro w' hSw; clear hSw; go_simp; try with_reducible rfl)
                  (try simp only [Act.put, zn1, zn2, zn3])
                  refine tY (i := 3) (v := ?_) rfl ?_ hHeld ?_; rotate_left 1; focus (intro w' hSw; clear hSw; go_simp; try with_reducible rfl)
                  (try simp only [Act.put, zn1, zn2, zn3])
                  refine tY (i := 4) (v := ?_) rfl ?_ hHeld ?_; rotate_left 1; focus (intro w' hSw; clear hSw; go_simp; try with_reducible rfl)
                  (try simp only [Act.put, zn1, zn2, zn3])
                  refine tY (i := 5) (v := ?_) rfl ?_ hHeld ?_; rotate_left 1; focus (intro w' hSw; have hCell := fun (b o : Nat) (h : b < wr.heap.size) (h2 : ¬ ovr.ownBlock = some b) => World.cell?_of_block (a := ⟨b, o, none⟩) (hSw.block b ⟨h, h2⟩); clear hSw; go_simp; try with_reducible rfl)
                  (try simp only [Act.put, zn1, zn2, zn3])
                  refine tY (i := 6) (v := ?_) rfl ?_ hHeld ?_; rotate_left 1; focus (intro w' hSw; clear hSw; go_simp; try with_reducible rfl)
                  (try simp only [Act.put, zn1, zn2, zn3])
                  refine tY (i := 7) (v := ?_) rfl ?_ hHeld ?_; rotate_left 1; focus (intro w' hSw; clear hSw; go_simp; try with_reducible rfl)
                  (try simp only [Act.put, zn1, zn2, zn3])
                  refine tY (i := 8) (v := ?_) rfl ?_ hHeld ?_; rotate_left 1; focus (intro w' hSw; clear hSw; go_simp; try with_reducible rfl)
                  (try simp only [Act.put, zn1, zn2, zn3])
                  refine tY (i := 9) (v := ?_) rfl ?_ hHeld ?_; rotate_left 1; focus (intro w' hSw; clear hSw; go_simp; try with_reducible rfl)
                  (try simp only [Act.put, zn1, zn2, zn3])
                  refine tY (i := 10) (v := ?_) rfl ?_ hHeld ?_; rotate_left 1; focus (intro w' hSw; have hCell := fun (b o : Nat) (h : b < wr.heap.size) (h2 : ¬ ovr.ownBlock = some b) => World.cell?_of_block (a := ⟨b, o, none⟩) (hSw.block b ⟨h, h2⟩); clear hSw; go_simp; try with_reducible rfl)
                  (try simp only [Act.put, zn1, zn2, zn3])
                  refine tY (i := 11) (v := ?_) rfl ?_ hHeld ?_; rotate_left 1; focus (intro w' hSw; clear hSw; go_simp; try with_reducible rfl)
                  (try simp only [Act.put, zn1, zn2, zn3])
                  refine tY (i := 12) (v := ?_) rfl ?_ hHeld ?_; rotate_left 1; focus (intro w' hSw; clear hSw; go_simp; try with_reducible rfl)
                  (try simp only [Act.put, zn1, zn2, zn3])
                  refine tY (i := 13) (v := ?_) rfl ?_ hHeld ?_; rotate_left 1; focus (intro w' hSw; clear hSw; go_simp; try with_reducible rfl)
                  (try simp only [Act.put, zn1, zn2, zn3])
                  refine tY (i := 14) (v := ?_) rfl ?_ hHeld ?_; rotate_left 1; focus (intro w' hSw; clear hSw; go_simp; try with_reducible rfl)
                  (try simp only [Act.put, zn1, zn2, zn3])
                  refine tY (i := 15) (v := ?_) rfl ?_ hHeld ?_; rotate_left 1; focus (intro w' hSw; have hCell := fun (b o : Nat) (h : b < wr.heap.size) (h2 : ¬ ovr.ownBlock = some b) => World.cell?_of_block (a := ⟨b, o, none⟩) (hSw.block b ⟨h, h2⟩); clear hSw; go_simp; try with_reducible rfl)
                  (try simp only [Act.put, zn1, zn2, zn3])
                  refine ready_one (i := 16) rfl (by kernel_rfl) (fun K hK => ?_)
                  go_simp
                  refine hK.out _ _ ?_ (fun hHeld2 => ?_)
                  · (try dsimp only); first | exact hHeld | exact OffB.alloc hHeld _
                  clear hK K hHeld; have hHeld := hHeld2; clear hHeld2; (try simp only [Act.put, zn1, zn2, zn3])
                  refine ready_one (i := 17) rfl (by kernel_rfl) (fun K hK => ?_)
                  go_simp
                  refine hK.out _ _ ?_ (fun hHeld2 => ?_)
                  · (try dsimp only); first | exact hHeld | exact OffB.alloc hHeld _
                  clear hK K hHeld; have hHeld := hHeld2; clear hHeld2; (try simp only [Act.put, zn1, zn2, zn3])
                  refine ready_one (i := 18) rfl (by kernel_rfl) (fun K hK => ?_)
                  refine step_append_rd _ (by rfl) (.tmp 79) (.tmp 96) 37 (by rfl) w3.heap.size 50 i0 _ 3 32 Tryz.underlying37 hi hz0 hz1 hz2 rfl (by decide) ovr _ _ (by rfl) (own_alloc (own_on HO2.out (Below.drew (Below.refl _ _))) _) _ (some ⟨wr.heap.size, 0, none⟩) 1 1 (ndC (s, t, d)) (by rfl) (Rd.lit wr.drew (ndC (s, t, d)) 50 3 1 rfl) (one_ndN (s, t, d)) h63.out hby.out (by simp; omega) ?_
                  intro A7 c7 w8 ho8 hg8 hat8
                  have hS := OffB.grown hHeld hg8
                  have HG8 := Lib.hid hg8
                  have HAt8 := Lib.hid hat8
                  have HO8 := Lib.hid ho8
                  clear hg8 hat8 ho8
                  refine hK.out _ _ ?_ (fun hHeld2 => ?_)
                  · (try dsimp only); exact hS
                  clear hK K hHeld; have hHeld := hHeld2; clear hHeld2; (try simp only [Act.put, zn1, zn2, zn3])
                  refine tY (i := 19) (v := ?_) rfl ?_ hHeld ?_; rotate_left 1; focus (intro w' hSw; clear hSw; go_simp; try with_reducible rfl)
                  (try simp only [Act.put, zn1, zn2, zn3])
                  refine wpAnyH_done (by kernel_rfl) ?_ _
                  have HH := Lib.hid hHeld
                  clear hHeld
                  go_wp2_with fail
                  go_roundw
                  case rel =>
                    have hat : (Value.slice A7 (L.length + 1) c7).ownBlock = ovr.ownBlock ∨ (Value.slice A7 (L.length + 1) c7).ownBlock = some (wr.heap.size + 1) := by simpa using HAt8.out
                    have hbl : Below w3.heap.size w3 w8 := Below.grown (below_app HBr.out hz3) HG8.out (by simp; omega) (fun k hk => (HO2.out.lt k hk).1)
                    have hll2 : (o ++ ovK x y (k2 + 1)).length = L.length + 1 := by rw [HS2.out]; simp
                    refine ⟨k2 + 1, A7, c7, by omega, by go_num, by rw [hll2], ?_, ⟨Rd.offB HYr.out.rq HOfY.out HH.out, HYr.out.ok, HYr.out.cap⟩, ⟨Rd.offB HXr.out.rq HOfX.out HH.out, HXr.out.ok, HXr.out.cap⟩, by rw [hll2]; exact HOfY.out.push HYr.out.rq hat, by rw [hll2]; exact HOfX.out.push HXr.out.rq hat, hbl⟩
                    rw [hll2, HS2.out]
                    simpa [ndsC, Hid] using HO8.out
                  case measure => simp [intOf]; omega
            · have hk2e : k2 = y.length := by omega
              have HS3 := Lib.hid (show o ++ ovK x y k2 = o ++ endedOf y u by rw [hk2e, ovK_all HYl.out, HOvs.out])
              go_wp2_with fail
              go_roundw
              case rel => exact ⟨m + 1, y, A5, c5, o ++ endedOf y u, A8, c8, rfl, by rw [HS3.out], by go_num, HFar, HYr, by rw [← HS3.out]; exact HO2, by rw [← HS3.out]; exact HOfY, HBr.out⟩
              case measure => simp [intOf]; omega
end Od
end Go.Proofs.YtmlogmcnblgnbaaGreat
end

section
/- The walk of the law WaveRun. (bel2) -/
namespace Go.Proofs.YtmlogmcnblgnbaaGreat
open Go.RowKit Go.Sort
set_option linter.unusedSimpArgs false

namespace Od

set_option maxRecDepth 100000 in
set_option maxHeartbeats 8000000 in
theorem waveRun_any (An Ae : Option Addr) (cn ce : Nat) (ns : List Nd) (es : List Ed) (A : Option Addr) (c : Nat) (q : List Jb) (Af : Option Addr) (cf : Nat) (fails : List Str) (Ap : Option Addr) (cp : Nat) (picks : List Int) (w : World) (hg : GIw w An Ae ns es) (hq : QIn w A c q) (hf : Rd w w.heap.size 1 Af fails.length (svs fails)) (hp : Rd w w.heap.size 1 Ap picks.length (ints picks)) (hlf : fails.length ≤ 140737488351232) :
    Calls Tryz.prog 4 #[gV An ns.length cn Ae es.length ce, .slice A q.length c, .slice Af fails.length cf, .slice Ap picks.length cp] w fun e w' => e = .returned (.bool true) ∧ Below w.heap.size w w' := by
  have HG := Lib.hid hg
  have HQ := Lib.hid hq
  have HFl := Lib.hid hf
  have HP := Lib.hid hp
  clear hg hq hf hp
  cases d30 : decide ((30 : Int) < (q.length : Int))
  · cases d300 : decide ((300 : Int) < (picks.length : Int))
    · have h30 : ¬ (30 : Int) < (q.length : Int) := by simpa using d30
      go_enter Tryz.func4, Tryz.ntmps4
      go_wp2_with fail
      first | (refine wp_named ?_; intro W1 hW) | (refine calls_named ?_; intro W1 hW)
      have B1 : Below w.heap.size w W1 := by rw [hW]; exact (by repeat (first | exact Below.refl _ _ | assumption | refine Below.alloc ?_ (by first | omega | (simp <;> omega)) _ | refine Below.setCell ?_ (by first | omega | (simp <;> omega)) _ | refine Below.drew ?_))
      replace HG := Lib.hid (HG.out.at B1)
      replace HQ := Lib.hid (HQ.out.at B1)
      replace HFl := Lib.hid (HFl.out.at B1)
      replace HP := Lib.hid (HP.out.at B1)
      have nw1 : w.heap.size < W1.heap.size := by rw [hW]; simp <;> omega
      have c0 : W1.cell? ⟨w.heap.size, 0, none⟩ = some (.slice An ns.length cn) := by rw [hW]; go_simp
      have c1 : W1.cell? ⟨w.heap.size, 1, none⟩ = some (.slice Ae es.length ce) := by rw [hW]; go_simp
      clear hW
      have HB := Lib.hid B1
      clear B1
      refine (shown_any W1).mono ?_
      rintro e w2 ⟨rfl, hb⟩
      replace c0 := cellAt c0 hb (by omega)
      replace c1 := cellAt c1 hb (by omega)
      replace HG := Lib.hid (HG.out.at hb)
      replace HQ := Lib.hid (HQ.out.at hb)
      replace HFl := Lib.hid (HFl.out.at hb)
      replace HP := Lib.hid (HP.out.at hb)
      replace nw1 : w.heap.size < w2.heap.size := ltAt nw1 hb
      replace HB := Lib.hid (lift HB.out hb)
      clear hb
      go_wp2_with fail
      refine (small_any An Ae cn ce ns es w2).mono ?_
      rintro e w3 ⟨rfl, hb⟩
      replace c0 := cellAt c0 hb (by omega)
      replace c1 := cellAt c1 hb (by omega)
      replace HG := Lib.hid (HG.out.at hb)
      replace HQ := Lib.hid (HQ.out.at hb)
      replace HFl := Lib.hid (HFl.out.at hb)
      replace HP := Lib.hid (HP.out.at hb)
      replace nw1 : w.heap.size < w3.heap.size := ltAt nw1 hb
      replace HB := Lib.hid (lift HB.out hb)
      clear hb
      cases hsm : smallB ns es
      · go_wp2_with fail
        go_ret
        exact ⟨rfl, HB.out⟩
      · have hs2 := smallB_iff.1 hsm
        have hl1 := hs2.1
        have hl2 := hs2.2
        clear hs2
        have hxl := runR_len es fails picks q
        have hol := trR_len es fails picks q
        go_wp2_with fail
        refine (RunR_any An Ae ns.length cn ce es A c q Af cf fails Ap cp picks w3 HG.out.re HQ.out HFl.out HP.out (by omega) (by omega) (by omega)).mono ?_
        rintro e w4 ⟨A1, k1, A2, k2, rfl, hr1, hr2, hb⟩
        have HR1 := Lib.hid hr1
        have HR2 := Lib.hid hr2
        replace c0 := cellAt c0 hb (by omega)
        replace c1 := cellAt c1 hb (by omega)
        replace HG := Lib.hid (HG.out.at hb)
        replace HQ := Lib.hid (HQ.out.at hb)
        replace HFl := Lib.hid (HFl.out.at hb)
        replace HP := Lib.hid (HP.out.at hb)
        replace nw1 : w.heap.size < w4.heap.size := ltAt nw1 hb
        replace HB := Lib.hid (lift HB.out hb)
        clear hb hr1 hr2
        generalize hx : runR es fails picks q = x at *
        generalize ho : trR es fails picks q = o at *
        have HX := Lib.hid hx
        have HOo := Lib.hid ho
        clear hx ho
        go_wp2_with fail
        refine (RunW_any An Ae ns.length cn ce es A c q Af cf fails Ap cp picks w4 HG.out.re HQ.out HFl.out HP.out (by omega) (by omega) (by omega)).mono ?_
        rw [HX.out]
        rintro e w5 ⟨A3, k3, rfl, hk3, hr3, hb⟩
        have HR3 := Lib.hid hr3
        replace c0 := cellAt c0 hb (by omega)
        replace c1 := cellAt c1 hb (by omega)
        replace HG := Lib.hid (HG.out.at hb)
        replace HQ := Lib.hid (HQ.out.at hb)
        replace HFl := Lib.hid (HFl.out.at hb)
        replace HP := Lib.hid (HP.out.at hb)
        replace nw1 : w.heap.size < w5.heap.size := ltAt nw1 hb
        replace HB := Lib.hid (lift HB.out hb)
        replace HR1 := Lib.hid (HR1.out.at hb)
        replace HR2 := Lib.hid (HR2.out.at hb)
        clear hb hr3
        go_wp2_with fail
        refine (SameJobs_any A3 A1 k3 k1 x x w5 HR3.out HR1.out (by omega)).mono ?_
        rw [decide_eq_true rfl]
        rintro e w6 ⟨rfl, hb⟩
        replace c0 := cellAt c0 hb (by omega)
        replace c1 := cellAt c1 hb (by omega)
        replace HG := Lib.hid (HG.out.at hb)
        replace HQ := Lib.hid (HQ.out.at hb)
        replace HFl := Lib.hid (HFl.out.at hb)
        replace HP := Lib.hid (HP.out.at hb)
        replace nw1 : w.heap.size < w6.heap.size := ltAt nw1 hb
        replace HB := Lib.hid (lift HB.out hb)
        replace HR1 := Lib.hid (HR1.out.at hb)
        replace HR2 := Lib.hid (HR2.out.at hb)
        clear hb HR3
        go_wp2_with fail
        refine (TraceW_any An Ae ns.length cn ce es A c q Af cf fails Ap cp picks w6 HG.out.re HQ.out HFl.out HP.out (by omega) (by omega) (by omega)).mono ?_
        rw [HOo.out]
        rintro e w7 ⟨A4, k4, rfl, hk4, hr4, hb⟩
        have HR4 := Lib.hid hr4
        replace c0 := cellAt c0 hb (by omega)
        replace c1 := cellAt c1 hb (by omega)
        replace HG := Lib.hid (HG.out.at hb)
        replace HQ := Lib.hid (HQ.out.at hb)
        replace HFl := Lib.hid (HFl.out.at hb)
        replace HP := Lib.hid (HP.out.at hb)
        replace nw1 : w.heap.size < w7.heap.size := ltAt nw1 hb
        replace HB := Lib.hid (lift HB.out hb)
        replace HR1 := Lib.hid (HR1.out.at hb)
        replace HR2 := Lib.hid (HR2.out.at hb)
        clear hb hr4
        go_wp2_with fail
        refine (SameDone_any A4 A2 k4 k2 o o w7 HR4.out HR2.out (by omega)).mono ?_
        rw [decide_eq_true rfl]
        rintro e w8 ⟨rfl, hb⟩
        replace c0 := cellAt c0 hb (by omega)
        replace c1 := cellAt c1 hb (by omega)
        replace HG := Lib.hid (HG.out.at hb)
        replace HQ := Lib.hid (HQ.out.at hb)
        replace HFl := Lib.hid (HFl.out.at hb)
        replace HP := Lib.hid (HP.out.at hb)
        replace nw1 : w.heap.size < w8.heap.size := ltAt nw1 hb
        replace HB := Lib.hid (lift HB.out hb)
        replace HR1 := Lib.hid (HR1.out.at hb)
        replace HR2 := Lib.hid (HR2.out.at hb)
        clear hb
        go_wp2_with fail
        go_ret
        exact ⟨rfl, HB.out⟩
    · go_enter Tryz.func4, Tryz.ntmps4
      go_wp2_with fail
      first | (refine wp_named ?_; intro W1 hW) | (refine calls_named ?_; intro W1 hW)
      have B1 : Below w.heap.size w W1 := by rw [hW]; exact (by repeat (first | exact Below.refl _ _ | assumption | refine Below.alloc ?_ (by first | omega | (simp <;> omega)) _ | refine Below.setCell ?_ (by first | omega | (simp <;> omega)) _ | refine Below.drew ?_))
      replace HG := Lib.hid (HG.out.at B1)
      replace HQ := Lib.hid (HQ.out.at B1)
      replace HFl := Lib.hid (HFl.out.at B1)
      replace HP := Lib.hid (HP.out.at B1)
      have nw1 : w.heap.size < W1.heap.size := by rw [hW]; simp <;> omega
      have c0 : W1.cell? ⟨w.heap.size, 0, none⟩ = some (.slice An ns.length cn) := by rw [hW]; go_simp
      have c1 : W1.cell? ⟨w.heap.size, 1, none⟩ = some (.slice Ae es.length ce) := by rw [hW]; go_simp
      clear hW
      have HB := Lib.hid B1
      clear B1
      refine (shown_any W1).mono ?_
      rintro e w2 ⟨rfl, hb⟩
      replace c0 := cellAt c0 hb (by omega)
      replace c1 := cellAt c1 hb (by omega)
      replace HG := Lib.hid (HG.out.at hb)
      replace HQ := Lib.hid (HQ.out.at hb)
      replace HFl := Lib.hid (HFl.out.at hb)
      replace HP := Lib.hid (HP.out.at hb)
      replace nw1 : w.heap.size < w2.heap.size := ltAt nw1 hb
      replace HB := Lib.hid (lift HB.out hb)
      clear hb
      go_wp2_with fail
      refine (small_any An Ae cn ce ns es w2).mono ?_
      rintro e w3 ⟨rfl, hb⟩
      replace c0 := cellAt c0 hb (by omega)
      replace c1 := cellAt c1 hb (by omega)
      replace HG := Lib.hid (HG.out.at hb)
      replace HQ := Lib.hid (HQ.out.at hb)
      replace HFl := Lib.hid (HFl.out.at hb)
      replace HP := Lib.hid (HP.out.at hb)
      replace nw1 : w.heap.size < w3.heap.size := ltAt nw1 hb
      replace HB := Lib.hid (lift HB.out hb)
      clear hb
      cases hsm : smallB ns es
      · go_wp2_with fail
        go_ret
        exact ⟨rfl, HB.out⟩
      · go_wp2_with fail
        go_ret
        exact ⟨rfl, HB.out⟩
  · go_enter Tryz.func4, Tryz.ntmps4
    go_wp2_with fail
    first | (refine wp_named ?_; intro W1 hW) | (refine calls_named ?_; intro W1 hW)
    have B1 : Below w.heap.size w W1 := by rw [hW]; exact (by repeat (first | exact Below.refl _ _ | assumption | refine Below.alloc ?_ (by first | omega | (simp <;> omega)) _ | refine Below.setCell ?_ (by first | omega | (simp <;> omega)) _ | refine Below.drew ?_))
    replace HG := Lib.hid (HG.out.at B1)
    replace HQ := Lib.hid (HQ.out.at B1)
    replace HFl := Lib.hid (HFl.out.at B1)
    replace HP := Lib.hid (HP.out.at B1)
    have nw1 : w.heap.size < W1.heap.size := by rw [hW]; simp <;> omega
    have c0 : W1.cell? ⟨w.heap.size, 0, none⟩ = some (.slice An ns.length cn) := by rw [hW]; go_simp
    have c1 : W1.cell? ⟨w.heap.size, 1, none⟩ = some (.slice Ae es.length ce) := by rw [hW]; go_simp
    clear hW
    have HB := Lib.hid B1
    clear B1
    refine (shown_any W1).mono ?_
    rintro e w2 ⟨rfl, hb⟩
    replace c0 := cellAt c0 hb (by omega)
    replace c1 := cellAt c1 hb (by omega)
    replace HG := Lib.hid (HG.out.at hb)
    replace HQ := Lib.hid (HQ.out.at hb)
    replace HFl := Lib.hid (HFl.out.at hb)
    replace HP := Lib.hid (HP.out.at hb)
    replace nw1 : w.heap.size < w2.heap.size := ltAt nw1 hb
    replace HB := Lib.hid (lift HB.out hb)
    clear hb
    go_wp2_with fail
    refine (small_any An Ae cn ce ns es w2).mono ?_
    rintro e w3 ⟨rfl, hb⟩
    replace c0 := cellAt c0 hb (by omega)
    replace c1 := cellAt c1 hb (by omega)
    replace HG := Lib.hid (HG.out.at hb)
    replace HQ := Lib.hid (HQ.out.at hb)
    replace HFl := Lib.hid (HFl.out.at hb)
    replace HP := Lib.hid (HP.out.at hb)
    replace nw1 : w.heap.size < w3.heap.size := ltAt nw1 hb
    replace HB := Lib.hid (lift HB.out hb)
    clear hb
    cases hsm : smallB ns es
    · go_wp2_with fail
      go_ret
      exact ⟨rfl, HB.out⟩
    · go_wp2_with fail
      go_ret
      exact ⟨rfl, HB.out⟩
end Od
end Go.Proofs.YtmlogmcnblgnbaaGreat
end
