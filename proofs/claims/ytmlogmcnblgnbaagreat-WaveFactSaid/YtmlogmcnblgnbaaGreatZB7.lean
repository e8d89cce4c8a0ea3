/- My texts, joined for the claim: QAheadW GTail GIns QWaitsW. -/
import Derived.Test.YtmlogmcnblgnbaaGreatZB0
import Derived.Test.YtmlogmcnblgnbaaGreatZB6
import Derived.Test.YtmlogmcnblgnbaaGreatZB1
import Derived.Deep.AppendSrc
import Derived.Deep.Upon
import Derived.Test.YtmlogmcnblgnbaaGreatZB3

section
/- The walks of queue.ahead and matinsref20.ahead. (bel2) -/
namespace Go.Proofs.YtmlogmcnblgnbaaGreat
open Go.RowKit
set_option linter.unusedSimpArgs false

namespace Od
theorem aheadJ_mk (es : List Ed) (s s' : Str) (t r d t' r' d' : Int) : aheadJ es (s, t, r, d) (s', t', r', d') = if r = 3 ∨ s = s' then false else if r = 2 then es.any (aheadB s s') || es.any (aheadB s' s)
  else (es.any (aheadB s' s) && endsB (s, t, r, d)) || (es.any (aheadB s s') && !endsB (s', t', r', d')) := rfl
set_option maxRecDepth 100000 in
set_option maxHeartbeats 16000000 in
theorem aheadQ_any (An Ae : Option Addr) (nn cn ce : Nat) (es : List Ed) (s s' : Str) (t r d t' r' d' : Int) (w : World) (hr : Rd w w.heap.size 3 Ae es.length (edsC es)) (hl : es.length ≤ 1000000) :
    Calls Tryz.prog 68 #[gV An nn cn Ae es.length ce, jbV (s, t, r, d), jbV (s', t', r', d')] w fun e w' => e = .returned (.bool (aheadJ es (s, t, r, d) (s', t', r', d'))) ∧ Below w.heap.size w w' := by
  have Hr := Lib.hid hr
  clear hr
  have hm := aheadJ_mk es s s' t r d t' r' d'
  have HM0 := Lib.hid hm
  clear hm
  go_enter Tryz.func68, Tryz.ntmps68
  go_wp2_with fail
  first | (refine wp_named ?_; intro W1 hW) | (refine calls_named ?_; intro W1 hW)
  have B1 : Below w.heap.size w W1 := by rw [hW]; exact (by repeat (first | exact Below.refl _ _ | assumption | refine Below.alloc ?_ (by first | omega | (simp <;> omega)) _ | refine Below.setCell ?_ (by first | omega | (simp <;> omega)) _ | refine Below.drew ?_))
  replace Hr := Lib.hid (Hr.out.at B1)
  have n1 : w.heap.size < W1.heap.size := by rw [hW]; simp <;> omega
  have n2 : w.heap.size + 1 < W1.heap.size := by rw [hW]; simp <;> omega
  have n3 : w.heap.size + 1 + 1 < W1.heap.size := by rw [hW]; simp <;> omega
  have g0 : W1.cell? ⟨w.heap.size, 0, none⟩ = some (.slice An nn cn) := by rw [hW]; go_simp
  have g1 : W1.cell? ⟨w.heap.size, 1, none⟩ = some (.slice Ae es.length ce) := by rw [hW]; go_simp
  have x0 : W1.cell? ⟨w.heap.size + 1, 0, none⟩ = some (sv s) := by rw [hW]; go_simp
  have x1 : W1.cell? ⟨w.heap.size + 1, 1, none⟩ = some (.int .i64 t) := by rw [hW]; go_simp
  have x2 : W1.cell? ⟨w.heap.size + 1, 2, none⟩ = some (.int .i64 r) := by rw [hW]; go_simp
  have x3 : W1.cell? ⟨w.heap.size + 1, 3, none⟩ = some (.int .i64 d) := by rw [hW]; go_simp
  have y0 : W1.cell? ⟨w.heap.size + 1 + 1, 0, none⟩ = some (sv s') := by rw [hW]; go_simp
  have y1 : W1.cell? ⟨w.heap.size + 1 + 1, 1, none⟩ = some (.int .i64 t') := by rw [hW]; go_simp
  have y2 : W1.cell? ⟨w.heap.size + 1 + 1, 2, none⟩ = some (.int .i64 r') := by rw [hW]; go_simp
  have y3 : W1.cell? ⟨w.heap.size + 1 + 1, 3, none⟩ = some (.int .i64 d') := by rw [hW]; go_simp
  clear hW
  have HB := Lib.hid B1
  clear B1
  try go_wp2_with fail
  refine wp_region_held_drew (S := fun w' => Below W1.heap.size W1 w') (by kernel_rfl) (Below.drew (Below.refl _ _)) (fun hHeld => ?_)
  refine tY (i := 0) (v := ?_) rfl ?_ hHeld ?_; rotate_left 1; focus (intro w' hSw; have hCell := fun (b o : Nat) (h : b < W1.heap.size) => hSw.cell (p := ⟨b, o, none⟩) h; clear hSw; go_simp; try with_reducible rfl)
  (try simp only [Act.put, zn1, zn2, zn3])
  refine tY (i := 1) (v := ?_) rfl ?_ hHeld ?_; rotate_left 1; focus (intro w' hSw; clear hSw; go_simp; try with_reducible rfl)
  (try simp only [Act.put, zn1, zn2, zn3])
  refine tY (i := 2) (v := ?_) rfl ?_ hHeld ?_; rotate_left 1; focus (intro w' hSw; have hCell := fun (b o : Nat) (h : b < W1.heap.size) => hSw.cell (p := ⟨b, o, none⟩) h; clear hSw; go_simp; try with_reducible rfl)
  (try simp only [Act.put, zn1, zn2, zn3])
  refine tY (i := 3) (v := ?_) rfl ?_ hHeld ?_; rotate_left 1; focus (intro w' hSw; clear hSw; go_simp; try with_reducible rfl)
  (try simp only [Act.put, zn1, zn2, zn3])
  refine tY (i := 4) (v := ?_) rfl ?_ hHeld ?_; rotate_left 1; focus (intro w' hSw; have hCell := fun (b o : Nat) (h : b < W1.heap.size) => hSw.cell (p := ⟨b, o, none⟩) h; clear hSw; go_simp; try with_reducible rfl)
  (try simp only [Act.put, zn1, zn2, zn3])
  refine tY (i := 6) (v := ?_) rfl ?_ hHeld ?_; rotate_left 1; focus (intro w' hSw; have hCell := fun (b o : Nat) (h : b < W1.heap.size) => hSw.cell (p := ⟨b, o, none⟩) h; clear hSw; go_simp; try with_reducible rfl)
  (try simp only [Act.put, zn1, zn2, zn3])
  refine tY (i := 7) (v := ?_) rfl ?_ hHeld ?_; rotate_left 1; focus (intro w' hSw; clear hSw; go_simp; try with_reducible rfl)
  (try simp only [Act.put, zn1, zn2, zn3])
  refine tY (i := 8) (v := ?_) rfl ?_ hHeld ?_; rotate_left 1; focus (intro w' hSw; have hCell := fun (b o : Nat) (h : b < W1.heap.size) => hSw.cell (p := ⟨b, o, none⟩) h; clear hSw; go_simp; try with_reducible rfl)
  (try simp only [Act.put, zn1, zn2, zn3])
  refine tY (i := 9) (v := ?_) rfl ?_ hHeld ?_; rotate_left 1; focus (intro w' hSw; clear hSw; go_simp; try with_reducible rfl)
  (try simp only [Act.put, zn1, zn2, zn3])
  refine tY (i := 10) (v := ?_) rfl ?_ hHeld ?_; rotate_left 1; focus (intro w' hSw; have hCell := fun (b o : Nat) (h : b < W1.heap.size) => hSw.cell (p := ⟨b, o, none⟩) h; clear hSw; go_simp; try with_reducible rfl)
  (try simp only [Act.put, zn1, zn2, zn3])
  refine ready_one (i := 5) rfl (by kernel_rfl) (fun K hK => ?_)
  go_simp
  refine (Ahead_any An Ae nn cn ce es s s' _ (Hr.out.at hHeld) hl).mono ?_
  rintro e v1 ⟨rfl, hb⟩
  refine hK.out _ _ ?_ (fun hHeld2 => ?_)
  · (try dsimp only); first | exact Below.trans hHeld (Below.mono hb hHeld.size) | exact hHeld | exact Below.drew hHeld | exact (by repeat (first | exact Below.refl _ _ | assumption | refine Below.alloc ?_ (by first | omega | (simp <;> omega)) _ | refine Below.setCell ?_ (by first | omega | (simp <;> omega)) _ | refine Below.drew ?_))
  clear hK K hHeld; have hHeld := hHeld2; clear hHeld2; (try simp only [Act.put, zn1, zn2, zn3])
  refine ready_one (i := 11) rfl (by kernel_rfl) (fun K hK => ?_)
  go_simp
  refine (Ahead_any An Ae nn cn ce es s' s _ (Hr.out.at hHeld) hl).mono ?_
  rintro e v2 ⟨rfl, hb⟩
  refine hK.out _ _ ?_ (fun hHeld2 => ?_)
  · (try dsimp only); first | exact Below.trans hHeld (Below.mono hb hHeld.size) | exact hHeld | exact Below.drew hHeld | exact (by repeat (first | exact Below.refl _ _ | assumption | refine Below.alloc ?_ (by first | omega | (simp <;> omega)) _ | refine Below.setCell ?_ (by first | omega | (simp <;> omega)) _ | refine Below.drew ?_))
  clear hK K hHeld; have hHeld := hHeld2; clear hHeld2; (try simp only [Act.put, zn1, zn2, zn3])
  refine tY (i := 12) (v := ?_) rfl ?_ hHeld ?_; rotate_left 1; focus (intro w' hSw; clear hSw; go_simp; try with_reducible rfl)
  (try simp only [Act.put, zn1, zn2, zn3])
  refine tY (i := 13) (v := ?_) rfl ?_ hHeld ?_; rotate_left 1; focus (intro w' hSw; clear hSw; go_simp; try with_reducible rfl)
  (try simp only [Act.put, zn1, zn2, zn3])
  refine wpAnyH_done (by kernel_rfl) ?_ _
  replace g0 := cellAt g0 hHeld (by omega)
  replace g1 := cellAt g1 hHeld (by omega)
  replace x0 := cellAt x0 hHeld (by omega)
  replace x1 := cellAt x1 hHeld (by omega)
  replace x2 := cellAt x2 hHeld (by omega)
  replace x3 := cellAt x3 hHeld (by omega)
  replace y0 := cellAt y0 hHeld (by omega)
  replace y1 := cellAt y1 hHeld (by omega)
  replace y2 := cellAt y2 hHeld (by omega)
  replace y3 := cellAt y3 hHeld (by omega)
  replace Hr := Lib.hid (Hr.out.at hHeld)
  replace n1 : w.heap.size < v2.heap.size := ltAt n1 hHeld
  replace n2 : w.heap.size + 1 < v2.heap.size := ltAt n2 hHeld
  replace n3 : w.heap.size + 1 + 1 < v2.heap.size := ltAt n3 hHeld
  replace HB := Lib.hid (lift HB.out hHeld)
  clear hHeld
  have HM := Lib.hid HM0.out
  clear HM0
  generalize es.any (aheadB s s') = p1 at *
  generalize es.any (aheadB s' s) = p2 at *
  go_wp2_with fail
  refine (open_any s t r d v2).mono ?_
  by_cases r3 : r = 3
  · have ho : openB (s, t, r, d) = false := by simp [openB, r3]
    rw [ho]
    rintro e v3 ⟨rfl, hb⟩
    replace g0 := cellAt g0 hb (by omega)
    replace g1 := cellAt g1 hb (by omega)
    replace x0 := cellAt x0 hb (by omega)
    replace x1 := cellAt x1 hb (by omega)
    replace x2 := cellAt x2 hb (by omega)
    replace x3 := cellAt x3 hb (by omega)
    replace y0 := cellAt y0 hb (by omega)
    replace y1 := cellAt y1 hb (by omega)
    replace y2 := cellAt y2 hb (by omega)
    replace y3 := cellAt y3 hb (by omega)
    replace Hr := Lib.hid (Hr.out.at hb)
    replace n1 : w.heap.size < v3.heap.size := ltAt n1 hb
    replace n2 : w.heap.size + 1 < v3.heap.size := ltAt n2 hb
    replace n3 : w.heap.size + 1 + 1 < v3.heap.size := ltAt n3 hb
    replace HB := Lib.hid (lift HB.out hb)
    clear hb ho
    have R3 := Lib.hid r3
    clear r3
    go_wp2_with fail
    go_ret
    exact ⟨ret_bool (by rw [HM.out]; simp [R3.out]), HB.out⟩
  · have ho : openB (s, t, r, d) = true := by simp [openB, r3]
    rw [ho]
    rintro e v3 ⟨rfl, hb⟩
    replace g0 := cellAt g0 hb (by omega)
    replace g1 := cellAt g1 hb (by omega)
    replace x0 := cellAt x0 hb (by omega)
    replace x1 := cellAt x1 hb (by omega)
    replace x2 := cellAt x2 hb (by omega)
    replace x3 := cellAt x3 hb (by omega)
    replace y0 := cellAt y0 hb (by omega)
    replace y1 := cellAt y1 hb (by omega)
    replace y2 := cellAt y2 hb (by omega)
    replace y3 := cellAt y3 hb (by omega)
    replace Hr := Lib.hid (Hr.out.at hb)
    replace n1 : w.heap.size < v3.heap.size := ltAt n1 hb
    replace n2 : w.heap.size + 1 < v3.heap.size := ltAt n2 hb
    replace n3 : w.heap.size + 1 + 1 < v3.heap.size := ltAt n3 hb
    replace HB := Lib.hid (lift HB.out hb)
    clear hb ho
    have R3 := Lib.hid r3
    clear r3
    cases hss : (s == s')
    · have S1 := Lib.hid (show ¬ s = s' by simpa using hss)
      by_cases r2 : r = 2
      · have rb : (r == 2) = true := by simpa using r2
        have R2 := Lib.hid r2
        clear r2
        cases p1
        · cases p2
          · go_wp2_with fail
            go_ret
            exact ⟨ret_bool (by rw [HM.out]; simp [R3.out, S1.out, R2.out]), HB.out⟩
          · go_wp2_with fail
            go_ret
            exact ⟨ret_bool (by rw [HM.out]; simp [R3.out, S1.out, R2.out]), HB.out⟩
        · cases p2
          · go_wp2_with fail
            go_ret
            exact ⟨ret_bool (by rw [HM.out]; simp [R3.out, S1.out, R2.out]), HB.out⟩
          · go_wp2_with fail
            go_ret
            exact ⟨ret_bool (by rw [HM.out]; simp [R3.out, S1.out, R2.out]), HB.out⟩
      · have rb : (r == 2) = false := by simpa using r2
        have R2 := Lib.hid r2
        clear r2
        cases p2
        · cases p1
          · go_wp2_with fail
            go_ret
            exact ⟨ret_bool (by rw [HM.out]; simp [R3.out, S1.out, R2.out]), HB.out⟩
          · go_wp2_with fail
            refine (ends_any s' t' r' d' v3).mono ?_
            rintro e v5 ⟨rfl, hb⟩
            replace g0 := cellAt g0 hb (by omega)
            replace g1 := cellAt g1 hb (by omega)
            replace x0 := cellAt x0 hb (by omega)
            replace x1 := cellAt x1 hb (by omega)
            replace x2 := cellAt x2 hb (by omega)
            replace x3 := cellAt x3 hb (by omega)
            replace y0 := cellAt y0 hb (by omega)
            replace y1 := cellAt y1 hb (by omega)
            replace y2 := cellAt y2 hb (by omega)
            replace y3 := cellAt y3 hb (by omega)
            replace Hr := Lib.hid (Hr.out.at hb)
            replace n1 : w.heap.size < v5.heap.size := ltAt n1 hb
            replace n2 : w.heap.size + 1 < v5.heap.size := ltAt n2 hb
            replace n3 : w.heap.size + 1 + 1 < v5.heap.size := ltAt n3 hb
            replace HB := Lib.hid (lift HB.out hb)
            clear hb
            cases he2 : endsB (s', t', r', d')
            · have E2 := Lib.hid he2
              go_wp2_with fail
              go_ret
              exact ⟨ret_bool (by rw [HM.out]; simp [R3.out, S1.out, R2.out, E2.out, R2.out]), HB.out⟩
            · have E2 := Lib.hid he2
              go_wp2_with fail
              go_ret
              exact ⟨ret_bool (by rw [HM.out]; simp [R3.out, S1.out, R2.out, E2.out, R2.out]), HB.out⟩
        · go_wp2_with fail
          refine (ends_any s t r d v3).mono ?_
          rintro e v4 ⟨rfl, hb⟩
          replace g0 := cellAt g0 hb (by omega)
          replace g1 := cellAt g1 hb (by omega)
          replace x0 := cellAt x0 hb (by omega)
          replace x1 := cellAt x1 hb (by omega)
          replace x2 := cellAt x2 hb (by omega)
          replace x3 := cellAt x3 hb (by omega)
          replace y0 := cellAt y0 hb (by omega)
          replace y1 := cellAt y1 hb (by omega)
          replace y2 := cellAt y2 hb (by omega)
          replace y3 := cellAt y3 hb (by omega)
          replace Hr := Lib.hid (Hr.out.at hb)
          replace n1 : w.heap.size < v4.heap.size := ltAt n1 hb
          replace n2 : w.heap.size + 1 < v4.heap.size := ltAt n2 hb
          replace n3 : w.heap.size + 1 + 1 < v4.heap.size := ltAt n3 hb
          replace HB := Lib.hid (lift HB.out hb)
          clear hb
          cases he : endsB (s, t, r, d)
          · have E1 := Lib.hid he
            cases p1
            · go_wp2_with fail
              go_ret
              exact ⟨ret_bool (by rw [HM.out]; simp [R3.out, S1.out, R2.out, E1.out]), HB.out⟩
            · go_wp2_with fail
              refine (ends_any s' t' r' d' v4).mono ?_
              rintro e v5 ⟨rfl, hb⟩
              replace g0 := cellAt g0 hb (by omega)
              replace g1 := cellAt g1 hb (by omega)
              replace x0 := cellAt x0 hb (by omega)
              replace x1 := cellAt x1 hb (by omega)
              replace x2 := cellAt x2 hb (by omega)
              replace x3 := cellAt x3 hb (by omega)
              replace y0 := cellAt y0 hb (by omega)
              replace y1 := cellAt y1 hb (by omega)
              replace y2 := cellAt y2 hb (by omega)
              replace y3 := cellAt y3 hb (by omega)
              replace Hr := Lib.hid (Hr.out.at hb)
              replace n1 : w.heap.size < v5.heap.size := ltAt n1 hb
              replace n2 : w.heap.size + 1 < v5.heap.size := ltAt n2 hb
              replace n3 : w.heap.size + 1 + 1 < v5.heap.size := ltAt n3 hb
              replace HB := Lib.hid (lift HB.out hb)
              clear hb
              cases he2 : endsB (s', t', r', d')
              · have E2 := Lib.hid he2
                go_wp2_with fail
                go_ret
                exact ⟨ret_bool (by rw [HM.out]; simp [R3.out, S1.out, R2.out, E2.out, E1.out]), HB.out⟩
              · have E2 := Lib.hid he2
                go_wp2_with fail
                go_ret
                exact ⟨ret_bool (by rw [HM.out]; simp [R3.out, S1.out, R2.out, E2.out, E1.out]), HB.out⟩
          · have E1 := Lib.hid he
            go_wp2_with fail
            go_ret
            exact ⟨ret_bool (by rw [HM.out]; simp [R3.out, S1.out, R2.out, E1.out]), HB.out⟩
    · have S1 := Lib.hid (show s = s' by simpa using hss)
      go_wp2_with fail
      go_ret
      exact ⟨ret_bool (by rw [HM.out]; simp [S1.out]), HB.out⟩
set_option maxRecDepth 100000 in
set_option maxHeartbeats 16000000 in
theorem ahead20_any (An Ae : Option Addr) (nn cn ce : Nat) (es : List Ed) (s s' : Str) (t r d t' r' d' : Int) (w : World) (hr : Rd w w.heap.size 3 Ae es.length (edsC es)) (hl : es.length ≤ 1000000) (h1 : r' = 1) :
    Calls Tryz.prog 115 #[gV An nn cn Ae es.length ce, jbV (s, t, r, d), jbV (s', t', r', d')] w fun e w' => e = .returned (.bool (aheadJ es (s, t, r, d) (s', t', r', d'))) ∧ Below w.heap.size w w' := by
  have Hr := Lib.hid hr
  clear hr
  subst h1
  have hm := aheadJ_mk es s s' t r d t' 1 d'
  have HM := Lib.hid hm
  clear hm
  by_cases r3 : r = 3
  · have rb : (r == 3) = true := by simpa using r3
    have R3 := Lib.hid r3
    clear r3
    go_enter Tryz.func115, Tryz.ntmps115
    go_wp2_with fail
    go_ret
    exact ⟨ret_bool (by rw [HM.out]; simp [R3.out]), (by repeat (first | exact Below.refl _ _ | assumption | refine Below.alloc ?_ (by first | omega | (simp <;> omega)) _ | refine Below.setCell ?_ (by first | omega | (simp <;> omega)) _ | refine Below.drew ?_))⟩
  · have rb : (r == 3) = false := by simpa using r3
    have R3 := Lib.hid r3
    clear r3
    cases hss : (s == s')
    · have S1 := Lib.hid (show ¬ s = s' by simpa using hss)
      go_enter Tryz.func115, Tryz.ntmps115
      go_wp2_with fail
      first | (refine wp_named ?_; intro W1 hW) | (refine calls_named ?_; intro W1 hW)
      have B1 : Below w.heap.size w W1 := by rw [hW]; exact (by repeat (first | exact Below.refl _ _ | assumption | refine Below.alloc ?_ (by first | omega | (simp <;> omega)) _ | refine Below.setCell ?_ (by first | omega | (simp <;> omega)) _ | refine Below.drew ?_))
      replace Hr := Lib.hid (Hr.out.at B1)
      have n1 : w.heap.size < W1.heap.size := by rw [hW]; simp <;> omega
      have n2 : w.heap.size + 1 < W1.heap.size := by rw [hW]; simp <;> omega
      have n3 : w.heap.size + 1 + 1 < W1.heap.size := by rw [hW]; simp <;> omega
      have g0 : W1.cell? ⟨w.heap.size, 0, none⟩ = some (.slice An nn cn) := by rw [hW]; go_simp
      have g1 : W1.cell? ⟨w.heap.size, 1, none⟩ = some (.slice Ae es.length ce) := by rw [hW]; go_simp
      have x0 : W1.cell? ⟨w.heap.size + 1, 0, none⟩ = some (sv s) := by rw [hW]; go_simp
      have x1 : W1.cell? ⟨w.heap.size + 1, 1, none⟩ = some (.int .i64 t) := by rw [hW]; go_simp
      have x2 : W1.cell? ⟨w.heap.size + 1, 2, none⟩ = some (.int .i64 r) := by rw [hW]; go_simp
      have x3 : W1.cell? ⟨w.heap.size + 1, 3, none⟩ = some (.int .i64 d) := by rw [hW]; go_simp
      have y0 : W1.cell? ⟨w.heap.size + 1 + 1, 0, none⟩ = some (sv s') := by rw [hW]; go_simp
      have y1 : W1.cell? ⟨w.heap.size + 1 + 1, 1, none⟩ = some (.int .i64 t') := by rw [hW]; go_simp
      have y2 : W1.cell? ⟨w.heap.size + 1 + 1, 2, none⟩ = some (.int .i64 1) := by rw [hW]; go_simp
      have y3 : W1.cell? ⟨w.heap.size + 1 + 1, 3, none⟩ = some (.int .i64 d') := by rw [hW]; go_simp
      clear hW
      have HB := Lib.hid B1
      clear B1
      try go_wp2_with fail
      refine wp_region_held_drew (S := fun w' => Below W1.heap.size W1 w') (by kernel_rfl) (Below.drew (Below.refl _ _)) (fun hHeld => ?_)
      refine tY (i := 0) (v := ?_) rfl ?_ hHeld ?_; rotate_left 1; focus (intro w' hSw; have hCell := fun (b o : Nat) (h : b < W1.heap.size) => hSw.cell (p := ⟨b, o, none⟩) h; clear hSw; go_simp; try with_reducible rfl)
      (try simp only [Act.put, zn1, zn2, zn3])
      refine tY (i := 1) (v := ?_) rfl ?_ hHeld ?_; rotate_left 1; focus (intro w' hSw; clear hSw; go_simp; try with_reducible rfl)
      (try simp only [Act.put, zn1, zn2, zn3])
      refine tY (i := 2) (v := ?_) rfl ?_ hHeld ?_; rotate_left 1; focus (intro w' hSw; have hCell := fun (b o : Nat) (h : b < W1.heap.size) => hSw.cell (p := ⟨b, o, none⟩) h; clear hSw; go_simp; try with_reducible rfl)
      (try simp only [Act.put, zn1, zn2, zn3])
      refine tY (i := 3) (v := ?_) rfl ?_ hHeld ?_; rotate_left 1; focus (intro w' hSw; clear hSw; go_simp; try with_reducible rfl)
      (try simp only [Act.put, zn1, zn2, zn3])
      refine tY (i := 4) (v := ?_) rfl ?_ hHeld ?_; rotate_left 1; focus (intro w' hSw; have hCell := fun (b o : Nat) (h : b < W1.heap.size) => hSw.cell (p := ⟨b, o, none⟩) h; clear hSw; go_simp; try with_reducible rfl)
      (try simp only [Act.put, zn1, zn2, zn3])
      refine tY (i := 6) (v := ?_) rfl ?_ hHeld ?_; rotate_left 1; focus (intro w' hSw; have hCell := fun (b o : Nat) (h : b < W1.heap.size) => hSw.cell (p := ⟨b, o, none⟩) h; clear hSw; go_simp; try with_reducible rfl)
      (try simp only [Act.put, zn1, zn2, zn3])
      refine tY (i := 7) (v := ?_) rfl ?_ hHeld ?_; rotate_left 1; focus (intro w' hSw; clear hSw; go_simp; try with_reducible rfl)
      (try simp only [Act.put, zn1, zn2, zn3])
      refine tY (i := 8) (v := ?_) rfl ?_ hHeld ?_; rotate_left 1; focus (intro w' hSw; have hCell := fun (b o : Nat) (h : b < W1.heap.size) => hSw.cell (p := ⟨b, o, none⟩) h; clear hSw; go_simp; try with_reducible rfl)
      (try simp only [Act.put, zn1, zn2, zn3])
      refine tY (i := 9) (v := ?_) rfl ?_ hHeld ?_; rotate_left 1; focus (intro w' hSw; clear hSw; go_simp; try with_reducible rfl)
      (try simp only [Act.put, zn1, zn2, zn3])
      refine tY (i := 10) (v := ?_) rfl ?_ hHeld ?_; rotate_left 1; focus (intro w' hSw; have hCell := fun (b o : Nat) (h : b < W1.heap.size) => hSw.cell (p := ⟨b, o, none⟩) h; clear hSw; go_simp; try with_reducible rfl)
      (try simp only [Act.put, zn1, zn2, zn3])
      refine ready_one (i := 5) rfl (by kernel_rfl) (fun K hK => ?_)
      go_simp
      refine (refAhead_any An Ae nn cn ce es s s' _ (Hr.out.at hHeld) hl).mono ?_
      rintro e v1 ⟨rfl, hb⟩
      refine hK.out _ _ ?_ (fun hHeld2 => ?_)
      · (try dsimp only); first | exact Below.trans hHeld (Below.mono hb hHeld.size) | exact hHeld | exact Below.drew hHeld | exact (by repeat (first | exact Below.refl _ _ | assumption | refine Below.alloc ?_ (by first | omega | (simp <;> omega)) _ | refine Below.setCell ?_ (by first | omega | (simp <;> omega)) _ | refine Below.drew ?_))
      clear hK K hHeld; have hHeld := hHeld2; clear hHeld2; (try simp only [Act.put, zn1, zn2, zn3])
      refine ready_one (i := 11) rfl (by kernel_rfl) (fun K hK => ?_)
      go_simp
      refine (refAhead_any An Ae nn cn ce es s' s _ (Hr.out.at hHeld) hl).mono ?_
      rintro e v2 ⟨rfl, hb⟩
      refine hK.out _ _ ?_ (fun hHeld2 => ?_)
      · (try dsimp only); first | exact Below.trans hHeld (Below.mono hb hHeld.size) | exact hHeld | exact Below.drew hHeld | exact (by repeat (first | exact Below.refl _ _ | assumption | refine Below.alloc ?_ (by first | omega | (simp <;> omega)) _ | refine Below.setCell ?_ (by first | omega | (simp <;> omega)) _ | refine Below.drew ?_))
      clear hK K hHeld; have hHeld := hHeld2; clear hHeld2; (try simp only [Act.put, zn1, zn2, zn3])
      refine tY (i := 12) (v := ?_) rfl ?_ hHeld ?_; rotate_left 1; focus (intro w' hSw; clear hSw; go_simp; try with_reducible rfl)
      (try simp only [Act.put, zn1, zn2, zn3])
      refine tY (i := 13) (v := ?_) rfl ?_ hHeld ?_; rotate_left 1; focus (intro w' hSw; clear hSw; go_simp; try with_reducible rfl)
      (try simp only [Act.put, zn1, zn2, zn3])
      refine wpAnyH_done (by kernel_rfl) ?_ _
      replace g0 := cellAt g0 hHeld (by omega)
      replace g1 := cellAt g1 hHeld (by omega)
      replace x0 := cellAt x0 hHeld (by omega)
      replace x1 := cellAt x1 hHeld (by omega)
      replace x2 := cellAt x2 hHeld (by omega)
      replace x3 := cellAt x3 hHeld (by omega)
      replace y0 := cellAt y0 hHeld (by omega)
      replace y1 := cellAt y1 hHeld (by omega)
      replace y2 := cellAt y2 hHeld (by omega)
      replace y3 := cellAt y3 hHeld (by omega)
      replace Hr := Lib.hid (Hr.out.at hHeld)
      replace n1 : w.heap.size < v2.heap.size := ltAt n1 hHeld
      replace n2 : w.heap.size + 1 < v2.heap.size := ltAt n2 hHeld
      replace n3 : w.heap.size + 1 + 1 < v2.heap.size := ltAt n3 hHeld
      replace HB := Lib.hid (lift HB.out hHeld)
      clear hHeld
      generalize es.any (aheadB s s') = p1 at *
      generalize es.any (aheadB s' s) = p2 at *
      by_cases r2 : r = 2
      · have rb2 : (r == 2) = true := by simpa using r2
        have R2 := Lib.hid r2
        clear r2
        cases p1
        · cases p2
          · go_wp2_with fail
            go_ret
            exact ⟨ret_bool (by rw [HM.out]; simp [R3.out, S1.out, R2.out]), HB.out⟩
          · go_wp2_with fail
            go_ret
            exact ⟨ret_bool (by rw [HM.out]; simp [R3.out, S1.out, R2.out]), HB.out⟩
        · cases p2
          · go_wp2_with fail
            go_ret
            exact ⟨ret_bool (by rw [HM.out]; simp [R3.out, S1.out, R2.out]), HB.out⟩
          · go_wp2_with fail
            go_ret
            exact ⟨ret_bool (by rw [HM.out]; simp [R3.out, S1.out, R2.out]), HB.out⟩
      · have rb2 : (r == 2) = false := by simpa using r2
        have R2 := Lib.hid r2
        clear r2
        cases p2
        · cases p1
          · go_wp2_with fail
            go_ret
            exact ⟨ret_bool (by rw [HM.out]; simp [R3.out, S1.out, R2.out]), HB.out⟩
          · go_wp2_with fail
            refine (ends20_any s' t' 1 d' v2).mono ?_
            rintro e v5 ⟨rfl, hb⟩
            replace g0 := cellAt g0 hb (by omega)
            replace g1 := cellAt g1 hb (by omega)
            replace x0 := cellAt x0 hb (by omega)
            replace x1 := cellAt x1 hb (by omega)
            replace x2 := cellAt x2 hb (by omega)
            replace x3 := cellAt x3 hb (by omega)
            replace y0 := cellAt y0 hb (by omega)
            replace y1 := cellAt y1 hb (by omega)
            replace y2 := cellAt y2 hb (by omega)
            replace y3 := cellAt y3 hb (by omega)
            replace Hr := Lib.hid (Hr.out.at hb)
            replace n1 : w.heap.size < v5.heap.size := ltAt n1 hb
            replace n2 : w.heap.size + 1 < v5.heap.size := ltAt n2 hb
            replace n3 : w.heap.size + 1 + 1 < v5.heap.size := ltAt n3 hb
            replace HB := Lib.hid (lift HB.out hb)
            clear hb
            cases he2 : endsB (s', t', 1, d')
            · have E2 := Lib.hid he2
              go_wp2_with fail
              go_ret
              exact ⟨ret_bool (by rw [HM.out]; simp [R3.out, S1.out, R2.out, E2.out, R2.out]), HB.out⟩
            · have E2 := Lib.hid he2
              go_wp2_with fail
              go_ret
              exact ⟨ret_bool (by rw [HM.out]; simp [R3.out, S1.out, R2.out, E2.out, R2.out]), HB.out⟩
        · go_wp2_with fail
          refine (ends20_any s t r d v2).mono ?_
          rintro e v4 ⟨rfl, hb⟩
          replace g0 := cellAt g0 hb (by omega)
          replace g1 := cellAt g1 hb (by omega)
          replace x0 := cellAt x0 hb (by omega)
          replace x1 := cellAt x1 hb (by omega)
          replace x2 := cellAt x2 hb (by omega)
          replace x3 := cellAt x3 hb (by omega)
          replace y0 := cellAt y0 hb (by omega)
          replace y1 := cellAt y1 hb (by omega)
          replace y2 := cellAt y2 hb (by omega)
          replace y3 := cellAt y3 hb (by omega)
          replace Hr := Lib.hid (Hr.out.at hb)
          replace n1 : w.heap.size < v4.heap.size := ltAt n1 hb
          replace n2 : w.heap.size + 1 < v4.heap.size := ltAt n2 hb
          replace n3 : w.heap.size + 1 + 1 < v4.heap.size := ltAt n3 hb
          replace HB := Lib.hid (lift HB.out hb)
          clear hb
          cases he : endsB (s, t, r, d)
          · have E1 := Lib.hid he
            cases p1
            · go_wp2_with fail
              go_ret
              exact ⟨ret_bool (by rw [HM.out]; simp [R3.out, S1.out, R2.out, E1.out]), HB.out⟩
            · go_wp2_with fail
              refine (ends20_any s' t' 1 d' v4).mono ?_
              rintro e v5 ⟨rfl, hb⟩
              replace g0 := cellAt g0 hb (by omega)
              replace g1 := cellAt g1 hb (by omega)
              replace x0 := cellAt x0 hb (by omega)
              replace x1 := cellAt x1 hb (by omega)
              replace x2 := cellAt x2 hb (by omega)
              replace x3 := cellAt x3 hb (by omega)
              replace y0 := cellAt y0 hb (by omega)
              replace y1 := cellAt y1 hb (by omega)
              replace y2 := cellAt y2 hb (by omega)
              replace y3 := cellAt y3 hb (by omega)
              replace Hr := Lib.hid (Hr.out.at hb)
              replace n1 : w.heap.size < v5.heap.size := ltAt n1 hb
              replace n2 : w.heap.size + 1 < v5.heap.size := ltAt n2 hb
              replace n3 : w.heap.size + 1 + 1 < v5.heap.size := ltAt n3 hb
              replace HB := Lib.hid (lift HB.out hb)
              clear hb
              cases he2 : endsB (s', t', 1, d')
              · have E2 := Lib.hid he2
                go_wp2_with fail
                go_ret
                exact ⟨ret_bool (by rw [HM.out]; simp [R3.out, S1.out, R2.out, E2.out, E1.out]), HB.out⟩
              · have E2 := Lib.hid he2
                go_wp2_with fail
                go_ret
                exact ⟨ret_bool (by rw [HM.out]; simp [R3.out, S1.out, R2.out, E2.out, E1.out]), HB.out⟩
          · have E1 := Lib.hid he
            go_wp2_with fail
            go_ret
            exact ⟨ret_bool (by rw [HM.out]; simp [R3.out, S1.out, R2.out, E1.out]), HB.out⟩
    · have S1 := Lib.hid (show s = s' by simpa using hss)
      go_enter Tryz.func115, Tryz.ntmps115
      go_wp2_with fail
      go_ret
      exact ⟨ret_bool (by rw [HM.out]; simp [S1.out]), (by repeat (first | exact Below.refl _ _ | assumption | refine Below.alloc ?_ (by first | omega | (simp <;> omega)) _ | refine Below.setCell ?_ (by first | omega | (simp <;> omega)) _ | refine Below.drew ?_))⟩
end Od
end Go.Proofs.YtmlogmcnblgnbaaGreat
end

section
/- A slice of the call's own that may start anywhere in its block: cut in front, appended to behind. No program. -/
namespace Go.Proofs.YtmlogmcnblgnbaaGreat
open Go.RowKit

theorem setCells_size (b : Nat) : ∀ (vs : List Value) (o : Nat) (w : World), (w.setCells b o vs).heap.size = w.heap.size
  | [], _, _ => rfl
  | v :: r, o, w => by simp only [World.setCells]; rw [setCells_size b r]; simp
theorem setCells_tape (b : Nat) : ∀ (vs : List Value) (o : Nat) (w : World), (w.setCells b o vs).tape = w.tape
  | [], _, _ => rfl
  | v :: r, o, w => by simp only [World.setCells]; rw [setCells_tape b r]; simp
/-- The value v holds the n elements xs in a block of the call's own, from whatever cell on; or it is nil. -/
def Tail (w : World) (base size : Nat) (v : Value) (n : Nat) (xs : List Value) : Prop :=
  xs.length = n * size ∧ ((v = .slice none 0 0 ∧ n = 0) ∨ ∃ g off cap, v = .slice (some ⟨g, off, none⟩) n cap ∧ base ≤ g ∧ g < w.heap.size ∧ n ≤ cap ∧ cap ≤ maxLen ∧
    (∀ j, j < n * size → w.cell? ⟨g, off + j, none⟩ = xs[j]?) ∧ ∀ j, j < cap * size → (w.cell? ⟨g, off + j, none⟩).isSome = true ∧ w.frozen? ⟨g, off + j, none⟩ = false)

section
variable {w w' : World} {base size n : Nat} {v : Value} {xs : List Value}
theorem Tail.shape (h : Tail w base size v n xs) : ∃ A c, v = .slice A n c := by
  rcases h.2 with ⟨h1, h2⟩ | ⟨g, off, cap, h1, _⟩
  · exact ⟨none, 0, by rw [h1, h2]⟩
  · exact ⟨_, _, h1⟩
theorem Tail.lt (h : Tail w base size v n xs) {g : Nat} (hg : v.ownBlock = some g) : base ≤ g ∧ g < w.heap.size := by
  rcases h.2 with ⟨h1, h2⟩ | ⟨g', off, cap, h1, h3, h4, _⟩
  · rw [h1] at hg; cases hg
  · rw [h1] at hg; cases hg; exact ⟨h3, h4⟩
theorem Tail.rd {A : Option Addr} {m c : Nat} (h : Tail w base size (.slice A m c) n xs) : Rd w w.heap.size size A n xs := by
  refine ⟨h.1, fun hn => ?_⟩
  rcases h.2 with ⟨h1, h2⟩ | ⟨g, off, cap, h1, h3, h4, _, _, h5, _⟩
  · omega
  · injection h1 with e1 _ _
    exact ⟨_, e1, h4, rfl, h5⟩
theorem Tail.cap {A : Option Addr} {m c : Nat} (h : Tail w base size (.slice A m c) n xs) : n ≤ c ∧ c ≤ maxLen ∧ m = n := by
  rcases h.2 with ⟨h1, h2⟩ | ⟨g, off, cap, h1, h3, h4, h5, h6, _⟩
  · injection h1 with _ e2 e3; subst e3; subst e2; exact ⟨by omega, by decide, h2.symm⟩
  · injection h1 with _ e2 e3; subst e3; subst e2; exact ⟨h5, h6, rfl⟩
theorem Tail.same (h : Tail w base size v n xs) (hs : w.heap.size ≤ w'.heap.size) (hb : ∀ g, v.ownBlock = some g → w'.heap[g]? = w.heap[g]?) : Tail w' base size v n xs := by
  refine ⟨h.1, h.2.imp id ?_⟩
  rintro ⟨g, off, cap, rfl, h3, h4, h5, h6, h7, h8⟩
  have hb' := hb g rfl
  exact ⟨g, off, cap, rfl, h3, by omega, h5, h6, fun j hj => (World.cell?_of_block (a := ⟨g, off + j, none⟩) hb').trans (h7 j hj), fun j hj => ⟨by rw [World.cell?_of_block (a := ⟨g, off + j, none⟩) hb']; exact (h8 j hj).1, (World.frozen?_of_block (a := ⟨g, off + j, none⟩) hb').trans (h8 j hj).2⟩⟩
theorem Tail.on (h : Tail w base size v n xs) (hb : Below w.heap.size w w') : Tail w' base size v n xs := h.same hb.size fun g hg => hb.block g (h.lt hg).2
theorem Tail.alloc (h : Tail w base size v n xs) (o : Obj) : Tail (w.alloc o) base size v n xs := h.on (below_alloc (Nat.le_refl _) (Below.refl _ _))
theorem Tail.kept {row : Option Nat} (h : Tail w base size v n xs) (hg : w.grownBy w' row) (hne : ∀ g, v.ownBlock = some g → some g ≠ row) : Tail w' base size v n xs := h.same hg.size fun g h1 => hg.block g (h.lt h1).2 (hne g h1)
theorem Tail.low {base' : Nat} (h : Tail w base size v n xs) (hb : base' ≤ base) : Tail w base' size v n xs := by
  refine ⟨h.1, h.2.imp id ?_⟩
  rintro ⟨g, off, cap, h1, h3, r⟩
  exact ⟨g, off, cap, h1, by omega, r⟩
theorem Tail.nil (w : World) (base size : Nat) : Tail w base size (.slice none 0 0) 0 [] := ⟨by simp, .inl ⟨rfl, rfl⟩⟩
theorem Tail.own {e : TypeId} (h : w.ownsRow base e size v n xs) : Tail w base size v n xs := by
  have h0 := h
  obtain ⟨hl, ⟨h1, h2⟩ | ⟨g, cap, cur, h1, h3, h4, h5, h6, h7, h8⟩⟩ := h
  · exact ⟨hl, .inl ⟨h1, h2⟩⟩
  · subst h1
    have hg : g < w.heap.size := (h0.lt g rfl).2
    obtain ⟨A, c, hv, hr⟩ := own_rd h0
    injection hv with e1 _ e3
    subst e1
    refine ⟨hl, .inr ⟨g, 0, cap, rfl, h3, hg, h5, h6, fun j hj => ?_, fun j hj => ⟨?_, ?_⟩⟩⟩
    · obtain ⟨ad, e, _, _, hc⟩ := hr.2 (by rcases Nat.eq_zero_or_pos n with h | h; (subst h; omega); exact h)
      injection e with e
      subst e
      exact hc j hj
    · have : j < cur.size := by rw [h7]; exact hj
      simp [World.cell?, h4, this]
    · simp [World.frozen?, h4]
/-- One element less in front, as the walk writes it. -/
theorem Tail.drop {A : Option Addr} {c m : Nat} (h : Tail w base size (.slice A n c) n xs) (hm : m ≤ n) (hc : m < c) : Tail w base size (.slice (A.map fun x => { block := x.block, off := x.off + m * size }) (n - m) (c - m)) (n - m) (xs.drop (m * size)) := by
  rcases h.2 with ⟨h1, h2⟩ | ⟨g, off, cap, h1, h3, h4, h5, h6, h7, h8⟩
  · injection h1 with e1 _ e3; omega
  · injection h1 with e1 _ e3
    subst e1 e3
    have hmk : m * size ≤ n * size := Nat.mul_le_mul_right _ hm
    refine ⟨by rw [List.length_drop, h.1, Nat.sub_mul], .inr ⟨g, off + m * size, c - m, rfl, h3, h4, by omega, by omega, fun j hj => ?_, fun j hj => ?_⟩⟩
    · rw [Nat.sub_mul] at hj
      rw [List.getElem?_drop, ← h7 (m * size + j) (by omega), Nat.add_assoc]
    · rw [Nat.sub_mul] at hj
      have := h8 (m * size + j) (by omega)
      rw [← Nat.add_assoc] at this
      exact this
end

section
variable {P : Program}
theorem src_rd {w : World} {size : Nat} {tx e' : TypeId} (hk : P.underlying tx = some (.slice e')) {B : Nat} {A : Option Addr} {m c : Nat} {news : List Value} (hr : Rd w B size A m news) (h1 : ∀ u ∈ news, u.oneCell' = true) (hn : A = none → m = 0) : Src P size tx (.slice A m c) m news w := by
  cases A with
  | none =>
    have hm := hn rfl
    subst hm
    have hn : news = [] := List.eq_nil_of_length_eq_zero (by simpa using hr.1)
    subst hn
    exact Src.ofNil w hk c
  | some ad =>
    refine Src.ofSlice w hk ad m c news hr.1 (fun j u hu => ?_) h1
    have hj : j < news.length := by
      rcases Nat.lt_or_ge j news.length with h | h
      · exact h
      · rw [List.getElem?_eq_none h] at hu; cases hu
    have hm0 : 0 < m := by
      rcases Nat.eq_zero_or_pos m with h0 | h0
      · have := hr.1; rw [h0, Nat.zero_mul] at this; omega
      · exact h0
    obtain ⟨ad', he, _, hs, hc⟩ := hr.2 hm0
    injection he with he
    subst he
    have hadd : ad.add j = ⟨ad.block, ad.off + j, none⟩ := by
      unfold Addr.add
      split
      · rename_i h0; subst h0; cases ad; simp_all
      · rfl
    rw [hadd, hc j (by rw [← hr.1]; exact hj), hu]

theorem run_append_tail (w : World) (base : Nat) (t ty e : TypeId) (i : TypeInfo) (z : Value) (size bytes : Nat) (ht : P.underlying t = some (.slice e)) (hi : P.info? e = some i) (hz : i.zero = some z)
    (hsize : i.size = size) (hby : i.bytes = bytes) (hzs : z.cells.size = size) (v : Value) (n : Nat) (xs : List Value) (hown : Tail w base size v n xs)
    (x : Value) (m : Nat) (news : List Value) (hs : Src P size t x m news w) (h63 : n + m ≤ maxLen) (hbytes : (n + m) * bytes ≤ 140737488355328) (hbase : base ≤ w.heap.size) :
    ∃ A' c' w', (Builtin.append_ #[t, t] ty #[v, x]).run P w = .ok (.slice A' (n + m) c') w' ∧ Tail w' base size (.slice A' (n + m) c') (n + m) (xs ++ news) ∧ w.grownBy w' v.ownBlock ∧
      ((Value.slice A' (n + m) c').ownBlock = v.ownBlock ∨ (Value.slice A' (n + m) c').ownBlock = some w.heap.size) := by
  subst hsize
  subst hby
  have hnl := hs.newsLen
  have hlen : (xs ++ news).length = (n + m) * i.size := by rw [List.length_append, hown.1, hnl, Nat.add_mul]
  have hsmall : n + m ≤ 9223372036854775807 := by simp only [maxLen] at h63; omega
  have grow : ∀ (bs : Option Addr) (sc : Nat), v = .slice bs n sc → sc < n + m →
      (Builtin.firstCells i.size n (.slice bs n sc)).run P w.drew = .ok xs.toArray w.drew →
      ∃ A' c' w', (Builtin.append_ #[t, t] ty #[v, x]).run P w = .ok (.slice A' (n + m) c') w' ∧ Tail w' base i.size (.slice A' (n + m) c') (n + m) (xs ++ news) ∧ w.grownBy w' v.ownBlock ∧
        ((Value.slice A' (n + m) c').ownBlock = v.ownBlock ∨ (Value.slice A' (n + m) c').ownBlock = some w.heap.size) := by
    rintro bs sc rfl hg hold
    have hrun := run_append_grow_src (P := P) w t t ty e i z ht hi hz bs n sc xs hold x m news hs hg (by omega) (growslice_fits hg hbytes)
    have hge := grownCap_ge w (n + m) sc e
    have hcm := grownCap_le_maxLen w (n + m) sc e h63
    have hblk : ∀ k, k < w.heap.size → (w.drew.alloc (.cells ((xs ++ news).toArray ++ Builtin.zeroCells z.cells (grownCap w (n + m) sc e - (n + m))) e)).heap[k]? = w.heap[k]? := fun k hk => Below.heap_alloc w.drew _ k hk
    have hcell : ∀ j, (w.drew.alloc (.cells ((xs ++ news).toArray ++ Builtin.zeroCells z.cells (grownCap w (n + m) sc e - (n + m))) e)).cell? ⟨w.heap.size, j, none⟩ = ((xs ++ news).toArray ++ Builtin.zeroCells z.cells (grownCap w (n + m) sc e - (n + m)))[j]? := fun j => World.cell?_alloc_new w.drew _ _ j
    refine ⟨_, _, _, hrun, ⟨hlen, .inr ⟨w.heap.size, 0, _, rfl, hbase, by simp, by omega, hcm, fun j hj => ?_, fun j hj => ⟨?_, ?_⟩⟩⟩, ⟨rfl, rfl, rfl, by simp, fun k hk _ => hblk k hk⟩, .inr rfl⟩
    · rw [Nat.zero_add, hcell, Array.getElem?_append_left (by simp only [List.size_toArray]; rw [hlen]; exact hj), List.getElem?_toArray]
    · rw [Nat.zero_add, hcell]
      have hsz : ((xs ++ news).toArray ++ Builtin.zeroCells z.cells (grownCap w (n + m) sc e - (n + m))).size = grownCap w (n + m) sc e * i.size := by
        rw [Array.size_append, List.size_toArray, hlen, size_zeroCells, hzs, ← Nat.add_mul]
        congr 1
        omega
      rw [Array.getElem?_eq_getElem (by rw [hsz]; exact hj)]
      rfl
    · rw [Nat.zero_add]; exact World.frozen?_alloc_new w.drew _ _ j
  have hown' := hown
  rcases hown.2 with ⟨rfl, rfl⟩ | ⟨g, off, cap, rfl, h3, h4, h5, h6, h7, h8⟩
  · have hx : xs = [] := List.eq_nil_of_length_eq_zero (by simpa using hown.1)
    subst hx
    rcases Nat.eq_zero_or_pos m with h0 | h0
    · subst h0
      have hn : news = [] := List.eq_nil_of_length_eq_zero (by simpa using hnl)
      subst hn
      exact ⟨none, 0, w, run_append_nothing (P := P) w t t ty e i ht hi none 0 0 (Nat.le_refl _) x hs, Tail.nil _ _ _, World.grownBy.refl _ _, .inl rfl⟩
    · exact grow none 0 rfl (by omega) (run_firstCells_none w.drew i.size 0 0 0)
  · by_cases hfit : n + m ≤ cap
    · have hrc : (n + m) * i.size ≤ cap * i.size := Nat.mul_le_mul_right _ hfit
      rw [Nat.add_mul] at hrc
      have hsome : ∀ j, j < news.length → (w.cell? ⟨g, off + n * i.size + j, none⟩).isSome = true := fun j hj => by
        have := (h8 (n * i.size + j) (by omega)).1
        rwa [← Nat.add_assoc] at this
      have hfro : ∀ j, j < news.length → w.frozen? ⟨g, off + n * i.size + j, none⟩ = false := fun j hj => by
        have := (h8 (n * i.size + j) (by omega)).2
        rwa [← Nat.add_assoc] at this
      have hrun := run_append_room_src (P := P) w t t ty e i ht hi g off n cap x m news hs hfit hsome hfro
      refine ⟨_, _, _, hrun, ⟨hlen, .inr ⟨g, off, cap, rfl, h3, by rw [setCells_size]; exact h4, hfit, h6, fun j hj => ?_, fun j hj => ⟨?_, (World.frozen?_setCells g _ _ _ _).trans (h8 j hj).2⟩⟩⟩, ⟨World.os_setCells _ _ _ _, setCells_tape _ _ _ _, World.output_setCells _ _ _ _, by rw [setCells_size]; exact Nat.le_refl _, fun k hk hne => World.heap_setCells_other w g _ news hk (fun e => hne (by rw [e]; rfl))⟩, .inl rfl⟩
      · rw [Nat.add_mul] at hj
        by_cases hjo : j < n * i.size
        · rw [World.cell?_setCells_out g _ _ _ _ (fun _ _ => Or.inl (by show off + j < off + n * i.size; omega)), List.getElem?_append_left (by rw [hown.1]; exact hjo)]
          exact h7 j hjo
        · have ht' : j - n * i.size < news.length := by omega
          have := World.cell?_setCells_in g news (off + n * i.size) w hsome (j - n * i.size) ht'
          rw [show off + n * i.size + (j - n * i.size) = off + j by omega] at this
          rw [this, List.getElem?_append_right (by rw [hown.1]; omega), hown.1, List.getElem?_eq_getElem ht']
      · by_cases hin : n * i.size ≤ j ∧ j < n * i.size + news.length
        · have := World.cell?_setCells_in g news (off + n * i.size) w hsome (j - n * i.size) (by omega)
          rw [show off + n * i.size + (j - n * i.size) = off + j by omega] at this
          rw [this]; rfl
        · rw [World.cell?_setCells_out g _ _ _ _ (fun _ _ => by show off + j < off + n * i.size ∨ off + n * i.size + news.length ≤ off + j; omega)]
          exact (h8 j hj).1
    · refine grow (some ⟨g, off, none⟩) cap rfl (by omega) ?_
      refine run_firstCells_some w.drew i.size n ⟨g, off, none⟩ n cap xs hown.1 (fun j u hu => ?_)
      rw [Addr.add_lit]
      have hj : j < n * i.size := by
        have := (List.getElem?_eq_some_iff.1 hu).1
        rw [hown.1] at this
        exact this
      exact (h7 j hj).trans hu

/-- For the walk. -/
theorem wpList_append_tail (w : World) {ops : Array Oper} {rest : List Oper} {o : Oper} {a : Act} {Q : Exit → Act → World → Prop} (hgd : o.guard = none) (s x : Operand) (t : TypeId)
    (ho : o.op = .call { callee := .builtin .append, args := #[s, x], argTypes := #[t, t] })
    (base : Nat) (e : TypeId) (i : TypeInfo) (z : Value) (size bytes : Nat) (ht : P.underlying t = some (.slice e)) (hi : P.info? e = some i) (hz : i.zero = some z)
    (hsize : i.size = size) (hby : i.bytes = bytes) (hzs : z.cells.size = size)
    (v : Value) (n : Nat) (xs : List Value) (hs : a.eval s = v) (hown : Tail w base size v n xs)
    (xv : Value) (m : Nat) (news : List Value) (hx : a.eval x = xv) (hsrc : Src P size t xv m news w)
    (h63 : n + m ≤ maxLen) (hbytes : (n + m) * bytes ≤ 140737488355328) (hbase : base ≤ w.heap.size)
    (h : ∀ A' c' w', Tail w' base size (.slice A' (n + m) c') (n + m) (xs ++ news) → w.grownBy w' v.ownBlock →
      ((Value.slice A' (n + m) c').ownBlock = v.ownBlock ∨ (Value.slice A' (n + m) c').ownBlock = some w.heap.size) → wpList P ops Q rest (a.put o.dst (.slice A' (n + m) c')) w') : wpList P ops Q (o :: rest) a w := by
  refine wpList_plain hgd fun K hK => ?_
  obtain ⟨A', c', w', hrun, h2, h3, h4⟩ := run_append_tail (P := P) w base t o.type e i z size bytes ht hi hz hsize hby hzs v n xs hown xv m news hsrc h63 hbytes hbase
  unfold Oper.wp execOp
  simp only [ho, resolve, invoke, builtin, Sem.run_bind, Sem.run_pure, Result.andThen_ok, List.map_toArray, List.map_cons, List.map_nil, hs, hx, hrun]
  exact hK _ _ (h A' c' w' h2 h3 h4)
end
end Go.Proofs.YtmlogmcnblgnbaaGreat
end

section
/- Appends to slices whose capacity is full ('l[:k:k]', a literal), cuts of slices that read as lists: what 'append(l[:k:k], append([]T{x}, l[k:]...)...)' is made of. No program. -/
namespace Go.Proofs.YtmlogmcnblgnbaaGreat
open Go.RowKit

/-- 'l[k:]' as a place. -/
def dropA (A : Option Addr) (c k size : Nat) : Option Addr := if c = k then A else A.map (·.add (k * size))
/-- 'l[:k:k]' as a place. -/
def takeA (A : Option Addr) (k size : Nat) : Option Addr := if k = 0 then A else A.map (·.add (0 * size))
section
variable {P : Program}
theorem run_slice_tail {t e : TypeId} {i : TypeInfo} (ht : P.underlying t = some (.slice e)) (hi : P.info? e = some i) (A : Option Addr) (n c k : Nat) (hk : k ≤ n) (w : World) :
    (Instr.slice t (.slice A n c) (some (.int .i64 k)) none none).run P w = .ok (.slice (dropA A c k i.size) (n - k) (c - k)) w := by
  simp [Instr.slice, run_underlying ht, Instr.sliceBounds, Instr.sliceBound, asIntOf, sizeOf, typeInfo, hi, dropA]
  intro h; omega
theorem run_slice_full {t e : TypeId} {i : TypeInfo} (ht : P.underlying t = some (.slice e)) (hi : P.info? e = some i) (A : Option Addr) (n c k : Nat) (hk : k ≤ c) (w : World) :
    (Instr.slice t (.slice A n c) none (some (.int .i64 k)) (some (.int .i64 k))).run P w = .ok (.slice (takeA A k i.size) k k) w := by
  simp [Instr.slice, run_underlying ht, Instr.sliceBounds, Instr.sliceBound, asIntOf, sizeOf, typeInfo, hi, takeA]
  intro h; omega
theorem Addr.add_zero (a : Addr) : a.add 0 = a := by simp [Addr.add]
theorem Rd.dropA {w : World} {B k n m c : Nat} {A : Option Addr} {xs : List Value} (h : Rd w B k A n xs) (hm : m ≤ n) (hc : n ≤ c) : Rd w B k (dropA A c m k) (n - m) (xs.drop (m * k)) := h.drop hm hc
theorem Rd.takeA {w : World} {B k n m : Nat} {A : Option Addr} {xs : List Value} (h : Rd w B k A n xs) (hm : m ≤ n) : Rd w B k (takeA A m k) m (xs.take (m * k)) := by
  have h' := h.take hm
  unfold Go.Proofs.YtmlogmcnblgnbaaGreat.takeA
  split
  · exact h'
  · simp only [Nat.zero_mul]
    rw [show (fun x : Addr => x.add 0) = id from funext Addr.add_zero]
    simpa using h'

theorem run_append_full (w : World) (t ty e : TypeId) (i : TypeInfo) (z : Value) (size bytes : Nat) (ht : P.underlying t = some (.slice e)) (hi : P.info? e = some i) (hz : i.zero = some z)
    (hsize : i.size = size) (hby : i.bytes = bytes) (hzs : z.cells.size = size) (B : Nat) (A : Option Addr) (n : Nat) (xs : List Value) (hr : Rd w B size A n xs) (hB : B ≤ w.heap.size)
    (B2 : Nat) (A2 : Option Addr) (m c : Nat) (news : List Value) (hr2 : Rd w B2 size A2 m news) (h1 : ∀ u ∈ news, u.oneCell' = true) (h63 : n + m ≤ maxLen) (hbytes : (n + m) * bytes ≤ 140737488355328) :
    ∃ A' c' w', (Builtin.append_ #[t, t] ty #[.slice A n n, .slice A2 m c]).run P w = .ok (.slice A' (n + m) c') w' ∧ n + m ≤ c' ∧ Rd w' w'.heap.size size A' (n + m) (xs ++ news) ∧ Below w.heap.size w w' ∧ (0 < m → ∀ ad, A' = some ad → w.heap.size ≤ ad.block) := by
  subst hsize
  subst hby
  have hs : Src P i.size t (.slice A2 m c) m news w := src_rd ht hr2 h1 fun e => by
    rcases Nat.eq_zero_or_pos m with h0 | h0
    · exact h0
    · obtain ⟨ad, h, _⟩ := hr2.2 h0; rw [e] at h; cases h
  have hnl := hs.newsLen
  rcases Nat.eq_zero_or_pos m with h0 | h0
  · subst h0
    have hn : news = [] := List.eq_nil_of_length_eq_zero (by simpa using hnl)
    subst hn
    exact ⟨A, n, w, run_append_nothing (P := P) w t t ty e i ht hi A n n (Nat.le_refl _) _ hs, by omega, by simpa using hr.more hB, Below.refl _ _, fun h => absurd h (by omega)⟩
  · have hlen : (xs ++ news).length = (n + m) * i.size := by rw [List.length_append, hr.1, hnl, Nat.add_mul]
    have hold : (Builtin.firstCells i.size n (.slice A n n)).run P w.drew = .ok xs.toArray w.drew := by
      cases A with
      | none =>
        have hn : n = 0 := by
          rcases Nat.eq_zero_or_pos n with h | h
          · exact h
          · obtain ⟨ad, h, _⟩ := hr.2 h; cases h
        subst hn
        have hx : xs = [] := List.eq_nil_of_length_eq_zero (by simpa using hr.1)
        subst hx
        exact run_firstCells_none w.drew i.size 0 0 0
      | some ad =>
        refine run_firstCells_some w.drew i.size n ad n n xs hr.1 (fun j u hu => ?_)
        have hj : j < n * i.size := by
          have := (List.getElem?_eq_some_iff.1 hu).1
          rw [hr.1] at this
          exact this
        have hn0 : 0 < n := by
          rcases Nat.eq_zero_or_pos n with h | h
          · rw [h, Nat.zero_mul] at hj; omega
          · exact h
        obtain ⟨ad', he, _, hsp, hc⟩ := hr.2 hn0
        injection he with he
        subst he
        have hadd : ad.add j = ⟨ad.block, ad.off + j, none⟩ := by
          unfold Addr.add
          split
          · rename_i h0; subst h0; cases ad; simp_all
          · rfl
        rw [hadd]
        exact (hc j hj).trans hu
    have hm2 : n + m ≤ 9223372036854775807 := by simp only [maxLen] at h63; omega
    have hg : n < n + m := by omega
    have hrun := run_append_grow_src (P := P) w t t ty e i z ht hi hz A n n xs hold (.slice A2 m c) m news hs hg (by omega) (growslice_fits hg hbytes)
    have hge := grownCap_ge w (n + m) n e
    refine ⟨_, _, _, hrun, by omega, ⟨hlen, fun _ => ⟨_, rfl, by simp, rfl, fun j hj => ?_⟩⟩, ⟨rfl, rfl, rfl, by simp, fun k hk => Below.heap_alloc w.drew _ k hk⟩, fun _ ad e => by injection e with e; rw [← e]; exact Nat.le_refl _⟩
    show (w.drew.alloc _).cell? ⟨w.heap.size, 0 + j, none⟩ = _
    rw [Nat.zero_add]
    refine (World.cell?_alloc_new w.drew _ _ j).trans ?_
    rw [Array.getElem?_append_left (by simp only [List.size_toArray]; rw [hlen]; exact hj), List.getElem?_toArray]

/-- At a step of a region that draws its order. -/
theorem step_append_full {w : World} {ops : Array Oper} {o : Oper} {a : Act} {K : Act → World → Prop} {Q : Exit → Act → World → Prop} {E : Prop} (hw : Region.wanted o (yielded ops a.tmps) = true) (s x : Operand) (t : TypeId)
    (ho : o.op = .call { callee := .builtin .append, args := #[s, x], argTypes := #[t, t] })
    (e : TypeId) (i : TypeInfo) (z : Value) (size bytes : Nat) (ht : P.underlying t = some (.slice e)) (hi : P.info? e = some i) (hz : i.zero = some z)
    (hsize : i.size = size) (hby : i.bytes = bytes) (hzs : z.cells.size = size) (B : Nat) (A : Option Addr) (n : Nat) (xs : List Value) (hs : a.eval s = .slice A n n) (hr : Rd w B size A n xs) (hB : B ≤ w.heap.size)
    (B2 : Nat) (A2 : Option Addr) (m c : Nat) (news : List Value) (hx : a.eval x = .slice A2 m c) (hr2 : Rd w B2 size A2 m news) (h1 : ∀ u ∈ news, u.oneCell' = true) (h63 : n + m ≤ maxLen) (hbytes : (n + m) * bytes ≤ 140737488355328)
    (h : ∀ A' c' w', n + m ≤ c' → Rd w' w'.heap.size size A' (n + m) (xs ++ news) → Below w.heap.size w w' → K (a.put o.dst (.slice A' (n + m) c')) w') :
    if Region.wanted o (yielded ops a.tmps) = true then Oper.wp P o a w K Q else E := by
  rw [if_pos hw]
  obtain ⟨A', c', w', hrun, hc, h2, h3, h4⟩ := run_append_full (P := P) w t o.type e i z size bytes ht hi hz hsize hby hzs B A n xs hr hB B2 A2 m c news hr2 h1 h63 hbytes
  unfold Oper.wp execOp
  simp only [ho, resolve, invoke, builtin, Sem.run_bind, Sem.run_pure, Result.andThen_ok, List.map_toArray, List.map_cons, List.map_nil, hs, hx, hrun]
  exact h A' c' w' hc h2 h3
/-- The same, and where it lies. -/
theorem step_append_fresh {w : World} {ops : Array Oper} {o : Oper} {a : Act} {K : Act → World → Prop} {Q : Exit → Act → World → Prop} {E : Prop} (hw : Region.wanted o (yielded ops a.tmps) = true) (s x : Operand) (t : TypeId)
    (ho : o.op = .call { callee := .builtin .append, args := #[s, x], argTypes := #[t, t] })
    (e : TypeId) (i : TypeInfo) (z : Value) (size bytes : Nat) (ht : P.underlying t = some (.slice e)) (hi : P.info? e = some i) (hz : i.zero = some z)
    (hsize : i.size = size) (hby : i.bytes = bytes) (hzs : z.cells.size = size) (B : Nat) (A : Option Addr) (n : Nat) (xs : List Value) (hs : a.eval s = .slice A n n) (hr : Rd w B size A n xs) (hB : B ≤ w.heap.size)
    (B2 : Nat) (A2 : Option Addr) (m c : Nat) (news : List Value) (hx : a.eval x = .slice A2 m c) (hr2 : Rd w B2 size A2 m news) (h1 : ∀ u ∈ news, u.oneCell' = true) (h63 : n + m ≤ maxLen) (hbytes : (n + m) * bytes ≤ 140737488355328)
    (h : ∀ A' c' w', n + m ≤ c' → Rd w' w'.heap.size size A' (n + m) (xs ++ news) → Below w.heap.size w w' → (0 < m → ∀ ad, A' = some ad → w.heap.size ≤ ad.block) → K (a.put o.dst (.slice A' (n + m) c')) w') :
    if Region.wanted o (yielded ops a.tmps) = true then Oper.wp P o a w K Q else E := by
  rw [if_pos hw]
  obtain ⟨A', c', w', hrun, hc, h2, h3, h4⟩ := run_append_full (P := P) w t o.type e i z size bytes ht hi hz hsize hby hzs B A n xs hr hB B2 A2 m c news hr2 h1 h63 hbytes
  unfold Oper.wp execOp
  simp only [ho, resolve, invoke, builtin, Sem.run_bind, Sem.run_pure, Result.andThen_ok, List.map_toArray, List.map_cons, List.map_nil, hs, hx, hrun]
  exact h A' c' w' hc h2 h3 h4
/-- In a walk. -/
theorem wpList_append_full (w : World) {ops : Array Oper} {rest : List Oper} {o : Oper} {a : Act} {Q : Exit → Act → World → Prop} (hgd : o.guard = none) (s x : Operand) (t : TypeId)
    (ho : o.op = .call { callee := .builtin .append, args := #[s, x], argTypes := #[t, t] })
    (e : TypeId) (i : TypeInfo) (z : Value) (size bytes : Nat) (ht : P.underlying t = some (.slice e)) (hi : P.info? e = some i) (hz : i.zero = some z)
    (hsize : i.size = size) (hby : i.bytes = bytes) (hzs : z.cells.size = size) (B : Nat) (A : Option Addr) (n : Nat) (xs : List Value) (hs : a.eval s = .slice A n n) (hr : Rd w B size A n xs) (hB : B ≤ w.heap.size)
    (B2 : Nat) (A2 : Option Addr) (m c : Nat) (news : List Value) (hx : a.eval x = .slice A2 m c) (hr2 : Rd w B2 size A2 m news) (h1 : ∀ u ∈ news, u.oneCell' = true) (h63 : n + m ≤ maxLen) (hbytes : (n + m) * bytes ≤ 140737488355328)
    (h : ∀ A' c' w', n + m ≤ c' → Rd w' w'.heap.size size A' (n + m) (xs ++ news) → Below w.heap.size w w' → wpList P ops Q rest (a.put o.dst (.slice A' (n + m) c')) w') : wpList P ops Q (o :: rest) a w := by
  refine wpList_plain hgd fun K hK => ?_
  obtain ⟨A', c', w', hrun, hc, h2, h3, h4⟩ := run_append_full (P := P) w t o.type e i z size bytes ht hi hz hsize hby hzs B A n xs hr hB B2 A2 m c news hr2 h1 h63 hbytes
  unfold Oper.wp execOp
  simp only [ho, resolve, invoke, builtin, Sem.run_bind, Sem.run_pure, Result.andThen_ok, List.map_toArray, List.map_cons, List.map_nil, hs, hx, hrun]
  exact hK _ _ (h A' c' w' hc h2 h3)
/-- The same, and where it lies. -/
theorem wpList_append_fresh (w : World) {ops : Array Oper} {rest : List Oper} {o : Oper} {a : Act} {Q : Exit → Act → World → Prop} (hgd : o.guard = none) (s x : Operand) (t : TypeId)
    (ho : o.op = .call { callee := .builtin .append, args := #[s, x], argTypes := #[t, t] })
    (e : TypeId) (i : TypeInfo) (z : Value) (size bytes : Nat) (ht : P.underlying t = some (.slice e)) (hi : P.info? e = some i) (hz : i.zero = some z)
    (hsize : i.size = size) (hby : i.bytes = bytes) (hzs : z.cells.size = size) (B : Nat) (A : Option Addr) (n : Nat) (xs : List Value) (hs : a.eval s = .slice A n n) (hr : Rd w B size A n xs) (hB : B ≤ w.heap.size)
    (B2 : Nat) (A2 : Option Addr) (m c : Nat) (news : List Value) (hx : a.eval x = .slice A2 m c) (hr2 : Rd w B2 size A2 m news) (h1 : ∀ u ∈ news, u.oneCell' = true) (h63 : n + m ≤ maxLen) (hbytes : (n + m) * bytes ≤ 140737488355328)
    (h : ∀ A' c' w', n + m ≤ c' → Rd w' w'.heap.size size A' (n + m) (xs ++ news) → Below w.heap.size w w' → (0 < m → ∀ ad, A' = some ad → w.heap.size ≤ ad.block) → wpList P ops Q rest (a.put o.dst (.slice A' (n + m) c')) w') : wpList P ops Q (o :: rest) a w := by
  refine wpList_plain hgd fun K hK => ?_
  obtain ⟨A', c', w', hrun, hc, h2, h3, h4⟩ := run_append_full (P := P) w t o.type e i z size bytes ht hi hz hsize hby hzs B A n xs hr hB B2 A2 m c news hr2 h1 h63 hbytes
  unfold Oper.wp execOp
  simp only [ho, resolve, invoke, builtin, Sem.run_bind, Sem.run_pure, Result.andThen_ok, List.map_toArray, List.map_cons, List.map_nil, hs, hx, hrun]
  exact hK _ _ (h A' c' w' hc h2 h3 h4)
end

/-- A call hands back a slice that reads as xs (k cells an element), and has turned nothing of what was there. -/
def RdIs (k n : Nat) (xs : List Value) (w : World) (e : Ending) (w' : World) : Prop := ∃ A c, e = .returned (.slice A n c) ∧ n ≤ c ∧ Rd w' w'.heap.size k A n xs ∧ Below w.heap.size w w'
/-- From block B on, if there is anything. -/
def FreshA (B : Nat) (A : Option Addr) (n : Nat) : Prop := 0 < n → ∀ ad, A = some ad → B ≤ ad.block
theorem FreshA.low {B B' n : Nat} {A : Option Addr} (h : FreshA B A n) (hB : B' ≤ B) : FreshA B' A n := fun hn ad e => Nat.le_trans hB (h hn ad e)
theorem own_fresh {w : World} {base e k n m c : Nat} {A : Option Addr} {xs : List Value} (h : w.ownsRow base e k (.slice A m c) n xs) : FreshA base A n := by
  intro hn ad hA
  subst hA
  rcases h.2 with ⟨hv, h0⟩ | ⟨g, cap, cur, hv, hg, _⟩
  · omega
  · injection hv with h1; injection h1 with h1; subst h1; exact hg
theorem Rd.setCellF {w : World} {B k n : Nat} {A : Option Addr} {xs : List Value} (h : Rd w B k A n xs) {p : Addr} (hp : ∀ ad, 0 < n → A = some ad → p.block ≠ ad.block) (u : Value) : Rd (w.setCell p u) B k A n xs :=
  ⟨h.1, fun hn => by
    obtain ⟨ad, e, hb, hs, hc⟩ := h.2 hn
    exact ⟨ad, e, hb, hs, fun j hj => (World.cell?_setCell_other w p _ u (fun h' => hp ad hn e (by subst h'; rfl))).trans (hc j hj)⟩⟩
/-- A call hands back a slice of what it has made. -/
def RdNew (k n : Nat) (xs : List Value) (w : World) (e : Ending) (w' : World) : Prop := ∃ A c, e = .returned (.slice A n c) ∧ n ≤ c ∧ Rd w' w'.heap.size k A n xs ∧ FreshA w.heap.size A n ∧ Below w.heap.size w w'
theorem RdNew.is {k n : Nat} {xs : List Value} {w w' : World} {e : Ending} (h : RdNew k n xs w e w') : RdIs k n xs w e w' := by obtain ⟨A, c, h1, h2, h3, _, h4⟩ := h; exact ⟨A, c, h1, h2, h3, h4⟩
theorem RdIs.of {k n n' : Nat} {xs xs' : List Value} {w w' : World} {A : Option Addr} {c : Nat} (hc : n' ≤ c) (h : Rd w' w'.heap.size k A n' xs') (hb : Below w.heap.size w w') (hn : n' = n) (hx : xs' = xs) : RdIs k n xs w (.returned (.slice A n' c)) w' := by
  subst hn hx; exact ⟨A, c, rfl, hc, h, hb⟩
theorem one_drop {l : List Value} (h : ∀ u ∈ l, u.oneCell' = true) (n : Nat) : ∀ u ∈ l.drop n, u.oneCell' = true := fun u hu => h u (List.mem_of_mem_drop hu)
theorem one_app {l l' : List Value} (h : ∀ u ∈ l, u.oneCell' = true) (h' : ∀ u ∈ l', u.oneCell' = true) : ∀ u ∈ l ++ l', u.oneCell' = true := fun u hu => (List.mem_append.1 hu).elim (h u) (h' u)
theorem one_svs (l : List Str) : ∀ u ∈ svs l, u.oneCell' = true := fun u hu => by
  obtain ⟨s, _, rfl⟩ := List.mem_map.1 hu; rfl
theorem one_sv (s : Str) : ∀ u ∈ [sv s], u.oneCell' = true := fun u hu => by rw [List.mem_singleton.1 hu]; rfl
theorem insL_cut {α : Type} [DecidableEq α] {lt : α → α → Bool} {x : α} : ∀ (l : List α) (k : Nat), k ≤ l.length → (∀ y ∈ l.take k, lt y x = true) → (∀ h : k < l.length, lt l[k] x = false) →
    insL lt x l = if l[k]? = some x then l else l.take k ++ x :: l.drop k
  | [], k, hk, _, _ => by
    have : k = 0 := by simpa using hk
    subst this; simp [insL]
  | y :: r, 0, _, _, h => by
    have h0 : lt y x = false := h (by simp)
    unfold insL
    rw [h0]
    by_cases e : y = x <;> simp [e]
  | y :: r, k + 1, hk, h1, h2 => by
    have h0 : lt y x = true := h1 y (by simp)
    have ih := insL_cut r k (by simpa using hk) (fun z hz => h1 z (by simp [hz])) (fun h => by have := h2 (by simpa using h); simpa using this)
    unfold insL
    rw [if_pos h0, ih]
    simp only [List.getElem?_cons_succ]
    split <;> simp
end Go.Proofs.YtmlogmcnblgnbaaGreat
end

section
/- The walks of queue.Waits and queue.Ready. (bel2) -/
namespace Go.Proofs.YtmlogmcnblgnbaaGreat
open Go.RowKit Go.Sort
set_option linter.unusedSimpArgs false

namespace Od
theorem waitsQ_notmay {es : List Ed} {q : List Jb} {u : Str} (h : mayQ q = false) : waitsQ es q u = [] := by
  unfold waitsQ; split
  · rfl
  · rw [h]; simp
theorem waitsQ_none {es : List Ed} {q : List Jb} {u : Str} (h : jobOf q u = none) : waitsQ es q u = [] := by unfold waitsQ; rw [h]
theorem waitsQ_other {es : List Ed} {q : List Jb} {u : Str} {j : Jb} (h : jobOf q u = some j) (h1 : j.2.2.1 ≠ 1) : waitsQ es q u = [] := by unfold waitsQ; rw [h]; simp [h1]
theorem waitsQ_at {es : List Ed} {q : List Jb} {u : Str} {j : Jb} (h : jobOf q u = some j) (hm : mayQ q = true) (h1 : j.2.2.1 = 1) : waitsQ es q u = waitsJ es q j := by unfold waitsQ; rw [h]; simp [h1, hm]
theorem waitsJ_succ {es : List Ed} {q : List Jb} {j : Jb} {i : Nat} (hi : i < q.length) : waitsJ es (q.take (i + 1)) j = waitsJ es (q.take i) j ++ (if aheadJ es q[i] j = true then [q[i].1] else []) := by
  unfold waitsJ
  rw [filter_take_succ (p := fun x => aheadJ es x j) hi, List.map_append]
  split <;> simp
theorem waitsJ_len (es : List Ed) (q : List Jb) (j : Jb) (i : Nat) : (waitsJ es (q.take i) j).length ≤ q.length := by
  unfold waitsJ; rw [List.length_map]; exact filter_take_le
theorem waitsJ_len' (es : List Ed) (q : List Jb) (j : Jb) : (waitsJ es q j).length ≤ q.length := by
  unfold waitsJ; rw [List.length_map]; exact List.length_filter_le _ _
theorem OwnS.nil {w w' : World} (hb : Below w.heap.size w w') : OwnS [] w (.returned (.slice none 0 0)) w' := ⟨none, 0, rfl, World.ownsRow_nil _ _ _ _, hb⟩
theorem OwnS.of {ss : List Str} {w w0 w' : World} {v : Value} (h : w'.ownsRow w0.heap.size 9 1 v ss.length (svs ss)) (hz : w.heap.size ≤ w0.heap.size) (hb : Below w.heap.size w w') : OwnS ss w (.returned v) w' := by
  obtain ⟨A, c, rfl, _⟩ := own_rd h
  exact ⟨A, c, rfl, own_base h hz, hb⟩
set_option maxRecDepth 100000 in
set_option maxHeartbeats 16000000 in
theorem WaitsQ_any (An Ae : Option Addr) (nn cn ce : Nat) (es : List Ed) (A : Option Addr) (c : Nat) (q : List Jb) (u : Str) (w : World) (hr : Rd w w.heap.size 3 Ae es.length (edsC es)) (hq : Rd w w.heap.size 4 A q.length (jbsC q)) (hl : es.length ≤ 1000000) (hlq : q.length ≤ 1000000) (hok : OkJs q) :
    Calls Tryz.prog 35 #[gV An nn cn Ae es.length ce, .slice A q.length c, sv u] w (OwnS (waitsQ es q u) w) := by
  obtain ⟨i0, hi, hz0, hz1, hz2⟩ := info_parts infoS
  have Hr := Lib.hid hr
  have HQ := Lib.hid hq
  have HOk := Lib.hid hok
  clear hr hq hok
  go_enter Tryz.func35, Tryz.ntmps35
  go_wp2_with fail
  first | (refine wp_named ?_; intro W1 hW) | (refine calls_named ?_; intro W1 hW)
  have B1 : Below w.heap.size w W1 := by rw [hW]; exact (by repeat (first | exact Below.refl _ _ | assumption | refine Below.alloc ?_ (by first | omega | (simp <;> omega)) _ | refine Below.setCell ?_ (by first | omega | (simp <;> omega)) _ | refine Below.drew ?_))
  replace Hr := Lib.hid (Hr.out.at B1)
  replace HQ := Lib.hid (HQ.out.at B1)
  have n1 : w.heap.size < W1.heap.size := by rw [hW]; simp <;> omega
  have g0 : W1.cell? ⟨w.heap.size, 0, none⟩ = some (.slice An nn cn) := by rw [hW]; go_simp
  have g1 : W1.cell? ⟨w.heap.size, 1, none⟩ = some (.slice Ae es.length ce) := by rw [hW]; go_simp
  clear hW
  have HB := Lib.hid B1
  clear B1
  refine (find_any A c q u W1 HQ.out hlq).mono ?_
  rintro e w2 ⟨r, rfl, hcase, hb⟩
  have HC := Lib.hid hcase
  replace g0 := cellAt g0 hb (by omega)
  replace g1 := cellAt g1 hb (by omega)
  replace Hr := Lib.hid (Hr.out.at hb)
  replace HQ := Lib.hid (HQ.out.at hb)
  replace n1 : w.heap.size < w2.heap.size := ltAt n1 hb
  replace HB := Lib.hid (lift HB.out hb)
  clear hb hcase
  go_wp2_with fail
  refine (MayQ_any A c q w2 HQ.out (by omega) HOk.out).mono ?_
  rintro e w3 ⟨rfl, hb⟩
  replace g0 := cellAt g0 hb (by omega)
  replace g1 := cellAt g1 hb (by omega)
  replace Hr := Lib.hid (Hr.out.at hb)
  replace HQ := Lib.hid (HQ.out.at hb)
  replace n1 : w.heap.size < w3.heap.size := ltAt n1 hb
  replace HB := Lib.hid (lift HB.out hb)
  clear hb
  cases hm : mayQ q
  · have HW := Lib.hid (waitsQ_notmay (es := es) (u := u) hm)
    go_wp2_with fail
    go_ret
    rw [HW.out]
    exact OwnS.nil HB.out
  · have HM := Lib.hid hm
    rcases HC.out with ⟨rfl, hnone⟩ | ⟨k, hk, rfl, hfind, _, _⟩
    · have HW := Lib.hid (waitsQ_none (es := es) hnone)
      clear hnone
      go_wp2_with fail
      go_ret
      rw [HW.out]
      exact OwnS.nil HB.out
    · have hneg : decide ((k : Int) < 0) = false := by simp
      have hj : jobOf q u = some q[k] := hfind
      obtain ⟨b, o, hA, hB, y0, y1, y2, y3⟩ := HQ.out.job hk
      subst hA
      generalize q[k] = x at y0 y1 y2 y3 hj
      clear hfind
      obtain ⟨s', t', r', d'⟩ := x
      simp only at y0 y1 y2 y3
      have k1 : (0 : Int) ≤ (k : Int) := by omega
      have k2 : (k : Int) < (q.length : Int) := by omega
      clear HC
      by_cases r1 : r' = 1
      · have HW := Lib.hid (waitsQ_at (es := es) hj hm r1)
        subst r1
        have HJ := Lib.hid hj
        clear hj hm
        have hzw : w.heap.size ≤ w3.heap.size := HB.out.size
        go_wp2_with fail
        go_loopw [8, 31] (fun v i wr => ∃ m : Nat, m ≤ q.length ∧ i = .int .i64 m ∧ wr.ownsRow w3.heap.size 9 1 v (waitsJ es (q.take m) (s', t', 1, d')).length (svs (waitsJ es (q.take m) (s', t', 1, d'))) ∧ Below w3.heap.size w3 wr) (fun _ i _ => q.length - (intOf i).toNat)
        case atStart => exact ⟨0, Nat.zero_le _, rfl, World.ownsRow_nil _ _ _ _, Below.refl _ _⟩
        case round =>
          obtain ⟨m, hm, rfl, hown, hb⟩ := hrel
          have HOut := Lib.hid hown
          have Hb := Lib.hid hb
          clear hown
          replace g0 := cellAt g0 hb (by omega)
          replace g1 := cellAt g1 hb (by omega)
          replace y0 := cellAt y0 hb (by omega)
          replace y1 := cellAt y1 hb (by omega)
          replace y2 := cellAt y2 hb (by omega)
          replace y3 := cellAt y3 hb (by omega)
          replace Hr := Lib.hid (Hr.out.at hb)
          replace HQ := Lib.hid (HQ.out.at hb)
          replace n1 : w.heap.size < wr.heap.size := ltAt n1 hb
          replace HB := Lib.hid (lift HB.out hb)
          replace hB : b < wr.heap.size := ltAt hB hb
          clear hb
          by_cases hlt : m < q.length
          · obtain ⟨b2, o2, hA, hB2, x0, x1, x2, x3⟩ := HQ.out.job hlt
            injection hA with hA
            injection hA with hA1 hA2
            subst hA1 hA2
            have hsucc := waitsJ_succ (es := es) (j := (s', t', 1, d')) hlt
            have hln := waitsJ_len es q (s', t', 1, d') m
            generalize q[m] = x at x0 x1 x2 x3 hsucc
            obtain ⟨s, t, r, d⟩ := x
            simp only at x0 x1 x2 x3 hsucc
            have HS := Lib.hid hsucc
            clear hsucc
            have m1 : (0 : Int) ≤ (m : Int) := by omega
            have m2 : (m : Int) < (q.length : Int) := by omega
            go_wp2_with fail
            first | (refine wp_named ?_; intro W2 hW) | (refine calls_named ?_; intro W2 hW)
            have B2 : Below wr.heap.size wr W2 := by rw [hW]; exact (by repeat (first | exact Below.refl _ _ | assumption | refine Below.alloc ?_ (by first | omega | (simp <;> omega)) _ | refine Below.setCell ?_ (by first | omega | (simp <;> omega)) _ | refine Below.drew ?_))
            replace g0 := cellAt g0 B2 (by omega)
            replace g1 := cellAt g1 B2 (by omega)
            replace y0 := cellAt y0 B2 (by omega)
            replace y1 := cellAt y1 B2 (by omega)
            replace y2 := cellAt y2 B2 (by omega)
            replace y3 := cellAt y3 B2 (by omega)
            replace Hr := Lib.hid (Hr.out.at B2)
            replace HQ := Lib.hid (HQ.out.at B2)
            replace n1 : w.heap.size < W2.heap.size := ltAt n1 B2
            replace HB := Lib.hid (lift HB.out B2)
            replace hB : b < W2.heap.size := ltAt hB B2
            replace HOut := Lib.hid (own_on HOut.out B2)
            replace Hb := Lib.hid (lift Hb.out B2)
            have p1 : wr.heap.size < W2.heap.size := by rw [hW]; simp <;> omega
            have e0 : W2.cell? ⟨wr.heap.size, 0, none⟩ = some (sv s) := by rw [hW]; go_simp
            have e1 : W2.cell? ⟨wr.heap.size, 1, none⟩ = some (.int .i64 t) := by rw [hW]; go_simp
            have e2 : W2.cell? ⟨wr.heap.size, 2, none⟩ = some (.int .i64 r) := by rw [hW]; go_simp
            have e3 : W2.cell? ⟨wr.heap.size, 3, none⟩ = some (.int .i64 d) := by rw [hW]; go_simp
            clear hW
            clear B2
            try go_wp2_with fail
            refine wp_region_held_drew (S := fun w' => Below W2.heap.size W2 w') (by kernel_rfl) (Below.drew (Below.refl _ _)) (fun hHeld => ?_)
            refine tY (i := 0) (v := ?_) rfl ?_ hHeld ?_; rotate_left 1; focus (intro w' hSw; have hCell := fun (b o : Nat) (h : b < W2.heap.size) => hSw.cell (p := ⟨b, o, none⟩) h; clear hSw; go_simp; try with_reducible rfl)
            (try simp only [Act.put, zn1, zn2, zn3])
            refine tY (i := 1) (v := ?_) rfl ?_ hHeld ?_; rotate_left 1; focus (intro w' hSw; have hCell := fun (b o : Nat) (h : b < W2.heap.size) => hSw.cell (p := ⟨b, o, none⟩) h; clear hSw; go_simp; try with_reducible rfl)
            (try simp only [Act.put, zn1, zn2, zn3])
            refine tY (i := 2) (v := ?_) rfl ?_ hHeld ?_; rotate_left 1; focus (intro w' hSw; clear hSw; go_simp; try with_reducible rfl)
            (try simp only [Act.put, zn1, zn2, zn3])
            refine tY (i := 3) (v := ?_) rfl ?_ hHeld ?_; rotate_left 1; focus (intro w' hSw; clear hSw; go_simp; try with_reducible rfl)
            (try simp only [Act.put, zn1, zn2, zn3])
            refine tY (i := 4) (v := ?_) rfl ?_ hHeld ?_; rotate_left 1; focus (intro w' hSw; clear hSw; go_simp; try with_reducible rfl)
            (try simp only [Act.put, zn1, zn2, zn3])
            refine tY (i := 5) (v := ?_) rfl ?_ hHeld ?_; rotate_left 1; focus (intro w' hSw; have hCell := fun (b o : Nat) (h : b < W2.heap.size) => hSw.cell (p := ⟨b, o, none⟩) h; clear hSw; go_simp; try with_reducible rfl)
            (try simp only [Act.put, zn1, zn2, zn3])
            refine ready_one (i := 6) rfl (by kernel_rfl) (fun K hK => ?_)
            go_simp
            refine (aheadQ_any An Ae nn cn ce es s s' t r d t' 1 d' _ (Hr.out.at hHeld) hl).mono ?_
            rintro e v3 ⟨rfl, hb⟩
            refine hK.out _ _ ?_ (fun hHeld2 => ?_)
            · (try dsimp only); first | exact Below.trans hHeld (Below.mono hb hHeld.size) | exact hHeld | exact Below.drew hHeld | exact (by repeat (first | exact Below.refl _ _ | assumption | refine Below.alloc ?_ (by first | omega | (simp <;> omega)) _ | refine Below.setCell ?_ (by first | omega | (simp <;> omega)) _ | refine Below.drew ?_))
            clear hK K hHeld; have hHeld := hHeld2; clear hHeld2; (try simp only [Act.put, zn1, zn2, zn3])
            refine wpAnyH_done (by kernel_rfl) ?_ _
            replace g0 := cellAt g0 hHeld (by omega)
            replace g1 := cellAt g1 hHeld (by omega)
            replace y0 := cellAt y0 hHeld (by omega)
            replace y1 := cellAt y1 hHeld (by omega)
            replace y2 := cellAt y2 hHeld (by omega)
            replace y3 := cellAt y3 hHeld (by omega)
            replace e0 := cellAt e0 hHeld (by omega)
            replace e1 := cellAt e1 hHeld (by omega)
            replace e2 := cellAt e2 hHeld (by omega)
            replace e3 := cellAt e3 hHeld (by omega)
            replace Hr := Lib.hid (Hr.out.at hHeld)
            replace HQ := Lib.hid (HQ.out.at hHeld)
            replace n1 : w.heap.size < v3.heap.size := ltAt n1 hHeld
            replace HB := Lib.hid (lift HB.out hHeld)
            replace hB : b < v3.heap.size := ltAt hB hHeld
            replace HOut := Lib.hid (own_on HOut.out hHeld)
            replace Hb := Lib.hid (lift Hb.out hHeld)
            replace p1 : wr.heap.size < v3.heap.size := ltAt p1 hHeld
            clear hHeld
            have hzb : w3.heap.size ≤ v3.heap.size := Hb.out.size
            cases hah : aheadJ es (s, t, r, d) (s', t', 1, d')
            · have HS2 := Lib.hid (show waitsJ es (q.take (m + 1)) (s', t', 1, d') = waitsJ es (q.take m) (s', t', 1, d') by rw [HS.out, hah]; simp)
              go_wp2_with fail
              go_roundw
              case rel => exact ⟨m + 1, by omega, by go_num, by rw [HS2.out]; exact HOut.out, Hb.out⟩
              case measure => simp [intOf]; omega
            · have HS2 := Lib.hid (show waitsJ es (q.take (m + 1)) (s', t', 1, d') = waitsJ es (q.take m) (s', t', 1, d') ++ [s] by rw [HS.out, hah]; simp)
              have h63 : (waitsJ es (q.take m) (s', t', 1, d')).length + 1 ≤ maxLen := by unfold maxLen; omega
              have hby : ((waitsJ es (q.take m) (s', t', 1, d')).length + 1) * 16 ≤ 140737488355328 := by omega
              go_wp2_with (first | (at_builtin; refine wpList_pushm w3 v3 (by rfl) (.tmp 42) (.tmp 45) 27 (by rfl) w3.heap.size 9 i0 _ 1 16 Tryz.underlying27 hi hz0 hz1 hz2 rfl (by decide) _ _ _ (by rfl) HOut.out [sv s] v3.heap.size rfl (by rfl) rfl (one_sv s) h63 hby hzb Hb.out ?_; intro A8 c8 w4 hown4 hbel4 hg4 hat4) | fail)
              go_roundw
              case rel => exact ⟨m + 1, by omega, by go_num, by rw [HS2.out]; simpa [svs] using hown4, hbel4⟩
              case measure => simp [intOf]; omega
          · have hmq : m = q.length := by omega
            have ho := HOut.out
            rw [hmq, List.take_length] at ho
            have HO2 := Lib.hid ho
            clear ho
            go_wp2_with fail
            go_ret
            rw [HW.out]
            exact OwnS.of HO2.out hzw (HB.out)
      · have HW := Lib.hid (waitsQ_other (es := es) hj r1)
        have rb : (r' == 1) = false := by simpa using r1
        clear hj
        go_wp2_with fail
        go_ret
        rw [HW.out]
        exact OwnS.nil HB.out
end Od
end Go.Proofs.YtmlogmcnblgnbaaGreat
end
