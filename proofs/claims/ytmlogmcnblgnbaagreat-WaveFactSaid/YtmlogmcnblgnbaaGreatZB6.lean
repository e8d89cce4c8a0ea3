/- My texts, joined for the claim: QMay20. -/
import Derived.Test.YtmlogmcnblgnbaaGreatZB0
import Derived.Test.YtmlogmcnblgnbaaGreatZB3
import Derived.Test.YtmlogmcnblgnbaaGreatZB5

section
/- The walks of matinsref1.May and matinsref20.May. (bel2) -/
namespace Go.Proofs.YtmlogmcnblgnbaaGreat
open Go.RowKit
set_option linter.unusedSimpArgs false

namespace Od
theorem sufK_nn (t : Str) : 0 ≤ sufK t := by
  unfold sufK
  repeat' split
  all_goals decide
theorem kindS_nn (s : Str) : 0 ≤ kindS s := by
  unfold kindS
  split
  · decide
  · exact sufK_nn _
set_option maxRecDepth 100000 in
set_option maxHeartbeats 1000000 in
theorem May1_any (s : Str) (w : World) (hl : s.length ≤ 140737488355328) : Calls Tryz.prog 76 #[sv s] w fun e w' => e = .returned (.bool (kindS s != 0)) ∧ Below w.heap.size w w' := by
  have hk := ofS_kind s
  have hn := kindS_nn s
  go_enter Tryz.func76, Tryz.ntmps76
  go_wp2_with fail
  refine (Of_any s w hl).mono ?_
  rintro e w2 ⟨he, hb⟩
  generalize ofS s = z at he hk
  obtain ⟨k, p, i, a⟩ := z
  simp only at hk
  subst he
  have hfd : ∀ v : World, (Instr.field 128 (cutC (k, p, i, a)) 0).run Tryz.prog v = .ok (.int .i64 k) v := fun _ => by kernel_rfl
  have HK := Lib.hid hk
  by_cases hz : kindS s = 0
  · have d1 : decide ((0 : Int) < k) = false := by rw [decide_eq_false_iff_not]; omega
    have H1 := Lib.hid hz
    clear hz hn hk
    go_wp2_with fail
    go_ret
    exact ⟨ret_bool (by rw [H1.out]; rfl), hb⟩
  · have d1 : decide ((0 : Int) < k) = true := by rw [decide_eq_true_eq]; omega
    have H1 := Lib.hid hz
    clear hz hn hk
    go_wp2_with fail
    go_ret
    exact ⟨ret_bool (by simp [H1.out]), hb⟩
theorem mayJ_mk {s : Str} {t r d : Int} : mayJ (s, t, r, d) = true ↔ kindS s ≠ 0 ∧ 1 ≤ t ∧ t ≤ 4 ∧ (((r = 1 ∨ r = 2) ∧ d = 0) ∨ (r = 3 ∧ 1 ≤ d ∧ d ≤ 4)) := mayJ_iff
theorem mayJ_no {s : Str} {t r d : Int} (h : ¬ (kindS s ≠ 0 ∧ 1 ≤ t ∧ t ≤ 4 ∧ (((r = 1 ∨ r = 2) ∧ d = 0) ∨ (r = 3 ∧ 1 ≤ d ∧ d ≤ 4)))) : mayJ (s, t, r, d) = false := by
  cases hm : mayJ (s, t, r, d)
  · rfl
  · exact absurd (mayJ_mk.1 hm) h
theorem UpTo.step {q : List Jb} {k : Nat} (h : UpTo q k) (hk : k < q.length) (hj : mayJ q[k] = true) (hl : ∀ j (e : k = j + 1), ltS (q[j]'(by omega)).1 q[k].1 = true) : UpTo q (k + 1) := by
  refine ⟨fun i h1 h2 => ?_, fun i h1 h2 => ?_⟩
  · by_cases hi : i < k
    · exact h.1 i h1 hi
    · obtain rfl : i = k := by omega
      exact hj
  · by_cases hi : i + 1 < k
    · exact h.2 i h1 hi
    · obtain rfl : k = i + 1 := by omega
      exact hl i rfl
set_option maxRecDepth 100000 in
set_option maxHeartbeats 16000000 in
theorem May20_any (A : Option Addr) (c : Nat) (q : List Jb) (w : World) (hr : Rd w w.heap.size 4 A q.length (jbsC q)) (hok : OkJs q) :
    Calls Tryz.prog 44 #[.slice A q.length c] w fun e w' => e = .returned (.bool (mayQ q)) ∧ Below w.heap.size w w' := by
  have Hr := Lib.hid hr
  have HO := Lib.hid hok
  clear hr hok
  by_cases h64 : (64 : Int) < (q.length : Int)
  · have d64 : decide ((64 : Int) < (q.length : Int)) = true := by simpa using h64
    have Hm := Lib.hid (show mayQ q = false by unfold mayQ; rw [show decide ((q.length : Int) ≤ 64) = false by simp; omega]; rfl)
    go_enter Tryz.func44, Tryz.ntmps44
    go_wp2_with fail
    go_ret
    exact ⟨ret_bool (by rw [Hm.out]), Below.refl _ _⟩
  · have d64 : decide ((64 : Int) < (q.length : Int)) = false := by simpa using h64
    go_enter Tryz.func44, Tryz.ntmps44
    go_wp2_with fail
    go_loopw [12] (fun i wr => ∃ k : Nat, k ≤ q.length ∧ i = .int .i64 k ∧ Hid (UpTo q k) ∧ Below w.heap.size w wr) (fun i _ => q.length - (intOf i).toNat)
    case atStart => exact ⟨0, Nat.zero_le _, rfl, ⟨fun _ _ h => absurd h (by omega), fun _ _ h => absurd h (by omega)⟩, Below.refl _ _⟩
    case round =>
      obtain ⟨k, hk, rfl, hall, hb⟩ := hrel
      have HU := Lib.hid hall.out
      clear hall
      replace Hr := Lib.hid (Hr.out.at hb)
      have Hb := Lib.hid hb
      clear hb
      by_cases hlt : k < q.length
      · obtain ⟨b, o, rfl, hB, x0, x1, x2, x3⟩ := Hr.out.job hlt
        have hlen := HO.out _ (List.getElem_mem hlt)
        generalize hx : q[k] = x at x0 x1 x2 x3 hlen
        obtain ⟨s, t, r, d⟩ := x
        have Hx := Lib.hid hx
        clear hx
        simp only at x0 x1 x2 x3 hlen
        have k1 : (0 : Int) ≤ (k : Int) := by omega
        have k2 : (k : Int) < (q.length : Int) := by omega
        by_cases hkz : kindS s = 0
        · have hkb : (kindS s != 0) = false := by simp [hkz]
          have Hm := Lib.hid (mayQ_not hlt (by rw [Hx.out]; exact mayJ_no (by omega)))
          go_wp2_with fail
          first | (refine wp_named ?_; intro W2 hW) | (refine calls_named ?_; intro W2 hW)
          have B2 : Below wr.heap.size wr W2 := by rw [hW]; exact (by repeat (first | exact Below.refl _ _ | assumption | refine Below.alloc ?_ (by first | omega | (simp <;> omega)) _ | refine Below.setCell ?_ (by first | omega | (simp <;> omega)) _ | refine Below.drew ?_))
          replace Hr := Lib.hid (Hr.out.at B2)
          replace Hb := Lib.hid (lift Hb.out B2)
          replace hB := ltAt hB B2
          have m1 : wr.heap.size < W2.heap.size := by rw [hW]; simp <;> omega
          have e0 : W2.cell? ⟨wr.heap.size, 0, none⟩ = some (sv s) := by rw [hW]; go_simp
          have e1 : W2.cell? ⟨wr.heap.size, 1, none⟩ = some (.int .i64 t) := by rw [hW]; go_simp
          have e2 : W2.cell? ⟨wr.heap.size, 2, none⟩ = some (.int .i64 r) := by rw [hW]; go_simp
          have e3 : W2.cell? ⟨wr.heap.size, 3, none⟩ = some (.int .i64 d) := by rw [hW]; go_simp
          clear hW
          clear B2
          try go_wp2_with fail
          refine wp_region_held_drew (S := fun w' => Below W2.heap.size W2 w') (by kernel_rfl) (Below.drew (Below.refl _ _)) (fun hHeld => ?_)
          refine tY (i := 0) (v := ?_) rfl ?_ hHeld ?_; rotate_left 1; focus (intro w' hSw; clear hSw; go_simp; try with_reducible rfl)
          (try simp only [Act.put, zn1, zn2, zn3])
          refine tY (i := 1) (v := ?_) rfl ?_ hHeld ?_; rotate_left 1; focus (intro w' hSw; have hCell := fun (b o : Nat) (h : b < W2.heap.size) => hSw.cell (p := ⟨b, o, none⟩) h; clear hSw; go_simp; try with_reducible rfl)
          (try simp only [Act.put, zn1, zn2, zn3])
          refine ready_one (i := 2) rfl (by kernel_rfl) (fun K hK => ?_)
          go_simp
          refine (May1_any s _ hlen).mono ?_
          rintro e v3 ⟨rfl, hb⟩
          refine hK.out _ _ ?_ (fun hHeld2 => ?_)
          · (try dsimp only); first | exact Below.trans hHeld (Below.mono hb hHeld.size) | exact hHeld | exact Below.drew hHeld | exact (by repeat (first | exact Below.refl _ _ | assumption | refine Below.alloc ?_ (by first | omega | (simp <;> omega)) _ | refine Below.setCell ?_ (by first | omega | (simp <;> omega)) _ | refine Below.drew ?_))
          clear hK K hHeld; have hHeld := hHeld2; clear hHeld2; (try simp only [Act.put, zn1, zn2, zn3])
          refine tY (i := 3) (v := ?_) rfl ?_ hHeld ?_; rotate_left 1; focus (intro w' hSw; clear hSw; go_simp; try with_reducible rfl)
          (try simp only [Act.put, zn1, zn2, zn3])
          refine tY (i := 4) (v := ?_) rfl ?_ hHeld ?_; rotate_left 1; focus (intro w' hSw; clear hSw; go_simp; try with_reducible rfl)
          (try simp only [Act.put, zn1, zn2, zn3])
          refine tS (i := 5) rfl hHeld ?_; (try simp only [Act.put, zn1, zn2, zn3])
          refine tS (i := 6) rfl hHeld ?_; (try simp only [Act.put, zn1, zn2, zn3])
          refine tS (i := 7) rfl hHeld ?_; (try simp only [Act.put, zn1, zn2, zn3])
          refine tS (i := 8) rfl hHeld ?_; (try simp only [Act.put, zn1, zn2, zn3])
          refine tS (i := 9) rfl hHeld ?_; (try simp only [Act.put, zn1, zn2, zn3])
          refine tS (i := 10) rfl hHeld ?_; (try simp only [Act.put, zn1, zn2, zn3])
          refine tS (i := 11) rfl hHeld ?_; (try simp only [Act.put, zn1, zn2, zn3])
          refine tS (i := 12) rfl hHeld ?_; (try simp only [Act.put, zn1, zn2, zn3])
          refine tS (i := 13) rfl hHeld ?_; (try simp only [Act.put, zn1, zn2, zn3])
          refine tS (i := 14) rfl hHeld ?_; (try simp only [Act.put, zn1, zn2, zn3])
          refine tS (i := 15) rfl hHeld ?_; (try simp only [Act.put, zn1, zn2, zn3])
          refine tS (i := 16) rfl hHeld ?_; (try simp only [Act.put, zn1, zn2, zn3])
          refine tS (i := 17) rfl hHeld ?_; (try simp only [Act.put, zn1, zn2, zn3])
          refine tY (i := 18) (v := ?_) rfl ?_ hHeld ?_; rotate_left 1; focus (intro w' hSw; clear hSw; go_simp; try with_reducible rfl)
          (try simp only [Act.put, zn1, zn2, zn3])
          refine tY (i := 19) (v := ?_) rfl ?_ hHeld ?_; rotate_left 1; focus (intro w' hSw; clear hSw; go_simp; try with_reducible rfl)
          (try simp only [Act.put, zn1, zn2, zn3])
          refine tS (i := 20) rfl hHeld ?_; (try simp only [Act.put, zn1, zn2, zn3])
          refine tS (i := 21) rfl hHeld ?_; (try simp only [Act.put, zn1, zn2, zn3])
          refine tS (i := 22) rfl hHeld ?_; (try simp only [Act.put, zn1, zn2, zn3])
          refine tY (i := 23) (v := ?_) rfl ?_ hHeld ?_; rotate_left 1; focus (intro w' hSw; clear hSw; go_simp; try with_reducible rfl)
          (try simp only [Act.put, zn1, zn2, zn3])
          refine tY (i := 24) (v := ?_) rfl ?_ hHeld ?_; rotate_left 1; focus (intro w' hSw; clear hSw; go_simp; try with_reducible rfl)
          (try simp only [Act.put, zn1, zn2, zn3])
          refine tS (i := 25) rfl hHeld ?_; (try simp only [Act.put, zn1, zn2, zn3])
          refine tS (i := 26) rfl hHeld ?_; (try simp only [Act.put, zn1, zn2, zn3])
          refine tS (i := 27) rfl hHeld ?_; (try simp only [Act.put, zn1, zn2, zn3])
          refine tY (i := 28) (v := ?_) rfl ?_ hHeld ?_; rotate_left 1; focus (intro w' hSw; clear hSw; go_simp; try with_reducible rfl)
          (try simp only [Act.put, zn1, zn2, zn3])
          refine wpAnyH_done (by kernel_rfl) ?_ _
          go_wp2_with fail
          go_ret
          exact ⟨ret_bool (by rw [Hm.out]), lift Hb.out hHeld⟩
        · have hkb : (kindS s != 0) = true := by simp [hkz]
          have HK := Lib.hid hkz
          clear hkz
          by_cases hk0 : k = 0
          · have k3 : decide (0 < k) = false := by rw [decide_eq_false_iff_not]; omega
            have HK0 := Lib.hid hk0
            clear hk0
            by_cases t1 : t < 1
            · have dt1 : decide (t < 1) = true := by rw [decide_eq_true_eq]; exact t1
              have Hm := Lib.hid (mayQ_not hlt (by rw [Hx.out]; exact mayJ_no (by omega)))
              go_wp2_with fail
              first | (refine wp_named ?_; intro W2 hW) | (refine calls_named ?_; intro W2 hW)
              have B2 : Below wr.heap.size wr W2 := by rw [hW]; exact (by repeat (first | exact Below.refl _ _ | assumption | refine Below.alloc ?_ (by first | omega | (simp <;> omega)) _ | refine Below.setCell ?_ (by first | omega | (simp <;> omega)) _ | refine Below.drew ?_))
              replace Hr := Lib.hid (Hr.out.at B2)
              replace Hb := Lib.hid (lift Hb.out B2)
              replace hB := ltAt hB B2
              have m1 : wr.heap.size < W2.heap.size := by rw [hW]; simp <;> omega
              have e0 : W2.cell? ⟨wr.heap.size, 0, none⟩ = some (sv s) := by rw [hW]; go_simp
              have e1 : W2.cell? ⟨wr.heap.size, 1, none⟩ = some (.int .i64 t) := by rw [hW]; go_simp
              have e2 : W2.cell? ⟨wr.heap.size, 2, none⟩ = some (.int .i64 r) := by rw [hW]; go_simp
              have e3 : W2.cell? ⟨wr.heap.size, 3, none⟩ = some (.int .i64 d) := by rw [hW]; go_simp
              clear hW
              clear B2
              try go_wp2_with fail
              refine wp_region_held_drew (S := fun w' => Below W2.heap.size W2 w') (by kernel_rfl) (Below.drew (Below.refl _ _)) (fun hHeld => ?_)
              refine tY (i := 0) (v := ?_) rfl ?_ hHeld ?_; rotate_left 1; focus (intro w' hSw; clear hSw; go_simp; try with_reducible rfl)
              (try simp only [Act.put, zn1, zn2, zn3])
              refine tY (i := 1) (v := ?_) rfl ?_ hHeld ?_; rotate_left 1; focus (intro w' hSw; have hCell := fun (b o : Nat) (h : b < W2.heap.size) => hSw.cell (p := ⟨b, o, none⟩) h; clear hSw; go_simp; try with_reducible rfl)
              (try simp only [Act.put, zn1, zn2, zn3])
              refine ready_one (i := 2) rfl (by kernel_rfl) (fun K hK => ?_)
              go_simp
              refine (May1_any s _ hlen).mono ?_
              rintro e v3 ⟨rfl, hb⟩
              refine hK.out _ _ ?_ (fun hHeld2 => ?_)
              · (try dsimp only); first | exact Below.trans hHeld (Below.mono hb hHeld.size) | exact hHeld | exact Below.drew hHeld | exact (by repeat (first | exact Below.refl _ _ | assumption | refine Below.alloc ?_ (by first | omega | (simp <;> omega)) _ | refine Below.setCell ?_ (by first | omega | (simp <;> omega)) _ | refine Below.drew ?_))
              clear hK K hHeld; have hHeld := hHeld2; clear hHeld2; (try simp only [Act.put, zn1, zn2, zn3])
              refine tY (i := 3) (v := ?_) rfl ?_ hHeld ?_; rotate_left 1; focus (intro w' hSw; clear hSw; go_simp; try with_reducible rfl)
              (try simp only [Act.put, zn1, zn2, zn3])
              refine tY (i := 4) (v := ?_) rfl ?_ hHeld ?_; rotate_left 1; focus (intro w' hSw; clear hSw; go_simp; try with_reducible rfl)
              (try simp only [Act.put, zn1, zn2, zn3])
              refine tY (i := 5) (v := ?_) rfl ?_ hHeld ?_; rotate_left 1; focus (intro w' hSw; clear hSw; go_simp; try with_reducible rfl)
              (try simp only [Act.put, zn1, zn2, zn3])
              refine tY (i := 6) (v := ?_) rfl ?_ hHeld ?_; rotate_left 1; focus (intro w' hSw; clear hSw; go_simp; try with_reducible rfl)
              (try simp only [Act.put, zn1, zn2, zn3])
              refine tY (i := 7) (v := ?_) rfl ?_ hHeld ?_; rotate_left 1; focus (intro w' hSw; clear hSw; go_simp; try with_reducible rfl)
              (try simp only [Act.put, zn1, zn2, zn3])
              refine tS (i := 8) rfl hHeld ?_; (try simp only [Act.put, zn1, zn2, zn3])
              refine tS (i := 9) rfl hHeld ?_; (try simp only [Act.put, zn1, zn2, zn3])
              refine tS (i := 10) rfl hHeld ?_; (try simp only [Act.put, zn1, zn2, zn3])
              refine tS (i := 11) rfl hHeld ?_; (try simp only [Act.put, zn1, zn2, zn3])
              refine tS (i := 12) rfl hHeld ?_; (try simp only [Act.put, zn1, zn2, zn3])
              refine tS (i := 13) rfl hHeld ?_; (try simp only [Act.put, zn1, zn2, zn3])
              refine tS (i := 14) rfl hHeld ?_; (try simp only [Act.put, zn1, zn2, zn3])
              refine tS (i := 15) rfl hHeld ?_; (try simp only [Act.put, zn1, zn2, zn3])
              refine tS (i := 16) rfl hHeld ?_; (try simp only [Act.put, zn1, zn2, zn3])
              refine tY (i := 17) (v := ?_) rfl ?_ hHeld ?_; rotate_left 1; focus (intro w' hSw; clear hSw; go_simp; try with_reducible rfl)
              (try simp only [Act.put, zn1, zn2, zn3])
              refine tY (i := 18) (v := ?_) rfl ?_ hHeld ?_; rotate_left 1; focus (intro w' hSw; clear hSw; go_simp; try with_reducible rfl)
              (try simp only [Act.put, zn1, zn2, zn3])
              refine tY (i := 19) (v := ?_) rfl ?_ hHeld ?_; rotate_left 1; focus (intro w' hSw; clear hSw; go_simp; try with_reducible rfl)
              (try simp only [Act.put, zn1, zn2, zn3])
              refine tY (i := 20) (v := ?_) rfl ?_ hHeld ?_; rotate_left 1; focus (intro w' hSw; clear hSw; go_simp; try with_reducible rfl)
              (try simp only [Act.put, zn1, zn2, zn3])
              refine tY (i := 21) (v := ?_) rfl ?_ hHeld ?_; rotate_left 1; focus (intro w' hSw; have hCell := fun (b o : Nat) (h : b < W2.heap.size) => hSw.cell (p := ⟨b, o, none⟩) h; clear hSw; go_simp; try with_reducible rfl)
              (try simp only [Act.put, zn1, zn2, zn3])
              refine tY (i := 22) (v := ?_) rfl ?_ hHeld ?_; rotate_left 1; focus (intro w' hSw; clear hSw; go_simp; try with_reducible rfl)
              (try simp only [Act.put, zn1, zn2, zn3])
              refine tY (i := 23) (v := ?_) rfl ?_ hHeld ?_; rotate_left 1; focus (intro w' hSw; clear hSw; go_simp; try with_reducible rfl)
              (try simp only [Act.put, zn1, zn2, zn3])
              refine tY (i := 24) (v := ?_) rfl ?_ hHeld ?_; rotate_left 1; focus (intro w' hSw; clear hSw; go_simp; try with_reducible rfl)
              (try simp only [Act.put, zn1, zn2, zn3])
              refine tS (i := 25) rfl hHeld ?_; (try simp only [Act.put, zn1, zn2, zn3])
              refine tS (i := 26) rfl hHeld ?_; (try simp only [Act.put, zn1, zn2, zn3])
              refine tS (i := 27) rfl hHeld ?_; (try simp only [Act.put, zn1, zn2, zn3])
              refine tY (i := 28) (v := ?_) rfl ?_ hHeld ?_; rotate_left 1; focus (intro w' hSw; clear hSw; go_simp; try with_reducible rfl)
              (try simp only [Act.put, zn1, zn2, zn3])
              refine wpAnyH_done (by kernel_rfl) ?_ _
              go_wp2_with fail
              go_ret
              exact ⟨ret_bool (by rw [Hm.out]), lift Hb.out hHeld⟩
            · have dt1 : decide (t < 1) = false := by rw [decide_eq_false_iff_not]; exact t1
              by_cases t4 : 4 < t
              · have dt4 : decide (4 < t) = true := by rw [decide_eq_true_eq]; exact t4
                have Hm := Lib.hid (mayQ_not hlt (by rw [Hx.out]; exact mayJ_no (by omega)))
                go_wp2_with fail
                first | (refine wp_named ?_; intro W2 hW) | (refine calls_named ?_; intro W2 hW)
                have B2 : Below wr.heap.size wr W2 := by rw [hW]; exact (by repeat (first | exact Below.refl _ _ | assumption | refine Below.alloc ?_ (by first | omega | (simp <;> omega)) _ | refine Below.setCell ?_ (by first | omega | (simp <;> omega)) _ | refine Below.drew ?_))
                replace Hr := Lib.hid (Hr.out.at B2)
                replace Hb := Lib.hid (lift Hb.out B2)
                replace hB := ltAt hB B2
                have m1 : wr.heap.size < W2.heap.size := by rw [hW]; simp <;> omega
                have e0 : W2.cell? ⟨wr.heap.size, 0, none⟩ = some (sv s) := by rw [hW]; go_simp
                have e1 : W2.cell? ⟨wr.heap.size, 1, none⟩ = some (.int .i64 t) := by rw [hW]; go_simp
                have e2 : W2.cell? ⟨wr.heap.size, 2, none⟩ = some (.int .i64 r) := by rw [hW]; go_simp
                have e3 : W2.cell? ⟨wr.heap.size, 3, none⟩ = some (.int .i64 d) := by rw [hW]; go_simp
                clear hW
                clear B2
                try go_wp2_with fail
                refine wp_region_held_drew (S := fun w' => Below W2.heap.size W2 w') (by kernel_rfl) (Below.drew (Below.refl _ _)) (fun hHeld => ?_)
                refine tY (i := 0) (v := ?_) rfl ?_ hHeld ?_; rotate_left 1; focus (intro w' hSw; clear hSw; go_simp; try with_reducible rfl)
                (try simp only [Act.put, zn1, zn2, zn3])
                refine tY (i := 1) (v := ?_) rfl ?_ hHeld ?_; rotate_left 1; focus (intro w' hSw; have hCell := fun (b o : Nat) (h : b < W2.heap.size) => hSw.cell (p := ⟨b, o, none⟩) h; clear hSw; go_simp; try with_reducible rfl)
                (try simp only [Act.put, zn1, zn2, zn3])
                refine ready_one (i := 2) rfl (by kernel_rfl) (fun K hK => ?_)
                go_simp
                refine (May1_any s _ hlen).mono ?_
                rintro e v3 ⟨rfl, hb⟩
                refine hK.out _ _ ?_ (fun hHeld2 => ?_)
                · (try dsimp only); first | exact Below.trans hHeld (Below.mono hb hHeld.size) | exact hHeld | exact Below.drew hHeld | exact (by repeat (first | exact Below.refl _ _ | assumption | refine Below.alloc ?_ (by first | omega | (simp <;> omega)) _ | refine Below.setCell ?_ (by first | omega | (simp <;> omega)) _ | refine Below.drew ?_))
                clear hK K hHeld; have hHeld := hHeld2; clear hHeld2; (try simp only [Act.put, zn1, zn2, zn3])
                refine tY (i := 3) (v := ?_) rfl ?_ hHeld ?_; rotate_left 1; focus (intro w' hSw; clear hSw; go_simp; try with_reducible rfl)
                (try simp only [Act.put, zn1, zn2, zn3])
                refine tY (i := 4) (v := ?_) rfl ?_ hHeld ?_; rotate_left 1; focus (intro w' hSw; clear hSw; go_simp; try with_reducible rfl)
                (try simp only [Act.put, zn1, zn2, zn3])
                refine tY (i := 5) (v := ?_) rfl ?_ hHeld ?_; rotate_left 1; focus (intro w' hSw; clear hSw; go_simp; try with_reducible rfl)
                (try simp only [Act.put, zn1, zn2, zn3])
                refine tY (i := 6) (v := ?_) rfl ?_ hHeld ?_; rotate_left 1; focus (intro w' hSw; clear hSw; go_simp; try with_reducible rfl)
                (try simp only [Act.put, zn1, zn2, zn3])
                refine tY (i := 7) (v := ?_) rfl ?_ hHeld ?_; rotate_left 1; focus (intro w' hSw; clear hSw; go_simp; try with_reducible rfl)
                (try simp only [Act.put, zn1, zn2, zn3])
                refine tS (i := 8) rfl hHeld ?_; (try simp only [Act.put, zn1, zn2, zn3])
                refine tS (i := 9) rfl hHeld ?_; (try simp only [Act.put, zn1, zn2, zn3])
                refine tS (i := 10) rfl hHeld ?_; (try simp only [Act.put, zn1, zn2, zn3])
                refine tS (i := 11) rfl hHeld ?_; (try simp only [Act.put, zn1, zn2, zn3])
                refine tS (i := 12) rfl hHeld ?_; (try simp only [Act.put, zn1, zn2, zn3])
                refine tS (i := 13) rfl hHeld ?_; (try simp only [Act.put, zn1, zn2, zn3])
                refine tS (i := 14) rfl hHeld ?_; (try simp only [Act.put, zn1, zn2, zn3])
                refine tS (i := 15) rfl hHeld ?_; (try simp only [Act.put, zn1, zn2, zn3])
                refine tS (i := 16) rfl hHeld ?_; (try simp only [Act.put, zn1, zn2, zn3])
                refine tY (i := 17) (v := ?_) rfl ?_ hHeld ?_; rotate_left 1; focus (intro w' hSw; clear hSw; go_simp; try with_reducible rfl)
                (try simp only [Act.put, zn1, zn2, zn3])
                refine tY (i := 18) (v := ?_) rfl ?_ hHeld ?_; rotate_left 1; focus (intro w' hSw; clear hSw; go_simp; try with_reducible rfl)
                (try simp only [Act.put, zn1, zn2, zn3])
                refine tY (i := 19) (v := ?_) rfl ?_ hHeld ?_; rotate_left 1; focus (intro w' hSw; clear hSw; go_simp; try with_reducible rfl)
                (try simp only [Act.put, zn1, zn2, zn3])
                refine tY (i := 20) (v := ?_) rfl ?_ hHeld ?_; rotate_left 1; focus (intro w' hSw; clear hSw; go_simp; try with_reducible rfl)
                (try simp only [Act.put, zn1, zn2, zn3])
                refine tY (i := 21) (v := ?_) rfl ?_ hHeld ?_; rotate_left 1; focus (intro w' hSw; have hCell := fun (b o : Nat) (h : b < W2.heap.size) => hSw.cell (p := ⟨b, o, none⟩) h; clear hSw; go_simp; try with_reducible rfl)
                (try simp only [Act.put, zn1, zn2, zn3])
                refine tY (i := 22) (v := ?_) rfl ?_ hHeld ?_; rotate_left 1; focus (intro w' hSw; clear hSw; go_simp; try with_reducible rfl)
                (try simp only [Act.put, zn1, zn2, zn3])
                refine tY (i := 23) (v := ?_) rfl ?_ hHeld ?_; rotate_left 1; focus (intro w' hSw; clear hSw; go_simp; try with_reducible rfl)
                (try simp only [Act.put, zn1, zn2, zn3])
                refine tY (i := 24) (v := ?_) rfl ?_ hHeld ?_; rotate_left 1; focus (intro w' hSw; clear hSw; go_simp; try with_reducible rfl)
                (try simp only [Act.put, zn1, zn2, zn3])
                refine tY (i := 25) (v := ?_) rfl ?_ hHeld ?_; rotate_left 1; focus (intro w' hSw; clear hSw; go_simp; try with_reducible rfl)
                (try simp only [Act.put, zn1, zn2, zn3])
                refine tY (i := 26) (v := ?_) rfl ?_ hHeld ?_; rotate_left 1; focus (intro w' hSw; have hCell := fun (b o : Nat) (h : b < W2.heap.size) => hSw.cell (p := ⟨b, o, none⟩) h; clear hSw; go_simp; try with_reducible rfl)
                (try simp only [Act.put, zn1, zn2, zn3])
                refine tY (i := 27) (v := ?_) rfl ?_ hHeld ?_; rotate_left 1; focus (intro w' hSw; clear hSw; go_simp; try with_reducible rfl)
                (try simp only [Act.put, zn1, zn2, zn3])
                refine tY (i := 28) (v := ?_) rfl ?_ hHeld ?_; rotate_left 1; focus (intro w' hSw; clear hSw; go_simp; try with_reducible rfl)
                (try simp only [Act.put, zn1, zn2, zn3])
                refine wpAnyH_done (by kernel_rfl) ?_ _
                go_wp2_with fail
                go_ret
                exact ⟨ret_bool (by rw [Hm.out]), lift Hb.out hHeld⟩
              · have dt4 : decide (4 < t) = false := by rw [decide_eq_false_iff_not]; exact t4
                go_wp2_with fail
                first | (refine wp_named ?_; intro W2 hW) | (refine calls_named ?_; intro W2 hW)
                have B2 : Below wr.heap.size wr W2 := by rw [hW]; exact (by repeat (first | exact Below.refl _ _ | assumption | refine Below.alloc ?_ (by first | omega | (simp <;> omega)) _ | refine Below.setCell ?_ (by first | omega | (simp <;> omega)) _ | refine Below.drew ?_))
                replace Hr := Lib.hid (Hr.out.at B2)
                replace Hb := Lib.hid (lift Hb.out B2)
                replace hB := ltAt hB B2
                have m1 : wr.heap.size < W2.heap.size := by rw [hW]; simp <;> omega
                have e0 : W2.cell? ⟨wr.heap.size, 0, none⟩ = some (sv s) := by rw [hW]; go_simp
                have e1 : W2.cell? ⟨wr.heap.size, 1, none⟩ = some (.int .i64 t) := by rw [hW]; go_simp
                have e2 : W2.cell? ⟨wr.heap.size, 2, none⟩ = some (.int .i64 r) := by rw [hW]; go_simp
                have e3 : W2.cell? ⟨wr.heap.size, 3, none⟩ = some (.int .i64 d) := by rw [hW]; go_simp
                clear hW
                clear B2
                try go_wp2_with fail
                refine wp_region_held_drew (S := fun w' => Below W2.heap.size W2 w') (by kernel_rfl) (Below.drew (Below.refl _ _)) (fun hHeld => ?_)
                refine tY (i := 0) (v := ?_) rfl ?_ hHeld ?_; rotate_left 1; focus (intro w' hSw; clear hSw; go_simp; try with_reducible rfl)
                (try simp only [Act.put, zn1, zn2, zn3])
                refine tY (i := 1) (v := ?_) rfl ?_ hHeld ?_; rotate_left 1; focus (intro w' hSw; have hCell := fun (b o : Nat) (h : b < W2.heap.size) => hSw.cell (p := ⟨b, o, none⟩) h; clear hSw; go_simp; try with_reducible rfl)
                (try simp only [Act.put, zn1, zn2, zn3])
                refine ready_one (i := 2) rfl (by kernel_rfl) (fun K hK => ?_)
                go_simp
                refine (May1_any s _ hlen).mono ?_
                rintro e v3 ⟨rfl, hb⟩
                refine hK.out _ _ ?_ (fun hHeld2 => ?_)
                · (try dsimp only); first | exact Below.trans hHeld (Below.mono hb hHeld.size) | exact hHeld | exact Below.drew hHeld | exact (by repeat (first | exact Below.refl _ _ | assumption | refine Below.alloc ?_ (by first | omega | (simp <;> omega)) _ | refine Below.setCell ?_ (by first | omega | (simp <;> omega)) _ | refine Below.drew ?_))
                clear hK K hHeld; have hHeld := hHeld2; clear hHeld2; (try simp only [Act.put, zn1, zn2, zn3])
                refine tY (i := 3) (v := ?_) rfl ?_ hHeld ?_; rotate_left 1; focus (intro w' hSw; clear hSw; go_simp; try with_reducible rfl)
                (try simp only [Act.put, zn1, zn2, zn3])
                refine tY (i := 4) (v := ?_) rfl ?_ hHeld ?_; rotate_left 1; focus (intro w' hSw; clear hSw; go_simp; try with_reducible rfl)
                (try simp only [Act.put, zn1, zn2, zn3])
                refine tY (i := 5) (v := ?_) rfl ?_ hHeld ?_; rotate_left 1; focus (intro w' hSw; clear hSw; go_simp; try with_reducible rfl)
                (try simp only [Act.put, zn1, zn2, zn3])
                refine tY (i := 6) (v := ?_) rfl ?_ hHeld ?_; rotate_left 1; focus (intro w' hSw; clear hSw; go_simp; try with_reducible rfl)
                (try simp only [Act.put, zn1, zn2, zn3])
                refine tY (i := 7) (v := ?_) rfl ?_ hHeld ?_; rotate_left 1; focus (intro w' hSw; clear hSw; go_simp; try with_reducible rfl)
                (try simp only [Act.put, zn1, zn2, zn3])
                refine tS (i := 8) rfl hHeld ?_; (try simp only [Act.put, zn1, zn2, zn3])
                refine tS (i := 9) rfl hHeld ?_; (try simp only [Act.put, zn1, zn2, zn3])
                refine tS (i := 10) rfl hHeld ?_; (try simp only [Act.put, zn1, zn2, zn3])
                refine tS (i := 11) rfl hHeld ?_; (try simp only [Act.put, zn1, zn2, zn3])
                refine tS (i := 12) rfl hHeld ?_; (try simp only [Act.put, zn1, zn2, zn3])
                refine tS (i := 13) rfl hHeld ?_; (try simp only [Act.put, zn1, zn2, zn3])
                refine tS (i := 14) rfl hHeld ?_; (try simp only [Act.put, zn1, zn2, zn3])
                refine tS (i := 15) rfl hHeld ?_; (try simp only [Act.put, zn1, zn2, zn3])
                refine tS (i := 16) rfl hHeld ?_; (try simp only [Act.put, zn1, zn2, zn3])
                refine tY (i := 17) (v := ?_) rfl ?_ hHeld ?_; rotate_left 1; focus (intro w' hSw; clear hSw; go_simp; try with_reducible rfl)
                (try simp only [Act.put, zn1, zn2, zn3])
                refine tY (i := 18) (v := ?_) rfl ?_ hHeld ?_; rotate_left 1; focus (intro w' hSw; clear hSw; go_simp; try with_reducible rfl)
                (try simp only [Act.put, zn1, zn2, zn3])
                refine tY (i := 19) (v := ?_) rfl ?_ hHeld ?_; rotate_left 1; focus (intro w' hSw; clear hSw; go_simp; try with_reducible rfl)
                (try simp only [Act.put, zn1, zn2, zn3])
                refine tY (i := 20) (v := ?_) rfl ?_ hHeld ?_; rotate_left 1; focus (intro w' hSw; clear hSw; go_simp; try with_reducible rfl)
                (try simp only [Act.put, zn1, zn2, zn3])
                refine tY (i := 21) (v := ?_) rfl ?_ hHeld ?_; rotate_left 1; focus (intro w' hSw; have hCell := fun (b o : Nat) (h : b < W2.heap.size) => hSw.cell (p := ⟨b, o, none⟩) h; clear hSw; go_simp; try with_reducible rfl)
                (try simp only [Act.put, zn1, zn2, zn3])
                refine tY (i := 22) (v := ?_) rfl ?_ hHeld ?_; rotate_left 1; focus (intro w' hSw; clear hSw; go_simp; try with_reducible rfl)
                (try simp only [Act.put, zn1, zn2, zn3])
                refine tY (i := 23) (v := ?_) rfl ?_ hHeld ?_; rotate_left 1; focus (intro w' hSw; clear hSw; go_simp; try with_reducible rfl)
                (try simp only [Act.put, zn1, zn2, zn3])
                refine tY (i := 24) (v := ?_) rfl ?_ hHeld ?_; rotate_left 1; focus (intro w' hSw; clear hSw; go_simp; try with_reducible rfl)
                (try simp only [Act.put, zn1, zn2, zn3])
                refine tY (i := 25) (v := ?_) rfl ?_ hHeld ?_; rotate_left 1; focus (intro w' hSw; clear hSw; go_simp; try with_reducible rfl)
                (try simp only [Act.put, zn1, zn2, zn3])
                refine tY (i := 26) (v := ?_) rfl ?_ hHeld ?_; rotate_left 1; focus (intro w' hSw; have hCell := fun (b o : Nat) (h : b < W2.heap.size) => hSw.cell (p := ⟨b, o, none⟩) h; clear hSw; go_simp; try with_reducible rfl)
                (try simp only [Act.put, zn1, zn2, zn3])
                refine tY (i := 27) (v := ?_) rfl ?_ hHeld ?_; rotate_left 1; focus (intro w' hSw; clear hSw; go_simp; try with_reducible rfl)
                (try simp only [Act.put, zn1, zn2, zn3])
                refine tY (i := 28) (v := ?_) rfl ?_ hHeld ?_; rotate_left 1; focus (intro w' hSw; clear hSw; go_simp; try with_reducible rfl)
                (try simp only [Act.put, zn1, zn2, zn3])
                refine wpAnyH_done (by kernel_rfl) ?_ _
                replace e0 := cellAt e0 hHeld (by omega)
                replace e1 := cellAt e1 hHeld (by omega)
                replace e2 := cellAt e2 hHeld (by omega)
                replace e3 := cellAt e3 hHeld (by omega)
                replace Hr := Lib.hid (Hr.out.at hHeld)
                replace Hb := Lib.hid (lift Hb.out hHeld)
                replace hB := ltAt hB hHeld
                replace m1 : wr.heap.size < v3.heap.size := ltAt m1 hHeld
                have HB3 := Hb
                clear hHeld hkb
                by_cases r1 : r = 1
                · subst r1
                  by_cases d0 : d = 0
                  · subst d0
                    have hj : mayJ (s, t, 1, 0) = true := mayJ_mk.2 ⟨HK.out, by omega, by omega, by omega⟩
                    have HJ := Lib.hid hj
                    clear hj
                    go_wp2_with fail
                    go_roundw
                    case rel => exact ⟨k + 1, by omega, by go_num, HU.out.step hlt (by rw [Hx.out]; exact HJ.out) (fun j e => absurd (HK0.out.symm.trans e) (by simp)), HB3.out⟩
                    case measure => simp [intOf]; omega
                  · have db : (d == 0) = false := by simpa using d0
                    have hj : mayJ (s, t, 1, d) = false := mayJ_no (by omega)
                    have Hm := Lib.hid (mayQ_not hlt (by rw [Hx.out]; exact hj))
                    clear hj
                    go_wp2_with fail
                    go_ret
                    exact ⟨ret_bool (by rw [Hm.out]), HB3.out⟩
                · have rb1 : (r == 1) = false := by simpa using r1
                  by_cases r2 : r = 2
                  · subst r2
                    by_cases d0 : d = 0
                    · subst d0
                      have hj : mayJ (s, t, 2, 0) = true := mayJ_mk.2 ⟨HK.out, by omega, by omega, by omega⟩
                      have HJ := Lib.hid hj
                      clear hj
                      go_wp2_with fail
                      go_roundw
                      case rel => exact ⟨k + 1, by omega, by go_num, HU.out.step hlt (by rw [Hx.out]; exact HJ.out) (fun j e => absurd (HK0.out.symm.trans e) (by simp)), HB3.out⟩
                      case measure => simp [intOf]; omega
                    · have db : (d == 0) = false := by simpa using d0
                      have hj : mayJ (s, t, 2, d) = false := mayJ_no (by omega)
                      have Hm := Lib.hid (mayQ_not hlt (by rw [Hx.out]; exact hj))
                      clear hj
                      go_wp2_with fail
                      go_ret
                      exact ⟨ret_bool (by rw [Hm.out]), HB3.out⟩
                  · have rb2 : (r == 2) = false := by simpa using r2
                    by_cases r3 : r = 3
                    · subst r3
                      by_cases d1 : 1 ≤ d
                      · have db1 : decide (1 ≤ d) = true := by rw [decide_eq_true_eq]; exact d1
                        by_cases d4 : d ≤ 4
                        · have db4 : decide (d ≤ 4) = true := by rw [decide_eq_true_eq]; exact d4
                          have hj : mayJ (s, t, 3, d) = true := mayJ_mk.2 ⟨HK.out, by omega, by omega, by omega⟩
                          have HJ := Lib.hid hj
                          clear hj
                          go_wp2_with fail
                          go_roundw
                          case rel => exact ⟨k + 1, by omega, by go_num, HU.out.step hlt (by rw [Hx.out]; exact HJ.out) (fun j e => absurd (HK0.out.symm.trans e) (by simp)), HB3.out⟩
                          case measure => simp [intOf]; omega
                        · have db4 : decide (d ≤ 4) = false := by rw [decide_eq_false_iff_not]; exact d4
                          have hj : mayJ (s, t, 3, d) = false := mayJ_no (by omega)
                          have Hm := Lib.hid (mayQ_not hlt (by rw [Hx.out]; exact hj))
                          clear hj
                          go_wp2_with fail
                          go_ret
                          exact ⟨ret_bool (by rw [Hm.out]), HB3.out⟩
                      · have db1 : decide (1 ≤ d) = false := by rw [decide_eq_false_iff_not]; exact d1
                        have hj : mayJ (s, t, 3, d) = false := mayJ_no (by omega)
                        have Hm := Lib.hid (mayQ_not hlt (by rw [Hx.out]; exact hj))
                        clear hj
                        go_wp2_with fail
                        go_ret
                        exact ⟨ret_bool (by rw [Hm.out]), HB3.out⟩
                    · have rb3 : (r == 3) = false := by simpa using r3
                      have hj : mayJ (s, t, r, d) = false := mayJ_no (by omega)
                      have Hm := Lib.hid (mayQ_not hlt (by rw [Hx.out]; exact hj))
                      clear hj
                      go_wp2_with fail
                      go_ret
                      exact ⟨ret_bool (by rw [Hm.out]), HB3.out⟩
          · obtain ⟨j, rfl⟩ : ∃ j, k = j + 1 := ⟨k - 1, by omega⟩
            obtain ⟨b', o', he, _, y0, y1, y2, y3⟩ := Hr.out.job (i := j) (by omega)
            injection he with he
            injection he with he1 he2
            subst he1 he2
            clear y1 y2 y3
            generalize hy : q[j] = y at y0
            obtain ⟨s', t', r', d'⟩ := y
            have Hy := Lib.hid hy
            clear hy
            simp only at y0
            have k3 : (j : Int) < (q.length : Int) := by omega
            have k4 : IntKind.i64.wrap (j : Int) = j := IntWalk.i64_in _ (by omega)
            have k5 : IntKind.i64.wrap ((j : Int) + 1) = (j : Int) + 1 := IntWalk.i64_in _ (by omega)
            have k6 : ((j : Int) + 1).toNat = j + 1 := by omega
            have k7 : (0 : Int) ≤ (j : Int) + 1 := by omega
            have k8 : IntKind.i64.wrap ((j : Int) + 1 - 1) = j := by rw [show (j : Int) + 1 - 1 = j from by omega]; exact k4
            have k9 : decide ((0 : Int) < (j : Int) + 1) = true := by rw [decide_eq_true_eq]; omega
            have k10 : (0 : Int) ≤ (j : Int) := by omega
            cases h1 : Op.bytesLess s' s
            · have Hm := Lib.hid (mayQ_fall (k := j) hlt (by rw [Hx.out, Hy.out]; exact h1))
              go_wp2_with fail
              first | (refine wp_named ?_; intro W2 hW) | (refine calls_named ?_; intro W2 hW)
              have B2 : Below wr.heap.size wr W2 := by rw [hW]; exact (by repeat (first | exact Below.refl _ _ | assumption | refine Below.alloc ?_ (by first | omega | (simp <;> omega)) _ | refine Below.setCell ?_ (by first | omega | (simp <;> omega)) _ | refine Below.drew ?_))
              replace y0 := cellAt y0 B2 (by omega)
              replace Hr := Lib.hid (Hr.out.at B2)
              replace Hb := Lib.hid (lift Hb.out B2)
              replace hB := ltAt hB B2
              have m1 : wr.heap.size < W2.heap.size := by rw [hW]; simp <;> omega
              have e0 : W2.cell? ⟨wr.heap.size, 0, none⟩ = some (sv s) := by rw [hW]; go_simp
              have e1 : W2.cell? ⟨wr.heap.size, 1, none⟩ = some (.int .i64 t) := by rw [hW]; go_simp
              have e2 : W2.cell? ⟨wr.heap.size, 2, none⟩ = some (.int .i64 r) := by rw [hW]; go_simp
              have e3 : W2.cell? ⟨wr.heap.size, 3, none⟩ = some (.int .i64 d) := by rw [hW]; go_simp
              clear hW
              clear B2
              try go_wp2_with fail
              refine wp_region_held_drew (S := fun w' => Below W2.heap.size W2 w') (by kernel_rfl) (Below.drew (Below.refl _ _)) (fun hHeld => ?_)
              refine tY (i := 0) (v := ?_) rfl ?_ hHeld ?_; rotate_left 1; focus (intro w' hSw; clear hSw; go_simp; try with_reducible rfl)
              (try simp only [Act.put, zn1, zn2, zn3])
              refine tY (i := 1) (v := ?_) rfl ?_ hHeld ?_; rotate_left 1; focus (intro w' hSw; have hCell := fun (b o : Nat) (h : b < W2.heap.size) => hSw.cell (p := ⟨b, o, none⟩) h; clear hSw; go_simp; try with_reducible rfl)
              (try simp only [Act.put, zn1, zn2, zn3])
              refine ready_one (i := 2) rfl (by kernel_rfl) (fun K hK => ?_)
              go_simp
              refine (May1_any s _ hlen).mono ?_
              rintro e v3 ⟨rfl, hb⟩
              refine hK.out _ _ ?_ (fun hHeld2 => ?_)
              · (try dsimp only); first | exact Below.trans hHeld (Below.mono hb hHeld.size) | exact hHeld | exact Below.drew hHeld | exact (by repeat (first | exact Below.refl _ _ | assumption | refine Below.alloc ?_ (by first | omega | (simp <;> omega)) _ | refine Below.setCell ?_ (by first | omega | (simp <;> omega)) _ | refine Below.drew ?_))
              clear hK K hHeld; have hHeld := hHeld2; clear hHeld2; (try simp only [Act.put, zn1, zn2, zn3])
              refine tY (i := 3) (v := ?_) rfl ?_ hHeld ?_; rotate_left 1; focus (intro w' hSw; clear hSw; go_simp; try with_reducible rfl)
              (try simp only [Act.put, zn1, zn2, zn3])
              refine tY (i := 4) (v := ?_) rfl ?_ hHeld ?_; rotate_left 1; focus (intro w' hSw; clear hSw; go_simp; try with_reducible rfl)
              (try simp only [Act.put, zn1, zn2, zn3])
              refine tY (i := 5) (v := ?_) rfl ?_ hHeld ?_; rotate_left 1; focus (intro w' hSw; clear hSw; go_simp; try with_reducible rfl)
              (try simp only [Act.put, zn1, zn2, zn3])
              refine tY (i := 6) (v := ?_) rfl ?_ hHeld ?_; rotate_left 1; focus (intro w' hSw; clear hSw; go_simp; try with_reducible rfl)
              (try simp only [Act.put, zn1, zn2, zn3])
              refine tY (i := 7) (v := ?_) rfl ?_ hHeld ?_; rotate_left 1; focus (intro w' hSw; clear hSw; go_simp; try with_reducible rfl)
              (try simp only [Act.put, zn1, zn2, zn3])
              refine tY (i := 8) (v := ?_) rfl ?_ hHeld ?_; rotate_left 1; focus (intro w' hSw; clear hSw; go_simp; try with_reducible rfl)
              (try simp only [Act.put, zn1, zn2, zn3])
              refine tY (i := 9) (v := ?_) rfl ?_ hHeld ?_; rotate_left 1; focus (intro w' hSw; clear hSw; go_simp; try with_reducible rfl)
              (try simp only [Act.put, zn1, zn2, zn3])
              refine tY (i := 10) (v := ?_) rfl ?_ hHeld ?_; rotate_left 1; focus (intro w' hSw; clear hSw; go_simp; try with_reducible rfl)
              (try simp only [Act.put, zn1, zn2, zn3])
              refine tY (i := 11) (v := ?_) rfl ?_ hHeld ?_; rotate_left 1; focus (intro w' hSw; clear hSw; go_simp; try with_reducible rfl)
              (try simp only [Act.put, zn1, zn2, zn3])
              refine tY (i := 12) (v := ?_) rfl ?_ hHeld ?_; rotate_left 1; focus (intro w' hSw; clear hSw; go_simp; try with_reducible rfl)
              (try simp only [Act.put, zn1, zn2, zn3])
              refine tY (i := 13) (v := ?_) rfl ?_ hHeld ?_; rotate_left 1; focus (intro w' hSw; have hCell := fun (b o : Nat) (h : b < W2.heap.size) => hSw.cell (p := ⟨b, o, none⟩) h; clear hSw; go_simp; try with_reducible rfl)
              (try simp only [Act.put, zn1, zn2, zn3])
              refine tY (i := 14) (v := ?_) rfl ?_ hHeld ?_; rotate_left 1; focus (intro w' hSw; clear hSw; go_simp; try with_reducible rfl)
              (try simp only [Act.put, zn1, zn2, zn3])
              refine tY (i := 15) (v := ?_) rfl ?_ hHeld ?_; rotate_left 1; focus (intro w' hSw; have hCell := fun (b o : Nat) (h : b < W2.heap.size) => hSw.cell (p := ⟨b, o, none⟩) h; clear hSw; go_simp; try with_reducible rfl)
              (try simp only [Act.put, zn1, zn2, zn3])
              refine tY (i := 16) (v := ?_) rfl ?_ hHeld ?_; rotate_left 1; focus (intro w' hSw; clear hSw; go_simp; try with_reducible rfl)
              (try simp only [Act.put, zn1, zn2, zn3])
              refine tY (i := 17) (v := ?_) rfl ?_ hHeld ?_; rotate_left 1; focus (intro w' hSw; clear hSw; go_simp; try with_reducible rfl)
              (try simp only [Act.put, zn1, zn2, zn3])
              refine tY (i := 18) (v := ?_) rfl ?_ hHeld ?_; rotate_left 1; focus (intro w' hSw; clear hSw; go_simp; try with_reducible rfl)
              (try simp only [Act.put, zn1, zn2, zn3])
              refine tY (i := 19) (v := ?_) rfl ?_ hHeld ?_; rotate_left 1; focus (intro w' hSw; clear hSw; go_simp; try with_reducible rfl)
              (try simp only [Act.put, zn1, zn2, zn3])
              refine tS (i := 20) rfl hHeld ?_; (try simp only [Act.put, zn1, zn2, zn3])
              refine tS (i := 21) rfl hHeld ?_; (try simp only [Act.put, zn1, zn2, zn3])
              refine tS (i := 22) rfl hHeld ?_; (try simp only [Act.put, zn1, zn2, zn3])
              refine tY (i := 23) (v := ?_) rfl ?_ hHeld ?_; rotate_left 1; focus (intro w' hSw; clear hSw; go_simp; try with_reducible rfl)
              (try simp only [Act.put, zn1, zn2, zn3])
              refine tY (i := 24) (v := ?_) rfl ?_ hHeld ?_; rotate_left 1; focus (intro w' hSw; clear hSw; go_simp; try with_reducible rfl)
              (try simp only [Act.put, zn1, zn2, zn3])
              refine tS (i := 25) rfl hHeld ?_; (try simp only [Act.put, zn1, zn2, zn3])
              refine tS (i := 26) rfl hHeld ?_; (try simp only [Act.put, zn1, zn2, zn3])
              refine tS (i := 27) rfl hHeld ?_; (try simp only [Act.put, zn1, zn2, zn3])
              refine tY (i := 28) (v := ?_) rfl ?_ hHeld ?_; rotate_left 1; focus (intro w' hSw; clear hSw; go_simp; try with_reducible rfl)
              (try simp only [Act.put, zn1, zn2, zn3])
              refine wpAnyH_done (by kernel_rfl) ?_ _
              go_wp2_with fail
              go_ret
              exact ⟨ret_bool (by rw [Hm.out]), lift Hb.out hHeld⟩
            · have H1 := Lib.hid (show ltS s' s = true from h1)
              have HL : Hid (∀ i (e : j + 1 = i + 1), ltS (q[i]'(by omega)).1 q[j + 1].1 = true) := Lib.hid (fun i e => by
                obtain rfl : i = j := by omega
                rw [Hx.out, Hy.out]; exact H1.out)
              by_cases t1 : t < 1
              · have dt1 : decide (t < 1) = true := by rw [decide_eq_true_eq]; exact t1
                have Hm := Lib.hid (mayQ_not hlt (by rw [Hx.out]; exact mayJ_no (by omega)))
                go_wp2_with fail
                first | (refine wp_named ?_; intro W2 hW) | (refine calls_named ?_; intro W2 hW)
                have B2 : Below wr.heap.size wr W2 := by rw [hW]; exact (by repeat (first | exact Below.refl _ _ | assumption | refine Below.alloc ?_ (by first | omega | (simp <;> omega)) _ | refine Below.setCell ?_ (by first | omega | (simp <;> omega)) _ | refine Below.drew ?_))
                replace y0 := cellAt y0 B2 (by omega)
                replace Hr := Lib.hid (Hr.out.at B2)
                replace Hb := Lib.hid (lift Hb.out B2)
                replace hB := ltAt hB B2
                have m1 : wr.heap.size < W2.heap.size := by rw [hW]; simp <;> omega
                have e0 : W2.cell? ⟨wr.heap.size, 0, none⟩ = some (sv s) := by rw [hW]; go_simp
                have e1 : W2.cell? ⟨wr.heap.size, 1, none⟩ = some (.int .i64 t) := by rw [hW]; go_simp
                have e2 : W2.cell? ⟨wr.heap.size, 2, none⟩ = some (.int .i64 r) := by rw [hW]; go_simp
                have e3 : W2.cell? ⟨wr.heap.size, 3, none⟩ = some (.int .i64 d) := by rw [hW]; go_simp
                clear hW
                clear B2
                try go_wp2_with fail
                refine wp_region_held_drew (S := fun w' => Below W2.heap.size W2 w') (by kernel_rfl) (Below.drew (Below.refl _ _)) (fun hHeld => ?_)
                refine tY (i := 0) (v := ?_) rfl ?_ hHeld ?_; rotate_left 1; focus (intro w' hSw; clear hSw; go_simp; try with_reducible rfl)
                (try simp only [Act.put, zn1, zn2, zn3])
                refine tY (i := 1) (v := ?_) rfl ?_ hHeld ?_; rotate_left 1; focus (intro w' hSw; have hCell := fun (b o : Nat) (h : b < W2.heap.size) => hSw.cell (p := ⟨b, o, none⟩) h; clear hSw; go_simp; try with_reducible rfl)
                (try simp only [Act.put, zn1, zn2, zn3])
                refine ready_one (i := 2) rfl (by kernel_rfl) (fun K hK => ?_)
                go_simp
                refine (May1_any s _ hlen).mono ?_
                rintro e v3 ⟨rfl, hb⟩
                refine hK.out _ _ ?_ (fun hHeld2 => ?_)
                · (try dsimp only); first | exact Below.trans hHeld (Below.mono hb hHeld.size) | exact hHeld | exact Below.drew hHeld | exact (by repeat (first | exact Below.refl _ _ | assumption | refine Below.alloc ?_ (by first | omega | (simp <;> omega)) _ | refine Below.setCell ?_ (by first | omega | (simp <;> omega)) _ | refine Below.drew ?_))
                clear hK K hHeld; have hHeld := hHeld2; clear hHeld2; (try simp only [Act.put, zn1, zn2, zn3])
                refine tY (i := 3) (v := ?_) rfl ?_ hHeld ?_; rotate_left 1; focus (intro w' hSw; clear hSw; go_simp; try with_reducible rfl)
                (try simp only [Act.put, zn1, zn2, zn3])
                refine tY (i := 4) (v := ?_) rfl ?_ hHeld ?_; rotate_left 1; focus (intro w' hSw; clear hSw; go_simp; try with_reducible rfl)
                (try simp only [Act.put, zn1, zn2, zn3])
                refine tY (i := 5) (v := ?_) rfl ?_ hHeld ?_; rotate_left 1; focus (intro w' hSw; clear hSw; go_simp; try with_reducible rfl)
                (try simp only [Act.put, zn1, zn2, zn3])
                refine tY (i := 6) (v := ?_) rfl ?_ hHeld ?_; rotate_left 1; focus (intro w' hSw; clear hSw; go_simp; try with_reducible rfl)
                (try simp only [Act.put, zn1, zn2, zn3])
                refine tY (i := 7) (v := ?_) rfl ?_ hHeld ?_; rotate_left 1; focus (intro w' hSw; clear hSw; go_simp; try with_reducible rfl)
                (try simp only [Act.put, zn1, zn2, zn3])
                refine tY (i := 8) (v := ?_) rfl ?_ hHeld ?_; rotate_left 1; focus (intro w' hSw; clear hSw; go_simp; try with_reducible rfl)
                (try simp only [Act.put, zn1, zn2, zn3])
                refine tY (i := 9) (v := ?_) rfl ?_ hHeld ?_; rotate_left 1; focus (intro w' hSw; clear hSw; go_simp; try with_reducible rfl)
                (try simp only [Act.put, zn1, zn2, zn3])
                refine tY (i := 10) (v := ?_) rfl ?_ hHeld ?_; rotate_left 1; focus (intro w' hSw; clear hSw; go_simp; try with_reducible rfl)
                (try simp only [Act.put, zn1, zn2, zn3])
                refine tY (i := 11) (v := ?_) rfl ?_ hHeld ?_; rotate_left 1; focus (intro w' hSw; clear hSw; go_simp; try with_reducible rfl)
                (try simp only [Act.put, zn1, zn2, zn3])
                refine tY (i := 12) (v := ?_) rfl ?_ hHeld ?_; rotate_left 1; focus (intro w' hSw; clear hSw; go_simp; try with_reducible rfl)
                (try simp only [Act.put, zn1, zn2, zn3])
                refine tY (i := 13) (v := ?_) rfl ?_ hHeld ?_; rotate_left 1; focus (intro w' hSw; have hCell := fun (b o : Nat) (h : b < W2.heap.size) => hSw.cell (p := ⟨b, o, none⟩) h; clear hSw; go_simp; try with_reducible rfl)
                (try simp only [Act.put, zn1, zn2, zn3])
                refine tY (i := 14) (v := ?_) rfl ?_ hHeld ?_; rotate_left 1; focus (intro w' hSw; clear hSw; go_simp; try with_reducible rfl)
                (try simp only [Act.put, zn1, zn2, zn3])
                refine tY (i := 15) (v := ?_) rfl ?_ hHeld ?_; rotate_left 1; focus (intro w' hSw; have hCell := fun (b o : Nat) (h : b < W2.heap.size) => hSw.cell (p := ⟨b, o, none⟩) h; clear hSw; go_simp; try with_reducible rfl)
                (try simp only [Act.put, zn1, zn2, zn3])
                refine tY (i := 16) (v := ?_) rfl ?_ hHeld ?_; rotate_left 1; focus (intro w' hSw; clear hSw; go_simp; try with_reducible rfl)
                (try simp only [Act.put, zn1, zn2, zn3])
                refine tY (i := 17) (v := ?_) rfl ?_ hHeld ?_; rotate_left 1; focus (intro w' hSw; clear hSw; go_simp; try with_reducible rfl)
                (try simp only [Act.put, zn1, zn2, zn3])
                refine tY (i := 18) (v := ?_) rfl ?_ hHeld ?_; rotate_left 1; focus (intro w' hSw; clear hSw; go_simp; try with_reducible rfl)
                (try simp only [Act.put, zn1, zn2, zn3])
                refine tY (i := 19) (v := ?_) rfl ?_ hHeld ?_; rotate_left 1; focus (intro w' hSw; clear hSw; go_simp; try with_reducible rfl)
                (try simp only [Act.put, zn1, zn2, zn3])
                refine tY (i := 20) (v := ?_) rfl ?_ hHeld ?_; rotate_left 1; focus (intro w' hSw; clear hSw; go_simp; try with_reducible rfl)
                (try simp only [Act.put, zn1, zn2, zn3])
                refine tY (i := 21) (v := ?_) rfl ?_ hHeld ?_; rotate_left 1; focus (intro w' hSw; have hCell := fun (b o : Nat) (h : b < W2.heap.size) => hSw.cell (p := ⟨b, o, none⟩) h; clear hSw; go_simp; try with_reducible rfl)
                (try simp only [Act.put, zn1, zn2, zn3])
                refine tY (i := 22) (v := ?_) rfl ?_ hHeld ?_; rotate_left 1; focus (intro w' hSw; clear hSw; go_simp; try with_reducible rfl)
                (try simp only [Act.put, zn1, zn2, zn3])
                refine tY (i := 23) (v := ?_) rfl ?_ hHeld ?_; rotate_left 1; focus (intro w' hSw; clear hSw; go_simp; try with_reducible rfl)
                (try simp only [Act.put, zn1, zn2, zn3])
                refine tY (i := 24) (v := ?_) rfl ?_ hHeld ?_; rotate_left 1; focus (intro w' hSw; clear hSw; go_simp; try with_reducible rfl)
                (try simp only [Act.put, zn1, zn2, zn3])
                refine tS (i := 25) rfl hHeld ?_; (try simp only [Act.put, zn1, zn2, zn3])
                refine tS (i := 26) rfl hHeld ?_; (try simp only [Act.put, zn1, zn2, zn3])
                refine tS (i := 27) rfl hHeld ?_; (try simp only [Act.put, zn1, zn2, zn3])
                refine tY (i := 28) (v := ?_) rfl ?_ hHeld ?_; rotate_left 1; focus (intro w' hSw; clear hSw; go_simp; try with_reducible rfl)
                (try simp only [Act.put, zn1, zn2, zn3])
                refine wpAnyH_done (by kernel_rfl) ?_ _
                go_wp2_with fail
                go_ret
                exact ⟨ret_bool (by rw [Hm.out]), lift Hb.out hHeld⟩
              · have dt1 : decide (t < 1) = false := by rw [decide_eq_false_iff_not]; exact t1
                by_cases t4 : 4 < t
                · have dt4 : decide (4 < t) = true := by rw [decide_eq_true_eq]; exact t4
                  have Hm := Lib.hid (mayQ_not hlt (by rw [Hx.out]; exact mayJ_no (by omega)))
                  go_wp2_with fail
                  first | (refine wp_named ?_; intro W2 hW) | (refine calls_named ?_; intro W2 hW)
                  have B2 : Below wr.heap.size wr W2 := by rw [hW]; exact (by repeat (first | exact Below.refl _ _ | assumption | refine Below.alloc ?_ (by first | omega | (simp <;> omega)) _ | refine Below.setCell ?_ (by first | omega | (simp <;> omega)) _ | refine Below.drew ?_))
                  replace y0 := cellAt y0 B2 (by omega)
                  replace Hr := Lib.hid (Hr.out.at B2)
                  replace Hb := Lib.hid (lift Hb.out B2)
                  replace hB := ltAt hB B2
                  have m1 : wr.heap.size < W2.heap.size := by rw [hW]; simp <;> omega
                  have e0 : W2.cell? ⟨wr.heap.size, 0, none⟩ = some (sv s) := by rw [hW]; go_simp
                  have e1 : W2.cell? ⟨wr.heap.size, 1, none⟩ = some (.int .i64 t) := by rw [hW]; go_simp
                  have e2 : W2.cell? ⟨wr.heap.size, 2, none⟩ = some (.int .i64 r) := by rw [hW]; go_simp
                  have e3 : W2.cell? ⟨wr.heap.size, 3, none⟩ = some (.int .i64 d) := by rw [hW]; go_simp
                  clear hW
                  clear B2
                  try go_wp2_with fail
                  refine wp_region_held_drew (S := fun w' => Below W2.heap.size W2 w') (by kernel_rfl) (Below.drew (Below.refl _ _)) (fun hHeld => ?_)
                  refine tY (i := 0) (v := ?_) rfl ?_ hHeld ?_; rotate_left 1; focus (intro w' hSw; clear hSw; go_simp; try with_reducible rfl)
                  (try simp only [Act.put, zn1, zn2, zn3])
                  refine tY (i := 1) (v := ?_) rfl ?_ hHeld ?_; rotate_left 1; focus (intro w' hSw; have hCell := fun (b o : Nat) (h : b < W2.heap.size) => hSw.cell (p := ⟨b, o, none⟩) h; clear hSw; go_simp; try with_reducible rfl)
                  (try simp only [Act.put, zn1, zn2, zn3])
                  refine ready_one (i := 2) rfl (by kernel_rfl) (fun K hK => ?_)
                  go_simp
                  refine (May1_any s _ hlen).mono ?_
                  rintro e v3 ⟨rfl, hb⟩
                  refine hK.out _ _ ?_ (fun hHeld2 => ?_)
                  · (try dsimp only); first | exact Below.trans hHeld (Below.mono hb hHeld.size) | exact hHeld | exact Below.drew hHeld | exact (by repeat (first | exact Below.refl _ _ | assumption | refine Below.alloc ?_ (by first | omega | (simp <;> omega)) _ | refine Below.setCell ?_ (by first | omega | (simp <;> omega)) _ | refine Below.drew ?_))
                  clear hK K hHeld; have hHeld := hHeld2; clear hHeld2; (try simp only [Act.put, zn1, zn2, zn3])
                  refine tY (i := 3) (v := ?_) rfl ?_ hHeld ?_; rotate_left 1; focus (intro w' hSw; clear hSw; go_simp; try with_reducible rfl)
                  (try simp only [Act.put, zn1, zn2, zn3])
                  refine tY (i := 4) (v := ?_) rfl ?_ hHeld ?_; rotate_left 1; focus (intro w' hSw; clear hSw; go_simp; try with_reducible rfl)
                  (try simp only [Act.put, zn1, zn2, zn3])
                  refine tY (i := 5) (v := ?_) rfl ?_ hHeld ?_; rotate_left 1; focus (intro w' hSw; clear hSw; go_simp; try with_reducible rfl)
                  (try simp only [Act.put, zn1, zn2, zn3])
                  refine tY (i := 6) (v := ?_) rfl ?_ hHeld ?_; rotate_left 1; focus (intro w' hSw; clear hSw; go_simp; try with_reducible rfl)
                  (try simp only [Act.put, zn1, zn2, zn3])
                  refine tY (i := 7) (v := ?_) rfl ?_ hHeld ?_; rotate_left 1; focus (intro w' hSw; clear hSw; go_simp; try with_reducible rfl)
                  (try simp only [Act.put, zn1, zn2, zn3])
                  refine tY (i := 8) (v := ?_) rfl ?_ hHeld ?_; rotate_left 1; focus (intro w' hSw; clear hSw; go_simp; try with_reducible rfl)
                  (try simp only [Act.put, zn1, zn2, zn3])
                  refine tY (i := 9) (v := ?_) rfl ?_ hHeld ?_; rotate_left 1; focus (intro w' hSw; clear hSw; go_simp; try with_reducible rfl)
                  (try simp only [Act.put, zn1, zn2, zn3])
                  refine tY (i := 10) (v := ?_) rfl ?_ hHeld ?_; rotate_left 1; focus (intro w' hSw; clear hSw; go_simp; try with_reducible rfl)
                  (try simp only [Act.put, zn1, zn2, zn3])
                  refine tY (i := 11) (v := ?_) rfl ?_ hHeld ?_; rotate_left 1; focus (intro w' hSw; clear hSw; go_simp; try with_reducible rfl)
                  (try simp only [Act.put, zn1, zn2, zn3])
                  refine tY (i := 12) (v := ?_) rfl ?_ hHeld ?_; rotate_left 1; focus (intro w' hSw; clear hSw; go_simp; try with_reducible rfl)
                  (try simp only [Act.put, zn1, zn2, zn3])
                  refine tY (i := 13) (v := ?_) rfl ?_ hHeld ?_; rotate_left 1; focus (intro w' hSw; have hCell := fun (b o : Nat) (h : b < W2.heap.size) => hSw.cell (p := ⟨b, o, none⟩) h; clear hSw; go_simp; try with_reducible rfl)
                  (try simp only [Act.put, zn1, zn2, zn3])
                  refine tY (i := 14) (v := ?_) rfl ?_ hHeld ?_; rotate_left 1; focus (intro w' hSw; clear hSw; go_simp; try with_reducible rfl)
                  (try simp only [Act.put, zn1, zn2, zn3])
                  refine tY (i := 15) (v := ?_) rfl ?_ hHeld ?_; rotate_left 1; focus (intro w' hSw; have hCell := fun (b o : Nat) (h : b < W2.heap.size) => hSw.cell (p := ⟨b, o, none⟩) h; clear hSw; go_simp; try with_reducible rfl)
                  (try simp only [Act.put, zn1, zn2, zn3])
                  refine tY (i := 16) (v := ?_) rfl ?_ hHeld ?_; rotate_left 1; focus (intro w' hSw; clear hSw; go_simp; try with_reducible rfl)
                  (try simp only [Act.put, zn1, zn2, zn3])
                  refine tY (i := 17) (v := ?_) rfl ?_ hHeld ?_; rotate_left 1; focus (intro w' hSw; clear hSw; go_simp; try with_reducible rfl)
                  (try simp only [Act.put, zn1, zn2, zn3])
                  refine tY (i := 18) (v := ?_) rfl ?_ hHeld ?_; rotate_left 1; focus (intro w' hSw; clear hSw; go_simp; try with_reducible rfl)
                  (try simp only [Act.put, zn1, zn2, zn3])
                  refine tY (i := 19) (v := ?_) rfl ?_ hHeld ?_; rotate_left 1; focus (intro w' hSw; clear hSw; go_simp; try with_reducible rfl)
                  (try simp only [Act.put, zn1, zn2, zn3])
                  refine tY (i := 20) (v := ?_) rfl ?_ hHeld ?_; rotate_left 1; focus (intro w' hSw; clear hSw; go_simp; try with_reducible rfl)
                  (try simp only [Act.put, zn1, zn2, zn3])
                  refine tY (i := 21) (v := ?_) rfl ?_ hHeld ?_; rotate_left 1; focus (intro w' hSw; have hCell := fun (b o : Nat) (h : b < W2.heap.size) => hSw.cell (p := ⟨b, o, none⟩) h; clear hSw; go_simp; try with_reducible rfl)
                  (try simp only [Act.put, zn1, zn2, zn3])
                  refine tY (i := 22) (v := ?_) rfl ?_ hHeld ?_; rotate_left 1; focus (intro w' hSw; clear hSw; go_simp; try with_reducible rfl)
                  (try simp only [Act.put, zn1, zn2, zn3])
                  refine tY (i := 23) (v := ?_) rfl ?_ hHeld ?_; rotate_left 1; focus (intro w' hSw; clear hSw; go_simp; try with_reducible rfl)
                  (try simp only [Act.put, zn1, zn2, zn3])
                  refine tY (i := 24) (v := ?_) rfl ?_ hHeld ?_; rotate_left 1; focus (intro w' hSw; clear hSw; go_simp; try with_reducible rfl)
                  (try simp only [Act.put, zn1, zn2, zn3])
                  refine tY (i := 25) (v := ?_) rfl ?_ hHeld ?_; rotate_left 1; focus (intro w' hSw; clear hSw; go_simp; try with_reducible rfl)
                  (try simp only [Act.put, zn1, zn2, zn3])
                  refine tY (i := 26) (v := ?_) rfl ?_ hHeld ?_; rotate_left 1; focus (intro w' hSw; have hCell := fun (b o : Nat) (h : b < W2.heap.size) => hSw.cell (p := ⟨b, o, none⟩) h; clear hSw; go_simp; try with_reducible rfl)
                  (try simp only [Act.put, zn1, zn2, zn3])
                  refine tY (i := 27) (v := ?_) rfl ?_ hHeld ?_; rotate_left 1; focus (intro w' hSw; clear hSw; go_simp; try with_reducible rfl)
                  (try simp only [Act.put, zn1, zn2, zn3])
                  refine tY (i := 28) (v := ?_) rfl ?_ hHeld ?_; rotate_left 1; focus (intro w' hSw; clear hSw; go_simp; try with_reducible rfl)
                  (try simp only [Act.put, zn1, zn2, zn3])
                  refine wpAnyH_done (by kernel_rfl) ?_ _
                  go_wp2_with fail
                  go_ret
                  exact ⟨ret_bool (by rw [Hm.out]), lift Hb.out hHeld⟩
                · have dt4 : decide (4 < t) = false := by rw [decide_eq_false_iff_not]; exact t4
                  go_wp2_with fail
                  first | (refine wp_named ?_; intro W2 hW) | (refine calls_named ?_; intro W2 hW)
                  have B2 : Below wr.heap.size wr W2 := by rw [hW]; exact (by repeat (first | exact Below.refl _ _ | assumption | refine Below.alloc ?_ (by first | omega | (simp <;> omega)) _ | refine Below.setCell ?_ (by first | omega | (simp <;> omega)) _ | refine Below.drew ?_))
                  replace y0 := cellAt y0 B2 (by omega)
                  replace Hr := Lib.hid (Hr.out.at B2)
                  replace Hb := Lib.hid (lift Hb.out B2)
                  replace hB := ltAt hB B2
                  have m1 : wr.heap.size < W2.heap.size := by rw [hW]; simp <;> omega
                  have e0 : W2.cell? ⟨wr.heap.size, 0, none⟩ = some (sv s) := by rw [hW]; go_simp
                  have e1 : W2.cell? ⟨wr.heap.size, 1, none⟩ = some (.int .i64 t) := by rw [hW]; go_simp
                  have e2 : W2.cell? ⟨wr.heap.size, 2, none⟩ = some (.int .i64 r) := by rw [hW]; go_simp
                  have e3 : W2.cell? ⟨wr.heap.size, 3, none⟩ = some (.int .i64 d) := by rw [hW]; go_simp
                  clear hW
                  clear B2
                  try go_wp2_with fail
                  refine wp_region_held_drew (S := fun w' => Below W2.heap.size W2 w') (by kernel_rfl) (Below.drew (Below.refl _ _)) (fun hHeld => ?_)
                  refine tY (i := 0) (v := ?_) rfl ?_ hHeld ?_; rotate_left 1; focus (intro w' hSw; clear hSw; go_simp; try with_reducible rfl)
                  (try simp only [Act.put, zn1, zn2, zn3])
                  refine tY (i := 1) (v := ?_) rfl ?_ hHeld ?_; rotate_left 1; focus (intro w' hSw; have hCell := fun (b o : Nat) (h : b < W2.heap.size) => hSw.cell (p := ⟨b, o, none⟩) h; clear hSw; go_simp; try with_reducible rfl)
                  (try simp only [Act.put, zn1, zn2, zn3])
                  refine ready_one (i := 2) rfl (by kernel_rfl) (fun K hK => ?_)
                  go_simp
                  refine (May1_any s _ hlen).mono ?_
                  rintro e v3 ⟨rfl, hb⟩
                  refine hK.out _ _ ?_ (fun hHeld2 => ?_)
                  · (try dsimp only); first | exact Below.trans hHeld (Below.mono hb hHeld.size) | exact hHeld | exact Below.drew hHeld | exact (by repeat (first | exact Below.refl _ _ | assumption | refine Below.alloc ?_ (by first | omega | (simp <;> omega)) _ | refine Below.setCell ?_ (by first | omega | (simp <;> omega)) _ | refine Below.drew ?_))
                  clear hK K hHeld; have hHeld := hHeld2; clear hHeld2; (try simp only [Act.put, zn1, zn2, zn3])
                  refine tY (i := 3) (v := ?_) rfl ?_ hHeld ?_; rotate_left 1; focus (intro w' hSw; clear hSw; go_simp; try with_reducible rfl)
                  (try simp only [Act.put, zn1, zn2, zn3])
                  refine tY (i := 4) (v := ?_) rfl ?_ hHeld ?_; rotate_left 1; focus (intro w' hSw; clear hSw; go_simp; try with_reducible rfl)
                  (try simp only [Act.put, zn1, zn2, zn3])
                  refine tY (i := 5) (v := ?_) rfl ?_ hHeld ?_; rotate_left 1; focus (intro w' hSw; clear hSw; go_simp; try with_reducible rfl)
                  (try simp only [Act.put, zn1, zn2, zn3])
                  refine tY (i := 6) (v := ?_) rfl ?_ hHeld ?_; rotate_left 1; focus (intro w' hSw; clear hSw; go_simp; try with_reducible rfl)
                  (try simp only [Act.put, zn1, zn2, zn3])
                  refine tY (i := 7) (v := ?_) rfl ?_ hHeld ?_; rotate_left 1; focus (intro w' hSw; clear hSw; go_simp; try with_reducible rfl)
                  (try simp only [Act.put, zn1, zn2, zn3])
                  refine tY (i := 8) (v := ?_) rfl ?_ hHeld ?_; rotate_left 1; focus (intro w' hSw; clear hSw; go_simp; try with_reducible rfl)
                  (try simp only [Act.put, zn1, zn2, zn3])
                  refine tY (i := 9) (v := ?_) rfl ?_ hHeld ?_; rotate_left 1; focus (intro w' hSw; clear hSw; go_simp; try with_reducible rfl)
                  (try simp only [Act.put, zn1, zn2, zn3])
                  refine tY (i := 10) (v := ?_) rfl ?_ hHeld ?_; rotate_left 1; focus (intro w' hSw; clear hSw; go_simp; try with_reducible rfl)
                  (try simp only [Act.put, zn1, zn2, zn3])
                  refine tY (i := 11) (v := ?_) rfl ?_ hHeld ?_; rotate_left 1; focus (intro w' hSw; clear hSw; go_simp; try with_reducible rfl)
                  (try simp only [Act.put, zn1, zn2, zn3])
                  refine tY (i := 12) (v := ?_) rfl ?_ hHeld ?_; rotate_left 1; focus (intro w' hSw; clear hSw; go_simp; try with_reducible rfl)
                  (try simp only [Act.put, zn1, zn2, zn3])
                  refine tY (i := 13) (v := ?_) rfl ?_ hHeld ?_; rotate_left 1; focus (intro w' hSw; have hCell := fun (b o : Nat) (h : b < W2.heap.size) => hSw.cell (p := ⟨b, o, none⟩) h; clear hSw; go_simp; try with_reducible rfl)
                  (try simp only [Act.put, zn1, zn2, zn3])
                  refine tY (i := 14) (v := ?_) rfl ?_ hHeld ?_; rotate_left 1; focus (intro w' hSw; clear hSw; go_simp; try with_reducible rfl)
                  (try simp only [Act.put, zn1, zn2, zn3])
                  refine tY (i := 15) (v := ?_) rfl ?_ hHeld ?_; rotate_left 1; focus (intro w' hSw; have hCell := fun (b o : Nat) (h : b < W2.heap.size) => hSw.cell (p := ⟨b, o, none⟩) h; clear hSw; go_simp; try with_reducible rfl)
                  (try simp only [Act.put, zn1, zn2, zn3])
                  refine tY (i := 16) (v := ?_) rfl ?_ hHeld ?_; rotate_left 1; focus (intro w' hSw; clear hSw; go_simp; try with_reducible rfl)
                  (try simp only [Act.put, zn1, zn2, zn3])
                  refine tY (i := 17) (v := ?_) rfl ?_ hHeld ?_; rotate_left 1; focus (intro w' hSw; clear hSw; go_simp; try with_reducible rfl)
                  (try simp only [Act.put, zn1, zn2, zn3])
                  refine tY (i := 18) (v := ?_) rfl ?_ hHeld ?_; rotate_left 1; focus (intro w' hSw; clear hSw; go_simp; try with_reducible rfl)
                  (try simp only [Act.put, zn1, zn2, zn3])
                  refine tY (i := 19) (v := ?_) rfl ?_ hHeld ?_; rotate_left 1; focus (intro w' hSw; clear hSw; go_simp; try with_reducible rfl)
                  (try simp only [Act.put, zn1, zn2, zn3])
                  refine tY (i := 20) (v := ?_) rfl ?_ hHeld ?_; rotate_left 1; focus (intro w' hSw; clear hSw; go_simp; try with_reducible rfl)
                  (try simp only [Act.put, zn1, zn2, zn3])
                  refine tY (i := 21) (v := ?_) rfl ?_ hHeld ?_; rotate_left 1; focus (intro w' hSw; have hCell := fun (b o : Nat) (h : b < W2.heap.size) => hSw.cell (p := ⟨b, o, none⟩) h; clear hSw; go_simp; try with_reducible rfl)
                  (try simp only [Act.put, zn1, zn2, zn3])
                  refine tY (i := 22) (v := ?_) rfl ?_ hHeld ?_; rotate_left 1; focus (intro w' hSw; clear hSw; go_simp; try with_reducible rfl)
                  (try simp only [Act.put, zn1, zn2, zn3])
                  refine tY (i := 23) (v := ?_) rfl ?_ hHeld ?_; rotate_left 1; focus (intro w' hSw; clear hSw; go_simp; try with_reducible rfl)
                  (try simp only [Act.put, zn1, zn2, zn3])
                  refine tY (i := 24) (v := ?_) rfl ?_ hHeld ?_; rotate_left 1; focus (intro w' hSw; clear hSw; go_simp; try with_reducible rfl)
                  (try simp only [Act.put, zn1, zn2, zn3])
                  refine tY (i := 25) (v := ?_) rfl ?_ hHeld ?_; rotate_left 1; focus (intro w' hSw; clear hSw; go_simp; try with_reducible rfl)
                  (try simp only [Act.put, zn1, zn2, zn3])
                  refine tY (i := 26) (v := ?_) rfl ?_ hHeld ?_; rotate_left 1; focus (intro w' hSw; have hCell := fun (b o : Nat) (h : b < W2.heap.size) => hSw.cell (p := ⟨b, o, none⟩) h; clear hSw; go_simp; try with_reducible rfl)
                  (try simp only [Act.put, zn1, zn2, zn3])
                  refine tY (i := 27) (v := ?_) rfl ?_ hHeld ?_; rotate_left 1; focus (intro w' hSw; clear hSw; go_simp; try with_reducible rfl)
                  (try simp only [Act.put, zn1, zn2, zn3])
                  refine tY (i := 28) (v := ?_) rfl ?_ hHeld ?_; rotate_left 1; focus (intro w' hSw; clear hSw; go_simp; try with_reducible rfl)
                  (try simp only [Act.put, zn1, zn2, zn3])
                  refine wpAnyH_done (by kernel_rfl) ?_ _
                  replace y0 := cellAt y0 hHeld (by omega)
                  replace e0 := cellAt e0 hHeld (by omega)
                  replace e1 := cellAt e1 hHeld (by omega)
                  replace e2 := cellAt e2 hHeld (by omega)
                  replace e3 := cellAt e3 hHeld (by omega)
                  replace Hr := Lib.hid (Hr.out.at hHeld)
                  replace Hb := Lib.hid (lift Hb.out hHeld)
                  replace hB := ltAt hB hHeld
                  replace m1 : wr.heap.size < v3.heap.size := ltAt m1 hHeld
                  have HB3 := Hb
                  clear hHeld hkb
                  by_cases r1 : r = 1
                  · subst r1
                    by_cases d0 : d = 0
                    · subst d0
                      have hj : mayJ (s, t, 1, 0) = true := mayJ_mk.2 ⟨HK.out, by omega, by omega, by omega⟩
                      have HJ := Lib.hid hj
                      clear hj
                      go_wp2_with fail
                      go_roundw
                      case rel => exact ⟨j + 1 + 1, by omega, by go_num, HU.out.step hlt (by rw [Hx.out]; exact HJ.out) HL.out, HB3.out⟩
                      case measure => simp [intOf]; omega
                    · have db : (d == 0) = false := by simpa using d0
                      have hj : mayJ (s, t, 1, d) = false := mayJ_no (by omega)
                      have Hm := Lib.hid (mayQ_not hlt (by rw [Hx.out]; exact hj))
                      clear hj
                      go_wp2_with fail
                      go_ret
                      exact ⟨ret_bool (by rw [Hm.out]), HB3.out⟩
                  · have rb1 : (r == 1) = false := by simpa using r1
                    by_cases r2 : r = 2
                    · subst r2
                      by_cases d0 : d = 0
                      · subst d0
                        have hj : mayJ (s, t, 2, 0) = true := mayJ_mk.2 ⟨HK.out, by omega, by omega, by omega⟩
                        have HJ := Lib.hid hj
                        clear hj
                        go_wp2_with fail
                        go_roundw
                        case rel => exact ⟨j + 1 + 1, by omega, by go_num, HU.out.step hlt (by rw [Hx.out]; exact HJ.out) HL.out, HB3.out⟩
                        case measure => simp [intOf]; omega
                      · have db : (d == 0) = false := by simpa using d0
                        have hj : mayJ (s, t, 2, d) = false := mayJ_no (by omega)
                        have Hm := Lib.hid (mayQ_not hlt (by rw [Hx.out]; exact hj))
                        clear hj
                        go_wp2_with fail
                        go_ret
                        exact ⟨ret_bool (by rw [Hm.out]), HB3.out⟩
                    · have rb2 : (r == 2) = false := by simpa using r2
                      by_cases r3 : r = 3
                      · subst r3
                        by_cases d1 : 1 ≤ d
                        · have db1 : decide (1 ≤ d) = true := by rw [decide_eq_true_eq]; exact d1
                          by_cases d4 : d ≤ 4
                          · have db4 : decide (d ≤ 4) = true := by rw [decide_eq_true_eq]; exact d4
                            have hj : mayJ (s, t, 3, d) = true := mayJ_mk.2 ⟨HK.out, by omega, by omega, by omega⟩
                            have HJ := Lib.hid hj
                            clear hj
                            go_wp2_with fail
                            go_roundw
                            case rel => exact ⟨j + 1 + 1, by omega, by go_num, HU.out.step hlt (by rw [Hx.out]; exact HJ.out) HL.out, HB3.out⟩
                            case measure => simp [intOf]; omega
                          · have db4 : decide (d ≤ 4) = false := by rw [decide_eq_false_iff_not]; exact d4
                            have hj : mayJ (s, t, 3, d) = false := mayJ_no (by omega)
                            have Hm := Lib.hid (mayQ_not hlt (by rw [Hx.out]; exact hj))
                            clear hj
                            go_wp2_with fail
                            go_ret
                            exact ⟨ret_bool (by rw [Hm.out]), HB3.out⟩
                        · have db1 : decide (1 ≤ d) = false := by rw [decide_eq_false_iff_not]; exact d1
                          have hj : mayJ (s, t, 3, d) = false := mayJ_no (by omega)
                          have Hm := Lib.hid (mayQ_not hlt (by rw [Hx.out]; exact hj))
                          clear hj
                          go_wp2_with fail
                          go_ret
                          exact ⟨ret_bool (by rw [Hm.out]), HB3.out⟩
                      · have rb3 : (r == 3) = false := by simpa using r3
                        have hj : mayJ (s, t, r, d) = false := mayJ_no (by omega)
                        have Hm := Lib.hid (mayQ_not hlt (by rw [Hx.out]; exact hj))
                        clear hj
                        go_wp2_with fail
                        go_ret
                        exact ⟨ret_bool (by rw [Hm.out]), HB3.out⟩
      · have Hf := Lib.hid (mayQ_loop (q := q) (fun i h => HU.out.1 i h (by omega)) (fun i h => HU.out.2 i h (by omega)))
        have h64' : decide ((q.length : Int) ≤ 64) = true := by simp; omega
        have Hf2 := Lib.hid (Hf.out.symm.trans h64')
        go_wp2_with fail
        go_ret
        exact ⟨ret_bool Hf2.out.symm, Hb.out⟩
end Od
end Go.Proofs.YtmlogmcnblgnbaaGreat
end
