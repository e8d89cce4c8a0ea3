/- My texts, joined for the claim: LqC. -/
import Derived.Test.YtanfnejbnmenkaaGreatZB15

section
/- The walks of the laws QueueNever, QueueStops. (bel2) -/
namespace Go.Proofs.YtanfnejbnmenkaaGreat
open Go.RowKit Go.Sort
set_option linter.unusedSimpArgs false

namespace Od
def cntJ (p : Jb → Bool) (q : List Jb) : Nat := q.countP p
theorem cntJ_succ {p : Jb → Bool} {q : List Jb} {m : Nat} (h : m < q.length) : cntJ p (q.take (m + 1)) = cntJ p (q.take m) + (if p q[m] = true then 1 else 0) := by
  unfold cntJ
  rw [List.take_succ_eq_append_getElem h, List.countP_append, List.countP_singleton]
theorem cntJ_le (p : Jb → Bool) (q : List Jb) (m : Nat) : cntJ p (q.take m) ≤ m := Nat.le_trans List.countP_le_length (by rw [List.length_take]; omega)
def runB (j : Jb) : Bool := j.2.2.1 == 2
theorem never_cnt {ns : List Nd} {es : List Ed} {q : List Jb} (hs : soundQ ns es q = true) (h1 : cntJ openB q ≠ 0) (h2 : cntJ runB q = 0) : 0 < (readyQ es q).length := by
  have ho : ∃ j ∈ q, j.2.2.1 ≠ 3 := by
    obtain ⟨j, hj, ho⟩ := List.countP_pos_iff.1 (Nat.pos_of_ne_zero h1)
    exact ⟨j, hj, by simpa [openB] using ho⟩
  have hr : ∀ j ∈ q, j.2.2.1 ≠ 2 := fun j hj => by
    have := List.countP_eq_zero.1 h2 j hj
    simpa [runB] using this
  exact List.length_pos_iff.2 (never hs ho hr)
set_option maxRecDepth 100000 in
set_option maxHeartbeats 8000000 in
theorem queueNever_any (An Ae : Option Addr) (cn ce : Nat) (ns : List Nd) (es : List Ed) (A : Option Addr) (c : Nat) (q : List Jb) (w : World) (hg : GIw w An Ae ns es) (hq : QIn w A c q) (hlq : q.length ≤ 140737488351232) :
    Calls Tryz.prog 7 #[gV An ns.length cn Ae es.length ce, .slice A q.length c] w fun e w' => e = .returned (.bool true) ∧ Below w.heap.size w w' := by
  have HG := Lib.hid hg
  have HQ := Lib.hid hq
  clear hg hq
  go_enter Tryz.func7, Tryz.ntmps7
  go_wp2_with fail
  first | (refine wp_named ?_; intro W1 hW) | (refine calls_named ?_; intro W1 hW)
  have B1 : Below w.heap.size w W1 := by rw [hW]; exact (by repeat (first | exact Below.refl _ _ | assumption | refine Below.alloc ?_ (by first | omega | (simp <;> omega)) _ | refine Below.setCell ?_ (by first | omega | (simp <;> omega)) _ | refine Below.drew ?_))
  replace HG := Lib.hid (HG.out.at B1)
  replace HQ := Lib.hid (HQ.out.at B1)
  have nw1 : w.heap.size < W1.heap.size := by rw [hW]; simp <;> omega
  have c0 : W1.cell? ⟨w.heap.size, 0, none⟩ = some (.slice An ns.length cn) := by rw [hW]; go_simp
  have c1 : W1.cell? ⟨w.heap.size, 1, none⟩ = some (.slice Ae es.length ce) := by rw [hW]; go_simp
  clear hW
  have HB := Lib.hid B1
  clear B1
  refine (shown_any W1).mono ?_
  rintro e w2 ⟨rfl, hb⟩
  replace c0 := cellAt c0 hb (by omega)
  replace c1 := cellAt c1 hb (by omega)
  replace HG := Lib.hid (HG.out.at hb)
  replace HQ := Lib.hid (HQ.out.at hb)
  replace nw1 : w.heap.size < w2.heap.size := ltAt nw1 hb
  replace HB := Lib.hid (lift HB.out hb)
  clear hb
  go_wp2_with fail
  refine (small_any An Ae cn ce ns es w2).mono ?_
  rintro e w3 ⟨rfl, hb⟩
  replace c0 := cellAt c0 hb (by omega)
  replace c1 := cellAt c1 hb (by omega)
  replace HG := Lib.hid (HG.out.at hb)
  replace HQ := Lib.hid (HQ.out.at hb)
  replace nw1 : w.heap.size < w3.heap.size := ltAt nw1 hb
  replace HB := Lib.hid (lift HB.out hb)
  clear hb
  cases hsm : smallB ns es
  · go_wp2_with fail
    go_ret
    exact ⟨rfl, HB.out⟩
  · have hs2 := smallB_iff.1 hsm
    have hl1 := hs2.1
    have hl2 := hs2.2
    clear hs2
    go_wp2_with fail
    refine (SoundQ_any An Ae cn ce ns es A c q w3 (HG.out.q hl1 hl2) HQ.out (by omega)).mono ?_
    rintro e w4 ⟨rfl, hb⟩
    replace c0 := cellAt c0 hb (by omega)
    replace c1 := cellAt c1 hb (by omega)
    replace HG := Lib.hid (HG.out.at hb)
    replace HQ := Lib.hid (HQ.out.at hb)
    replace nw1 : w.heap.size < w4.heap.size := ltAt nw1 hb
    replace HB := Lib.hid (lift HB.out hb)
    clear hb
    cases hso : soundQ ns es q
    · go_wp2_with fail
      go_ret
      exact ⟨rfl, HB.out⟩
    · have HSo := Lib.hid hso
      have hlq64 := soundQ.len hso
      clear hso hlq
      go_wp2_with fail
      go_loopw [5, 6, 22] (fun v1 v2 i wr => ∃ m : Nat, m ≤ q.length ∧ v1 = .int .i64 (cntJ openB (q.take m)) ∧ v2 = .int .i64 (cntJ runB (q.take m)) ∧ i = .int .i64 m ∧ Below w4.heap.size w4 wr) (fun _ _ i _ => q.length - (intOf i).toNat)
      case atStart => exact ⟨0, Nat.zero_le _, rfl, rfl, rfl, Below.refl _ _⟩
      case round =>
        obtain ⟨m, hm, rfl, rfl, rfl, hb⟩ := hrel
        have HBl := Lib.hid hb
        replace c0 := cellAt c0 hb (by omega)
        replace c1 := cellAt c1 hb (by omega)
        replace HG := Lib.hid (HG.out.at hb)
        replace HQ := Lib.hid (HQ.out.at hb)
        replace nw1 : w.heap.size < wr.heap.size := ltAt nw1 hb
        replace HB := Lib.hid (lift HB.out hb)
        clear hb
        by_cases hlt : m < q.length
        · obtain ⟨b2, o2, hA, hB2, x0, x1, x2, x3⟩ := HQ.out.rq.job hlt
          have hs1 := cntJ_succ (p := openB) hlt
          have hs2 := cntJ_succ (p := runB) hlt
          have hc1 := cntJ_le openB q m
          have hc2 := cntJ_le runB q m
          have hin : q[m] ∈ q := List.getElem_mem hlt
          have hst := may_state ((mayQ_iff.1 (soundQ_iff.1 HSo.out).2.2.1).2.1 _ hin)
          generalize q[m] = x at x0 x1 x2 x3 hs1 hs2 hin hst
          generalize cntJ openB (q.take m) = n1 at *
          generalize cntJ runB (q.take m) = n2 at *
          obtain ⟨s, t, r, d⟩ := x
          simp only at x0 x1 x2 x3 hst
          have hin' := Lib.hid hin
          clear hin
          have m1 : (0 : Int) ≤ (m : Int) := by omega
          have m2 : (m : Int) < (q.length : Int) := by omega
          subst hA
          rcases hst with rfl | rfl | rfl
          · have HS1 := Lib.hid (show _ = n1 + 1 from hs1)
            have HS2 := Lib.hid (show _ = n2 from hs2)
            clear hs1 hs2
            go_wp2_with fail
            go_roundw
            case rel => exact ⟨m + 1, by omega, by rw [HS1.out]; try go_num, by rw [HS2.out]; try go_num, by go_num, by have hbk := HBl.out; have hz := hbk.size; exact (by repeat (first | exact Below.refl _ _ | assumption | refine Below.alloc ?_ (by first | omega | (simp <;> omega)) _ | refine Below.setCell ?_ (by first | omega | (simp <;> omega)) _ | refine Below.drew ?_))⟩
            case measure => simp [intOf]; omega
          · have HS1 := Lib.hid (show _ = n1 + 1 from hs1)
            have HS2 := Lib.hid (show _ = n2 + 1 from hs2)
            clear hs1 hs2
            have hwn : waitsQ es q s = [] := waitsQ_no (soundQ_iff.1 HSo.out).2.2.1 hin'.out (by simp)
            go_wp2_with fail
            first | (refine wp_named ?_; intro W2 hW) | (refine calls_named ?_; intro W2 hW)
            have B2 : Below wr.heap.size wr W2 := by rw [hW]; exact (by repeat (first | exact Below.refl _ _ | assumption | refine Below.alloc ?_ (by first | omega | (simp <;> omega)) _ | refine Below.setCell ?_ (by first | omega | (simp <;> omega)) _ | refine Below.drew ?_))
            replace c0 := cellAt c0 B2 (by omega)
            replace c1 := cellAt c1 B2 (by omega)
            replace HG := Lib.hid (HG.out.at B2)
            replace HQ := Lib.hid (HQ.out.at B2)
            replace nw1 : w.heap.size < W2.heap.size := ltAt nw1 B2
            replace HB := Lib.hid (lift HB.out B2)
            replace HBl := Lib.hid (lift HBl.out B2)
            have p1 : wr.heap.size < W2.heap.size := by rw [hW]; simp <;> omega
            have e0 : W2.cell? ⟨wr.heap.size, 0, none⟩ = some (sv s) := by rw [hW]; go_simp
            have e2 : W2.cell? ⟨wr.heap.size, 2, none⟩ = some (.int .i64 2) := by rw [hW]; go_simp
            clear hW
            clear B2 x0 x1 x2 x3
            refine (WaitsQ_any An Ae ns.length cn ce es _ c q s W2 HG.out.re HQ.out.rq (by omega) (by omega) HQ.out.ok).mono ?_
            rw [hwn]
            rintro e w5 ⟨A1, k1, rfl, ho1, hb⟩
            replace c0 := cellAt c0 hb (by omega)
            replace c1 := cellAt c1 hb (by omega)
            replace e0 := cellAt e0 hb (by omega)
            replace e2 := cellAt e2 hb (by omega)
            replace HG := Lib.hid (HG.out.at hb)
            replace HQ := Lib.hid (HQ.out.at hb)
            replace nw1 : w.heap.size < w5.heap.size := ltAt nw1 hb
            replace HB := Lib.hid (lift HB.out hb)
            replace HBl := Lib.hid (lift HBl.out hb)
            replace p1 : wr.heap.size < w5.heap.size := ltAt p1 hb
            clear hb ho1
            go_wp2_with fail
            go_roundw
            case rel => exact ⟨m + 1, by omega, by rw [HS1.out]; try go_num, by rw [HS2.out]; try go_num, by go_num, by have hbk := HBl.out; have hz := hbk.size; exact (by repeat (first | exact Below.refl _ _ | assumption | refine Below.alloc ?_ (by first | omega | (simp <;> omega)) _ | refine Below.setCell ?_ (by first | omega | (simp <;> omega)) _ | refine Below.drew ?_))⟩
            case measure => simp [intOf]; omega
          · have HS1 := Lib.hid (show _ = n1 from hs1)
            have HS2 := Lib.hid (show _ = n2 from hs2)
            clear hs1 hs2
            go_wp2_with fail
            go_roundw
            case rel => exact ⟨m + 1, by omega, by rw [HS1.out]; try go_num, by rw [HS2.out]; try go_num, by go_num, by have hbk := HBl.out; have hz := hbk.size; exact (by repeat (first | exact Below.refl _ _ | assumption | refine Below.alloc ?_ (by first | omega | (simp <;> omega)) _ | refine Below.setCell ?_ (by first | omega | (simp <;> omega)) _ | refine Below.drew ?_))⟩
            case measure => simp [intOf]; omega
        · have hmq : m = q.length := by omega
          subst hmq
          rw [List.take_length]
          have hnv := never_cnt HSo.out
          generalize cntJ openB q = n1 at *
          generalize cntJ runB q = n2 at *
          rcases n1 with _ | n1
          · go_wp2_with fail
            go_ret
            exact ⟨rfl, HB.out⟩
          · have f1 : (((n1 + 1 : Nat) : Int) == 0) = false := by simp <;> omega
            have f1' : (((n1 : Int) + 1) == 0) = false := by simp <;> omega
            have f1'' : ¬ ((n1 : Int) + 1 = 0) := by omega
            rcases n2 with _ | n2
            · have hpos := hnv (by omega) rfl
              have hrl : (readyQ es q).length ≤ 1000000 := by have := readyQ_len es q; omega
              go_wp2_with fail
              refine (ReadyQ_any An Ae ns.length cn ce es A c q wr HG.out.re HQ.out.rq (by omega) (by omega) HQ.out.ok).mono ?_
              generalize readyQ es q = L at *
              have g1 : decide (0 < L.length) = true := by simpa using hpos
              have g2 : decide ((0 : Int) < (L.length : Int)) = true := by simpa using hpos
              rintro e w5 ⟨A1, k1, rfl, ho1, hb⟩
              replace c0 := cellAt c0 hb (by omega)
              replace c1 := cellAt c1 hb (by omega)
              replace HG := Lib.hid (HG.out.at hb)
              replace HQ := Lib.hid (HQ.out.at hb)
              replace nw1 : w.heap.size < w5.heap.size := ltAt nw1 hb
              replace HB := Lib.hid (lift HB.out hb)
              clear hb ho1
              go_wp2_with fail
              go_ret
              exact ⟨rfl, HB.out⟩
            · have g1 : decide (0 < n2 + 1) = true := by simp
              have g2 : decide ((0 : Int) < ((n2 + 1 : Nat) : Int)) = true := by simp <;> omega
              have g3 : decide ((0 : Int) < (n2 : Int) + 1) = true := by simp <;> omega
              go_wp2_with fail
              go_ret
              exact ⟨rfl, HB.out⟩
end Od
end Go.Proofs.YtanfnejbnmenkaaGreat
end
