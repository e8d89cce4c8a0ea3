/- My texts, joined for the claim: LtOne. -/
import Derived.Test.YtbllehjhmfehbaaGreatZT1
import Derived.Test.YtbllehjhmfehbaaGreatZT15
import Derived.Deep.DeepCutAuto

section
/- The walk of the law TransOne. (bel2) -/
namespace Go.Proofs.YtbllehjhmfehbaaGreat
open Go.RowKit Go.Sort Go.Maps
set_option linter.unusedSimpArgs false
namespace Od

theorem stN_is {ns : List Nd} {s : Str} {o : Option Nd} (h : nodeOf ns s = o) (hs : o.isSome = true) : ∃ k r, o = some (s, k, r) ∧ stN ns s = r := by
  cases o with
  | none => cases hs
  | some n =>
    obtain ⟨a, k, r⟩ := n
    have h1 := List.find?_some h
    simp only [beq_iff_eq] at h1
    subst h1
    exact ⟨k, r, rfl, by unfold stN; rw [h]⟩
set_option maxRecDepth 100000 in
set_option maxHeartbeats 16000000 in
theorem transOne_any (An Ae Au Ah : Option Addr) (cn ce cu ch : Nat) (ns : List Nd) (es : List Ed) (up half : List Str) (u : Str) (t : Int) (w : World) (hg : GIw w An Ae ns es) (hn : NIn w Au Ah up half) (hof : okJ (u, t)) :
    Calls Tryz.prog 10 #[gV An ns.length cn Ae es.length ce, nowV Au up.length cu Ah half.length ch, sv u, .int .i64 t] w fun e w' => e = .returned (.bool true) ∧ Below w.heap.size w w' := by
  have HG := Lib.hid hg
  have HN := Lib.hid hn
  clear hg hn
  go_enter Tryz.func10, Tryz.ntmps10
  go_wp2_with fail
  first | (refine wp_named ?_; intro W1 hW) | (refine calls_named ?_; intro W1 hW)
  have B1 : Below w.heap.size w W1 := by rw [hW]; exact (by repeat (first | exact Below.refl _ _ | assumption | refine Below.alloc ?_ (by first | omega | (simp <;> omega)) _ | refine Below.setCell ?_ (by first | omega | (simp <;> omega)) _ | refine Below.drew ?_))
  replace HG := Lib.hid (HG.out.at B1)
  replace HN := Lib.hid (HN.out.at B1)
  have n1 : w.heap.size < W1.heap.size := by rw [hW]; simp <;> omega
  have n2 : (w.heap.size + 1) < W1.heap.size := by rw [hW]; simp <;> omega
  have c0 : W1.cell? ⟨w.heap.size, 0, none⟩ = some (.slice An ns.length cn) := by rw [hW]; go_simp
  have c1 : W1.cell? ⟨w.heap.size, 1, none⟩ = some (.slice Ae es.length ce) := by rw [hW]; go_simp
  have c2 : W1.cell? ⟨(w.heap.size + 1), 0, none⟩ = some (.slice Au up.length cu) := by rw [hW]; go_simp
  have c3 : W1.cell? ⟨(w.heap.size + 1), 1, none⟩ = some (.slice Ah half.length ch) := by rw [hW]; go_simp
  clear hW
  have HB := Lib.hid B1
  clear B1
  refine (shown19_any W1).mono ?_
  rintro e w2 ⟨rfl, hb⟩
  replace c0 := cellAt c0 hb (by omega)
  replace c1 := cellAt c1 hb (by omega)
  replace c2 := cellAt c2 hb (by omega)
  replace c3 := cellAt c3 hb (by omega)
  replace HG := Lib.hid (HG.out.at hb)
  replace HN := Lib.hid (HN.out.at hb)
  replace n1 : w.heap.size < w2.heap.size := ltAt n1 hb
  replace n2 : (w.heap.size + 1) < w2.heap.size := ltAt n2 hb
  replace HB := Lib.hid (lift HB.out hb)
  clear hb
  go_wp2_with fail
  refine (small19_any An Ae cn ce ns es w2).mono ?_
  rintro e w3 ⟨rfl, hb⟩
  replace c0 := cellAt c0 hb (by omega)
  replace c1 := cellAt c1 hb (by omega)
  replace c2 := cellAt c2 hb (by omega)
  replace c3 := cellAt c3 hb (by omega)
  replace HG := Lib.hid (HG.out.at hb)
  replace HN := Lib.hid (HN.out.at hb)
  replace n1 : w.heap.size < w3.heap.size := ltAt n1 hb
  replace n2 : (w.heap.size + 1) < w3.heap.size := ltAt n2 hb
  replace HB := Lib.hid (lift HB.out hb)
  clear hb
  cases hsm : small19 ns es
  · skip
    go_wp2_with fail
    go_ret
    exact ⟨rfl, HB.out⟩
  · skip
    obtain ⟨hel, hnl⟩ := small19_iff.1 hsm
    clear hsm
    go_wp2_with fail
    refine (Build_any An Ae Au Ah cn ce cu ch ns es up half u t w3 HG.out HN.out hnl hel hof).mono ?_
    rintro e w4 ⟨A4, c4, rfl, ho4, hb⟩
    have HJ := Lib.hid (own_rd' ho4)
    replace c0 := cellAt c0 hb (by omega)
    replace c1 := cellAt c1 hb (by omega)
    replace c2 := cellAt c2 hb (by omega)
    replace c3 := cellAt c3 hb (by omega)
    replace HG := Lib.hid (HG.out.at hb)
    replace HN := Lib.hid (HN.out.at hb)
    replace n1 : w.heap.size < w4.heap.size := ltAt n1 hb
    replace n2 : (w.heap.size + 1) < w4.heap.size := ltAt n2 hb
    replace HB := Lib.hid (lift HB.out hb)
    clear hb ho4
    by_cases he : (madeT ns es up half (u, t)).err = 0
    · have hleft := made_left he
      have HJob := Lib.hid (fun j (hj : j ∈ jobsT up half (madeT ns es up half (u, t)).l) => hleft.job hj)
      have HWent := Lib.hid (fun p (hp : p ∈ (madeT ns es up half (u, t)).gone) => hleft.went hp)
      have HUp := Lib.hid (jobsT_up up half (madeT ns es up half (u, t)).l)
      have hlen := madeT_len ns es up half (u, t)
      have hjl := jobsT_len up half (madeT ns es up half (u, t)).l
      have hgl := hleft.ok.len
      have HGone := Lib.hid (fun W hG hN => Gone_any An Ae Au Ah cn ce cu ch ns es up half u t W hG hN hnl hel hof)
      have hbe : ((madeT ns es up half (u, t)).err != 0) = false := by rw [he]; rfl
      clear hleft he
      generalize madeT ns es up half (u, t) = T at *
      generalize T.err = te at *
      generalize T.l = tl at *
      generalize jobsT up half tl = J at *
      go_wp2_with fail
      go_loopw [38] (fun i wr => ∃ k : Nat, k ≤ J.length ∧ i = .int .i64 k ∧ Hid (Below w4.heap.size w4 wr)) (fun i _ => J.length - (intOf i).toNat)
      case atStart => exact ⟨0, Nat.zero_le _, rfl, Below.refl _ _⟩
      case round =>
        obtain ⟨k, hk, rfl, HBx⟩ := hrel
        have hbr := HBx.out
        replace c0 := cellAt c0 hbr (by omega)
        replace c1 := cellAt c1 hbr (by omega)
        replace c2 := cellAt c2 hbr (by omega)
        replace c3 := cellAt c3 hbr (by omega)
        replace HG := Lib.hid (HG.out.at hbr)
        replace HN := Lib.hid (HN.out.at hbr)
        replace n1 : w.heap.size < wr.heap.size := ltAt n1 hbr
        replace n2 : (w.heap.size + 1) < wr.heap.size := ltAt n2 hbr
        replace HB := Lib.hid (lift HB.out hbr)
        replace HJ := Lib.hid (HJ.out.at hbr)
        clear hbr
        by_cases hlt : k < J.length
        · obtain ⟨b2, o2, hA, hB2, x0, x1, x2, x3⟩ := HJ.out.job hlt
          subst hA
          have hpw := fun (j : Nat) (hj : j + 1 = k) => List.pairwise_iff_getElem.1 HUp.out j k (by omega) hlt (by omega)
          have hjob := HJob.out _ (List.getElem_mem hlt)
          have HPw := Lib.hid hpw
          clear hpw
          generalize J[k] = p at x0 x1 x2 x3 hjob HPw
          obtain ⟨s, t', r', d'⟩ := p
          simp only at x0 x1 x2 x3 hjob HPw
          obtain ⟨hr, hd, hno, hld, hse⟩ := hjob
          subst hr hd
          have HNo := Lib.hid hno
          have HLd := Lib.hid hld
          have HSt := Lib.hid hse
          have i1 : (0 : Int) ≤ (k : Int) := by omega
          have i2 : (k : Int) < (J.length : Int) := by omega
          clear hno hld hse
          have HPw2 := HPw
          go_upto_region 11 with fail
          first | (refine wp_named ?_; intro W6 hW) | (refine calls_named ?_; intro W6 hW)
          have B6 : Below wr.heap.size wr W6 := by rw [hW]; exact (by repeat (first | exact Below.refl _ _ | assumption | refine Below.alloc ?_ (by first | omega | (simp <;> omega)) _ | refine Below.setCell ?_ (by first | omega | (simp <;> omega)) _ | refine Below.drew ?_))
          replace c0 := cellAt c0 B6 (by omega)
          replace c1 := cellAt c1 B6 (by omega)
          replace c2 := cellAt c2 B6 (by omega)
          replace c3 := cellAt c3 B6 (by omega)
          replace HG := Lib.hid (HG.out.at B6)
          replace HN := Lib.hid (HN.out.at B6)
          replace n1 : w.heap.size < W6.heap.size := ltAt n1 B6
          replace n2 : (w.heap.size + 1) < W6.heap.size := ltAt n2 B6
          replace HB := Lib.hid (lift HB.out B6)
          replace HJ := Lib.hid (HJ.out.at B6)
          replace HBx := Lib.hid (lift HBx.out B6)
          replace hB2 : b2 < W6.heap.size := ltAt hB2 B6
          have m6 : wr.heap.size < W6.heap.size := by rw [hW]; simp <;> omega
          have y0 : W6.cell? ⟨wr.heap.size, 0, none⟩ = some (sv s) := by rw [hW]; go_simp
          have y1 : W6.cell? ⟨wr.heap.size, 1, none⟩ = some (.int .i64 t') := by rw [hW]; go_simp
          have y2 : W6.cell? ⟨wr.heap.size, 2, none⟩ = some (.int .i64 1) := by rw [hW]; go_simp
          have y3 : W6.cell? ⟨wr.heap.size, 3, none⟩ = some (.int .i64 0) := by rw [hW]; go_simp
          clear hW
          clear x0 x1 x2 x3
          go_cut [65] (fun v wx => v = .bool false ∧ Below W6.heap.size W6 wx)
          case first =>
            by_cases hk0 : k = 0
            · have hd0 : decide (0 < k) = false := by rw [decide_eq_false_iff_not]; omega
              clear hk0 B6
              try go_wp2_with fail
              refine wp_region_held_drew (S := fun w' => Below W6.heap.size W6 w') (by kernel_rfl) (Below.drew (Below.refl _ _)) (fun hHeld => ?_)
              refine tY (i := 0) (v := ?_) rfl ?_ hHeld ?_; rotate_left 1; focus (intro w' hSw; clear hSw; go_simp; try with_reducible rfl)
              (try simp only [Act.put, zn1, zn2, zn3])
              refine tY (i := 1) (v := ?_) rfl ?_ hHeld ?_; rotate_left 1; focus (intro w' hSw; clear hSw; go_simp; try with_reducible rfl)
              (try simp only [Act.put, zn1, zn2, zn3])
              refine tY (i := 2) (v := ?_) rfl ?_ hHeld ?_; rotate_left 1; focus (intro w' hSw; clear hSw; go_simp; try with_reducible rfl)
              (try simp only [Act.put, zn1, zn2, zn3])
              refine tS (i := 3) rfl hHeld ?_; (try simp only [Act.put, zn1, zn2, zn3])
              refine tS (i := 4) rfl hHeld ?_; (try simp only [Act.put, zn1, zn2, zn3])
              refine tS (i := 5) rfl hHeld ?_; (try simp only [Act.put, zn1, zn2, zn3])
              refine tS (i := 6) rfl hHeld ?_; (try simp only [Act.put, zn1, zn2, zn3])
              refine tS (i := 7) rfl hHeld ?_; (try simp only [Act.put, zn1, zn2, zn3])
              refine tS (i := 8) rfl hHeld ?_; (try simp only [Act.put, zn1, zn2, zn3])
              refine tS (i := 9) rfl hHeld ?_; (try simp only [Act.put, zn1, zn2, zn3])
              refine tS (i := 10) rfl hHeld ?_; (try simp only [Act.put, zn1, zn2, zn3])
              refine tS (i := 11) rfl hHeld ?_; (try simp only [Act.put, zn1, zn2, zn3])
              refine tY (i := 12) (v := ?_) rfl ?_ hHeld ?_; rotate_left 1; focus (intro w' hSw; clear hSw; go_simp; try with_reducible rfl)
              (try simp only [Act.put, zn1, zn2, zn3])
              refine tY (i := 13) (v := ?_) rfl ?_ hHeld ?_; rotate_left 1; focus (intro w' hSw; clear hSw; go_simp; try with_reducible rfl)
              (try simp only [Act.put, zn1, zn2, zn3])
              refine tY (i := 14) (v := ?_) rfl ?_ hHeld ?_; rotate_left 1; focus (intro w' hSw; clear hSw; go_simp; try with_reducible rfl)
              (try simp only [Act.put, zn1, zn2, zn3])
              refine tY (i := 15) (v := ?_) rfl ?_ hHeld ?_; rotate_left 1; focus (intro w' hSw; have hCell := fun (b o : Nat) (h : b < W6.heap.size) => hSw.cell (p := ⟨b, o, none⟩) h; clear hSw; go_simp; try with_reducible rfl)
              (try simp only [Act.put, zn1, zn2, zn3])
              refine tY (i := 16) (v := ?_) rfl ?_ hHeld ?_; rotate_left 1; focus (intro w' hSw; clear hSw; go_simp; try with_reducible rfl)
              (try simp only [Act.put, zn1, zn2, zn3])
              refine tY (i := 17) (v := ?_) rfl ?_ hHeld ?_; rotate_left 1; focus (intro w' hSw; clear hSw; go_simp; try with_reducible rfl)
              (try simp only [Act.put, zn1, zn2, zn3])
              refine tY (i := 18) (v := ?_) rfl ?_ hHeld ?_; rotate_left 1; focus (intro w' hSw; clear hSw; go_simp; try with_reducible rfl)
              (try simp only [Act.put, zn1, zn2, zn3])
              refine tY (i := 19) (v := ?_) rfl ?_ hHeld ?_; rotate_left 1; focus (intro w' hSw; clear hSw; go_simp; try with_reducible rfl)
              (try simp only [Act.put, zn1, zn2, zn3])
              refine tY (i := 20) (v := ?_) rfl ?_ hHeld ?_; rotate_left 1; focus (intro w' hSw; have hCell := fun (b o : Nat) (h : b < W6.heap.size) => hSw.cell (p := ⟨b, o, none⟩) h; clear hSw; go_simp; try with_reducible rfl)
              (try simp only [Act.put, zn1, zn2, zn3])
              refine tY (i := 21) (v := ?_) rfl ?_ hHeld ?_; rotate_left 1; focus (intro w' hSw; clear hSw; go_simp; try with_reducible rfl)
              (try simp only [Act.put, zn1, zn2, zn3])
              refine tY (i := 22) (v := ?_) rfl ?_ hHeld ?_; rotate_left 1; focus (intro w' hSw; clear hSw; go_simp; try with_reducible rfl)
              (try simp only [Act.put, zn1, zn2, zn3])
              refine wpAnyH_done (by kernel_rfl) ?_ _
              go_wp2_with fail
              go_meet
              exact ⟨rfl, hHeld⟩
            · obtain ⟨j, hj⟩ : ∃ j, j + 1 = k := ⟨k - 1, by omega⟩
              have hjl : j < J.length := by omega
              have hp := HPw.out j hj
              obtain ⟨b3, o3, hA3, hB3, u0, u1, u2, u3⟩ := HJ.out.job hjl
              injection hA3 with hA3
              injection hA3 with e1 e2
              subst e1 e2
              generalize J[j] = pp at u0 u1 u2 u3 hp
              obtain ⟨sp, tp, np, bp⟩ := pp
              simp only at u0 u1 u2 u3 hp
              have hd0 : decide (0 < k) = true := by rw [decide_eq_true_eq]; omega
              have hw1 : IntKind.i64.wrap ((k : Int) - 1) = (j : Int) := by rw [← hj]; rw [IntWalk.i64_in _ (by omega)]; omega
              have j1 : (0 : Int) ≤ (j : Int) := by omega
              have j2 : (j : Int) < (J.length : Int) := by omega
              have hbl : Op.bytesLess sp s = true := hp
              clear hk0 hj hp B6 u1 u2 u3
              try go_wp2_with fail
              refine wp_region_held_drew (S := fun w' => Below W6.heap.size W6 w') (by kernel_rfl) (Below.drew (Below.refl _ _)) (fun hHeld => ?_)
              refine tY (i := 0) (v := ?_) rfl ?_ hHeld ?_; rotate_left 1; focus (intro w' hSw; clear hSw; go_simp; try with_reducible rfl)
              (try simp only [Act.put, zn1, zn2, zn3])
              refine tY (i := 1) (v := ?_) rfl ?_ hHeld ?_; rotate_left 1; focus (intro w' hSw; clear hSw; go_simp; try with_reducible rfl)
              (try simp only [Act.put, zn1, zn2, zn3])
              refine tY (i := 2) (v := ?_) rfl ?_ hHeld ?_; rotate_left 1; focus (intro w' hSw; clear hSw; go_simp; try with_reducible rfl)
              (try simp only [Act.put, zn1, zn2, zn3])
              refine tY (i := 3) (v := ?_) rfl ?_ hHeld ?_; rotate_left 1; focus (intro w' hSw; clear hSw; go_simp; try with_reducible rfl)
              (try simp only [Act.put, zn1, zn2, zn3])
              refine tY (i := 4) (v := ?_) rfl ?_ hHeld ?_; rotate_left 1; focus (intro w' hSw; clear hSw; go_simp; try with_reducible rfl)
              (try simp only [Act.put, zn1, zn2, zn3])
              refine tY (i := 5) (v := ?_) rfl ?_ hHeld ?_; rotate_left 1; focus (intro w' hSw; clear hSw; go_simp; try with_reducible rfl)
              (try simp only [Act.put, zn1, zn2, zn3])
              refine tY (i := 6) (v := ?_) rfl ?_ hHeld ?_; rotate_left 1; focus (intro w' hSw; clear hSw; go_simp; try with_reducible rfl)
              (try simp only [Act.put, zn1, zn2, zn3])
              refine tY (i := 7) (v := ?_) rfl ?_ hHeld ?_; rotate_left 1; focus (intro w' hSw; clear hSw; go_simp; try with_reducible rfl)
              (try simp only [Act.put, zn1, zn2, zn3])
              refine tY (i := 8) (v := ?_) rfl ?_ hHeld ?_; rotate_left 1; focus (intro w' hSw; have hCell := fun (b o : Nat) (h : b < W6.heap.size) => hSw.cell (p := ⟨b, o, none⟩) h; clear hSw; go_simp; try with_reducible rfl)
              (try simp only [Act.put, zn1, zn2, zn3])
              refine tY (i := 9) (v := ?_) rfl ?_ hHeld ?_; rotate_left 1; focus (intro w' hSw; clear hSw; go_simp; try with_reducible rfl)
              (try simp only [Act.put, zn1, zn2, zn3])
              refine tY (i := 10) (v := ?_) rfl ?_ hHeld ?_; rotate_left 1; focus (intro w' hSw; have hCell := fun (b o : Nat) (h : b < W6.heap.size) => hSw.cell (p := ⟨b, o, none⟩) h; clear hSw; go_simp; try with_reducible rfl)
              (try simp only [Act.put, zn1, zn2, zn3])
              refine tY (i := 11) (v := ?_) rfl ?_ hHeld ?_; rotate_left 1; focus (intro w' hSw; clear hSw; go_simp; try with_reducible rfl)
              (try simp only [Act.put, zn1, zn2, zn3])
              refine tY (i := 12) (v := ?_) rfl ?_ hHeld ?_; rotate_left 1; focus (intro w' hSw; clear hSw; go_simp; try with_reducible rfl)
              (try simp only [Act.put, zn1, zn2, zn3])
              refine tY (i := 13) (v := ?_) rfl ?_ hHeld ?_; rotate_left 1; focus (intro w' hSw; clear hSw; go_simp; try with_reducible rfl)
              (try simp only [Act.put, zn1, zn2, zn3])
              refine tY (i := 14) (v := ?_) rfl ?_ hHeld ?_; rotate_left 1; focus (intro w' hSw; clear hSw; go_simp; try with_reducible rfl)
              (try simp only [Act.put, zn1, zn2, zn3])
              refine tY (i := 15) (v := ?_) rfl ?_ hHeld ?_; rotate_left 1; focus (intro w' hSw; have hCell := fun (b o : Nat) (h : b < W6.heap.size) => hSw.cell (p := ⟨b, o, none⟩) h; clear hSw; go_simp; try with_reducible rfl)
              (try simp only [Act.put, zn1, zn2, zn3])
              refine tY (i := 16) (v := ?_) rfl ?_ hHeld ?_; rotate_left 1; focus (intro w' hSw; clear hSw; go_simp; try with_reducible rfl)
              (try simp only [Act.put, zn1, zn2, zn3])
              refine tY (i := 17) (v := ?_) rfl ?_ hHeld ?_; rotate_left 1; focus (intro w' hSw; clear hSw; go_simp; try with_reducible rfl)
              (try simp only [Act.put, zn1, zn2, zn3])
              refine tY (i := 18) (v := ?_) rfl ?_ hHeld ?_; rotate_left 1; focus (intro w' hSw; clear hSw; go_simp; try with_reducible rfl)
              (try simp only [Act.put, zn1, zn2, zn3])
              refine tY (i := 19) (v := ?_) rfl ?_ hHeld ?_; rotate_left 1; focus (intro w' hSw; clear hSw; go_simp; try with_reducible rfl)
              (try simp only [Act.put, zn1, zn2, zn3])
              refine tY (i := 20) (v := ?_) rfl ?_ hHeld ?_; rotate_left 1; focus (intro w' hSw; have hCell := fun (b o : Nat) (h : b < W6.heap.size) => hSw.cell (p := ⟨b, o, none⟩) h; clear hSw; go_simp; try with_reducible rfl)
              (try simp only [Act.put, zn1, zn2, zn3])
              refine tY (i := 21) (v := ?_) rfl ?_ hHeld ?_; rotate_left 1; focus (intro w' hSw; clear hSw; go_simp; try with_reducible rfl)
              (try simp only [Act.put, zn1, zn2, zn3])
              refine tY (i := 22) (v := ?_) rfl ?_ hHeld ?_; rotate_left 1; focus (intro w' hSw; clear hSw; go_simp; try with_reducible rfl)
              (try simp only [Act.put, zn1, zn2, zn3])
              refine wpAnyH_done (by kernel_rfl) ?_ _
              go_wp2_with fail
              go_meet
              exact ⟨rfl, hHeld⟩
          case rest =>
            obtain ⟨rfl, hb⟩ := hcut
            clear B6
            replace c0 := cellAt c0 hb (by omega)
            replace c1 := cellAt c1 hb (by omega)
            replace c2 := cellAt c2 hb (by omega)
            replace c3 := cellAt c3 hb (by omega)
            replace y0 := cellAt y0 hb (by omega)
            replace y1 := cellAt y1 hb (by omega)
            replace y2 := cellAt y2 hb (by omega)
            replace y3 := cellAt y3 hb (by omega)
            replace HG := Lib.hid (HG.out.at hb)
            replace HN := Lib.hid (HN.out.at hb)
            replace n1 : w.heap.size < wc.heap.size := ltAt n1 hb
            replace n2 : (w.heap.size + 1) < wc.heap.size := ltAt n2 hb
            replace HB := Lib.hid (lift HB.out hb)
            replace HJ := Lib.hid (HJ.out.at hb)
            replace HBx := Lib.hid (lift HBx.out hb)
            replace hB2 : b2 < wc.heap.size := ltAt hB2 hb
            replace m6 : wr.heap.size < wc.heap.size := ltAt m6 hb
            clear hb
            obtain ⟨k2, r2, ho, hst2⟩ := stN_is rfl HNo.out
            have hld2 := HLd.out
            rw [hst2] at hld2
            replace HLd := Lib.hid hld2
            clear hld2 hst2
            go_wp2_with fail
            refine (Node_any An Ae es.length cn ce ns s wc HG.out.rn (by omega)).mono ?_
            rw [ho]
            rintro e w7 ⟨rfl, hb⟩
            replace c0 := cellAt c0 hb (by omega)
            replace c1 := cellAt c1 hb (by omega)
            replace c2 := cellAt c2 hb (by omega)
            replace c3 := cellAt c3 hb (by omega)
            replace y0 := cellAt y0 hb (by omega)
            replace y1 := cellAt y1 hb (by omega)
            replace y2 := cellAt y2 hb (by omega)
            replace y3 := cellAt y3 hb (by omega)
            replace HG := Lib.hid (HG.out.at hb)
            replace HN := Lib.hid (HN.out.at hb)
            replace n1 : w.heap.size < w7.heap.size := ltAt n1 hb
            replace n2 : (w.heap.size + 1) < w7.heap.size := ltAt n2 hb
            replace HB := Lib.hid (lift HB.out hb)
            replace HJ := Lib.hid (HJ.out.at hb)
            replace HBx := Lib.hid (lift HBx.out hb)
            replace hB2 : b2 < w7.heap.size := ltAt hB2 hb
            replace m6 : wr.heap.size < w7.heap.size := ltAt m6 hb
            clear hb ho
            unfold nodeV
            go_wp2_with fail
            first | (refine wp_named ?_; intro W8 hW) | (refine calls_named ?_; intro W8 hW)
            have B8 : Below w7.heap.size w7 W8 := by rw [hW]; exact (by repeat (first | exact Below.refl _ _ | assumption | refine Below.alloc ?_ (by first | omega | (simp <;> omega)) _ | refine Below.setCell ?_ (by first | omega | (simp <;> omega)) _ | refine Below.drew ?_))
            replace c0 := cellAt c0 B8 (by omega)
            replace c1 := cellAt c1 B8 (by omega)
            replace c2 := cellAt c2 B8 (by omega)
            replace c3 := cellAt c3 B8 (by omega)
            replace y0 := cellAt y0 B8 (by omega)
            replace y1 := cellAt y1 B8 (by omega)
            replace y2 := cellAt y2 B8 (by omega)
            replace y3 := cellAt y3 B8 (by omega)
            replace HG := Lib.hid (HG.out.at B8)
            replace HN := Lib.hid (HN.out.at B8)
            replace n1 : w.heap.size < W8.heap.size := ltAt n1 B8
            replace n2 : (w.heap.size + 1) < W8.heap.size := ltAt n2 B8
            replace HB := Lib.hid (lift HB.out B8)
            replace HJ := Lib.hid (HJ.out.at B8)
            replace HBx := Lib.hid (lift HBx.out B8)
            replace hB2 : b2 < W8.heap.size := ltAt hB2 B8
            replace m6 : wr.heap.size < W8.heap.size := ltAt m6 B8
            have m8 : w7.heap.size < W8.heap.size := by rw [hW]; simp <;> omega
            have z2 : W8.cell? ⟨w7.heap.size, 2, none⟩ = some (.int .i64 r2) := by rw [hW]; go_simp
            clear hW
            clear B8
            refine (HasS_any Au cu up s W8 HN.out.u.rd HN.out.u.len).mono ?_
            rintro e v8 ⟨rfl, rfl⟩
            cases hup : hasB up s
            · go_wp2_with fail
              refine (HasS_any Ah ch half s W8 HN.out.h.rd HN.out.h.len).mono ?_
              rintro e v8 ⟨rfl, rfl⟩
              cases hha : hasB half s
              · have HS2 := Lib.hid (show setT t' 0 = t' by have h := HSt.out; unfold nowS at h; rw [hup, hha] at h; exact h)
                clear hup hha HSt
                by_cases t1 : t' = 1
                · subst t1
                  have hr := HLd.out (.inl rfl)
                  subst hr
                  try go_wp2_with fail
                  refine wp_region_held_drew (S := fun w' => Below W8.heap.size W8 w') (by kernel_rfl) (Below.drew (Below.refl _ _)) (fun hHeld => ?_)
                  refine tY (i := 0) (v := ?_) rfl ?_ hHeld ?_; rotate_left 1; focus (intro w' hSw; clear hSw; go_simp; try with_reducible rfl)
                  (try simp only [Act.put, zn1, zn2, zn3])
                  refine tY (i := 1) (v := ?_) rfl ?_ hHeld ?_; rotate_left 1; focus (intro w' hSw; clear hSw; go_simp; try with_reducible rfl)
                  (try simp only [Act.put, zn1, zn2, zn3])
                  refine tY (i := 2) (v := ?_) rfl ?_ hHeld ?_; rotate_left 1; focus (intro w' hSw; clear hSw; go_simp; try with_reducible rfl)
                  (try simp only [Act.put, zn1, zn2, zn3])
                  refine tY (i := 3) (v := ?_) rfl ?_ hHeld ?_; rotate_left 1; focus (intro w' hSw; clear hSw; go_simp; try with_reducible rfl)
                  (try simp only [Act.put, zn1, zn2, zn3])
                  refine tY (i := 4) (v := ?_) rfl ?_ hHeld ?_; rotate_left 1; focus (intro w' hSw; have hCell := fun (b o : Nat) (h : b < W8.heap.size) => hSw.cell (p := ⟨b, o, none⟩) h; clear hSw; go_simp; try with_reducible rfl)
                  (try simp only [Act.put, zn1, zn2, zn3])
                  refine tY (i := 5) (v := ?_) rfl ?_ hHeld ?_; rotate_left 1; focus (intro w' hSw; clear hSw; go_simp; try with_reducible rfl)
                  (try simp only [Act.put, zn1, zn2, zn3])
                  refine tY (i := 6) (v := ?_) rfl ?_ hHeld ?_; rotate_left 1; focus (intro w' hSw; clear hSw; go_simp; try with_reducible rfl)
                  (try simp only [Act.put, zn1, zn2, zn3])
                  refine tS (i := 7) rfl hHeld ?_; (try simp only [Act.put, zn1, zn2, zn3])
                  refine tS (i := 8) rfl hHeld ?_; (try simp only [Act.put, zn1, zn2, zn3])
                  refine tS (i := 9) rfl hHeld ?_; (try simp only [Act.put, zn1, zn2, zn3])
                  refine tY (i := 10) (v := ?_) rfl ?_ hHeld ?_; rotate_left 1; focus (intro w' hSw; clear hSw; go_simp; try with_reducible rfl)
                  (try simp only [Act.put, zn1, zn2, zn3])
                  refine tY (i := 11) (v := ?_) rfl ?_ hHeld ?_; rotate_left 1; focus (intro w' hSw; clear hSw; go_simp; try with_reducible rfl)
                  (try simp only [Act.put, zn1, zn2, zn3])
                  refine tY (i := 12) (v := ?_) rfl ?_ hHeld ?_; rotate_left 1; focus (intro w' hSw; clear hSw; go_simp; try with_reducible rfl)
                  (try simp only [Act.put, zn1, zn2, zn3])
                  refine tY (i := 13) (v := ?_) rfl ?_ hHeld ?_; rotate_left 1; focus (intro w' hSw; have hCell := fun (b o : Nat) (h : b < W8.heap.size) => hSw.cell (p := ⟨b, o, none⟩) h; clear hSw; go_simp; try with_reducible rfl)
                  (try simp only [Act.put, zn1, zn2, zn3])
                  refine tY (i := 14) (v := ?_) rfl ?_ hHeld ?_; rotate_left 1; focus (intro w' hSw; clear hSw; go_simp; try with_reducible rfl)
                  (try simp only [Act.put, zn1, zn2, zn3])
                  refine tY (i := 15) (v := ?_) rfl ?_ hHeld ?_; rotate_left 1; focus (intro w' hSw; clear hSw; go_simp; try with_reducible rfl)
                  (try simp only [Act.put, zn1, zn2, zn3])
                  refine tY (i := 16) (v := ?_) rfl ?_ hHeld ?_; rotate_left 1; focus (intro w' hSw; clear hSw; go_simp; try with_reducible rfl)
                  (try simp only [Act.put, zn1, zn2, zn3])
                  refine tY (i := 17) (v := ?_) rfl ?_ hHeld ?_; rotate_left 1; focus (intro w' hSw; clear hSw; go_simp; try with_reducible rfl)
                  (try simp only [Act.put, zn1, zn2, zn3])
                  refine tY (i := 18) (v := ?_) rfl ?_ hHeld ?_; rotate_left 1; focus (intro w' hSw; clear hSw; go_simp; try with_reducible rfl)
                  (try simp only [Act.put, zn1, zn2, zn3])
                  refine tY (i := 19) (v := ?_) rfl ?_ hHeld ?_; rotate_left 1; focus (intro w' hSw; have hCell := fun (b o : Nat) (h : b < W8.heap.size) => hSw.cell (p := ⟨b, o, none⟩) h; clear hSw; go_simp; try with_reducible rfl)
                  (try simp only [Act.put, zn1, zn2, zn3])
                  refine tY (i := 20) (v := ?_) rfl ?_ hHeld ?_; rotate_left 1; focus (intro w' hSw; clear hSw; go_simp; try with_reducible rfl)
                  (try simp only [Act.put, zn1, zn2, zn3])
                  refine tY (i := 22) (v := ?_) rfl ?_ hHeld ?_; rotate_left 1; focus (intro w' hSw; clear hSw; go_simp; try with_reducible rfl)
                  (try simp only [Act.put, zn1, zn2, zn3])
                  refine tY (i := 23) (v := ?_) rfl ?_ hHeld ?_; rotate_left 1; focus (intro w' hSw; have hCell := fun (b o : Nat) (h : b < W8.heap.size) => hSw.cell (p := ⟨b, o, none⟩) h; clear hSw; go_simp; try with_reducible rfl)
                  (try simp only [Act.put, zn1, zn2, zn3])
                  refine ready_one (i := 21) rfl (by kernel_rfl) (fun K hK => ?_)
                  go_simp
                  refine (Pr.settle_any 1 0 _).mono ?_
                  rintro e z1 ⟨rfl, rfl⟩
                  rw [st_setT, HS2.out]
                  refine hK.out _ _ ?_ (fun hHeld2 => ?_)
                  · (try dsimp only); first | exact Below.trans hHeld (Below.mono hb hHeld.size) | exact hHeld | exact Below.drew hHeld | exact (by repeat (first | exact Below.refl _ _ | assumption | refine Below.alloc ?_ (by first | omega | (simp <;> omega)) _ | refine Below.setCell ?_ (by first | omega | (simp <;> omega)) _ | refine Below.drew ?_))
                  clear hK K hHeld; have hHeld := hHeld2; clear hHeld2; (try simp only [Act.put, zn1, zn2, zn3])
                  refine tY (i := 24) (v := ?_) rfl ?_ hHeld ?_; rotate_left 1; focus (intro w' hSw; clear hSw; go_simp; try with_reducible rfl)
                  (try simp only [Act.put, zn1, zn2, zn3])
                  refine tY (i := 25) (v := ?_) rfl ?_ hHeld ?_; rotate_left 1; focus (intro w' hSw; clear hSw; go_simp; try with_reducible rfl)
                  (try simp only [Act.put, zn1, zn2, zn3])
                  refine wpAnyH_done (by kernel_rfl) ?_ _
                  have HBz := Lib.hid (lift HBx.out hHeld)
                  clear hHeld
                  go_wp2_with fail
                  go_roundw
                  case rel => exact ⟨k + 1, by omega, by go_num, HBz⟩
                  case measure => simp [intOf]; omega
                · have e1 : (t' == 1) = false := by simpa using t1
                  by_cases t3 : t' = 3
                  · subst t3
                    have hr := HLd.out (.inr rfl)
                    subst hr
                    try go_wp2_with fail
                    refine wp_region_held_drew (S := fun w' => Below W8.heap.size W8 w') (by kernel_rfl) (Below.drew (Below.refl _ _)) (fun hHeld => ?_)
                    refine tY (i := 0) (v := ?_) rfl ?_ hHeld ?_; rotate_left 1; focus (intro w' hSw; clear hSw; go_simp; try with_reducible rfl)
                    (try simp only [Act.put, zn1, zn2, zn3])
                    refine tY (i := 1) (v := ?_) rfl ?_ hHeld ?_; rotate_left 1; focus (intro w' hSw; clear hSw; go_simp; try with_reducible rfl)
                    (try simp only [Act.put, zn1, zn2, zn3])
                    refine tY (i := 2) (v := ?_) rfl ?_ hHeld ?_; rotate_left 1; focus (intro w' hSw; clear hSw; go_simp; try with_reducible rfl)
                    (try simp only [Act.put, zn1, zn2, zn3])
                    refine tY (i := 3) (v := ?_) rfl ?_ hHeld ?_; rotate_left 1; focus (intro w' hSw; clear hSw; go_simp; try with_reducible rfl)
                    (try simp only [Act.put, zn1, zn2, zn3])
                    refine tY (i := 4) (v := ?_) rfl ?_ hHeld ?_; rotate_left 1; focus (intro w' hSw; have hCell := fun (b o : Nat) (h : b < W8.heap.size) => hSw.cell (p := ⟨b, o, none⟩) h; clear hSw; go_simp; try with_reducible rfl)
                    (try simp only [Act.put, zn1, zn2, zn3])
                    refine tY (i := 5) (v := ?_) rfl ?_ hHeld ?_; rotate_left 1; focus (intro w' hSw; clear hSw; go_simp; try with_reducible rfl)
                    (try simp only [Act.put, zn1, zn2, zn3])
                    refine tY (i := 6) (v := ?_) rfl ?_ hHeld ?_; rotate_left 1; focus (intro w' hSw; clear hSw; go_simp; try with_reducible rfl)
                    (try simp only [Act.put, zn1, zn2, zn3])
                    refine tY (i := 7) (v := ?_) rfl ?_ hHeld ?_; rotate_left 1; focus (intro w' hSw; clear hSw; go_simp; try with_reducible rfl)
                    (try simp only [Act.put, zn1, zn2, zn3])
                    refine tY (i := 8) (v := ?_) rfl ?_ hHeld ?_; rotate_left 1; focus (intro w' hSw; have hCell := fun (b o : Nat) (h : b < W8.heap.size) => hSw.cell (p := ⟨b, o, none⟩) h; clear hSw; go_simp; try with_reducible rfl)
                    (try simp only [Act.put, zn1, zn2, zn3])
                    refine tY (i := 9) (v := ?_) rfl ?_ hHeld ?_; rotate_left 1; focus (intro w' hSw; clear hSw; go_simp; try with_reducible rfl)
                    (try simp only [Act.put, zn1, zn2, zn3])
                    refine tY (i := 10) (v := ?_) rfl ?_ hHeld ?_; rotate_left 1; focus (intro w' hSw; clear hSw; go_simp; try with_reducible rfl)
                    (try simp only [Act.put, zn1, zn2, zn3])
                    refine tY (i := 11) (v := ?_) rfl ?_ hHeld ?_; rotate_left 1; focus (intro w' hSw; clear hSw; go_simp; try with_reducible rfl)
                    (try simp only [Act.put, zn1, zn2, zn3])
                    refine tY (i := 12) (v := ?_) rfl ?_ hHeld ?_; rotate_left 1; focus (intro w' hSw; clear hSw; go_simp; try with_reducible rfl)
                    (try simp only [Act.put, zn1, zn2, zn3])
                    refine tY (i := 13) (v := ?_) rfl ?_ hHeld ?_; rotate_left 1; focus (intro w' hSw; have hCell := fun (b o : Nat) (h : b < W8.heap.size) => hSw.cell (p := ⟨b, o, none⟩) h; clear hSw; go_simp; try with_reducible rfl)
                    (try simp only [Act.put, zn1, zn2, zn3])
                    refine tY (i := 14) (v := ?_) rfl ?_ hHeld ?_; rotate_left 1; focus (intro w' hSw; clear hSw; go_simp; try with_reducible rfl)
                    (try simp only [Act.put, zn1, zn2, zn3])
                    refine tY (i := 15) (v := ?_) rfl ?_ hHeld ?_; rotate_left 1; focus (intro w' hSw; clear hSw; go_simp; try with_reducible rfl)
                    (try simp only [Act.put, zn1, zn2, zn3])
                    refine tY (i := 16) (v := ?_) rfl ?_ hHeld ?_; rotate_left 1; focus (intro w' hSw; clear hSw; go_simp; try with_reducible rfl)
                    (try simp only [Act.put, zn1, zn2, zn3])
                    refine tY (i := 17) (v := ?_) rfl ?_ hHeld ?_; rotate_left 1; focus (intro w' hSw; clear hSw; go_simp; try with_reducible rfl)
                    (try simp only [Act.put, zn1, zn2, zn3])
                    refine tY (i := 18) (v := ?_) rfl ?_ hHeld ?_; rotate_left 1; focus (intro w' hSw; clear hSw; go_simp; try with_reducible rfl)
                    (try simp only [Act.put, zn1, zn2, zn3])
                    refine tY (i := 19) (v := ?_) rfl ?_ hHeld ?_; rotate_left 1; focus (intro w' hSw; have hCell := fun (b o : Nat) (h : b < W8.heap.size) => hSw.cell (p := ⟨b, o, none⟩) h; clear hSw; go_simp; try with_reducible rfl)
                    (try simp only [Act.put, zn1, zn2, zn3])
                    refine tY (i := 20) (v := ?_) rfl ?_ hHeld ?_; rotate_left 1; focus (intro w' hSw; clear hSw; go_simp; try with_reducible rfl)
                    (try simp only [Act.put, zn1, zn2, zn3])
                    refine tY (i := 22) (v := ?_) rfl ?_ hHeld ?_; rotate_left 1; focus (intro w' hSw; clear hSw; go_simp; try with_reducible rfl)
                    (try simp only [Act.put, zn1, zn2, zn3])
                    refine tY (i := 23) (v := ?_) rfl ?_ hHeld ?_; rotate_left 1; focus (intro w' hSw; have hCell := fun (b o : Nat) (h : b < W8.heap.size) => hSw.cell (p := ⟨b, o, none⟩) h; clear hSw; go_simp; try with_reducible rfl)
                    (try simp only [Act.put, zn1, zn2, zn3])
                    refine ready_one (i := 21) rfl (by kernel_rfl) (fun K hK => ?_)
                    go_simp
                    refine (Pr.settle_any 3 0 _).mono ?_
                    rintro e z1 ⟨rfl, rfl⟩
                    rw [st_setT, HS2.out]
                    refine hK.out _ _ ?_ (fun hHeld2 => ?_)
                    · (try dsimp only); first | exact Below.trans hHeld (Below.mono hb hHeld.size) | exact hHeld | exact Below.drew hHeld | exact (by repeat (first | exact Below.refl _ _ | assumption | refine Below.alloc ?_ (by first | omega | (simp <;> omega)) _ | refine Below.setCell ?_ (by first | omega | (simp <;> omega)) _ | refine Below.drew ?_))
                    clear hK K hHeld; have hHeld := hHeld2; clear hHeld2; (try simp only [Act.put, zn1, zn2, zn3])
                    refine tY (i := 24) (v := ?_) rfl ?_ hHeld ?_; rotate_left 1; focus (intro w' hSw; clear hSw; go_simp; try with_reducible rfl)
                    (try simp only [Act.put, zn1, zn2, zn3])
                    refine tY (i := 25) (v := ?_) rfl ?_ hHeld ?_; rotate_left 1; focus (intro w' hSw; clear hSw; go_simp; try with_reducible rfl)
                    (try simp only [Act.put, zn1, zn2, zn3])
                    refine wpAnyH_done (by kernel_rfl) ?_ _
                    have HBz := Lib.hid (lift HBx.out hHeld)
                    clear hHeld
                    go_wp2_with fail
                    go_roundw
                    case rel => exact ⟨k + 1, by omega, by go_num, HBz⟩
                    case measure => simp [intOf]; omega
                  · have e3 : (t' == 3) = false := by simpa using t3
                    clear t1 t3 HLd
                    try go_wp2_with fail
                    refine wp_region_held_drew (S := fun w' => Below W8.heap.size W8 w') (by kernel_rfl) (Below.drew (Below.refl _ _)) (fun hHeld => ?_)
                    refine tY (i := 0) (v := ?_) rfl ?_ hHeld ?_; rotate_left 1; focus (intro w' hSw; clear hSw; go_simp; try with_reducible rfl)
                    (try simp only [Act.put, zn1, zn2, zn3])
                    refine tY (i := 1) (v := ?_) rfl ?_ hHeld ?_; rotate_left 1; focus (intro w' hSw; clear hSw; go_simp; try with_reducible rfl)
                    (try simp only [Act.put, zn1, zn2, zn3])
                    refine tY (i := 2) (v := ?_) rfl ?_ hHeld ?_; rotate_left 1; focus (intro w' hSw; clear hSw; go_simp; try with_reducible rfl)
                    (try simp only [Act.put, zn1, zn2, zn3])
                    refine tY (i := 3) (v := ?_) rfl ?_ hHeld ?_; rotate_left 1; focus (intro w' hSw; clear hSw; go_simp; try with_reducible rfl)
                    (try simp only [Act.put, zn1, zn2, zn3])
                    refine tY (i := 4) (v := ?_) rfl ?_ hHeld ?_; rotate_left 1; focus (intro w' hSw; have hCell := fun (b o : Nat) (h : b < W8.heap.size) => hSw.cell (p := ⟨b, o, none⟩) h; clear hSw; go_simp; try with_reducible rfl)
                    (try simp only [Act.put, zn1, zn2, zn3])
                    refine tY (i := 5) (v := ?_) rfl ?_ hHeld ?_; rotate_left 1; focus (intro w' hSw; clear hSw; go_simp; try with_reducible rfl)
                    (try simp only [Act.put, zn1, zn2, zn3])
                    refine tY (i := 6) (v := ?_) rfl ?_ hHeld ?_; rotate_left 1; focus (intro w' hSw; clear hSw; go_simp; try with_reducible rfl)
                    (try simp only [Act.put, zn1, zn2, zn3])
                    refine tY (i := 7) (v := ?_) rfl ?_ hHeld ?_; rotate_left 1; focus (intro w' hSw; clear hSw; go_simp; try with_reducible rfl)
                    (try simp only [Act.put, zn1, zn2, zn3])
                    refine tY (i := 8) (v := ?_) rfl ?_ hHeld ?_; rotate_left 1; focus (intro w' hSw; have hCell := fun (b o : Nat) (h : b < W8.heap.size) => hSw.cell (p := ⟨b, o, none⟩) h; clear hSw; go_simp; try with_reducible rfl)
                    (try simp only [Act.put, zn1, zn2, zn3])
                    refine tY (i := 9) (v := ?_) rfl ?_ hHeld ?_; rotate_left 1; focus (intro w' hSw; clear hSw; go_simp; try with_reducible rfl)
                    (try simp only [Act.put, zn1, zn2, zn3])
                    refine tY (i := 10) (v := ?_) rfl ?_ hHeld ?_; rotate_left 1; focus (intro w' hSw; clear hSw; go_simp; try with_reducible rfl)
                    (try simp only [Act.put, zn1, zn2, zn3])
                    refine tY (i := 11) (v := ?_) rfl ?_ hHeld ?_; rotate_left 1; focus (intro w' hSw; clear hSw; go_simp; try with_reducible rfl)
                    (try simp only [Act.put, zn1, zn2, zn3])
                    refine tS (i := 12) rfl hHeld ?_; (try simp only [Act.put, zn1, zn2, zn3])
                    refine tS (i := 13) rfl hHeld ?_; (try simp only [Act.put, zn1, zn2, zn3])
                    refine tS (i := 14) rfl hHeld ?_; (try simp only [Act.put, zn1, zn2, zn3])
                    refine tY (i := 15) (v := ?_) rfl ?_ hHeld ?_; rotate_left 1; focus (intro w' hSw; clear hSw; go_simp; try with_reducible rfl)
                    (try simp only [Act.put, zn1, zn2, zn3])
                    refine tY (i := 16) (v := ?_) rfl ?_ hHeld ?_; rotate_left 1; focus (intro w' hSw; clear hSw; go_simp; try with_reducible rfl)
                    (try simp only [Act.put, zn1, zn2, zn3])
                    refine tY (i := 17) (v := ?_) rfl ?_ hHeld ?_; rotate_left 1; focus (intro w' hSw; clear hSw; go_simp; try with_reducible rfl)
                    (try simp only [Act.put, zn1, zn2, zn3])
                    refine tY (i := 18) (v := ?_) rfl ?_ hHeld ?_; rotate_left 1; focus (intro w' hSw; clear hSw; go_simp; try with_reducible rfl)
                    (try simp only [Act.put, zn1, zn2, zn3])
                    refine tY (i := 19) (v := ?_) rfl ?_ hHeld ?_; rotate_left 1; focus (intro w' hSw; have hCell := fun (b o : Nat) (h : b < W8.heap.size) => hSw.cell (p := ⟨b, o, none⟩) h; clear hSw; go_simp; try with_reducible rfl)
                    (try simp only [Act.put, zn1, zn2, zn3])
                    refine tY (i := 20) (v := ?_) rfl ?_ hHeld ?_; rotate_left 1; focus (intro w' hSw; clear hSw; go_simp; try with_reducible rfl)
                    (try simp only [Act.put, zn1, zn2, zn3])
                    refine tY (i := 22) (v := ?_) rfl ?_ hHeld ?_; rotate_left 1; focus (intro w' hSw; clear hSw; go_simp; try with_reducible rfl)
                    (try simp only [Act.put, zn1, zn2, zn3])
                    refine tY (i := 23) (v := ?_) rfl ?_ hHeld ?_; rotate_left 1; focus (intro w' hSw; have hCell := fun (b o : Nat) (h : b < W8.heap.size) => hSw.cell (p := ⟨b, o, none⟩) h; clear hSw; go_simp; try with_reducible rfl)
                    (try simp only [Act.put, zn1, zn2, zn3])
                    refine ready_one (i := 21) rfl (by kernel_rfl) (fun K hK => ?_)
                    go_simp
                    refine (Pr.settle_any t' 0 _).mono ?_
                    rintro e z1 ⟨rfl, rfl⟩
                    rw [st_setT, HS2.out]
                    refine hK.out _ _ ?_ (fun hHeld2 => ?_)
                    · (try dsimp only); first | exact Below.trans hHeld (Below.mono hb hHeld.size) | exact hHeld | exact Below.drew hHeld | exact (by repeat (first | exact Below.refl _ _ | assumption | refine Below.alloc ?_ (by first | omega | (simp <;> omega)) _ | refine Below.setCell ?_ (by first | omega | (simp <;> omega)) _ | refine Below.drew ?_))
                    clear hK K hHeld; have hHeld := hHeld2; clear hHeld2; (try simp only [Act.put, zn1, zn2, zn3])
                    refine tY (i := 24) (v := ?_) rfl ?_ hHeld ?_; rotate_left 1; focus (intro w' hSw; clear hSw; go_simp; try with_reducible rfl)
                    (try simp only [Act.put, zn1, zn2, zn3])
                    refine tY (i := 25) (v := ?_) rfl ?_ hHeld ?_; rotate_left 1; focus (intro w' hSw; clear hSw; go_simp; try with_reducible rfl)
                    (try simp only [Act.put, zn1, zn2, zn3])
                    refine wpAnyH_done (by kernel_rfl) ?_ _
                    have HBz := Lib.hid (lift HBx.out hHeld)
                    clear hHeld
                    go_wp2_with fail
                    go_roundw
                    case rel => exact ⟨k + 1, by omega, by go_num, HBz⟩
                    case measure => simp [intOf]; omega
              · have HS2 := Lib.hid (show setT t' 2 = t' by have h := HSt.out; unfold nowS at h; rw [hup, hha] at h; exact h)
                clear hup hha HSt
                by_cases t1 : t' = 1
                · subst t1
                  have hr := HLd.out (.inl rfl)
                  subst hr
                  try go_wp2_with fail
                  refine wp_region_held_drew (S := fun w' => Below W8.heap.size W8 w') (by kernel_rfl) (Below.drew (Below.refl _ _)) (fun hHeld => ?_)
                  refine tY (i := 0) (v := ?_) rfl ?_ hHeld ?_; rotate_left 1; focus (intro w' hSw; clear hSw; go_simp; try with_reducible rfl)
                  (try simp only [Act.put, zn1, zn2, zn3])
                  refine tY (i := 1) (v := ?_) rfl ?_ hHeld ?_; rotate_left 1; focus (intro w' hSw; clear hSw; go_simp; try with_reducible rfl)
                  (try simp only [Act.put, zn1, zn2, zn3])
                  refine tY (i := 2) (v := ?_) rfl ?_ hHeld ?_; rotate_left 1; focus (intro w' hSw; clear hSw; go_simp; try with_reducible rfl)
                  (try simp only [Act.put, zn1, zn2, zn3])
                  refine tY (i := 3) (v := ?_) rfl ?_ hHeld ?_; rotate_left 1; focus (intro w' hSw; clear hSw; go_simp; try with_reducible rfl)
                  (try simp only [Act.put, zn1, zn2, zn3])
                  refine tY (i := 4) (v := ?_) rfl ?_ hHeld ?_; rotate_left 1; focus (intro w' hSw; have hCell := fun (b o : Nat) (h : b < W8.heap.size) => hSw.cell (p := ⟨b, o, none⟩) h; clear hSw; go_simp; try with_reducible rfl)
                  (try simp only [Act.put, zn1, zn2, zn3])
                  refine tY (i := 5) (v := ?_) rfl ?_ hHeld ?_; rotate_left 1; focus (intro w' hSw; clear hSw; go_simp; try with_reducible rfl)
                  (try simp only [Act.put, zn1, zn2, zn3])
                  refine tY (i := 6) (v := ?_) rfl ?_ hHeld ?_; rotate_left 1; focus (intro w' hSw; clear hSw; go_simp; try with_reducible rfl)
                  (try simp only [Act.put, zn1, zn2, zn3])
                  refine tS (i := 7) rfl hHeld ?_; (try simp only [Act.put, zn1, zn2, zn3])
                  refine tS (i := 8) rfl hHeld ?_; (try simp only [Act.put, zn1, zn2, zn3])
                  refine tS (i := 9) rfl hHeld ?_; (try simp only [Act.put, zn1, zn2, zn3])
                  refine tY (i := 10) (v := ?_) rfl ?_ hHeld ?_; rotate_left 1; focus (intro w' hSw; clear hSw; go_simp; try with_reducible rfl)
                  (try simp only [Act.put, zn1, zn2, zn3])
                  refine tY (i := 11) (v := ?_) rfl ?_ hHeld ?_; rotate_left 1; focus (intro w' hSw; clear hSw; go_simp; try with_reducible rfl)
                  (try simp only [Act.put, zn1, zn2, zn3])
                  refine tY (i := 12) (v := ?_) rfl ?_ hHeld ?_; rotate_left 1; focus (intro w' hSw; clear hSw; go_simp; try with_reducible rfl)
                  (try simp only [Act.put, zn1, zn2, zn3])
                  refine tY (i := 13) (v := ?_) rfl ?_ hHeld ?_; rotate_left 1; focus (intro w' hSw; have hCell := fun (b o : Nat) (h : b < W8.heap.size) => hSw.cell (p := ⟨b, o, none⟩) h; clear hSw; go_simp; try with_reducible rfl)
                  (try simp only [Act.put, zn1, zn2, zn3])
                  refine tY (i := 14) (v := ?_) rfl ?_ hHeld ?_; rotate_left 1; focus (intro w' hSw; clear hSw; go_simp; try with_reducible rfl)
                  (try simp only [Act.put, zn1, zn2, zn3])
                  refine tY (i := 15) (v := ?_) rfl ?_ hHeld ?_; rotate_left 1; focus (intro w' hSw; clear hSw; go_simp; try with_reducible rfl)
                  (try simp only [Act.put, zn1, zn2, zn3])
                  refine tY (i := 16) (v := ?_) rfl ?_ hHeld ?_; rotate_left 1; focus (intro w' hSw; clear hSw; go_simp; try with_reducible rfl)
                  (try simp only [Act.put, zn1, zn2, zn3])
                  refine tY (i := 17) (v := ?_) rfl ?_ hHeld ?_; rotate_left 1; focus (intro w' hSw; clear hSw; go_simp; try with_reducible rfl)
                  (try simp only [Act.put, zn1, zn2, zn3])
                  refine tY (i := 18) (v := ?_) rfl ?_ hHeld ?_; rotate_left 1; focus (intro w' hSw; clear hSw; go_simp; try with_reducible rfl)
                  (try simp only [Act.put, zn1, zn2, zn3])
                  refine tY (i := 19) (v := ?_) rfl ?_ hHeld ?_; rotate_left 1; focus (intro w' hSw; have hCell := fun (b o : Nat) (h : b < W8.heap.size) => hSw.cell (p := ⟨b, o, none⟩) h; clear hSw; go_simp; try with_reducible rfl)
                  (try simp only [Act.put, zn1, zn2, zn3])
                  refine tY (i := 20) (v := ?_) rfl ?_ hHeld ?_; rotate_left 1; focus (intro w' hSw; clear hSw; go_simp; try with_reducible rfl)
                  (try simp only [Act.put, zn1, zn2, zn3])
                  refine tY (i := 22) (v := ?_) rfl ?_ hHeld ?_; rotate_left 1; focus (intro w' hSw; clear hSw; go_simp; try with_reducible rfl)
                  (try simp only [Act.put, zn1, zn2, zn3])
                  refine tY (i := 23) (v := ?_) rfl ?_ hHeld ?_; rotate_left 1; focus (intro w' hSw; have hCell := fun (b o : Nat) (h : b < W8.heap.size) => hSw.cell (p := ⟨b, o, none⟩) h; clear hSw; go_simp; try with_reducible rfl)
                  (try simp only [Act.put, zn1, zn2, zn3])
                  refine ready_one (i := 21) rfl (by kernel_rfl) (fun K hK => ?_)
                  go_simp
                  refine (Pr.settle_any 1 2 _).mono ?_
                  rintro e z1 ⟨rfl, rfl⟩
                  rw [st_setT, HS2.out]
                  refine hK.out _ _ ?_ (fun hHeld2 => ?_)
                  · (try dsimp only); first | exact Below.trans hHeld (Below.mono hb hHeld.size) | exact hHeld | exact Below.drew hHeld | exact (by repeat (first | exact Below.refl _ _ | assumption | refine Below.alloc ?_ (by first | omega | (simp <;> omega)) _ | refine Below.setCell ?_ (by first | omega | (simp <;> omega)) _ | refine Below.drew ?_))
                  clear hK K hHeld; have hHeld := hHeld2; clear hHeld2; (try simp only [Act.put, zn1, zn2, zn3])
                  refine tY (i := 24) (v := ?_) rfl ?_ hHeld ?_; rotate_left 1; focus (intro w' hSw; clear hSw; go_simp; try with_reducible rfl)
                  (try simp only [Act.put, zn1, zn2, zn3])
                  refine tY (i := 25) (v := ?_) rfl ?_ hHeld ?_; rotate_left 1; focus (intro w' hSw; clear hSw; go_simp; try with_reducible rfl)
                  (try simp only [Act.put, zn1, zn2, zn3])
                  refine wpAnyH_done (by kernel_rfl) ?_ _
                  have HBz := Lib.hid (lift HBx.out hHeld)
                  clear hHeld
                  go_wp2_with fail
                  go_roundw
                  case rel => exact ⟨k + 1, by omega, by go_num, HBz⟩
                  case measure => simp [intOf]; omega
                · have e1 : (t' == 1) = false := by simpa using t1
                  by_cases t3 : t' = 3
                  · subst t3
                    have hr := HLd.out (.inr rfl)
                    subst hr
                    try go_wp2_with fail
                    refine wp_region_held_drew (S := fun w' => Below W8.heap.size W8 w') (by kernel_rfl) (Below.drew (Below.refl _ _)) (fun hHeld => ?_)
                    refine tY (i := 0) (v := ?_) rfl ?_ hHeld ?_; rotate_left 1; focus (intro w' hSw; clear hSw; go_simp; try with_reducible rfl)
                    (try simp only [Act.put, zn1, zn2, zn3])
                    refine tY (i := 1) (v := ?_) rfl ?_ hHeld ?_; rotate_left 1; focus (intro w' hSw; clear hSw; go_simp; try with_reducible rfl)
                    (try simp only [Act.put, zn1, zn2, zn3])
                    refine tY (i := 2) (v := ?_) rfl ?_ hHeld ?_; rotate_left 1; focus (intro w' hSw; clear hSw; go_simp; try with_reducible rfl)
                    (try simp only [Act.put, zn1, zn2, zn3])
                    refine tY (i := 3) (v := ?_) rfl ?_ hHeld ?_; rotate_left 1; focus (intro w' hSw; clear hSw; go_simp; try with_reducible rfl)
                    (try simp only [Act.put, zn1, zn2, zn3])
                    refine tY (i := 4) (v := ?_) rfl ?_ hHeld ?_; rotate_left 1; focus (intro w' hSw; have hCell := fun (b o : Nat) (h : b < W8.heap.size) => hSw.cell (p := ⟨b, o, none⟩) h; clear hSw; go_simp; try with_reducible rfl)
                    (try simp only [Act.put, zn1, zn2, zn3])
                    refine tY (i := 5) (v := ?_) rfl ?_ hHeld ?_; rotate_left 1; focus (intro w' hSw; clear hSw; go_simp; try with_reducible rfl)
                    (try simp only [Act.put, zn1, zn2, zn3])
                    refine tY (i := 6) (v := ?_) rfl ?_ hHeld ?_; rotate_left 1; focus (intro w' hSw; clear hSw; go_simp; try with_reducible rfl)
                    (try simp only [Act.put, zn1, zn2, zn3])
                    refine tY (i := 7) (v := ?_) rfl ?_ hHeld ?_; rotate_left 1; focus (intro w' hSw; clear hSw; go_simp; try with_reducible rfl)
                    (try simp only [Act.put, zn1, zn2, zn3])
                    refine tY (i := 8) (v := ?_) rfl ?_ hHeld ?_; rotate_left 1; focus (intro w' hSw; have hCell := fun (b o : Nat) (h : b < W8.heap.size) => hSw.cell (p := ⟨b, o, none⟩) h; clear hSw; go_simp; try with_reducible rfl)
                    (try simp only [Act.put, zn1, zn2, zn3])
                    refine tY (i := 9) (v := ?_) rfl ?_ hHeld ?_; rotate_left 1; focus (intro w' hSw; clear hSw; go_simp; try with_reducible rfl)
                    (try simp only [Act.put, zn1, zn2, zn3])
                    refine tY (i := 10) (v := ?_) rfl ?_ hHeld ?_; rotate_left 1; focus (intro w' hSw; clear hSw; go_simp; try with_reducible rfl)
                    (try simp only [Act.put, zn1, zn2, zn3])
                    refine tY (i := 11) (v := ?_) rfl ?_ hHeld ?_; rotate_left 1; focus (intro w' hSw; clear hSw; go_simp; try with_reducible rfl)
                    (try simp only [Act.put, zn1, zn2, zn3])
                    refine tY (i := 12) (v := ?_) rfl ?_ hHeld ?_; rotate_left 1; focus (intro w' hSw; clear hSw; go_simp; try with_reducible rfl)
                    (try simp only [Act.put, zn1, zn2, zn3])
                    refine tY (i := 13) (v := ?_) rfl ?_ hHeld ?_; rotate_left 1; focus (intro w' hSw; have hCell := fun (b o : Nat) (h : b < W8.heap.size) => hSw.cell (p := ⟨b, o, none⟩) h; clear hSw; go_simp; try with_reducible rfl)
                    (try simp only [Act.put, zn1, zn2, zn3])
                    refine tY (i := 14) (v := ?_) rfl ?_ hHeld ?_; rotate_left 1; focus (intro w' hSw; clear hSw; go_simp; try with_reducible rfl)
                    (try simp only [Act.put, zn1, zn2, zn3])
                    refine tY (i := 15) (v := ?_) rfl ?_ hHeld ?_; rotate_left 1; focus (intro w' hSw; clear hSw; go_simp; try with_reducible rfl)
                    (try simp only [Act.put, zn1, zn2, zn3])
                    refine tY (i := 16) (v := ?_) rfl ?_ hHeld ?_; rotate_left 1; focus (intro w' hSw; clear hSw; go_simp; try with_reducible rfl)
                    (try simp only [Act.put, zn1, zn2, zn3])
                    refine tY (i := 17) (v := ?_) rfl ?_ hHeld ?_; rotate_left 1; focus (intro w' hSw; clear hSw; go_simp; try with_reducible rfl)
                    (try simp only [Act.put, zn1, zn2, zn3])
                    refine tY (i := 18) (v := ?_) rfl ?_ hHeld ?_; rotate_left 1; focus (intro w' hSw; clear hSw; go_simp; try with_reducible rfl)
                    (try simp only [Act.put, zn1, zn2, zn3])
                    refine tY (i := 19) (v := ?_) rfl ?_ hHeld ?_; rotate_left 1; focus (intro w' hSw; have hCell := fun (b o : Nat) (h : b < W8.heap.size) => hSw.cell (p := ⟨b, o, none⟩) h; clear hSw; go_simp; try with_reducible rfl)
                    (try simp only [Act.put, zn1, zn2, zn3])
                    refine tY (i := 20) (v := ?_) rfl ?_ hHeld ?_; rotate_left 1; focus (intro w' hSw; clear hSw; go_simp; try with_reducible rfl)
                    (try simp only [Act.put, zn1, zn2, zn3])
                    refine tY (i := 22) (v := ?_) rfl ?_ hHeld ?_; rotate_left 1; focus (intro w' hSw; clear hSw; go_simp; try with_reducible rfl)
                    (try simp only [Act.put, zn1, zn2, zn3])
                    refine tY (i := 23) (v := ?_) rfl ?_ hHeld ?_; rotate_left 1; focus (intro w' hSw; have hCell := fun (b o : Nat) (h : b < W8.heap.size) => hSw.cell (p := ⟨b, o, none⟩) h; clear hSw; go_simp; try with_reducible rfl)
                    (try simp only [Act.put, zn1, zn2, zn3])
                    refine ready_one (i := 21) rfl (by kernel_rfl) (fun K hK => ?_)
                    go_simp
                    refine (Pr.settle_any 3 2 _).mono ?_
                    rintro e z1 ⟨rfl, rfl⟩
                    rw [st_setT, HS2.out]
                    refine hK.out _ _ ?_ (fun hHeld2 => ?_)
                    · (try dsimp only); first | exact Below.trans hHeld (Below.mono hb hHeld.size) | exact hHeld | exact Below.drew hHeld | exact (by repeat (first | exact Below.refl _ _ | assumption | refine Below.alloc ?_ (by first | omega | (simp <;> omega)) _ | refine Below.setCell ?_ (by first | omega | (simp <;> omega)) _ | refine Below.drew ?_))
                    clear hK K hHeld; have hHeld := hHeld2; clear hHeld2; (try simp only [Act.put, zn1, zn2, zn3])
                    refine tY (i := 24) (v := ?_) rfl ?_ hHeld ?_; rotate_left 1; focus (intro w' hSw; clear hSw; go_simp; try with_reducible rfl)
                    (try simp only [Act.put, zn1, zn2, zn3])
                    refine tY (i := 25) (v := ?_) rfl ?_ hHeld ?_; rotate_left 1; focus (intro w' hSw; clear hSw; go_simp; try with_reducible rfl)
                    (try simp only [Act.put, zn1, zn2, zn3])
                    refine wpAnyH_done (by kernel_rfl) ?_ _
                    have HBz := Lib.hid (lift HBx.out hHeld)
                    clear hHeld
                    go_wp2_with fail
                    go_roundw
                    case rel => exact ⟨k + 1, by omega, by go_num, HBz⟩
                    case measure => simp [intOf]; omega
                  · have e3 : (t' == 3) = false := by simpa using t3
                    clear t1 t3 HLd
                    try go_wp2_with fail
                    refine wp_region_held_drew (S := fun w' => Below W8.heap.size W8 w') (by kernel_rfl) (Below.drew (Below.refl _ _)) (fun hHeld => ?_)
                    refine tY (i := 0) (v := ?_) rfl ?_ hHeld ?_; rotate_left 1; focus (intro w' hSw; clear hSw; go_simp; try with_reducible rfl)
                    (try simp only [Act.put, zn1, zn2, zn3])
                    refine tY (i := 1) (v := ?_) rfl ?_ hHeld ?_; rotate_left 1; focus (intro w' hSw; clear hSw; go_simp; try with_reducible rfl)
                    (try simp only [Act.put, zn1, zn2, zn3])
                    refine tY (i := 2) (v := ?_) rfl ?_ hHeld ?_; rotate_left 1; focus (intro w' hSw; clear hSw; go_simp; try with_reducible rfl)
                    (try simp only [Act.put, zn1, zn2, zn3])
                    refine tY (i := 3) (v := ?_) rfl ?_ hHeld ?_; rotate_left 1; focus (intro w' hSw; clear hSw; go_simp; try with_reducible rfl)
                    (try simp only [Act.put, zn1, zn2, zn3])
                    refine tY (i := 4) (v := ?_) rfl ?_ hHeld ?_; rotate_left 1; focus (intro w' hSw; have hCell := fun (b o : Nat) (h : b < W8.heap.size) => hSw.cell (p := ⟨b, o, none⟩) h; clear hSw; go_simp; try with_reducible rfl)
                    (try simp only [Act.put, zn1, zn2, zn3])
                    refine tY (i := 5) (v := ?_) rfl ?_ hHeld ?_; rotate_left 1; focus (intro w' hSw; clear hSw; go_simp; try with_reducible rfl)
                    (try simp only [Act.put, zn1, zn2, zn3])
                    refine tY (i := 6) (v := ?_) rfl ?_ hHeld ?_; rotate_left 1; focus (intro w' hSw; clear hSw; go_simp; try with_reducible rfl)
                    (try simp only [Act.put, zn1, zn2, zn3])
                    refine tY (i := 7) (v := ?_) rfl ?_ hHeld ?_; rotate_left 1; focus (intro w' hSw; clear hSw; go_simp; try with_reducible rfl)
                    (try simp only [Act.put, zn1, zn2, zn3])
                    refine tY (i := 8) (v := ?_) rfl ?_ hHeld ?_; rotate_left 1; focus (intro w' hSw; have hCell := fun (b o : Nat) (h : b < W8.heap.size) => hSw.cell (p := ⟨b, o, none⟩) h; clear hSw; go_simp; try with_reducible rfl)
                    (try simp only [Act.put, zn1, zn2, zn3])
                    refine tY (i := 9) (v := ?_) rfl ?_ hHeld ?_; rotate_left 1; focus (intro w' hSw; clear hSw; go_simp; try with_reducible rfl)
                    (try simp only [Act.put, zn1, zn2, zn3])
                    refine tY (i := 10) (v := ?_) rfl ?_ hHeld ?_; rotate_left 1; focus (intro w' hSw; clear hSw; go_simp; try with_reducible rfl)
                    (try simp only [Act.put, zn1, zn2, zn3])
                    refine tY (i := 11) (v := ?_) rfl ?_ hHeld ?_; rotate_left 1; focus (intro w' hSw; clear hSw; go_simp; try with_reducible rfl)
                    (try simp only [Act.put, zn1, zn2, zn3])
                    refine tS (i := 12) rfl hHeld ?_; (try simp only [Act.put, zn1, zn2, zn3])
                    refine tS (i := 13) rfl hHeld ?_; (try simp only [Act.put, zn1, zn2, zn3])
                    refine tS (i := 14) rfl hHeld ?_; (try simp only [Act.put, zn1, zn2, zn3])
                    refine tY (i := 15) (v := ?_) rfl ?_ hHeld ?_; rotate_left 1; focus (intro w' hSw; clear hSw; go_simp; try with_reducible rfl)
                    (try simp only [Act.put, zn1, zn2, zn3])
                    refine tY (i := 16) (v := ?_) rfl ?_ hHeld ?_; rotate_left 1; focus (intro w' hSw; clear hSw; go_simp; try with_reducible rfl)
                    (try simp only [Act.put, zn1, zn2, zn3])
                    refine tY (i := 17) (v := ?_) rfl ?_ hHeld ?_; rotate_left 1; focus (intro w' hSw; clear hSw; go_simp; try with_reducible rfl)
                    (try simp only [Act.put, zn1, zn2, zn3])
                    refine tY (i := 18) (v := ?_) rfl ?_ hHeld ?_; rotate_left 1; focus (intro w' hSw; clear hSw; go_simp; try with_reducible rfl)
                    (try simp only [Act.put, zn1, zn2, zn3])
                    refine tY (i := 19) (v := ?_) rfl ?_ hHeld ?_; rotate_left 1; focus (intro w' hSw; have hCell := fun (b o : Nat) (h : b < W8.heap.size) => hSw.cell (p := ⟨b, o, none⟩) h; clear hSw; go_simp; try with_reducible rfl)
                    (try simp only [Act.put, zn1, zn2, zn3])
                    refine tY (i := 20) (v := ?_) rfl ?_ hHeld ?_; rotate_left 1; focus (intro w' hSw; clear hSw; go_simp; try with_reducible rfl)
                    (try simp only [Act.put, zn1, zn2, zn3])
                    refine tY (i := 22) (v := ?_) rfl ?_ hHeld ?_; rotate_left 1; focus (intro w' hSw; clear hSw; go_simp; try with_reducible rfl)
                    (try simp only [Act.put, zn1, zn2, zn3])
                    refine tY (i := 23) (v := ?_) rfl ?_ hHeld ?_; rotate_left 1; focus (intro w' hSw; have hCell := fun (b o : Nat) (h : b < W8.heap.size) => hSw.cell (p := ⟨b, o, none⟩) h; clear hSw; go_simp; try with_reducible rfl)
                    (try simp only [Act.put, zn1, zn2, zn3])
                    refine ready_one (i := 21) rfl (by kernel_rfl) (fun K hK => ?_)
                    go_simp
                    refine (Pr.settle_any t' 2 _).mono ?_
                    rintro e z1 ⟨rfl, rfl⟩
                    rw [st_setT, HS2.out]
                    refine hK.out _ _ ?_ (fun hHeld2 => ?_)
                    · (try dsimp only); first | exact Below.trans hHeld (Below.mono hb hHeld.size) | exact hHeld | exact Below.drew hHeld | exact (by repeat (first | exact Below.refl _ _ | assumption | refine Below.alloc ?_ (by first | omega | (simp <;> omega)) _ | refine Below.setCell ?_ (by first | omega | (simp <;> omega)) _ | refine Below.drew ?_))
                    clear hK K hHeld; have hHeld := hHeld2; clear hHeld2; (try simp only [Act.put, zn1, zn2, zn3])
                    refine tY (i := 24) (v := ?_) rfl ?_ hHeld ?_; rotate_left 1; focus (intro w' hSw; clear hSw; go_simp; try with_reducible rfl)
                    (try simp only [Act.put, zn1, zn2, zn3])
                    refine tY (i := 25) (v := ?_) rfl ?_ hHeld ?_; rotate_left 1; focus (intro w' hSw; clear hSw; go_simp; try with_reducible rfl)
                    (try simp only [Act.put, zn1, zn2, zn3])
                    refine wpAnyH_done (by kernel_rfl) ?_ _
                    have HBz := Lib.hid (lift HBx.out hHeld)
                    clear hHeld
                    go_wp2_with fail
                    go_roundw
                    case rel => exact ⟨k + 1, by omega, by go_num, HBz⟩
                    case measure => simp [intOf]; omega
            · have HS2 := Lib.hid (show setT t' 1 = t' by have h := HSt.out; unfold nowS at h; rw [hup] at h; exact h)
              clear hup HSt
              by_cases t1 : t' = 1
              · subst t1
                have hr := HLd.out (.inl rfl)
                subst hr
                try go_wp2_with fail
                refine wp_region_held_drew (S := fun w' => Below W8.heap.size W8 w') (by kernel_rfl) (Below.drew (Below.refl _ _)) (fun hHeld => ?_)
                refine tY (i := 0) (v := ?_) rfl ?_ hHeld ?_; rotate_left 1; focus (intro w' hSw; clear hSw; go_simp; try with_reducible rfl)
                (try simp only [Act.put, zn1, zn2, zn3])
                refine tY (i := 1) (v := ?_) rfl ?_ hHeld ?_; rotate_left 1; focus (intro w' hSw; clear hSw; go_simp; try with_reducible rfl)
                (try simp only [Act.put, zn1, zn2, zn3])
                refine tY (i := 2) (v := ?_) rfl ?_ hHeld ?_; rotate_left 1; focus (intro w' hSw; clear hSw; go_simp; try with_reducible rfl)
                (try simp only [Act.put, zn1, zn2, zn3])
                refine tY (i := 3) (v := ?_) rfl ?_ hHeld ?_; rotate_left 1; focus (intro w' hSw; clear hSw; go_simp; try with_reducible rfl)
                (try simp only [Act.put, zn1, zn2, zn3])
                refine tY (i := 4) (v := ?_) rfl ?_ hHeld ?_; rotate_left 1; focus (intro w' hSw; have hCell := fun (b o : Nat) (h : b < W8.heap.size) => hSw.cell (p := ⟨b, o, none⟩) h; clear hSw; go_simp; try with_reducible rfl)
                (try simp only [Act.put, zn1, zn2, zn3])
                refine tY (i := 5) (v := ?_) rfl ?_ hHeld ?_; rotate_left 1; focus (intro w' hSw; clear hSw; go_simp; try with_reducible rfl)
                (try simp only [Act.put, zn1, zn2, zn3])
                refine tY (i := 6) (v := ?_) rfl ?_ hHeld ?_; rotate_left 1; focus (intro w' hSw; clear hSw; go_simp; try with_reducible rfl)
                (try simp only [Act.put, zn1, zn2, zn3])
                refine tS (i := 7) rfl hHeld ?_; (try simp only [Act.put, zn1, zn2, zn3])
                refine tS (i := 8) rfl hHeld ?_; (try simp only [Act.put, zn1, zn2, zn3])
                refine tS (i := 9) rfl hHeld ?_; (try simp only [Act.put, zn1, zn2, zn3])
                refine tY (i := 10) (v := ?_) rfl ?_ hHeld ?_; rotate_left 1; focus (intro w' hSw; clear hSw; go_simp; try with_reducible rfl)
                (try simp only [Act.put, zn1, zn2, zn3])
                refine tY (i := 11) (v := ?_) rfl ?_ hHeld ?_; rotate_left 1; focus (intro w' hSw; clear hSw; go_simp; try with_reducible rfl)
                (try simp only [Act.put, zn1, zn2, zn3])
                refine tY (i := 12) (v := ?_) rfl ?_ hHeld ?_; rotate_left 1; focus (intro w' hSw; clear hSw; go_simp; try with_reducible rfl)
                (try simp only [Act.put, zn1, zn2, zn3])
                refine tY (i := 13) (v := ?_) rfl ?_ hHeld ?_; rotate_left 1; focus (intro w' hSw; have hCell := fun (b o : Nat) (h : b < W8.heap.size) => hSw.cell (p := ⟨b, o, none⟩) h; clear hSw; go_simp; try with_reducible rfl)
                (try simp only [Act.put, zn1, zn2, zn3])
                refine tY (i := 14) (v := ?_) rfl ?_ hHeld ?_; rotate_left 1; focus (intro w' hSw; clear hSw; go_simp; try with_reducible rfl)
                (try simp only [Act.put, zn1, zn2, zn3])
                refine tY (i := 15) (v := ?_) rfl ?_ hHeld ?_; rotate_left 1; focus (intro w' hSw; clear hSw; go_simp; try with_reducible rfl)
                (try simp only [Act.put, zn1, zn2, zn3])
                refine tY (i := 16) (v := ?_) rfl ?_ hHeld ?_; rotate_left 1; focus (intro w' hSw; clear hSw; go_simp; try with_reducible rfl)
                (try simp only [Act.put, zn1, zn2, zn3])
                refine tY (i := 17) (v := ?_) rfl ?_ hHeld ?_; rotate_left 1; focus (intro w' hSw; clear hSw; go_simp; try with_reducible rfl)
                (try simp only [Act.put, zn1, zn2, zn3])
                refine tY (i := 18) (v := ?_) rfl ?_ hHeld ?_; rotate_left 1; focus (intro w' hSw; clear hSw; go_simp; try with_reducible rfl)
                (try simp only [Act.put, zn1, zn2, zn3])
                refine tY (i := 19) (v := ?_) rfl ?_ hHeld ?_; rotate_left 1; focus (intro w' hSw; have hCell := fun (b o : Nat) (h : b < W8.heap.size) => hSw.cell (p := ⟨b, o, none⟩) h; clear hSw; go_simp; try with_reducible rfl)
                (try simp only [Act.put, zn1, zn2, zn3])
                refine tY (i := 20) (v := ?_) rfl ?_ hHeld ?_; rotate_left 1; focus (intro w' hSw; clear hSw; go_simp; try with_reducible rfl)
                (try simp only [Act.put, zn1, zn2, zn3])
                refine tY (i := 22) (v := ?_) rfl ?_ hHeld ?_; rotate_left 1; focus (intro w' hSw; clear hSw; go_simp; try with_reducible rfl)
                (try simp only [Act.put, zn1, zn2, zn3])
                refine tY (i := 23) (v := ?_) rfl ?_ hHeld ?_; rotate_left 1; focus (intro w' hSw; have hCell := fun (b o : Nat) (h : b < W8.heap.size) => hSw.cell (p := ⟨b, o, none⟩) h; clear hSw; go_simp; try with_reducible rfl)
                (try simp only [Act.put, zn1, zn2, zn3])
                refine ready_one (i := 21) rfl (by kernel_rfl) (fun K hK => ?_)
                go_simp
                refine (Pr.settle_any 1 1 _).mono ?_
                rintro e z1 ⟨rfl, rfl⟩
                rw [st_setT, HS2.out]
                refine hK.out _ _ ?_ (fun hHeld2 => ?_)
                · (try dsimp only); first | exact Below.trans hHeld (Below.mono hb hHeld.size) | exact hHeld | exact Below.drew hHeld | exact (by repeat (first | exact Below.refl _ _ | assumption | refine Below.alloc ?_ (by first | omega | (simp <;> omega)) _ | refine Below.setCell ?_ (by first | omega | (simp <;> omega)) _ | refine Below.drew ?_))
                clear hK K hHeld; have hHeld := hHeld2; clear hHeld2; (try simp only [Act.put, zn1, zn2, zn3])
                refine tY (i := 24) (v := ?_) rfl ?_ hHeld ?_; rotate_left 1; focus (intro w' hSw; clear hSw; go_simp; try with_reducible rfl)
                (try simp only [Act.put, zn1, zn2, zn3])
                refine tY (i := 25) (v := ?_) rfl ?_ hHeld ?_; rotate_left 1; focus (intro w' hSw; clear hSw; go_simp; try with_reducible rfl)
                (try simp only [Act.put, zn1, zn2, zn3])
                refine wpAnyH_done (by kernel_rfl) ?_ _
                have HBz := Lib.hid (lift HBx.out hHeld)
                clear hHeld
                go_wp2_with fail
                go_roundw
                case rel => exact ⟨k + 1, by omega, by go_num, HBz⟩
                case measure => simp [intOf]; omega
              · have e1 : (t' == 1) = false := by simpa using t1
                by_cases t3 : t' = 3
                · subst t3
                  have hr := HLd.out (.inr rfl)
                  subst hr
                  try go_wp2_with fail
                  refine wp_region_held_drew (S := fun w' => Below W8.heap.size W8 w') (by kernel_rfl) (Below.drew (Below.refl _ _)) (fun hHeld => ?_)
                  refine tY (i := 0) (v := ?_) rfl ?_ hHeld ?_; rotate_left 1; focus (intro w' hSw; clear hSw; go_simp; try with_reducible rfl)
                  (try simp only [Act.put, zn1, zn2, zn3])
                  refine tY (i := 1) (v := ?_) rfl ?_ hHeld ?_; rotate_left 1; focus (intro w' hSw; clear hSw; go_simp; try with_reducible rfl)
                  (try simp only [Act.put, zn1, zn2, zn3])
                  refine tY (i := 2) (v := ?_) rfl ?_ hHeld ?_; rotate_left 1; focus (intro w' hSw; clear hSw; go_simp; try with_reducible rfl)
                  (try simp only [Act.put, zn1, zn2, zn3])
                  refine tY (i := 3) (v := ?_) rfl ?_ hHeld ?_; rotate_left 1; focus (intro w' hSw; clear hSw; go_simp; try with_reducible rfl)
                  (try simp only [Act.put, zn1, zn2, zn3])
                  refine tY (i := 4) (v := ?_) rfl ?_ hHeld ?_; rotate_left 1; focus (intro w' hSw; have hCell := fun (b o : Nat) (h : b < W8.heap.size) => hSw.cell (p := ⟨b, o, none⟩) h; clear hSw; go_simp; try with_reducible rfl)
                  (try simp only [Act.put, zn1, zn2, zn3])
                  refine tY (i := 5) (v := ?_) rfl ?_ hHeld ?_; rotate_left 1; focus (intro w' hSw; clear hSw; go_simp; try with_reducible rfl)
                  (try simp only [Act.put, zn1, zn2, zn3])
                  refine tY (i := 6) (v := ?_) rfl ?_ hHeld ?_; rotate_left 1; focus (intro w' hSw; clear hSw; go_simp; try with_reducible rfl)
                  (try simp only [Act.put, zn1, zn2, zn3])
                  refine tY (i := 7) (v := ?_) rfl ?_ hHeld ?_; rotate_left 1; focus (intro w' hSw; clear hSw; go_simp; try with_reducible rfl)
                  (try simp only [Act.put, zn1, zn2, zn3])
                  refine tY (i := 8) (v := ?_) rfl ?_ hHeld ?_; rotate_left 1; focus (intro w' hSw; have hCell := fun (b o : Nat) (h : b < W8.heap.size) => hSw.cell (p := ⟨b, o, none⟩) h; clear hSw; go_simp; try with_reducible rfl)
                  (try simp only [Act.put, zn1, zn2, zn3])
                  refine tY (i := 9) (v := ?_) rfl ?_ hHeld ?_; rotate_left 1; focus (intro w' hSw; clear hSw; go_simp; try with_reducible rfl)
                  (try simp only [Act.put, zn1, zn2, zn3])
                  refine tY (i := 10) (v := ?_) rfl ?_ hHeld ?_; rotate_left 1; focus (intro w' hSw; clear hSw; go_simp; try with_reducible rfl)
                  (try simp only [Act.put, zn1, zn2, zn3])
                  refine tY (i := 11) (v := ?_) rfl ?_ hHeld ?_; rotate_left 1; focus (intro w' hSw; clear hSw; go_simp; try with_reducible rfl)
                  (try simp only [Act.put, zn1, zn2, zn3])
                  refine tY (i := 12) (v := ?_) rfl ?_ hHeld ?_; rotate_left 1; focus (intro w' hSw; clear hSw; go_simp; try with_reducible rfl)
                  (try simp only [Act.put, zn1, zn2, zn3])
                  refine tY (i := 13) (v := ?_) rfl ?_ hHeld ?_; rotate_left 1; focus (intro w' hSw; have hCell := fun (b o : Nat) (h : b < W8.heap.size) => hSw.cell (p := ⟨b, o, none⟩) h; clear hSw; go_simp; try with_reducible rfl)
                  (try simp only [Act.put, zn1, zn2, zn3])
                  refine tY (i := 14) (v := ?_) rfl ?_ hHeld ?_; rotate_left 1; focus (intro w' hSw; clear hSw; go_simp; try with_reducible rfl)
                  (try simp only [Act.put, zn1, zn2, zn3])
                  refine tY (i := 15) (v := ?_) rfl ?_ hHeld ?_; rotate_left 1; focus (intro w' hSw; clear hSw; go_simp; try with_reducible rfl)
                  (try simp only [Act.put, zn1, zn2, zn3])
                  refine tY (i := 16) (v := ?_) rfl ?_ hHeld ?_; rotate_left 1; focus (intro w' hSw; clear hSw; go_simp; try with_reducible rfl)
                  (try simp only [Act.put, zn1, zn2, zn3])
                  refine tY (i := 17) (v := ?_) rfl ?_ hHeld ?_; rotate_left 1; focus (intro w' hSw; clear hSw; go_simp; try with_reducible rfl)
                  (try simp only [Act.put, zn1, zn2, zn3])
                  refine tY (i := 18) (v := ?_) rfl ?_ hHeld ?_; rotate_left 1; focus (intro w' hSw; clear hSw; go_simp; try with_reducible rfl)
                  (try simp only [Act.put, zn1, zn2, zn3])
                  refine tY (i := 19) (v := ?_) rfl ?_ hHeld ?_; rotate_left 1; focus (intro w' hSw; have hCell := fun (b o : Nat) (h : b < W8.heap.size) => hSw.cell (p := ⟨b, o, none⟩) h; clear hSw; go_simp; try with_reducible rfl)
                  (try simp only [Act.put, zn1, zn2, zn3])
                  refine tY (i := 20) (v := ?_) rfl ?_ hHeld ?_; rotate_left 1; focus (intro w' hSw; clear hSw; go_simp; try with_reducible rfl)
                  (try simp only [Act.put, zn1, zn2, zn3])
                  refine tY (i := 22) (v := ?_) rfl ?_ hHeld ?_; rotate_left 1; focus (intro w' hSw; clear hSw; go_simp; try with_reducible rfl)
                  (try simp only [Act.put, zn1, zn2, zn3])
                  refine tY (i := 23) (v := ?_) rfl ?_ hHeld ?_; rotate_left 1; focus (intro w' hSw; have hCell := fun (b o : Nat) (h : b < W8.heap.size) => hSw.cell (p := ⟨b, o, none⟩) h; clear hSw; go_simp; try with_reducible rfl)
                  (try simp only [Act.put, zn1, zn2, zn3])
                  refine ready_one (i := 21) rfl (by kernel_rfl) (fun K hK => ?_)
                  go_simp
                  refine (Pr.settle_any 3 1 _).mono ?_
                  rintro e z1 ⟨rfl, rfl⟩
                  rw [st_setT, HS2.out]
                  refine hK.out _ _ ?_ (fun hHeld2 => ?_)
                  · (try dsimp only); first | exact Below.trans hHeld (Below.mono hb hHeld.size) | exact hHeld | exact Below.drew hHeld | exact (by repeat (first | exact Below.refl _ _ | assumption | refine Below.alloc ?_ (by first | omega | (simp <;> omega)) _ | refine Below.setCell ?_ (by first | omega | (simp <;> omega)) _ | refine Below.drew ?_))
                  clear hK K hHeld; have hHeld := hHeld2; clear hHeld2; (try simp only [Act.put, zn1, zn2, zn3])
                  refine tY (i := 24) (v := ?_) rfl ?_ hHeld ?_; rotate_left 1; focus (intro w' hSw; clear hSw; go_simp; try with_reducible rfl)
                  (try simp only [Act.put, zn1, zn2, zn3])
                  refine tY (i := 25) (v := ?_) rfl ?_ hHeld ?_; rotate_left 1; focus (intro w' hSw; clear hSw; go_simp; try with_reducible rfl)
                  (try simp only [Act.put, zn1, zn2, zn3])
                  refine wpAnyH_done (by kernel_rfl) ?_ _
                  have HBz := Lib.hid (lift HBx.out hHeld)
                  clear hHeld
                  go_wp2_with fail
                  go_roundw
                  case rel => exact ⟨k + 1, by omega, by go_num, HBz⟩
                  case measure => simp [intOf]; omega
                · have e3 : (t' == 3) = false := by simpa using t3
                  clear t1 t3 HLd
                  try go_wp2_with fail
                  refine wp_region_held_drew (S := fun w' => Below W8.heap.size W8 w') (by kernel_rfl) (Below.drew (Below.refl _ _)) (fun hHeld => ?_)
                  refine tY (i := 0) (v := ?_) rfl ?_ hHeld ?_; rotate_left 1; focus (intro w' hSw; clear hSw; go_simp; try with_reducible rfl)
                  (try simp only [Act.put, zn1, zn2, zn3])
                  refine tY (i := 1) (v := ?_) rfl ?_ hHeld ?_; rotate_left 1; focus (intro w' hSw; clear hSw; go_simp; try with_reducible rfl)
                  (try simp only [Act.put, zn1, zn2, zn3])
                  refine tY (i := 2) (v := ?_) rfl ?_ hHeld ?_; rotate_left 1; focus (intro w' hSw; clear hSw; go_simp; try with_reducible rfl)
                  (try simp only [Act.put, zn1, zn2, zn3])
                  refine tY (i := 3) (v := ?_) rfl ?_ hHeld ?_; rotate_left 1; focus (intro w' hSw; clear hSw; go_simp; try with_reducible rfl)
                  (try simp only [Act.put, zn1, zn2, zn3])
                  refine tY (i := 4) (v := ?_) rfl ?_ hHeld ?_; rotate_left 1; focus (intro w' hSw; have hCell := fun (b o : Nat) (h : b < W8.heap.size) => hSw.cell (p := ⟨b, o, none⟩) h; clear hSw; go_simp; try with_reducible rfl)
                  (try simp only [Act.put, zn1, zn2, zn3])
                  refine tY (i := 5) (v := ?_) rfl ?_ hHeld ?_; rotate_left 1; focus (intro w' hSw; clear hSw; go_simp; try with_reducible rfl)
                  (try simp only [Act.put, zn1, zn2, zn3])
                  refine tY (i := 6) (v := ?_) rfl ?_ hHeld ?_; rotate_left 1; focus (intro w' hSw; clear hSw; go_simp; try with_reducible rfl)
                  (try simp only [Act.put, zn1, zn2, zn3])
                  refine tY (i := 7) (v := ?_) rfl ?_ hHeld ?_; rotate_left 1; focus (intro w' hSw; clear hSw; go_simp; try with_reducible rfl)
                  (try simp only [Act.put, zn1, zn2, zn3])
                  refine tY (i := 8) (v := ?_) rfl ?_ hHeld ?_; rotate_left 1; focus (intro w' hSw; have hCell := fun (b o : Nat) (h : b < W8.heap.size) => hSw.cell (p := ⟨b, o, none⟩) h; clear hSw; go_simp; try with_reducible rfl)
                  (try simp only [Act.put, zn1, zn2, zn3])
                  refine tY (i := 9) (v := ?_) rfl ?_ hHeld ?_; rotate_left 1; focus (intro w' hSw; clear hSw; go_simp; try with_reducible rfl)
                  (try simp only [Act.put, zn1, zn2, zn3])
                  refine tY (i := 10) (v := ?_) rfl ?_ hHeld ?_; rotate_left 1; focus (intro w' hSw; clear hSw; go_simp; try with_reducible rfl)
                  (try simp only [Act.put, zn1, zn2, zn3])
                  refine tY (i := 11) (v := ?_) rfl ?_ hHeld ?_; rotate_left 1; focus (intro w' hSw; clear hSw; go_simp; try with_reducible rfl)
                  (try simp only [Act.put, zn1, zn2, zn3])
                  refine tS (i := 12) rfl hHeld ?_; (try simp only [Act.put, zn1, zn2, zn3])
                  refine tS (i := 13) rfl hHeld ?_; (try simp only [Act.put, zn1, zn2, zn3])
                  refine tS (i := 14) rfl hHeld ?_; (try simp only [Act.put, zn1, zn2, zn3])
                  refine tY (i := 15) (v := ?_) rfl ?_ hHeld ?_; rotate_left 1; focus (intro w' hSw; clear hSw; go_simp; try with_reducible rfl)
                  (try simp only [Act.put, zn1, zn2, zn3])
                  refine tY (i := 16) (v := ?_) rfl ?_ hHeld ?_; rotate_left 1; focus (intro w' hSw; clear hSw; go_simp; try with_reducible rfl)
                  (try simp only [Act.put, zn1, zn2, zn3])
                  refine tY (i := 17) (v := ?_) rfl ?_ hHeld ?_; rotate_left 1; focus (intro w' hSw; clear hSw; go_simp; try with_reducible rfl)
                  (try simp only [Act.put, zn1, zn2, zn3])
                  refine tY (i := 18) (v := ?_) rfl ?_ hHeld ?_; rotate_left 1; focus (intro w' hSw; clear hSw; go_simp; try with_reducible rfl)
                  (try simp only [Act.put, zn1, zn2, zn3])
                  refine tY (i := 19) (v := ?_) rfl ?_ hHeld ?_; rotate_left 1; focus (intro w' hSw; have hCell := fun (b o : Nat) (h : b < W8.heap.size) => hSw.cell (p := ⟨b, o, none⟩) h; clear hSw; go_simp; try with_reducible rfl)
                  (try simp only [Act.put, zn1, zn2, zn3])
                  refine tY (i := 20) (v := ?_) rfl ?_ hHeld ?_; rotate_left 1; focus (intro w' hSw; clear hSw; go_simp; try with_reducible rfl)
                  (try simp only [Act.put, zn1, zn2, zn3])
                  refine tY (i := 22) (v := ?_) rfl ?_ hHeld ?_; rotate_left 1; focus (intro w' hSw; clear hSw; go_simp; try with_reducible rfl)
                  (try simp only [Act.put, zn1, zn2, zn3])
                  refine tY (i := 23) (v := ?_) rfl ?_ hHeld ?_; rotate_left 1; focus (intro w' hSw; have hCell := fun (b o : Nat) (h : b < W8.heap.size) => hSw.cell (p := ⟨b, o, none⟩) h; clear hSw; go_simp; try with_reducible rfl)
                  (try simp only [Act.put, zn1, zn2, zn3])
                  refine ready_one (i := 21) rfl (by kernel_rfl) (fun K hK => ?_)
                  go_simp
                  refine (Pr.settle_any t' 1 _).mono ?_
                  rintro e z1 ⟨rfl, rfl⟩
                  rw [st_setT, HS2.out]
                  refine hK.out _ _ ?_ (fun hHeld2 => ?_)
                  · (try dsimp only); first | exact Below.trans hHeld (Below.mono hb hHeld.size) | exact hHeld | exact Below.drew hHeld | exact (by repeat (first | exact Below.refl _ _ | assumption | refine Below.alloc ?_ (by first | omega | (simp <;> omega)) _ | refine Below.setCell ?_ (by first | omega | (simp <;> omega)) _ | refine Below.drew ?_))
                  clear hK K hHeld; have hHeld := hHeld2; clear hHeld2; (try simp only [Act.put, zn1, zn2, zn3])
                  refine tY (i := 24) (v := ?_) rfl ?_ hHeld ?_; rotate_left 1; focus (intro w' hSw; clear hSw; go_simp; try with_reducible rfl)
                  (try simp only [Act.put, zn1, zn2, zn3])
                  refine tY (i := 25) (v := ?_) rfl ?_ hHeld ?_; rotate_left 1; focus (intro w' hSw; clear hSw; go_simp; try with_reducible rfl)
                  (try simp only [Act.put, zn1, zn2, zn3])
                  refine wpAnyH_done (by kernel_rfl) ?_ _
                  have HBz := Lib.hid (lift HBx.out hHeld)
                  clear hHeld
                  go_wp2_with fail
                  go_roundw
                  case rel => exact ⟨k + 1, by omega, by go_num, HBz⟩
                  case measure => simp [intOf]; omega
        · obtain rfl : k = J.length := by omega
          go_wp2_with fail
          refine (HGone.out wr HG.out HN.out).mono ?_
          rintro e w5 ⟨A5, c5, rfl, ho5, hb⟩
          have HR := Lib.hid (own_rd' ho5)
          replace c0 := cellAt c0 hb (by omega)
          replace c1 := cellAt c1 hb (by omega)
          replace c2 := cellAt c2 hb (by omega)
          replace c3 := cellAt c3 hb (by omega)
          replace HG := Lib.hid (HG.out.at hb)
          replace HN := Lib.hid (HN.out.at hb)
          replace n1 : w.heap.size < w5.heap.size := ltAt n1 hb
          replace n2 : (w.heap.size + 1) < w5.heap.size := ltAt n2 hb
          replace HB := Lib.hid (lift HB.out hb)
          replace HJ := Lib.hid (HJ.out.at hb)
          replace HBx := Lib.hid (lift HBx.out hb)
          clear hb ho5
          generalize T.gone = gn at *
          go_wp2_with fail
          go_loopw [116] (fun i wr => ∃ k : Nat, k ≤ gn.length ∧ i = .int .i64 k ∧ Hid (Below w5.heap.size w5 wr)) (fun i _ => gn.length - (intOf i).toNat)
          case atStart => exact ⟨0, Nat.zero_le _, rfl, Below.refl _ _⟩
          case round =>
            obtain ⟨k, hk, rfl, HBy⟩ := hrel
            have hz := HBy.out.size
            by_cases hlt : k < gn.length
            · obtain ⟨b2, o2, hA, hB2, x0, x1, x2, x3⟩ := (HR.out.at HBy.out).pl hlt
              subst hA
              have hw := HWent.out _ (List.getElem_mem hlt)
              generalize gn[k] = p at x0 x1 x2 x3 hw
              obtain ⟨s, t', n, b⟩ := p
              simp only at x0 x1 x2 x3 hw
              obtain ⟨hn, hb⟩ := hw
              subst hn
              have i1 : (0 : Int) ≤ (k : Int) := by omega
              have i2 : (k : Int) < (gn.length : Int) := by omega
              cases b with
              | nil => exact absurd rfl hb
              | cons b0 br =>
                clear hb
                go_wp2_with fail
                go_roundw
                case rel => exact ⟨k + 1, by omega, by go_num, HBy.out.alloc hz _⟩
                case measure => simp [intOf]; omega
            · obtain rfl : k = gn.length := by omega
              have HB9 := Lib.hid (lift HB.out HBy.out)
              go_wp2_with fail
              go_ret
              exact ⟨rfl, HB9.out⟩
    · have HNo := Lib.hid (made_none he).1
      have hne : ((madeT ns es up half (u, t)).err != 0) = true := by simp [bne, he]
      clear he
      generalize (madeT ns es up half (u, t)).err = te at *
      have h0 : (jobsT up half (madeT ns es up half (u, t)).l).length = 0 := by rw [HNo.out]; rfl
      generalize (jobsT up half (madeT ns es up half (u, t)).l).length = jl at *
      subst h0
      go_wp2_with fail
      go_ret
      exact ⟨rfl, HB.out⟩
end Od
end Go.Proofs.YtbllehjhmfehbaaGreat
end
