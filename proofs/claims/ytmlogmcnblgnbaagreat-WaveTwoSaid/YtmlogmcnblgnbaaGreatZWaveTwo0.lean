/- My texts, joined for the claim: LvC. -/
import Derived.Test.YtmlogmcnblgnbaaGreatZB0
import Derived.Test.YtmlogmcnblgnbaaGreatZB15

section
/- The walk of the law WaveTwo. (bel2) -/
namespace Go.Proofs.YtmlogmcnblgnbaaGreat
open Go.RowKit Go.Sort
set_option linter.unusedSimpArgs false

namespace Od

theorem trR_open {ns : List Nd} {es : List Ed} {fails : List Str} {picks : List Int} {q : List Jb} (hs : soundQ ns es q = true) : (trR es fails picks q).length = openN q := by
  unfold trR; rw [if_pos (sound_ends hs).1]; exact trace_len hs
theorem trR_count {ns : List Nd} {es : List Ed} {fails : List Str} {a b : List Int} {q : List Jb} (hs : soundQ ns es q = true) : ∀ d ∈ trR es fails a q, (trR es fails b q).countP (fun e => dnEq d e) = 1 := by
  unfold trR; rw [if_pos (sound_ends hs).1, if_pos (sound_ends hs).1]; exact fun d hd => trace_count hs hd
theorem count_succ {α : Type} {p : α → Bool} {l : List α} {k : Nat} (h : k < l.length) : (l.take (k + 1)).countP p = (l.take k).countP p + (if p l[k] = true then 1 else 0) := by
  rw [List.take_succ_eq_append_getElem h, List.countP_append, List.countP_singleton]
theorem count_le (l : List Nd) (p : Nd → Bool) (k : Nat) : (l.take k).countP p ≤ l.length := Nat.le_trans List.countP_le_length (by rw [List.length_take]; omega)
set_option maxRecDepth 100000 in
set_option maxHeartbeats 16000000 in
theorem waveTwo_any (An Ae : Option Addr) (cn ce : Nat) (ns : List Nd) (es : List Ed) (A : Option Addr) (c : Nat) (q : List Jb) (Af : Option Addr) (cf : Nat) (fails : List Str) (Aa : Option Addr) (ca : Nat) (pa : List Int) (Ab : Option Addr) (cb : Nat) (pb : List Int) (w : World) (hg : GIw w An Ae ns es) (hq : QIn w A c q) (hf : Rd w w.heap.size 1 Af fails.length (svs fails)) (hpa : Rd w w.heap.size 1 Aa pa.length (ints pa)) (hpb : Rd w w.heap.size 1 Ab pb.length (ints pb)) (hlf : fails.length ≤ 140737488351232) :
    Calls Tryz.prog 7 #[gV An ns.length cn Ae es.length ce, .slice A q.length c, .slice Af fails.length cf, .slice Aa pa.length ca, .slice Ab pb.length cb] w fun e w' => e = .returned (.bool true) ∧ Below w.heap.size w w' := by
  have HG := Lib.hid hg
  have HQ := Lib.hid hq
  have HFl := Lib.hid hf
  have HP := Lib.hid (And.intro hpa hpb)
  clear hg hq hf hpa hpb
  cases d30 : decide ((30 : Int) < (q.length : Int))
  · have h30 : ¬ (30 : Int) < (q.length : Int) := by simpa using d30
    generalize hss : IntKind.i64.wrap ((pa.length : Int) + (pb.length : Int)) = ss
    cases d500 : decide ((500 : Int) < ss)
    · go_enter Tryz.func7, Tryz.ntmps7
      go_wp2_with fail
      first | (refine wp_named ?_; intro W1 hW) | (refine calls_named ?_; intro W1 hW)
      have B1 : Below w.heap.size w W1 := by rw [hW]; exact (by repeat (first | exact Below.refl _ _ | assumption | refine Below.alloc ?_ (by first | omega | (simp <;> omega)) _ | refine Below.setCell ?_ (by first | omega | (simp <;> omega)) _ | refine Below.drew ?_))
      replace HG := Lib.hid (HG.out.at B1)
      replace HQ := Lib.hid (HQ.out.at B1)
      replace HFl := Lib.hid (HFl.out.at B1)
      replace HP := Lib.hid ((And.intro (HP.out.1.at B1) (HP.out.2.at B1)))
      have nw1 : w.heap.size < W1.heap.size := by rw [hW]; simp <;> omega
      have c0 : W1.cell? ⟨w.heap.size, 0, none⟩ = some (.slice An ns.length cn) := by rw [hW]; go_simp
      have c1 : W1.cell? ⟨w.heap.size, 1, none⟩ = some (.slice Ae es.length ce) := by rw [hW]; go_simp
      clear hW
      have HB := Lib.hid B1
      clear B1
      refine (shown_any W1).mono ?_
      rintro e w2 ⟨rfl, hb⟩
      replace c0 := cellAt c0 hb (by omega)
      replace c1 := cellAt c1 hb (by omega)
      replace HG := Lib.hid (HG.out.at hb)
      replace HQ := Lib.hid (HQ.out.at hb)
      replace HFl := Lib.hid (HFl.out.at hb)
      replace HP := Lib.hid ((And.intro (HP.out.1.at hb) (HP.out.2.at hb)))
      replace nw1 : w.heap.size < w2.heap.size := ltAt nw1 hb
      replace HB := Lib.hid (lift HB.out hb)
      clear hb
      go_wp2_with fail
      refine (small_any An Ae cn ce ns es w2).mono ?_
      rintro e w3 ⟨rfl, hb⟩
      replace c0 := cellAt c0 hb (by omega)
      replace c1 := cellAt c1 hb (by omega)
      replace HG := Lib.hid (HG.out.at hb)
      replace HQ := Lib.hid (HQ.out.at hb)
      replace HFl := Lib.hid (HFl.out.at hb)
      replace HP := Lib.hid ((And.intro (HP.out.1.at hb) (HP.out.2.at hb)))
      replace nw1 : w.heap.size < w3.heap.size := ltAt nw1 hb
      replace HB := Lib.hid (lift HB.out hb)
      clear hb
      cases hsm : smallB ns es
      · go_wp2_with fail
        go_ret
        exact ⟨rfl, HB.out⟩
      · have hs2 := smallB_iff.1 hsm
        have hl1 := hs2.1
        have hl2 := hs2.2
        clear hs2
        go_wp2_with fail
        refine (SoundQ_any An Ae cn ce ns es A c q w3 (HG.out.q (by omega) (by omega)) HQ.out (by omega)).mono ?_
        rintro e w4 ⟨rfl, hb⟩
        replace c0 := cellAt c0 hb (by omega)
        replace c1 := cellAt c1 hb (by omega)
        replace HG := Lib.hid (HG.out.at hb)
        replace HQ := Lib.hid (HQ.out.at hb)
        replace HFl := Lib.hid (HFl.out.at hb)
        replace HP := Lib.hid ((And.intro (HP.out.1.at hb) (HP.out.2.at hb)))
        replace nw1 : w.heap.size < w4.heap.size := ltAt nw1 hb
        replace HB := Lib.hid (lift HB.out hb)
        clear hb
        cases hsd : soundQ ns es q
        · go_wp2_with fail
          go_ret
          exact ⟨rfl, HB.out⟩
        · have hxl := runR_len es fails pa q
          have hta := trR_len es fails pa q
          have htb := trR_len es fails pb q
          have hra := run_is_fact (fails := fails) (picks := pa) hsd
          have hrb := run_is_fact (fails := fails) (picks := pb) hsd
          have HLa := trR_open (fails := fails) (picks := pa) hsd
          have HLb := trR_open (fails := fails) (picks := pb) hsd
          have hcnt := trR_count (fails := fails) (a := pa) (b := pb) hsd
          rw [← hra] at hrb
          generalize hx : runR es fails pa q = z at *
          generalize hx1 : trR es fails pa q = x at *
          generalize hy1 : trR es fails pb q = y at *
          have HX := Lib.hid hx
          have HY := Lib.hid hrb
          have HX1 := Lib.hid hx1
          have HY1 := Lib.hid hy1
          have HCnt := Lib.hid hcnt
          have HLA := Lib.hid HLa
          have HLB := Lib.hid HLb
          clear hx hra hrb hx1 hy1 hcnt HLa HLb
          go_wp2_with fail
          try go_wp2_with fail
          refine wp_region_held_drew (S := fun w' => Below w4.heap.size w4 w') (by kernel_rfl) (Below.drew (Below.refl _ _)) (fun hHeld => ?_)
          refine tY (i := 0) (v := ?_) rfl ?_ hHeld ?_; rotate_left 1; focus (intro w' hSw; have hCell := fun (b o : Nat) (h : b < w4.heap.size) => hSw.cell (p := ⟨b, o, none⟩) h; clear hSw; go_simp; try with_reducible rfl)
          (try simp only [Act.put, zn1, zn2, zn3])
          refine tY (i := 1) (v := ?_) rfl ?_ hHeld ?_; rotate_left 1; focus (intro w' hSw; clear hSw; go_simp; try with_reducible rfl)
          (try simp only [Act.put, zn1, zn2, zn3])
          refine tY (i := 2) (v := ?_) rfl ?_ hHeld ?_; rotate_left 1; focus (intro w' hSw; clear hSw; go_simp; try with_reducible rfl)
          (try simp only [Act.put, zn1, zn2, zn3])
          refine tY (i := 3) (v := ?_) rfl ?_ hHeld ?_; rotate_left 1; focus (intro w' hSw; clear hSw; go_simp; try with_reducible rfl)
          (try simp only [Act.put, zn1, zn2, zn3])
          refine tY (i := 5) (v := ?_) rfl ?_ hHeld ?_; rotate_left 1; focus (intro w' hSw; have hCell := fun (b o : Nat) (h : b < w4.heap.size) => hSw.cell (p := ⟨b, o, none⟩) h; clear hSw; go_simp; try with_reducible rfl)
          (try simp only [Act.put, zn1, zn2, zn3])
          refine tY (i := 6) (v := ?_) rfl ?_ hHeld ?_; rotate_left 1; focus (intro w' hSw; clear hSw; go_simp; try with_reducible rfl)
          (try simp only [Act.put, zn1, zn2, zn3])
          refine tY (i := 7) (v := ?_) rfl ?_ hHeld ?_; rotate_left 1; focus (intro w' hSw; clear hSw; go_simp; try with_reducible rfl)
          (try simp only [Act.put, zn1, zn2, zn3])
          refine tY (i := 8) (v := ?_) rfl ?_ hHeld ?_; rotate_left 1; focus (intro w' hSw; clear hSw; go_simp; try with_reducible rfl)
          (try simp only [Act.put, zn1, zn2, zn3])
          refine ready_one (i := 4) rfl (by kernel_rfl) (fun K hK => ?_)
          go_simp
          refine (RunW_any An Ae ns.length cn ce es A c q Af cf fails Aa ca pa _ (HG.out.at hHeld).re (HQ.out.at hHeld) (HFl.out.at hHeld) (HP.out.1.at hHeld) (by omega) (by omega) (by omega)).mono ?_
          rw [HX.out]
          rintro e x1 ⟨A5, c5, rfl, hc5, ho5, hb⟩
          have HR5 := Lib.hid ho5
          clear ho5
          refine hK.out _ _ ?_ (fun hHeld2 => ?_)
          · (try dsimp only); first | exact Below.trans hHeld (Below.mono hb hHeld.size) | exact hHeld | exact Below.drew hHeld | exact (by repeat (first | exact Below.refl _ _ | assumption | refine Below.alloc ?_ (by first | omega | (simp <;> omega)) _ | refine Below.setCell ?_ (by first | omega | (simp <;> omega)) _ | refine Below.drew ?_))
          clear hK K hHeld; have hHeld := hHeld2; clear hHeld2; (try simp only [Act.put, zn1, zn2, zn3])
          refine ready_one (i := 9) rfl (by kernel_rfl) (fun K hK => ?_)
          go_simp
          refine (RunW_any An Ae ns.length cn ce es A c q Af cf fails Ab cb pb _ (HG.out.at hHeld).re (HQ.out.at hHeld) (HFl.out.at hHeld) (HP.out.2.at hHeld) (by omega) (by omega) (by omega)).mono ?_
          rw [HY.out]
          rintro e x2 ⟨A6, c6, rfl, hc6, ho6, hb⟩
          have HR6 := Lib.hid ho6
          have HR5b := Lib.hid (HR5.out.at hb)
          clear ho6
          refine hK.out _ _ ?_ (fun hHeld2 => ?_)
          · (try dsimp only); first | exact Below.trans hHeld (Below.mono hb hHeld.size) | exact hHeld | exact Below.drew hHeld | exact (by repeat (first | exact Below.refl _ _ | assumption | refine Below.alloc ?_ (by first | omega | (simp <;> omega)) _ | refine Below.setCell ?_ (by first | omega | (simp <;> omega)) _ | refine Below.drew ?_))
          clear hK K hHeld; have hHeld := hHeld2; clear hHeld2; (try simp only [Act.put, zn1, zn2, zn3])
          refine ready_one (i := 10) rfl (by kernel_rfl) (fun K hK => ?_)
          go_simp
          refine (SameJobs_any A5 A6 c5 c6 z z _ HR5b.out HR6.out (by omega)).mono ?_
          rw [decide_eq_true rfl]
          rintro e x3 ⟨rfl, hb⟩
          refine hK.out _ _ ?_ (fun hHeld2 => ?_)
          · (try dsimp only); first | exact Below.trans hHeld (Below.mono hb hHeld.size) | exact hHeld | exact Below.drew hHeld | exact (by repeat (first | exact Below.refl _ _ | assumption | refine Below.alloc ?_ (by first | omega | (simp <;> omega)) _ | refine Below.setCell ?_ (by first | omega | (simp <;> omega)) _ | refine Below.drew ?_))
          clear hK K hHeld; have hHeld := hHeld2; clear hHeld2; (try simp only [Act.put, zn1, zn2, zn3])
          refine tY (i := 11) (v := ?_) rfl ?_ hHeld ?_; rotate_left 1; focus (intro w' hSw; clear hSw; go_simp; try with_reducible rfl)
          (try simp only [Act.put, zn1, zn2, zn3])
          refine wpAnyH_done (by kernel_rfl) ?_ _
          replace c0 := cellAt c0 hHeld (by omega)
          replace c1 := cellAt c1 hHeld (by omega)
          replace HG := Lib.hid (HG.out.at hHeld)
          replace HQ := Lib.hid (HQ.out.at hHeld)
          replace HFl := Lib.hid (HFl.out.at hHeld)
          replace HP := Lib.hid ((And.intro (HP.out.1.at hHeld) (HP.out.2.at hHeld)))
          replace nw1 : w.heap.size < x3.heap.size := ltAt nw1 hHeld
          replace HB := Lib.hid (lift HB.out hHeld)
          clear hHeld HR5 HR6 HR5b
          go_wp2_with fail
          try go_wp2_with fail
          refine wp_region_held_drew (S := fun w' => Below x3.heap.size x3 w') (by kernel_rfl) (Below.drew (Below.refl _ _)) (fun hHeld => ?_)
          refine tY (i := 0) (v := ?_) rfl ?_ hHeld ?_; rotate_left 1; focus (intro w' hSw; have hCell := fun (b o : Nat) (h : b < x3.heap.size) => hSw.cell (p := ⟨b, o, none⟩) h; clear hSw; go_simp; try with_reducible rfl)
          (try simp only [Act.put, zn1, zn2, zn3])
          refine tY (i := 1) (v := ?_) rfl ?_ hHeld ?_; rotate_left 1; focus (intro w' hSw; clear hSw; go_simp; try with_reducible rfl)
          (try simp only [Act.put, zn1, zn2, zn3])
          refine tY (i := 2) (v := ?_) rfl ?_ hHeld ?_; rotate_left 1; focus (intro w' hSw; clear hSw; go_simp; try with_reducible rfl)
          (try simp only [Act.put, zn1, zn2, zn3])
          refine tY (i := 3) (v := ?_) rfl ?_ hHeld ?_; rotate_left 1; focus (intro w' hSw; clear hSw; go_simp; try with_reducible rfl)
          (try simp only [Act.put, zn1, zn2, zn3])
          refine tY (i := 5) (v := ?_) rfl ?_ hHeld ?_; rotate_left 1; focus (intro w' hSw; have hCell := fun (b o : Nat) (h : b < x3.heap.size) => hSw.cell (p := ⟨b, o, none⟩) h; clear hSw; go_simp; try with_reducible rfl)
          (try simp only [Act.put, zn1, zn2, zn3])
          refine tY (i := 6) (v := ?_) rfl ?_ hHeld ?_; rotate_left 1; focus (intro w' hSw; clear hSw; go_simp; try with_reducible rfl)
          (try simp only [Act.put, zn1, zn2, zn3])
          refine tY (i := 7) (v := ?_) rfl ?_ hHeld ?_; rotate_left 1; focus (intro w' hSw; clear hSw; go_simp; try with_reducible rfl)
          (try simp only [Act.put, zn1, zn2, zn3])
          refine tY (i := 8) (v := ?_) rfl ?_ hHeld ?_; rotate_left 1; focus (intro w' hSw; clear hSw; go_simp; try with_reducible rfl)
          (try simp only [Act.put, zn1, zn2, zn3])
          refine ready_one (i := 4) rfl (by kernel_rfl) (fun K hK => ?_)
          go_simp
          refine (TraceW_any An Ae ns.length cn ce es A c q Af cf fails Aa ca pa _ (HG.out.at hHeld).re (HQ.out.at hHeld) (HFl.out.at hHeld) (HP.out.1.at hHeld) (by omega) (by omega) (by omega)).mono ?_
          rw [HX1.out]
          rintro e x5 ⟨A7, c7, rfl, hc7, ho7, hb⟩
          have HR7 := Lib.hid ho7
          clear ho7
          refine hK.out _ _ ?_ (fun hHeld2 => ?_)
          · (try dsimp only); first | exact Below.trans hHeld (Below.mono hb hHeld.size) | exact hHeld | exact Below.drew hHeld | exact (by repeat (first | exact Below.refl _ _ | assumption | refine Below.alloc ?_ (by first | omega | (simp <;> omega)) _ | refine Below.setCell ?_ (by first | omega | (simp <;> omega)) _ | refine Below.drew ?_))
          clear hK K hHeld; have hHeld := hHeld2; clear hHeld2; (try simp only [Act.put, zn1, zn2, zn3])
          refine ready_one (i := 9) rfl (by kernel_rfl) (fun K hK => ?_)
          go_simp
          refine (TraceW_any An Ae ns.length cn ce es A c q Af cf fails Ab cb pb _ (HG.out.at hHeld).re (HQ.out.at hHeld) (HFl.out.at hHeld) (HP.out.2.at hHeld) (by omega) (by omega) (by omega)).mono ?_
          rw [HY1.out]
          rintro e x6 ⟨A8, c8, rfl, hc8, ho8, hb⟩
          have HR8 := Lib.hid ho8
          have HR7b := Lib.hid (HR7.out.at hb)
          clear ho8
          refine hK.out _ _ ?_ (fun hHeld2 => ?_)
          · (try dsimp only); first | exact Below.trans hHeld (Below.mono hb hHeld.size) | exact hHeld | exact Below.drew hHeld | exact (by repeat (first | exact Below.refl _ _ | assumption | refine Below.alloc ?_ (by first | omega | (simp <;> omega)) _ | refine Below.setCell ?_ (by first | omega | (simp <;> omega)) _ | refine Below.drew ?_))
          clear hK K hHeld; have hHeld := hHeld2; clear hHeld2; (try simp only [Act.put, zn1, zn2, zn3])
          refine tY (i := 10) (v := ?_) rfl ?_ hHeld ?_; rotate_left 1; focus (intro w' hSw; clear hSw; go_simp; try with_reducible rfl)
          (try simp only [Act.put, zn1, zn2, zn3])
          refine tY (i := 11) (v := ?_) rfl ?_ hHeld ?_; rotate_left 1; focus (intro w' hSw; clear hSw; go_simp; try with_reducible rfl)
          (try simp only [Act.put, zn1, zn2, zn3])
          refine wpAnyH_done (by kernel_rfl) ?_ _
          replace c0 := cellAt c0 hHeld (by omega)
          replace c1 := cellAt c1 hHeld (by omega)
          replace HG := Lib.hid (HG.out.at hHeld)
          replace HQ := Lib.hid (HQ.out.at hHeld)
          replace HFl := Lib.hid (HFl.out.at hHeld)
          replace HP := Lib.hid ((And.intro (HP.out.1.at hHeld) (HP.out.2.at hHeld)))
          replace nw1 : w.heap.size < x6.heap.size := ltAt nw1 hHeld
          replace HB := Lib.hid (lift HB.out hHeld)
          clear hHeld HR7
          have hol := openN_le q
          go_wp2_with fail
          go_loopw [13, 69] (fun n i wr => ∃ m : Nat, m ≤ q.length ∧ i = .int .i64 m ∧ n = .int .i64 (openN (q.take m) : Nat) ∧ Below x6.heap.size x6 wr) (fun _ i _ => q.length - (intOf i).toNat)
          case atStart => exact ⟨0, Nat.zero_le _, rfl, rfl, Below.refl _ _⟩
          case round =>
            obtain ⟨m, hmq, rfl, rfl, hb⟩ := hrel
            have HBl := Lib.hid hb
            replace c0 := cellAt c0 hb (by omega)
            replace c1 := cellAt c1 hb (by omega)
            replace HG := Lib.hid (HG.out.at hb)
            replace HQ := Lib.hid (HQ.out.at hb)
            replace HFl := Lib.hid (HFl.out.at hb)
            replace HP := Lib.hid ((And.intro (HP.out.1.at hb) (HP.out.2.at hb)))
            replace nw1 : w.heap.size < wr.heap.size := ltAt nw1 hb
            replace HB := Lib.hid (lift HB.out hb)
            replace HR8 := Lib.hid (HR8.out.at hb)
            replace HR7b := Lib.hid (HR7b.out.at hb)
            clear hb
            by_cases hlt : m < q.length
            · have hsu := openN_succ hlt
              have hon := openN_le (q.take m)
              obtain ⟨b2, o2, hA, hB2, x0, x1, x2, x3⟩ := HQ.out.rq.job hlt
              subst hA
              generalize q[m] = j at x0 x1 x2 x3 hsu
              obtain ⟨s, t, r, d⟩ := j
              simp only at x0 x1 x2 x3
              have m1 : (0 : Int) ≤ (m : Int) := by omega
              have m2 : (m : Int) < (q.length : Int) := by omega
              rw [List.length_take] at hon
              generalize hN : openN (q.take m) = N at *
              generalize hN2 : openN (q.take (m + 1)) = N2 at *
              have HN2 := Lib.hid hN2
              clear hN hN2
              have hw : IntKind.i64.wrap ((N : Int) + 1) = (N : Int) + 1 := IntWalk.i64_in _ (by omega)
              by_cases r3 : r = 3
              · subst r3
                have HS := Lib.hid (show N2 = N by rw [hsu]; simp [opN])
                clear hsu
                go_wp2_with fail
                go_roundw
                case rel => exact ⟨m + 1, by omega, by go_num, by rw [HN2.out, HS.out], HBl.out.alloc (by have := HBl.out.size; omega) _⟩
                case measure => simp [intOf]; omega
              · have r3b : (r != 3) = true := by simpa using r3
                have HS := Lib.hid (show N2 = N + 1 by rw [hsu]; simp [opN, r3])
                clear hsu r3
                go_wp2_with fail
                go_roundw
                case rel => exact ⟨m + 1, by omega, by go_num, by rw [HN2.out, HS.out]; go_num, HBl.out.alloc (by have := HBl.out.size; omega) _⟩
                case measure => simp [intOf]; omega
            · obtain rfl : m = q.length := by omega
              rw [List.take_length]
              have e1 : ((x.length : Int) != (openN q : Int)) = false := by rw [HLA.out]; simp
              have e2 : ((y.length : Int) != (openN q : Int)) = false := by rw [HLB.out]; simp
              have hq := dn_eql
              obtain ⟨w10, rfl⟩ : ∃ wo : World, wo = wr := ⟨_, rfl⟩
              clear HBl
              go_wp2_with fail
              go_loopw [91] (fun i wr => ∃ m : Nat, m ≤ x.length ∧ i = .int .i64 m ∧ Below w10.heap.size w10 wr) (fun i _ => x.length - (intOf i).toNat)
              case atStart => exact ⟨0, Nat.zero_le _, rfl, Below.refl _ _⟩
              case round =>
                obtain ⟨m, hmq, rfl, hb⟩ := hrel
                have HBl := Lib.hid hb
                replace c0 := cellAt c0 hb (by omega)
                replace c1 := cellAt c1 hb (by omega)
                replace HG := Lib.hid (HG.out.at hb)
                replace HQ := Lib.hid (HQ.out.at hb)
                replace HFl := Lib.hid (HFl.out.at hb)
                replace HP := Lib.hid ((And.intro (HP.out.1.at hb) (HP.out.2.at hb)))
                replace nw1 : w.heap.size < wr.heap.size := ltAt nw1 hb
                replace HB := Lib.hid (lift HB.out hb)
                replace HR8 := Lib.hid (HR8.out.at hb)
                replace HR7b := Lib.hid (HR7b.out.at hb)
                clear hb
                by_cases hlt : m < x.length
                · have hc1 := HCnt.out _ (List.getElem_mem hlt)
                  obtain ⟨b2, o2, hA, hB2, x0, x1, x2⟩ := HR7b.out.node hlt
                  subst hA
                  generalize x[m] = j at x0 x1 x2 hc1
                  obtain ⟨s, t, d⟩ := j
                  simp only at x0 x1 x2
                  have HC1 := Lib.hid hc1
                  have m1 : (0 : Int) ≤ (m : Int) := by omega
                  have m2 : (m : Int) < (x.length : Int) := by omega
                  clear hc1
                  obtain ⟨w11, rfl⟩ : ∃ wo : World, wo = wr := ⟨_, rfl⟩
                  go_wp2_with fail
                  first | (refine wp_named ?_; intro W4 hW) | (refine calls_named ?_; intro W4 hW)
                  have B4 : Below w11.heap.size w11 W4 := by rw [hW]; exact (by repeat (first | exact Below.refl _ _ | assumption | refine Below.alloc ?_ (by first | omega | (simp <;> omega)) _ | refine Below.setCell ?_ (by first | omega | (simp <;> omega)) _ | refine Below.drew ?_))
                  replace c0 := cellAt c0 B4 (by omega)
                  replace c1 := cellAt c1 B4 (by omega)
                  replace HG := Lib.hid (HG.out.at B4)
                  replace HQ := Lib.hid (HQ.out.at B4)
                  replace HFl := Lib.hid (HFl.out.at B4)
                  replace HP := Lib.hid ((And.intro (HP.out.1.at B4) (HP.out.2.at B4)))
                  replace nw1 : w.heap.size < W4.heap.size := ltAt nw1 B4
                  replace HB := Lib.hid (lift HB.out B4)
                  replace HR8 := Lib.hid (HR8.out.at B4)
                  replace HR7b := Lib.hid (HR7b.out.at B4)
                  replace HBl := Lib.hid (lift HBl.out B4)
                  have nl4 : w11.heap.size < W4.heap.size := by rw [hW]; simp <;> omega
                  have k0 : W4.cell? ⟨w11.heap.size, 0, none⟩ = some (sv s) := by rw [hW]; go_simp
                  have k1 : W4.cell? ⟨w11.heap.size, 1, none⟩ = some (.int .i64 t) := by rw [hW]; go_simp
                  have k2 : W4.cell? ⟨w11.heap.size, 2, none⟩ = some (.int .i64 d) := by rw [hW]; go_simp
                  clear hW
                  clear B4 x0 x1 x2
                  go_wp2_with fail
                  go_loopw [18, 97] (fun n i wr => ∃ k : Nat, k ≤ y.length ∧ i = .int .i64 k ∧ n = .int .i64 ((y.take k).countP (fun e => dnEq (s, t, d) e) : Nat) ∧ Below W4.heap.size W4 wr) (fun _ i _ => y.length - (intOf i).toNat)
                  case atStart => exact ⟨0, Nat.zero_le _, rfl, rfl, Below.refl _ _⟩
                  case round =>
                    obtain ⟨k, hky, rfl, rfl, hb⟩ := hrel
                    have HBk := Lib.hid hb
                    replace c0 := cellAt c0 hb (by omega)
                    replace c1 := cellAt c1 hb (by omega)
                    replace k0 := cellAt k0 hb (by omega)
                    replace k1 := cellAt k1 hb (by omega)
                    replace k2 := cellAt k2 hb (by omega)
                    replace HG := Lib.hid (HG.out.at hb)
                    replace HQ := Lib.hid (HQ.out.at hb)
                    replace HFl := Lib.hid (HFl.out.at hb)
                    replace HP := Lib.hid ((And.intro (HP.out.1.at hb) (HP.out.2.at hb)))
                    replace nw1 : w.heap.size < wr.heap.size := ltAt nw1 hb
                    replace HB := Lib.hid (lift HB.out hb)
                    replace HR8 := Lib.hid (HR8.out.at hb)
                    replace HR7b := Lib.hid (HR7b.out.at hb)
                    replace HBl := Lib.hid (lift HBl.out hb)
                    replace nl4 : w11.heap.size < wr.heap.size := ltAt nl4 hb
                    clear hb
                    by_cases hlt2 : k < y.length
                    · have hsu := count_succ (p := fun e => dnEq (s, t, d) e) hlt2
                      have hcl := count_le y (fun e => dnEq (s, t, d) e) k
                      obtain ⟨b3, o3, hA3, hB3, y0, y1, y2⟩ := HR8.out.node hlt2
                      subst hA3
                      generalize y[k] = j at y0 y1 y2 hsu
                      obtain ⟨s', t', d'⟩ := j
                      simp only at y0 y1 y2 hsu
                      have p1 : (0 : Int) ≤ (k : Int) := by omega
                      have p2 : (k : Int) < (y.length : Int) := by omega
                      generalize hN : (y.take k).countP (fun e => dnEq (s, t, d) e) = N at *
                      generalize hN2 : (y.take (k + 1)).countP (fun e => dnEq (s, t, d) e) = N2 at *
                      have HN2 := Lib.hid hN2
                      clear hN hN2
                      have hw : IntKind.i64.wrap ((N : Int) + 1) = (N : Int) + 1 := IntWalk.i64_in _ (by omega)
                      cases heq : dnEq (s, t, d) (s', t', d')
                      · have HS := Lib.hid (show N2 = N by rw [hsu, heq]; rfl)
                        clear hsu
                        go_wp2_with fail
                        go_roundw
                        case rel => exact ⟨k + 1, by omega, by go_num, by rw [HN2.out, HS.out], HBk.out.alloc (by have := HBk.out.size; omega) _⟩
                        case measure => simp [intOf]; omega
                      · have HS := Lib.hid (show N2 = N + 1 by rw [hsu, heq]; rfl)
                        clear hsu
                        go_wp2_with fail
                        go_roundw
                        case rel => exact ⟨k + 1, by omega, by go_num, by rw [HN2.out, HS.out]; go_num, HBk.out.alloc (by have := HBk.out.size; omega) _⟩
                        case measure => simp [intOf]; omega
                    · obtain rfl : k = y.length := by omega
                      rw [List.take_length, HC1.out, show ((1 : Nat) : Int) = 1 from rfl]
                      go_wp2_with fail
                      go_roundw
                      case rel => exact ⟨m + 1, by omega, by go_num, HBl.out⟩
                      case measure => simp [intOf]; omega
                · go_wp2_with fail
                  go_ret
                  exact ⟨rfl, HB.out⟩
    · go_enter Tryz.func7, Tryz.ntmps7
      go_wp2_with fail
      first | (refine wp_named ?_; intro W1 hW) | (refine calls_named ?_; intro W1 hW)
      have B1 : Below w.heap.size w W1 := by rw [hW]; exact (by repeat (first | exact Below.refl _ _ | assumption | refine Below.alloc ?_ (by first | omega | (simp <;> omega)) _ | refine Below.setCell ?_ (by first | omega | (simp <;> omega)) _ | refine Below.drew ?_))
      replace HG := Lib.hid (HG.out.at B1)
      replace HQ := Lib.hid (HQ.out.at B1)
      replace HFl := Lib.hid (HFl.out.at B1)
      replace HP := Lib.hid ((And.intro (HP.out.1.at B1) (HP.out.2.at B1)))
      have nw1 : w.heap.size < W1.heap.size := by rw [hW]; simp <;> omega
      have c0 : W1.cell? ⟨w.heap.size, 0, none⟩ = some (.slice An ns.length cn) := by rw [hW]; go_simp
      have c1 : W1.cell? ⟨w.heap.size, 1, none⟩ = some (.slice Ae es.length ce) := by rw [hW]; go_simp
      clear hW
      have HB := Lib.hid B1
      clear B1
      refine (shown_any W1).mono ?_
      rintro e w2 ⟨rfl, hb⟩
      replace c0 := cellAt c0 hb (by omega)
      replace c1 := cellAt c1 hb (by omega)
      replace HG := Lib.hid (HG.out.at hb)
      replace HQ := Lib.hid (HQ.out.at hb)
      replace HFl := Lib.hid (HFl.out.at hb)
      replace HP := Lib.hid ((And.intro (HP.out.1.at hb) (HP.out.2.at hb)))
      replace nw1 : w.heap.size < w2.heap.size := ltAt nw1 hb
      replace HB := Lib.hid (lift HB.out hb)
      clear hb
      go_wp2_with fail
      refine (small_any An Ae cn ce ns es w2).mono ?_
      rintro e w3 ⟨rfl, hb⟩
      replace c0 := cellAt c0 hb (by omega)
      replace c1 := cellAt c1 hb (by omega)
      replace HG := Lib.hid (HG.out.at hb)
      replace HQ := Lib.hid (HQ.out.at hb)
      replace HFl := Lib.hid (HFl.out.at hb)
      replace HP := Lib.hid ((And.intro (HP.out.1.at hb) (HP.out.2.at hb)))
      replace nw1 : w.heap.size < w3.heap.size := ltAt nw1 hb
      replace HB := Lib.hid (lift HB.out hb)
      clear hb
      cases hsm : smallB ns es
      · go_wp2_with fail
        go_ret
        exact ⟨rfl, HB.out⟩
      · go_wp2_with fail
        go_ret
        exact ⟨rfl, HB.out⟩
  · go_enter Tryz.func7, Tryz.ntmps7
    go_wp2_with fail
    first | (refine wp_named ?_; intro W1 hW) | (refine calls_named ?_; intro W1 hW)
    have B1 : Below w.heap.size w W1 := by rw [hW]; exact (by repeat (first | exact Below.refl _ _ | assumption | refine Below.alloc ?_ (by first | omega | (simp <;> omega)) _ | refine Below.setCell ?_ (by first | omega | (simp <;> omega)) _ | refine Below.drew ?_))
    replace HG := Lib.hid (HG.out.at B1)
    replace HQ := Lib.hid (HQ.out.at B1)
    replace HFl := Lib.hid (HFl.out.at B1)
    replace HP := Lib.hid ((And.intro (HP.out.1.at B1) (HP.out.2.at B1)))
    have nw1 : w.heap.size < W1.heap.size := by rw [hW]; simp <;> omega
    have c0 : W1.cell? ⟨w.heap.size, 0, none⟩ = some (.slice An ns.length cn) := by rw [hW]; go_simp
    have c1 : W1.cell? ⟨w.heap.size, 1, none⟩ = some (.slice Ae es.length ce) := by rw [hW]; go_simp
    clear hW
    have HB := Lib.hid B1
    clear B1
    refine (shown_any W1).mono ?_
    rintro e w2 ⟨rfl, hb⟩
    replace c0 := cellAt c0 hb (by omega)
    replace c1 := cellAt c1 hb (by omega)
    replace HG := Lib.hid (HG.out.at hb)
    replace HQ := Lib.hid (HQ.out.at hb)
    replace HFl := Lib.hid (HFl.out.at hb)
    replace HP := Lib.hid ((And.intro (HP.out.1.at hb) (HP.out.2.at hb)))
    replace nw1 : w.heap.size < w2.heap.size := ltAt nw1 hb
    replace HB := Lib.hid (lift HB.out hb)
    clear hb
    go_wp2_with fail
    refine (small_any An Ae cn ce ns es w2).mono ?_
    rintro e w3 ⟨rfl, hb⟩
    replace c0 := cellAt c0 hb (by omega)
    replace c1 := cellAt c1 hb (by omega)
    replace HG := Lib.hid (HG.out.at hb)
    replace HQ := Lib.hid (HQ.out.at hb)
    replace HFl := Lib.hid (HFl.out.at hb)
    replace HP := Lib.hid ((And.intro (HP.out.1.at hb) (HP.out.2.at hb)))
    replace nw1 : w.heap.size < w3.heap.size := ltAt nw1 hb
    replace HB := Lib.hid (lift HB.out hb)
    clear hb
    cases hsm : smallB ns es
    · go_wp2_with fail
      go_ret
      exact ⟨rfl, HB.out⟩
    · go_wp2_with fail
      go_ret
      exact ⟨rfl, HB.out⟩
end Od
end Go.Proofs.YtmlogmcnblgnbaaGreat
end
