/- My texts, joined for the claim: LtBrought. -/
import Derived.Test.YtbllehjhmfehbaaGreatZT1
import Derived.Test.YtbllehjhmfehbaaGreatZT15

section
/- The walk of the law TransBrought. (bel2) -/
namespace Go.Proofs.YtbllehjhmfehbaaGreat
open Go.RowKit Go.Sort Go.Maps
set_option linter.unusedSimpArgs false
namespace Od

theorem unit_take {l : List Pl} {s : Str} {k : Nat} (h : k < l.length) : (l.take (k + 1)).any (fun p => p.1 == s) = ((l.take k).any (fun p => p.1 == s) || l[k].1 == s) := any_take_succ h
set_option maxRecDepth 100000 in
set_option maxHeartbeats 16000000 in
theorem transBrought_any (An Ae Au Ah : Option Addr) (cn ce cu ch : Nat) (ns : List Nd) (es : List Ed) (up half : List Str) (u : Str) (t : Int) (w : World) (hg : GIw w An Ae ns es) (hn : NIn w Au Ah up half) (hof : okJ (u, t)) :
    Calls Tryz.prog 12 #[gV An ns.length cn Ae es.length ce, nowV Au up.length cu Ah half.length ch, sv u, .int .i64 t] w fun e w' => e = .returned (.bool true) ∧ Below w.heap.size w w' := by
  obtain ⟨i0, hi, hz0, hz1, hz2⟩ := info_parts infoPl
  have HG := Lib.hid hg
  have HN := Lib.hid hn
  clear hg hn
  go_enter Tryz.func12, Tryz.ntmps12
  go_wp2_with fail
  first | (refine wp_named ?_; intro W1 hW) | (refine calls_named ?_; intro W1 hW)
  have B1 : Below w.heap.size w W1 := by rw [hW]; exact (by repeat (first | exact Below.refl _ _ | assumption | refine Below.alloc ?_ (by first | omega | (simp <;> omega)) _ | refine Below.setCell ?_ (by first | omega | (simp <;> omega)) _ | refine Below.drew ?_))
  replace HG := Lib.hid (HG.out.at B1)
  replace HN := Lib.hid (HN.out.at B1)
  have n1 : w.heap.size < W1.heap.size := by rw [hW]; simp <;> omega
  have n2 : (w.heap.size + 1) < W1.heap.size := by rw [hW]; simp <;> omega
  have c0 : W1.cell? ⟨w.heap.size, 0, none⟩ = some (.slice An ns.length cn) := by rw [hW]; go_simp
  have c1 : W1.cell? ⟨w.heap.size, 1, none⟩ = some (.slice Ae es.length ce) := by rw [hW]; go_simp
  have c2 : W1.cell? ⟨(w.heap.size + 1), 0, none⟩ = some (.slice Au up.length cu) := by rw [hW]; go_simp
  have c3 : W1.cell? ⟨(w.heap.size + 1), 1, none⟩ = some (.slice Ah half.length ch) := by rw [hW]; go_simp
  clear hW
  have HB := Lib.hid B1
  clear B1
  refine (shown19_any W1).mono ?_
  rintro e w2 ⟨rfl, hb⟩
  replace c0 := cellAt c0 hb (by omega)
  replace c1 := cellAt c1 hb (by omega)
  replace c2 := cellAt c2 hb (by omega)
  replace c3 := cellAt c3 hb (by omega)
  replace HG := Lib.hid (HG.out.at hb)
  replace HN := Lib.hid (HN.out.at hb)
  replace n1 : w.heap.size < w2.heap.size := ltAt n1 hb
  replace n2 : (w.heap.size + 1) < w2.heap.size := ltAt n2 hb
  replace HB := Lib.hid (lift HB.out hb)
  clear hb
  go_wp2_with fail
  refine (small19_any An Ae cn ce ns es w2).mono ?_
  rintro e w3 ⟨rfl, hb⟩
  replace c0 := cellAt c0 hb (by omega)
  replace c1 := cellAt c1 hb (by omega)
  replace c2 := cellAt c2 hb (by omega)
  replace c3 := cellAt c3 hb (by omega)
  replace HG := Lib.hid (HG.out.at hb)
  replace HN := Lib.hid (HN.out.at hb)
  replace n1 : w.heap.size < w3.heap.size := ltAt n1 hb
  replace n2 : (w.heap.size + 1) < w3.heap.size := ltAt n2 hb
  replace HB := Lib.hid (lift HB.out hb)
  clear hb
  cases hsm : small19 ns es
  · skip
    go_wp2_with fail
    go_ret
    exact ⟨rfl, HB.out⟩
  · skip
    obtain ⟨hel, hnl⟩ := small19_iff.1 hsm
    clear hsm
    go_wp2_with fail
    refine (Build_any An Ae Au Ah cn ce cu ch ns es up half u t w3 HG.out HN.out hnl hel hof).mono ?_
    rintro e w4 ⟨A4, c4, rfl, ho4, hb⟩
    have HJ := Lib.hid (own_rd' ho4)
    replace c0 := cellAt c0 hb (by omega)
    replace c1 := cellAt c1 hb (by omega)
    replace c2 := cellAt c2 hb (by omega)
    replace c3 := cellAt c3 hb (by omega)
    replace HG := Lib.hid (HG.out.at hb)
    replace HN := Lib.hid (HN.out.at hb)
    replace n1 : w.heap.size < w4.heap.size := ltAt n1 hb
    replace n2 : (w.heap.size + 1) < w4.heap.size := ltAt n2 hb
    replace HB := Lib.hid (lift HB.out hb)
    clear hb ho4
    by_cases he : (madeT ns es up half (u, t)).err = 0
    · skip
      have hleft := made_left he
      have HMay := Lib.hid hleft.may
      have hlen := madeT_len ns es up half (u, t)
      have hjl := jobsT_len up half (madeT ns es up half (u, t)).l
      have hgl := hleft.ok.len
      have HGone := Lib.hid (fun W hG hN => Gone_any An Ae Au Ah cn ce cu ch ns es up half u t W hG hN hnl hel hof)
      have HGk := Lib.hid (fun p (hp : p ∈ (madeT ns es up half (u, t)).gone) => okJ_cand HG.out.oke (p.1, p.2.1) (hleft.ok.cand p hp))
      have HEq := Lib.hid hleft.eq.symm
      have HOk := Lib.hid (madeT_keys (ns := ns) (up := up) (half := half) (k := (u, t)) HG.out.oke hof)
      have hbe : ((madeT ns es up half (u, t)).err != 0) = false := by rw [he]; rfl
      have HJoin := Lib.hid (fun (p q : Pl) hp hq hpq => hleft.joins (p := p) (q := q) hp hq hpq)
      clear hleft he
      generalize madeT ns es up half (u, t) = T at *
      generalize T.err = te at *
      generalize T.l = tl at *
      have HJm := Lib.hid (fun j (hj : j ∈ jobsT up half tl) => (mem_jobsT.1 hj).1)
      generalize jobsT up half tl = J at *
      go_wp2_with fail
      try go_wp2_with fail
      refine wp_region_held_drew (S := fun w' => Below w4.heap.size w4 w') (by kernel_rfl) (Below.drew (Below.refl _ _)) (fun hHeld => ?_)
      refine tY (i := 0) (v := ?_) rfl ?_ hHeld ?_; rotate_left 1; focus (intro w' hSw; have hCell := fun (b o : Nat) (h : b < w4.heap.size) => hSw.cell (p := ⟨b, o, none⟩) h; clear hSw; go_simp; try with_reducible rfl)
      (try simp only [Act.put, zn1, zn2, zn3])
      refine tY (i := 1) (v := ?_) rfl ?_ hHeld ?_; rotate_left 1; focus (intro w' hSw; have hCell := fun (b o : Nat) (h : b < w4.heap.size) => hSw.cell (p := ⟨b, o, none⟩) h; clear hSw; go_simp; try with_reducible rfl)
      (try simp only [Act.put, zn1, zn2, zn3])
      refine tY (i := 2) (v := ?_) rfl ?_ hHeld ?_; rotate_left 1; focus (intro w' hSw; clear hSw; go_simp; try with_reducible rfl)
      (try simp only [Act.put, zn1, zn2, zn3])
      refine tY (i := 3) (v := ?_) rfl ?_ hHeld ?_; rotate_left 1; focus (intro w' hSw; clear hSw; go_simp; try with_reducible rfl)
      (try simp only [Act.put, zn1, zn2, zn3])
      refine tY (i := 4) (v := ?_) rfl ?_ hHeld ?_; rotate_left 1; focus (intro w' hSw; have hCell := fun (b o : Nat) (h : b < w4.heap.size) => hSw.cell (p := ⟨b, o, none⟩) h; clear hSw; go_simp; try with_reducible rfl)
      (try simp only [Act.put, zn1, zn2, zn3])
      refine tY (i := 5) (v := ?_) rfl ?_ hHeld ?_; rotate_left 1; focus (intro w' hSw; have hCell := fun (b o : Nat) (h : b < w4.heap.size) => hSw.cell (p := ⟨b, o, none⟩) h; clear hSw; go_simp; try with_reducible rfl)
      (try simp only [Act.put, zn1, zn2, zn3])
      refine tY (i := 6) (v := ?_) rfl ?_ hHeld ?_; rotate_left 1; focus (intro w' hSw; clear hSw; go_simp; try with_reducible rfl)
      (try simp only [Act.put, zn1, zn2, zn3])
      refine tY (i := 7) (v := ?_) rfl ?_ hHeld ?_; rotate_left 1; focus (intro w' hSw; clear hSw; go_simp; try with_reducible rfl)
      (try simp only [Act.put, zn1, zn2, zn3])
      refine ready_one (i := 8) rfl (by kernel_rfl) (fun K hK => ?_)
      go_simp
      refine (HGone.out _ (HG.out.at hHeld) (HN.out.at hHeld)).mono ?_
      rintro e y1 ⟨A5, c5, rfl, ho5, hb⟩
      have HR5 := Lib.hid (own_rd' ho5)
      clear ho5
      refine hK.out _ _ ?_ (fun hHeld2 => ?_)
      · (try dsimp only); first | exact Below.trans hHeld (Below.mono hb hHeld.size) | exact hHeld | exact Below.drew hHeld | exact (by repeat (first | exact Below.refl _ _ | assumption | refine Below.alloc ?_ (by first | omega | (simp <;> omega)) _ | refine Below.setCell ?_ (by first | omega | (simp <;> omega)) _ | refine Below.drew ?_))
      clear hK K hHeld; have hHeld := hHeld2; clear hHeld2; (try simp only [Act.put, zn1, zn2, zn3])
      refine ready_one (i := 9) rfl (by kernel_rfl) (fun K hK => ?_)
      go_simp
      have hp5 := PAll_any An Ae Au Ah A5 cn ce cu ch c5 ns es up half T.gone u t _ (HG.out.at hHeld).rn (by omega) (HG.out.at hHeld).re (by omega) (HN.out.at hHeld).u (HN.out.at hHeld).h HR5.out (by omega) HG.out.oke hof HGk.out
      rw [HEq.out] at hp5
      refine hp5.mono ?_
      clear hp5
      rintro e y2 ⟨A6, c6, rfl, ho6, hb⟩
      have HR6 := Lib.hid (own_rd' ho6)
      have HCap := Lib.hid (own_cap ho6).1
      clear ho6 HR5
      refine hK.out _ _ ?_ (fun hHeld2 => ?_)
      · (try dsimp only); first | exact Below.trans hHeld (Below.mono hb hHeld.size) | exact hHeld | exact Below.drew hHeld | exact (by repeat (first | exact Below.refl _ _ | assumption | refine Below.alloc ?_ (by first | omega | (simp <;> omega)) _ | refine Below.setCell ?_ (by first | omega | (simp <;> omega)) _ | refine Below.drew ?_))
      clear hK K hHeld; have hHeld := hHeld2; clear hHeld2; (try simp only [Act.put, zn1, zn2, zn3])
      refine tY (i := 10) (v := ?_) rfl ?_ hHeld ?_; rotate_left 1; focus (intro w' hSw; clear hSw; go_simp; try with_reducible rfl)
      (try simp only [Act.put, zn1, zn2, zn3])
      refine wpAnyH_done (by kernel_rfl) ?_ _
      replace c0 := cellAt c0 hHeld (by omega)
      replace c1 := cellAt c1 hHeld (by omega)
      replace c2 := cellAt c2 hHeld (by omega)
      replace c3 := cellAt c3 hHeld (by omega)
      replace HG := Lib.hid (HG.out.at hHeld)
      replace HN := Lib.hid (HN.out.at hHeld)
      replace n1 : w.heap.size < y2.heap.size := ltAt n1 hHeld
      replace n2 : (w.heap.size + 1) < y2.heap.size := ltAt n2 hHeld
      replace HB := Lib.hid (lift HB.out hHeld)
      replace HJ := Lib.hid (HJ.out.at hHeld)
      clear hHeld
      go_wp2_with fail
      go_loopw [57] (fun i wr => ∃ k : Nat, k ≤ J.length ∧ i = .int .i64 k ∧ Hid (Below y2.heap.size y2 wr)) (fun i _ => J.length - (intOf i).toNat)
      case atStart => exact ⟨0, Nat.zero_le _, rfl, Below.refl _ _⟩
      case round =>
        obtain ⟨k, hk, rfl, HBx⟩ := hrel
        obtain ⟨w7, rfl⟩ : ∃ wo : World, wo = wr := ⟨_, rfl⟩
        have hbx := HBx.out
        replace c0 := cellAt c0 hbx (by omega)
        replace c1 := cellAt c1 hbx (by omega)
        replace c2 := cellAt c2 hbx (by omega)
        replace c3 := cellAt c3 hbx (by omega)
        replace HG := Lib.hid (HG.out.at hbx)
        replace HN := Lib.hid (HN.out.at hbx)
        replace n1 : w.heap.size < w7.heap.size := ltAt n1 hbx
        replace n2 : (w.heap.size + 1) < w7.heap.size := ltAt n2 hbx
        replace HB := Lib.hid (lift HB.out hbx)
        replace HJ := Lib.hid (HJ.out.at hbx)
        replace HR6 := Lib.hid (HR6.out.at hbx)
        clear hbx
        by_cases hlt : k < J.length
        · obtain ⟨b3, o3, hA, hB3, x0, x1, x2, x3⟩ := HJ.out.job hlt
          subst hA
          have hjm := HJm.out _ (List.getElem_mem hlt)
          generalize J[k] = p at x0 x1 x2 x3 hjm
          obtain ⟨s, t', r', d'⟩ := p
          simp only at x0 x1 x2 x3 hjm
          have hany : tl.any (fun p => p.1 == s) = true := by
            obtain ⟨q, hq, e⟩ := hjm
            exact List.any_eq_true.2 ⟨q, hq, by simpa using e⟩
          have HAny := Lib.hid hany
          have i1 : (0 : Int) ≤ (k : Int) := by omega
          have i2 : (k : Int) < (J.length : Int) := by omega
          clear hjm hany
          go_wp2_with fail
          first | (refine wp_named ?_; intro W8 hW) | (refine calls_named ?_; intro W8 hW)
          have B8 : Below w7.heap.size w7 W8 := by rw [hW]; exact (by repeat (first | exact Below.refl _ _ | assumption | refine Below.alloc ?_ (by first | omega | (simp <;> omega)) _ | refine Below.setCell ?_ (by first | omega | (simp <;> omega)) _ | refine Below.drew ?_))
          replace c0 := cellAt c0 B8 (by omega)
          replace c1 := cellAt c1 B8 (by omega)
          replace c2 := cellAt c2 B8 (by omega)
          replace c3 := cellAt c3 B8 (by omega)
          replace HG := Lib.hid (HG.out.at B8)
          replace HN := Lib.hid (HN.out.at B8)
          replace n1 : w.heap.size < W8.heap.size := ltAt n1 B8
          replace n2 : (w.heap.size + 1) < W8.heap.size := ltAt n2 B8
          replace HB := Lib.hid (lift HB.out B8)
          replace HJ := Lib.hid (HJ.out.at B8)
          replace HR6 := Lib.hid (HR6.out.at B8)
          have m8 : w7.heap.size < W8.heap.size := by rw [hW]; simp <;> omega
          have y0 : W8.cell? ⟨w7.heap.size, 0, none⟩ = some (sv s) := by rw [hW]; go_simp
          clear hW
          have HB8 := Lib.hid (lift HBx.out B8)
          clear B8 x0 x1 x2 x3
          go_loopw [14, 63] (fun v i wr => ∃ j : Nat, j ≤ tl.length ∧ i = .int .i64 j ∧ v = .bool ((tl.take j).any (fun p => p.1 == s)) ∧ Hid (Below W8.heap.size W8 wr)) (fun _ i _ => tl.length - (intOf i).toNat)
          case atStart => exact ⟨0, Nat.zero_le _, rfl, rfl, Below.refl _ _⟩
          case round =>
            obtain ⟨j, hj, rfl, rfl, HBy⟩ := hrel
            have hz8 := HBy.out.size
            by_cases hlt2 : j < tl.length
            · obtain ⟨b4, o4, hA4, hB4, q0, q1, q2, q3⟩ := (HR6.out.at HBy.out).pl hlt2
              subst hA4
              have hst := unit_take (s := s) hlt2
              generalize tl[j] = q at q0 q1 q2 q3 hst
              obtain ⟨sq, tq, nq, bq⟩ := q
              simp only at q0 q1 q2 q3 hst
              have HSt := Lib.hid hst
              have j1 : (0 : Int) ≤ (j : Int) := by omega
              have j2 : (j : Int) < (tl.length : Int) := by omega
              have z0 := cellAt y0 HBy.out m8
              have m9 := ltAt m8 HBy.out
              clear hst
              generalize (tl.take j).any (fun p => p.1 == s) = va at *
              cases va
              · cases e1 : (sq == s)
                · skip
                  go_wp2_with fail
                  go_roundw
                  case rel => exact ⟨j + 1, by omega, by go_num, by rw [HSt.out]; simp [e1], HBy.out.alloc hz8 _⟩
                  case measure => simp [intOf]; omega
                · skip
                  go_wp2_with fail
                  go_roundw
                  case rel => exact ⟨j + 1, by omega, by go_num, by rw [HSt.out]; simp [e1], HBy.out.alloc hz8 _⟩
                  case measure => simp [intOf]; omega
              · skip
                go_wp2_with fail
                go_roundw
                case rel => exact ⟨j + 1, by omega, by go_num, by rw [HSt.out]; simp [hlt2], HBy.out.alloc hz8 _⟩
                case measure => simp [intOf]; omega
            · obtain rfl : j = tl.length := by omega
              have HBz := Lib.hid (lift HB8.out HBy.out)
              rw [List.take_length, HAny.out]
              go_wp2_with fail
              go_roundw
              case rel => exact ⟨k + 1, by omega, by go_num, HBz⟩
              case measure => simp [intOf]; omega
        · obtain rfl : k = J.length := by omega
          go_wp2_with fail
          go_loopw [81] (fun i wr => ∃ k : Nat, k ≤ tl.length ∧ i = .int .i64 k ∧ Hid (Below w7.heap.size w7 wr)) (fun i _ => tl.length - (intOf i).toNat)
          case atStart => exact ⟨0, Nat.zero_le _, rfl, Below.refl _ _⟩
          case round =>
            obtain ⟨k, hk, rfl, HBy⟩ := hrel
            obtain ⟨w9, rfl⟩ : ∃ wo : World, wo = wr := ⟨_, rfl⟩
            have hby := HBy.out
            replace c0 := cellAt c0 hby (by omega)
            replace c1 := cellAt c1 hby (by omega)
            replace c2 := cellAt c2 hby (by omega)
            replace c3 := cellAt c3 hby (by omega)
            replace HG := Lib.hid (HG.out.at hby)
            replace HN := Lib.hid (HN.out.at hby)
            replace n1 : w.heap.size < w9.heap.size := ltAt n1 hby
            replace n2 : (w.heap.size + 1) < w9.heap.size := ltAt n2 hby
            replace HB := Lib.hid (lift HB.out hby)
            replace HJ := Lib.hid (HJ.out.at hby)
            replace HR6 := Lib.hid (HR6.out.at hby)
            clear hby
            by_cases hlt : k < tl.length
            · obtain ⟨b3, o3, hA, hB3, x0, x1, x2, x3⟩ := HR6.out.pl hlt
              have hdr := HR6.out.dropA (m := k + 1) (by omega) HCap.out
              subst hA
              have hmem := List.getElem_mem hlt
              generalize tl[k] = p at x0 x1 x2 x3 hmem
              obtain ⟨s, t', n', b'⟩ := p
              simp only at x0 x1 x2 x3
              have hs2 := run_slice_tail (P := Tryz.prog) Tryz.underlying29 hi (some ⟨b3, o3, none⟩) tl.length c6 (k + 1) (by omega)
              rw [hz1, show tl.length - (k + 1) = (tl.drop (k + 1)).length by simp, show ((k + 1 : Nat) : Int) = (k : Int) + 1 by omega] at hs2
              rw [show tl.length - (k + 1) = (tl.drop (k + 1)).length by simp, show (plsC tl).drop ((k + 1) * 4) = plsC (tl.drop (k + 1)) from (flat_drop plC 4 plC_len tl (k + 1)).symm] at hdr
              have HJn := Lib.hid (fun q (hq : q ∈ tl.drop (k + 1)) (e : s = q.1) => HJoin.out (s, t', n', b') q hmem (List.mem_of_mem_drop hq) e)
              have hml : (tl.drop (k + 1)).length ≤ tl.length := by rw [List.length_drop]; omega
              have HDr := Lib.hid hdr
              have i1 : (0 : Int) ≤ (k : Int) := by omega
              have i2 : (k : Int) < (tl.length : Int) := by omega
              have hwk : IntKind.i64.wrap ((k : Int) + 1) = (k : Int) + 1 := IntWalk.i64_in _ (by omega)
              clear hdr hmem
              generalize tl.drop (k + 1) = M at *
              generalize dropA (some ⟨b3, o3, none⟩) c6 (k + 1) 4 = A7 at *
              generalize c6 - (k + 1) = c7 at *
              go_wp2_with fail
              first | (refine wp_named ?_; intro W10 hW) | (refine calls_named ?_; intro W10 hW)
              have B10 : Below w9.heap.size w9 W10 := by rw [hW]; exact (by repeat (first | exact Below.refl _ _ | assumption | refine Below.alloc ?_ (by first | omega | (simp <;> omega)) _ | refine Below.setCell ?_ (by first | omega | (simp <;> omega)) _ | refine Below.drew ?_))
              replace c0 := cellAt c0 B10 (by omega)
              replace c1 := cellAt c1 B10 (by omega)
              replace c2 := cellAt c2 B10 (by omega)
              replace c3 := cellAt c3 B10 (by omega)
              replace HG := Lib.hid (HG.out.at B10)
              replace HN := Lib.hid (HN.out.at B10)
              replace n1 : w.heap.size < W10.heap.size := ltAt n1 B10
              replace n2 : (w.heap.size + 1) < W10.heap.size := ltAt n2 B10
              replace HB := Lib.hid (lift HB.out B10)
              replace HJ := Lib.hid (HJ.out.at B10)
              replace HR6 := Lib.hid (HR6.out.at B10)
              replace HDr := Lib.hid (HDr.out.at B10)
              have m10 : w9.heap.size < W10.heap.size := by rw [hW]; simp <;> omega
              have y0 : W10.cell? ⟨w9.heap.size, 0, none⟩ = some (sv s) := by rw [hW]; go_simp
              have y1 : W10.cell? ⟨w9.heap.size, 1, none⟩ = some (.int .i64 t') := by rw [hW]; go_simp
              clear hW
              have HB10 := Lib.hid (lift HBy.out B10)
              clear B10 x0 x1 x2 x3
              go_loopw [91] (fun i wr => ∃ j : Nat, j ≤ M.length ∧ i = .int .i64 j ∧ Hid (Below W10.heap.size W10 wr)) (fun i _ => M.length - (intOf i).toNat)
              case atStart => exact ⟨0, Nat.zero_le _, rfl, Below.refl _ _⟩
              case round =>
                obtain ⟨j, hj, rfl, HBv⟩ := hrel
                have hz10 := HBv.out.size
                by_cases hlt2 : j < M.length
                · obtain ⟨b4, o4, hA4, hB4, q0, q1, q2, q3⟩ := (HDr.out.at HBv.out).pl hlt2
                  subst hA4
                  have hjn := HJn.out _ (List.getElem_mem hlt2)
                  generalize M[j] = q at q0 q1 q2 q3 hjn
                  obtain ⟨sq, tq, nq, bq⟩ := q
                  simp only at q0 q1 q2 q3 hjn
                  have HJq := Lib.hid hjn
                  have j1 : (0 : Int) ≤ (j : Int) := by omega
                  have j2 : (j : Int) < (M.length : Int) := by omega
                  have z0 := cellAt y0 HBv.out m10
                  have z1 := cellAt y1 HBv.out m10
                  have m11 := ltAt m10 HBv.out
                  clear hjn
                  go_wp2_with fail
                  refine (Pr.join_any t' tq true _).mono ?_
                  rintro e w11 ⟨rfl, rfl⟩
                  rw [jn_jnT]
                  cases e1 : (s == sq)
                  · generalize jnT t' tq true = jr
                    obtain ⟨ja, jb⟩ := jr
                    go_wp2_with fail
                    go_roundw
                    case rel => exact ⟨j + 1, by omega, by go_num, HBv.out.alloc hz10 _⟩
                    case measure => simp [intOf]; omega
                  · have hjq := HJq.out (by simpa using e1)
                    generalize jnT t' tq true = jr at *
                    obtain ⟨ja, jb⟩ := jr
                    simp only at hjq
                    subst hjq
                    go_wp2_with fail
                    go_roundw
                    case rel => exact ⟨j + 1, by omega, by go_num, HBv.out.alloc hz10 _⟩
                    case measure => simp [intOf]; omega
                · obtain rfl : j = M.length := by omega
                  have HBz := Lib.hid (lift HB10.out HBv.out)
                  go_wp2_with fail
                  go_roundw
                  case rel => exact ⟨k + 1, by omega, by go_num, HBz⟩
                  case measure => simp [intOf]; omega
            · obtain rfl : k = tl.length := by omega
              have HBz := Lib.hid (lift HB.out (Below.refl _ _))
              go_wp2_with fail
              go_ret
              exact ⟨rfl, HB.out⟩
    · have HNo := Lib.hid (made_none he).2
      have hne : ((madeT ns es up half (u, t)).err != 0) = true := by simp [bne, he]
      have HGone := Lib.hid (fun W hG hN => Gone_any An Ae Au Ah cn ce cu ch ns es up half u t W hG hN hnl hel hof)
      clear he
      generalize madeT ns es up half (u, t) = T at *
      have h0 : T.gone.length = 0 := by rw [HNo.out]; rfl
      have H0 := Lib.hid h0
      clear h0
      generalize T.err = te at *
      generalize (jobsT up half T.l).length = jl at *
      go_wp2_with fail
      refine (HGone.out w4 HG.out HN.out).mono ?_
      rintro e w5 ⟨A5, c5, rfl, ho5, hb⟩
      rw [H0.out]
      have HB5 := Lib.hid (lift HB.out hb)
      clear hb ho5
      go_wp2_with fail
      go_ret
      exact ⟨rfl, HB5.out⟩
end Od
end Go.Proofs.YtbllehjhmfehbaaGreat
end
