/- My texts, joined for the claim: LtNeeds. -/
import Derived.Test.YtbllehjhmfehbaaGreatZT1
import Derived.Test.YtbllehjhmfehbaaGreatZT15
import Derived.Deep.DeepCutAuto

section
/- The walk of the law TransNeeds. (bel2) -/
namespace Go.Proofs.YtbllehjhmfehbaaGreat
open Go.RowKit Go.Sort Go.Maps
set_option linter.unusedSimpArgs false
namespace Od

def sFg (g : Str → Int) (D : List Str) (s : Str) : Option Value := if s ∈ D then some (.int .i64 (g s)) else none
theorem sFg_put (g : Str → Int) (D : List Str) (s : Str) : (fun y => if y = s then some (Value.int .i64 (g s)) else sFg g D y) = sFg g (D ++ [s]) := by
  funext y
  unfold sFg
  by_cases e : y = s
  · subst e; simp
  · simp [e]
theorem sFg_nil (g : Str → Int) : (fun _ => none : Str → Option Value) = sFg g [] := by funext s; simp [sFg]
theorem sFg_get {up half : List Str} {l : List Pl} (s : Str) : (sFg (setU up half l) ((jobsT up half l).map (·.1)) s).getD (.int .i64 0) = .int .i64 (setU up half l s) := by
  unfold sFg
  by_cases h : s ∈ (jobsT up half l).map (·.1)
  · rw [if_pos h]; rfl
  · rw [if_neg h]
    have h0 : setU up half l s = 0 := by
      by_cases hs : setU up half l s = 0
      · exact hs
      · exfalso
        by_cases hu : ∃ p ∈ l, p.1 = s
        · exact h (List.mem_map.2 ⟨(s, setU up half l s, 1, 0), mem_jobsT.2 ⟨hu, hs, rfl⟩, rfl⟩)
        · exact hs (setU_none hu)
    rw [h0]; rfl
set_option maxRecDepth 100000 in
set_option maxHeartbeats 16000000 in
theorem transNeeds_any (An Ae Au Ah : Option Addr) (cn ce cu ch : Nat) (ns : List Nd) (es : List Ed) (up half : List Str) (u : Str) (t : Int) (w : World) (hg : GIw w An Ae ns es) (hn : NIn w Au Ah up half) (hof : okJ (u, t)) :
    Calls Tryz.prog 11 #[gV An ns.length cn Ae es.length ce, nowV Au up.length cu Ah half.length ch, sv u, .int .i64 t] w fun e w' => e = .returned (.bool true) ∧ Below w.heap.size w w' := by
  have hmm : ∀ (t : TypeId) (w : World), (Instr.makeMap t none).run Tryz.prog w = .ok (.map (some w.heap.size)) (w.alloc (.map #[] 0)) := fun _ _ => rfl
  have HG := Lib.hid hg
  have HN := Lib.hid hn
  clear hg hn
  go_enter Tryz.func11, Tryz.ntmps11
  go_wp2_with fail
  first | (refine wp_named ?_; intro W1 hW) | (refine calls_named ?_; intro W1 hW)
  have B1 : Below w.heap.size w W1 := by rw [hW]; exact (by repeat (first | exact Below.refl _ _ | assumption | refine Below.alloc ?_ (by first | omega | (simp <;> omega)) _ | refine Below.setCell ?_ (by first | omega | (simp <;> omega)) _ | refine Below.drew ?_))
  replace HG := Lib.hid (HG.out.at B1)
  replace HN := Lib.hid (HN.out.at B1)
  have n1 : w.heap.size < W1.heap.size := by rw [hW]; simp <;> omega
  have n2 : (w.heap.size + 1) < W1.heap.size := by rw [hW]; simp <;> omega
  have c0 : W1.cell? ⟨w.heap.size, 0, none⟩ = some (.slice An ns.length cn) := by rw [hW]; go_simp
  have c1 : W1.cell? ⟨w.heap.size, 1, none⟩ = some (.slice Ae es.length ce) := by rw [hW]; go_simp
  have c2 : W1.cell? ⟨(w.heap.size + 1), 0, none⟩ = some (.slice Au up.length cu) := by rw [hW]; go_simp
  have c3 : W1.cell? ⟨(w.heap.size + 1), 1, none⟩ = some (.slice Ah half.length ch) := by rw [hW]; go_simp
  clear hW
  have HB := Lib.hid B1
  clear B1
  refine (shown19_any W1).mono ?_
  rintro e w2 ⟨rfl, hb⟩
  replace c0 := cellAt c0 hb (by omega)
  replace c1 := cellAt c1 hb (by omega)
  replace c2 := cellAt c2 hb (by omega)
  replace c3 := cellAt c3 hb (by omega)
  replace HG := Lib.hid (HG.out.at hb)
  replace HN := Lib.hid (HN.out.at hb)
  replace n1 : w.heap.size < w2.heap.size := ltAt n1 hb
  replace n2 : (w.heap.size + 1) < w2.heap.size := ltAt n2 hb
  replace HB := Lib.hid (lift HB.out hb)
  clear hb
  go_wp2_with fail
  refine (small19_any An Ae cn ce ns es w2).mono ?_
  rintro e w3 ⟨rfl, hb⟩
  replace c0 := cellAt c0 hb (by omega)
  replace c1 := cellAt c1 hb (by omega)
  replace c2 := cellAt c2 hb (by omega)
  replace c3 := cellAt c3 hb (by omega)
  replace HG := Lib.hid (HG.out.at hb)
  replace HN := Lib.hid (HN.out.at hb)
  replace n1 : w.heap.size < w3.heap.size := ltAt n1 hb
  replace n2 : (w.heap.size + 1) < w3.heap.size := ltAt n2 hb
  replace HB := Lib.hid (lift HB.out hb)
  clear hb
  cases hsm : small19 ns es
  · skip
    go_wp2_with fail
    go_ret
    exact ⟨rfl, HB.out⟩
  · skip
    obtain ⟨hel, hnl⟩ := small19_iff.1 hsm
    clear hsm
    go_wp2_with fail
    refine (Build_any An Ae Au Ah cn ce cu ch ns es up half u t w3 HG.out HN.out hnl hel hof).mono ?_
    rintro e w4 ⟨A4, c4, rfl, ho4, hb⟩
    have HJ := Lib.hid (own_rd' ho4)
    replace c0 := cellAt c0 hb (by omega)
    replace c1 := cellAt c1 hb (by omega)
    replace c2 := cellAt c2 hb (by omega)
    replace c3 := cellAt c3 hb (by omega)
    replace HG := Lib.hid (HG.out.at hb)
    replace HN := Lib.hid (HN.out.at hb)
    replace n1 : w.heap.size < w4.heap.size := ltAt n1 hb
    replace n2 : (w.heap.size + 1) < w4.heap.size := ltAt n2 hb
    replace HB := Lib.hid (lift HB.out hb)
    clear hb ho4
    by_cases he : (madeT ns es up half (u, t)).err = 0
    · skip
      have hleft := made_left he
      have HMay := Lib.hid hleft.may
      have hlen := madeT_len ns es up half (u, t)
      have hjl := jobsT_len up half (madeT ns es up half (u, t)).l
      have hgl := hleft.ok.len
      have HGone := Lib.hid (fun W hG hN => Gone_any An Ae Au Ah cn ce cu ch ns es up half u t W hG hN hnl hel hof)
      have HGk := Lib.hid (fun p (hp : p ∈ (madeT ns es up half (u, t)).gone) => okJ_cand HG.out.oke (p.1, p.2.1) (hleft.ok.cand p hp))
      have HEq := Lib.hid hleft.eq.symm
      have HOk := Lib.hid (madeT_keys (ns := ns) (up := up) (half := half) (k := (u, t)) HG.out.oke hof)
      have hbe : ((madeT ns es up half (u, t)).err != 0) = false := by rw [he]; rfl
      have HNeed := Lib.hid (fun (p : Pl) hp hb (v : Str) hv => hleft.needs (p := p) hp hb (v := v) hv)
      have HApart := Lib.hid (fun (p : Pl) hp hb (o : Str) ho => hleft.apart (p := p) hp hb (o := o) ho)
      have HEnds := Lib.hid (fun (e : Ed) (h : e ∈ es) => And.intro (may_name HMay.out (may_ends HMay.out h).1) (may_name HMay.out (may_ends HMay.out h).2))
      clear hleft he
      generalize madeT ns es up half (u, t) = T at *
      generalize T.err = te at *
      generalize T.l = tl at *
      have HGet := Lib.hid (fun s => sFg_get (up := up) (half := half) (l := tl) s)
      have HJm := Lib.hid (fun j (hj : j ∈ jobsT up half tl) => mem_jobsT.1 hj)
      generalize jobsT up half tl = J at *
      have hJL : J.length < maxLen := by unfold maxLen; omega
      have HJL := Lib.hid hJL
      clear hJL
      have HB4 := Lib.hid HB.out
      go_wp2_with fail
      have hmp : MapIs strK (w4.alloc (.map #[] 0)) w4.heap.size 0 (sFg (setU up half tl) []) := by
        have h := MapIs.made strK w4
        rwa [sFg_nil (setU up half tl)] at h
      have HM0 := Lib.hid hmp
      clear hmp
      go_loopw [40] (fun i wr => ∃ k : Nat, k ≤ J.length ∧ i = .int .i64 k ∧ Hid (MapIs strK wr w4.heap.size k (sFg (setU up half tl) ((J.take k).map (·.1)))) ∧ Hid (Below w4.heap.size w4 wr)) (fun i _ => J.length - (intOf i).toNat)
      case atStart => exact ⟨0, Nat.zero_le _, rfl, HM0, (Below.refl _ _).alloc (Nat.le_refl _) _⟩
      case round =>
        obtain ⟨k, hk, rfl, HMk, HBk⟩ := hrel
        have hz5 := HBk.out.size
        have hmlt := HMk.out.lt
        by_cases hlt : k < J.length
        · obtain ⟨b2, o2, hA, hB2, x0, x1, x2, x3⟩ := (HJ.out.at HBk.out).job hlt
          subst hA
          have htk : (J.take (k + 1)).map (·.1) = (J.take k).map (·.1) ++ [J[k].1] := by rw [List.take_succ_eq_append_getElem hlt, List.map_append]; rfl
          have hjm := HJm.out _ (List.getElem_mem hlt)
          generalize J[k] = p at x0 x1 x2 x3 htk hjm
          obtain ⟨s, t', r', d'⟩ := p
          simp only at x0 x1 x2 x3 htk hjm
          obtain ⟨⟨q, hq, hqs⟩, _, he⟩ := hjm
          have hty : setU up half tl s = t' := by injection he with _ he; injection he with he _; exact he.symm
          have hok : okS s := by rw [← hqs]; exact HOk.out q hq
          have hkm : k < maxLen := by have := HJL.out; omega
          have HTk := Lib.hid htk
          have HKm := Lib.hid hkm
          have HTy := Lib.hid hty
          have i1 : (0 : Int) ≤ (k : Int) := by omega
          have i2 : (k : Int) < (J.length : Int) := by omega
          clear htk hkm hq hqs he hty
          go_wp2_with (first
            | (at_mapUpdate; refine wpList_update_is _ (by rfl) (.tmp 44) (.tmp 46) (.tmp 48) 62 (by rfl) 3 Tryz.underlying62 w4.heap.size _ _ (by rfl) (HMk.out.alloc _) HKm.out s (.int .i64 t') (by rfl) (by rfl) hok ?_; intro w6 hm6 hg6; have HM6 := Lib.hid (setI_if hm6); have HB6 := Lib.hid ((HBk.out.alloc hz5 _).grown hg6 (by simp; omega) (fun g hg => by cases hg; exact Nat.le_refl _)); clear hm6 hg6)
            | fail)
          go_roundw
          case rel =>
            have h6 := HM6.out
            rw [← HTy.out, sFg_put, ← HTk.out] at h6
            exact ⟨k + 1, by omega, by go_num, h6, HB6⟩
          case measure => simp [intOf]; omega
        · obtain rfl : k = J.length := by omega
          obtain ⟨w5, rfl⟩ : ∃ wo : World, wo = wr := ⟨_, rfl⟩
          rw [List.take_length] at HMk
          have hbk := HBk.out
          have HMt := Lib.hid HMk.out
          replace c0 := cellAt c0 hbk (by omega)
          replace c1 := cellAt c1 hbk (by omega)
          replace c2 := cellAt c2 hbk (by omega)
          replace c3 := cellAt c3 hbk (by omega)
          replace HG := Lib.hid (HG.out.at hbk)
          replace HN := Lib.hid (HN.out.at hbk)
          replace n1 : w.heap.size < w5.heap.size := ltAt n1 hbk
          replace n2 : (w.heap.size + 1) < w5.heap.size := ltAt n2 hbk
          replace HB := Lib.hid (lift HB.out hbk)
          replace HJ := Lib.hid (HJ.out.at hbk)
          clear hbk HMk HM0
          go_wp2_with fail
          try go_wp2_with fail
          refine wp_region_held_drew (S := fun w' => Below w5.heap.size w5 w') (by kernel_rfl) (Below.drew (Below.refl _ _)) (fun hHeld => ?_)
          refine tY (i := 0) (v := ?_) rfl ?_ hHeld ?_; rotate_left 1; focus (intro w' hSw; have hCell := fun (b o : Nat) (h : b < w5.heap.size) => hSw.cell (p := ⟨b, o, none⟩) h; clear hSw; go_simp; try with_reducible rfl)
          (try simp only [Act.put, zn1, zn2, zn3])
          refine tY (i := 1) (v := ?_) rfl ?_ hHeld ?_; rotate_left 1; focus (intro w' hSw; have hCell := fun (b o : Nat) (h : b < w5.heap.size) => hSw.cell (p := ⟨b, o, none⟩) h; clear hSw; go_simp; try with_reducible rfl)
          (try simp only [Act.put, zn1, zn2, zn3])
          refine tY (i := 2) (v := ?_) rfl ?_ hHeld ?_; rotate_left 1; focus (intro w' hSw; clear hSw; go_simp; try with_reducible rfl)
          (try simp only [Act.put, zn1, zn2, zn3])
          refine tY (i := 3) (v := ?_) rfl ?_ hHeld ?_; rotate_left 1; focus (intro w' hSw; clear hSw; go_simp; try with_reducible rfl)
          (try simp only [Act.put, zn1, zn2, zn3])
          refine tY (i := 4) (v := ?_) rfl ?_ hHeld ?_; rotate_left 1; focus (intro w' hSw; have hCell := fun (b o : Nat) (h : b < w5.heap.size) => hSw.cell (p := ⟨b, o, none⟩) h; clear hSw; go_simp; try with_reducible rfl)
          (try simp only [Act.put, zn1, zn2, zn3])
          refine tY (i := 5) (v := ?_) rfl ?_ hHeld ?_; rotate_left 1; focus (intro w' hSw; have hCell := fun (b o : Nat) (h : b < w5.heap.size) => hSw.cell (p := ⟨b, o, none⟩) h; clear hSw; go_simp; try with_reducible rfl)
          (try simp only [Act.put, zn1, zn2, zn3])
          refine tY (i := 6) (v := ?_) rfl ?_ hHeld ?_; rotate_left 1; focus (intro w' hSw; clear hSw; go_simp; try with_reducible rfl)
          (try simp only [Act.put, zn1, zn2, zn3])
          refine tY (i := 7) (v := ?_) rfl ?_ hHeld ?_; rotate_left 1; focus (intro w' hSw; clear hSw; go_simp; try with_reducible rfl)
          (try simp only [Act.put, zn1, zn2, zn3])
          refine ready_one (i := 8) rfl (by kernel_rfl) (fun K hK => ?_)
          go_simp
          refine (HGone.out _ (HG.out.at hHeld) (HN.out.at hHeld)).mono ?_
          rintro e y1 ⟨A5, c5, rfl, ho5, hb⟩
          have HR5 := Lib.hid (own_rd' ho5)
          clear ho5
          refine hK.out _ _ ?_ (fun hHeld2 => ?_)
          · (try dsimp only); first | exact Below.trans hHeld (Below.mono hb hHeld.size) | exact hHeld | exact Below.drew hHeld | exact (by repeat (first | exact Below.refl _ _ | assumption | refine Below.alloc ?_ (by first | omega | (simp <;> omega)) _ | refine Below.setCell ?_ (by first | omega | (simp <;> omega)) _ | refine Below.drew ?_))
          clear hK K hHeld; have hHeld := hHeld2; clear hHeld2; (try simp only [Act.put, zn1, zn2, zn3])
          refine ready_one (i := 9) rfl (by kernel_rfl) (fun K hK => ?_)
          go_simp
          have hp5 := PAll_any An Ae Au Ah A5 cn ce cu ch c5 ns es up half T.gone u t _ (HG.out.at hHeld).rn (by omega) (HG.out.at hHeld).re (by omega) (HN.out.at hHeld).u (HN.out.at hHeld).h HR5.out (by omega) HG.out.oke hof HGk.out
          rw [HEq.out] at hp5
          refine hp5.mono ?_
          clear hp5
          rintro e y2 ⟨A6, c6, rfl, ho6, hb⟩
          have HR6 := Lib.hid (own_rd' ho6)
          have HCap := Lib.hid (own_cap ho6).1
          clear ho6 HR5
          refine hK.out _ _ ?_ (fun hHeld2 => ?_)
          · (try dsimp only); first | exact Below.trans hHeld (Below.mono hb hHeld.size) | exact hHeld | exact Below.drew hHeld | exact (by repeat (first | exact Below.refl _ _ | assumption | refine Below.alloc ?_ (by first | omega | (simp <;> omega)) _ | refine Below.setCell ?_ (by first | omega | (simp <;> omega)) _ | refine Below.drew ?_))
          clear hK K hHeld; have hHeld := hHeld2; clear hHeld2; (try simp only [Act.put, zn1, zn2, zn3])
          refine tY (i := 10) (v := ?_) rfl ?_ hHeld ?_; rotate_left 1; focus (intro w' hSw; clear hSw; go_simp; try with_reducible rfl)
          (try simp only [Act.put, zn1, zn2, zn3])
          refine wpAnyH_done (by kernel_rfl) ?_ _
          replace c0 := cellAt c0 hHeld (by omega)
          replace c1 := cellAt c1 hHeld (by omega)
          replace c2 := cellAt c2 hHeld (by omega)
          replace c3 := cellAt c3 hHeld (by omega)
          replace HG := Lib.hid (HG.out.at hHeld)
          replace HN := Lib.hid (HN.out.at hHeld)
          replace n1 : w.heap.size < y2.heap.size := ltAt n1 hHeld
          replace n2 : (w.heap.size + 1) < y2.heap.size := ltAt n2 hHeld
          replace HB := Lib.hid (lift HB.out hHeld)
          replace HJ := Lib.hid (HJ.out.at hHeld)
          replace HMt := Lib.hid (HMt.out.on hHeld)
          clear hHeld
          go_wp2_with fail
          go_loopw [62] (fun i wr => ∃ k : Nat, k ≤ tl.length ∧ i = .int .i64 k ∧ Hid (Below y2.heap.size y2 wr)) (fun i _ => tl.length - (intOf i).toNat)
          case atStart => exact ⟨0, Nat.zero_le _, rfl, Below.refl _ _⟩
          case round =>
            obtain ⟨k, hk, rfl, HBx⟩ := hrel
            obtain ⟨w7, rfl⟩ : ∃ wo : World, wo = wr := ⟨_, rfl⟩
            have hbx := HBx.out
            replace c0 := cellAt c0 hbx (by omega)
            replace c1 := cellAt c1 hbx (by omega)
            replace c2 := cellAt c2 hbx (by omega)
            replace c3 := cellAt c3 hbx (by omega)
            replace HG := Lib.hid (HG.out.at hbx)
            replace HN := Lib.hid (HN.out.at hbx)
            replace n1 : w.heap.size < w7.heap.size := ltAt n1 hbx
            replace n2 : (w.heap.size + 1) < w7.heap.size := ltAt n2 hbx
            replace HB := Lib.hid (lift HB.out hbx)
            replace HJ := Lib.hid (HJ.out.at hbx)
            replace HMt := Lib.hid (HMt.out.on hbx)
            replace HR6 := Lib.hid (HR6.out.at hbx)
            clear hbx
            have hz7 := HBx.out.size
            by_cases hlt : k < tl.length
            · obtain ⟨b3, o3, hA, hB3, x0, x1, x2, x3⟩ := HR6.out.pl hlt
              subst hA
              have hnd := fun hb v hv => HNeed.out _ (List.getElem_mem hlt) hb v hv
              have hap := fun hb o ho => HApart.out _ (List.getElem_mem hlt) hb o ho
              generalize tl[k] = p at x0 x1 x2 x3 hnd hap
              obtain ⟨s, t', n', b'⟩ := p
              simp only at x0 x1 x2 x3 hnd hap
              have HNd := Lib.hid hnd
              have HAp := Lib.hid hap
              have i1 : (0 : Int) ≤ (k : Int) := by omega
              have i2 : (k : Int) < (tl.length : Int) := by omega
              clear hnd hap
              by_cases hst : t' = 1 ∨ t' = 3
              · have HNs := Lib.hid (fun v hv => HNd.out hst v hv)
                have HAs := Lib.hid (fun o ho => HAp.out hst o ho)
                clear HNd HAp
                go_upto_region 18 with fail
                first | (refine wp_named ?_; intro W8 hW) | (refine calls_named ?_; intro W8 hW)
                have B8 : Below w7.heap.size w7 W8 := by rw [hW]; exact (by repeat (first | exact Below.refl _ _ | assumption | refine Below.alloc ?_ (by first | omega | (simp <;> omega)) _ | refine Below.setCell ?_ (by first | omega | (simp <;> omega)) _ | refine Below.drew ?_))
                replace c0 := cellAt c0 B8 (by omega)
                replace c1 := cellAt c1 B8 (by omega)
                replace c2 := cellAt c2 B8 (by omega)
                replace c3 := cellAt c3 B8 (by omega)
                replace HG := Lib.hid (HG.out.at B8)
                replace HN := Lib.hid (HN.out.at B8)
                replace n1 : w.heap.size < W8.heap.size := ltAt n1 B8
                replace n2 : (w.heap.size + 1) < W8.heap.size := ltAt n2 B8
                replace HB := Lib.hid (lift HB.out B8)
                replace HJ := Lib.hid (HJ.out.at B8)
                replace HMt := Lib.hid (HMt.out.on B8)
                replace HR6 := Lib.hid (HR6.out.at B8)
                have m8 : w7.heap.size < W8.heap.size := by rw [hW]; simp <;> omega
                have y0 : W8.cell? ⟨w7.heap.size, 0, none⟩ = some (sv s) := by rw [hW]; go_simp
                have y1 : W8.cell? ⟨w7.heap.size, 1, none⟩ = some (.int .i64 t') := by rw [hW]; go_simp
                clear hW
                have HB8 := Lib.hid (lift HBx.out B8)
                clear B8 x0 x1 x2 x3
                go_cut [73] (fun v wx => v = .bool false ∧ wx = W8)
                case first =>
                  as_aux_lemma =>
                    rcases hst with rfl | rfl
                    · go_wp2_with fail
                      go_meet
                      exact ⟨rfl, rfl⟩
                    · go_wp2_with fail
                      go_meet
                      exact ⟨rfl, rfl⟩
                case rest =>
                  obtain ⟨rfl, hwc⟩ := hcut
                  subst hwc
                  clear hst
                  go_wp2_with fail
                  go_loopw [77] (fun i wr => ∃ j : Nat, j ≤ es.length ∧ i = .int .i64 j ∧ Hid (Below wc.heap.size wc wr)) (fun i _ => es.length - (intOf i).toNat)
                  case atStart => exact ⟨0, Nat.zero_le _, rfl, Below.refl _ _⟩
                  case round =>
                    obtain ⟨j, hj, rfl, HBy⟩ := hrel
                    obtain ⟨w9, rfl⟩ : ∃ wo : World, wo = wr := ⟨_, rfl⟩
                    have hby := HBy.out
                    replace c0 := cellAt c0 hby (by omega)
                    replace c1 := cellAt c1 hby (by omega)
                    replace c2 := cellAt c2 hby (by omega)
                    replace c3 := cellAt c3 hby (by omega)
                    replace y0 := cellAt y0 hby (by omega)
                    replace y1 := cellAt y1 hby (by omega)
                    replace HG := Lib.hid (HG.out.at hby)
                    replace HN := Lib.hid (HN.out.at hby)
                    replace n1 : w.heap.size < w9.heap.size := ltAt n1 hby
                    replace n2 : (w.heap.size + 1) < w9.heap.size := ltAt n2 hby
                    replace HB := Lib.hid (lift HB.out hby)
                    replace HJ := Lib.hid (HJ.out.at hby)
                    replace HMt := Lib.hid (HMt.out.on hby)
                    replace HR6 := Lib.hid (HR6.out.at hby)
                    replace m8 : w7.heap.size < w9.heap.size := ltAt m8 hby
                    clear hby
                    have hz9 := HBy.out.size
                    by_cases hlt2 : j < es.length
                    · obtain ⟨b4, o4, hA4, hB4, v0, v1, v2⟩ := HG.out.re.edge hlt2
                      have hem := List.getElem_mem hlt2
                      subst hA4
                      generalize es[j] = x at v0 v1 v2 hem
                      obtain ⟨a, d, r⟩ := x
                      simp only at v0 v1 v2
                      have hoka := (HG.out.oke _ hem).1
                      have hokd := (HG.out.oke _ hem).2
                      have hnea : (a == ([] : Str)) = false := by simpa using (HEnds.out _ hem).1
                      have hned : (d == ([] : Str)) = false := by simpa using (HEnds.out _ hem).2
                      have HEm := Lib.hid hem
                      have j1 : (0 : Int) ≤ (j : Int) := by omega
                      have j2 : (j : Int) < (es.length : Int) := by omega
                      clear hem
                      simp only at hoka hokd
                      go_upto_region 22 with fail
                      first | (refine wp_named ?_; intro X1 hW) | (refine calls_named ?_; intro X1 hW)
                      have D1 : Below w9.heap.size w9 X1 := by rw [hW]; exact (by repeat (first | exact Below.refl _ _ | assumption | refine Below.alloc ?_ (by first | omega | (simp <;> omega)) _ | refine Below.setCell ?_ (by first | omega | (simp <;> omega)) _ | refine Below.drew ?_))
                      replace c0 := cellAt c0 D1 (by omega)
                      replace c1 := cellAt c1 D1 (by omega)
                      replace c2 := cellAt c2 D1 (by omega)
                      replace c3 := cellAt c3 D1 (by omega)
                      replace y0 := cellAt y0 D1 (by omega)
                      replace y1 := cellAt y1 D1 (by omega)
                      replace HG := Lib.hid (HG.out.at D1)
                      replace HN := Lib.hid (HN.out.at D1)
                      replace n1 : w.heap.size < X1.heap.size := ltAt n1 D1
                      replace n2 : (w.heap.size + 1) < X1.heap.size := ltAt n2 D1
                      replace HB := Lib.hid (lift HB.out D1)
                      replace HJ := Lib.hid (HJ.out.at D1)
                      replace HMt := Lib.hid (HMt.out.on D1)
                      replace HR6 := Lib.hid (HR6.out.at D1)
                      replace m8 : w7.heap.size < X1.heap.size := ltAt m8 D1
                      have mx : w9.heap.size < X1.heap.size := by rw [hW]; simp <;> omega
                      have e0 : X1.cell? ⟨w9.heap.size, 0, none⟩ = some (sv a) := by rw [hW]; go_simp
                      have e1 : X1.cell? ⟨w9.heap.size, 1, none⟩ = some (sv d) := by rw [hW]; go_simp
                      have e2 : X1.cell? ⟨w9.heap.size, 2, none⟩ = some (.int .i64 r) := by rw [hW]; go_simp
                      clear hW
                      have HBv := Lib.hid (lift HBy.out D1)
                      clear D1 v0 v1 v2
                      by_cases r1 : r = 1
                      · subst r1
                        cases eF : (a == s)
                        · skip
                          as_aux_lemma =>
                            go_wp2_with fail
                            go_roundw
                            case rel => exact ⟨j + 1, by omega, by go_num, HBv⟩
                            case measure => simp [intOf]; omega
                        · skip
                          as_aux_lemma =>
                            have hnd := HNs.out d (by rw [beq_iff_eq] at eF; rw [← eF]; exact .inl HEm.out)
                            generalize hgd : setU up half tl d = gd at *
                            have HGd := Lib.hid hgd
                            have g2 : (gd == 2) = false := by simpa using hnd.1
                            have HN0 := Lib.hid hnd.2
                            clear hgd hnd
                            by_cases h0 : gd = 0
                            · have hup := HN0.out h0
                              subst h0
                              go_wp2_with (first
                                | (at_lookup; refine wpList_lookup_is _ (by rfl) (.tmp 96) (.tmp 98) 62 (by rfl) 3 Tryz.underlying62 (.int .i64 0) (zeroI _) w4.heap.size _ _ (by rfl) HMt.out d (by rfl) hokd ?_; rw [HGet.out, HGd.out])
                                | fail)
                              refine (HasS_any Au cu up d X1 HN.out.u.rd HN.out.u.len).mono ?_
                              rintro e z1 ⟨rfl, rfl⟩
                              rw [hup]
                              go_wp2_with fail
                              go_roundw
                              case rel => exact ⟨j + 1, by omega, by go_num, HBv⟩
                              case measure => simp [intOf]; omega
                            · have g0 : (gd == 0) = false := by simpa using h0
                              clear h0
                              go_wp2_with (first
                                | (at_lookup; refine wpList_lookup_is _ (by rfl) (.tmp 96) (.tmp 98) 62 (by rfl) 3 Tryz.underlying62 (.int .i64 0) (zeroI _) w4.heap.size _ _ (by rfl) HMt.out d (by rfl) hokd ?_; rw [HGet.out, HGd.out])
                                | fail)
                              go_wp2_with fail
                              go_roundw
                              case rel => exact ⟨j + 1, by omega, by go_num, HBv⟩
                              case measure => simp [intOf]; omega
                      · by_cases r4 : r = 4
                        · subst r4
                          cases eF : (a == s)
                          · skip
                            as_aux_lemma =>
                              go_wp2_with fail
                              go_roundw
                              case rel => exact ⟨j + 1, by omega, by go_num, HBv⟩
                              case measure => simp [intOf]; omega
                          · skip
                            as_aux_lemma =>
                              have hnd := HNs.out d (by rw [beq_iff_eq] at eF; rw [← eF]; exact .inr HEm.out)
                              generalize hgd : setU up half tl d = gd at *
                              have HGd := Lib.hid hgd
                              have g2 : (gd == 2) = false := by simpa using hnd.1
                              have HN0 := Lib.hid hnd.2
                              clear hgd hnd
                              by_cases h0 : gd = 0
                              · have hup := HN0.out h0
                                subst h0
                                go_wp2_with (first
                                  | (at_lookup; refine wpList_lookup_is _ (by rfl) (.tmp 96) (.tmp 98) 62 (by rfl) 3 Tryz.underlying62 (.int .i64 0) (zeroI _) w4.heap.size _ _ (by rfl) HMt.out d (by rfl) hokd ?_; rw [HGet.out, HGd.out])
                                  | fail)
                                refine (HasS_any Au cu up d X1 HN.out.u.rd HN.out.u.len).mono ?_
                                rintro e z1 ⟨rfl, rfl⟩
                                rw [hup]
                                go_wp2_with fail
                                go_roundw
                                case rel => exact ⟨j + 1, by omega, by go_num, HBv⟩
                                case measure => simp [intOf]; omega
                              · have g0 : (gd == 0) = false := by simpa using h0
                                clear h0
                                go_wp2_with (first
                                  | (at_lookup; refine wpList_lookup_is _ (by rfl) (.tmp 96) (.tmp 98) 62 (by rfl) 3 Tryz.underlying62 (.int .i64 0) (zeroI _) w4.heap.size _ _ (by rfl) HMt.out d (by rfl) hokd ?_; rw [HGet.out, HGd.out])
                                  | fail)
                                go_wp2_with fail
                                go_roundw
                                case rel => exact ⟨j + 1, by omega, by go_num, HBv⟩
                                case measure => simp [intOf]; omega
                        · by_cases r6 : r = 6
                          · subst r6
                            cases eT : (d == s)
                            · cases eF : (a == s)
                              · skip
                                as_aux_lemma =>
                                  go_wp2_with fail
                                  go_roundw
                                  case rel => exact ⟨j + 1, by omega, by go_num, HBv⟩
                                  case measure => simp [intOf]; omega
                              · have hap := HAs.out d (by rw [beq_iff_eq] at eF; rw [← eF]; exact .inl HEm.out)
                                as_aux_lemma =>
                                  generalize hgd : setU up half tl d = gd at *
                                  have HGd := Lib.hid hgd
                                  clear hgd
                                  rcases hap with rfl | ⟨rfl, hup, hha⟩
                                  · go_wp2_with (first
                                      | (at_lookup; refine wpList_lookup_is _ (by rfl) (.tmp 140) (.tmp 141) 62 (by rfl) 3 Tryz.underlying62 (.int .i64 0) (zeroI _) w4.heap.size _ _ (by rfl) HMt.out d (by rfl) hokd ?_; rw [HGet.out, HGd.out])
                                      | fail)
                                    go_wp2_with fail
                                    go_roundw
                                    case rel => exact ⟨j + 1, by omega, by go_num, HBv⟩
                                    case measure => simp [intOf]; omega
                                  · go_wp2_with (first
                                      | (at_lookup; refine wpList_lookup_is _ (by rfl) (.tmp 140) (.tmp 141) 62 (by rfl) 3 Tryz.underlying62 (.int .i64 0) (zeroI _) w4.heap.size _ _ (by rfl) HMt.out d (by rfl) hokd ?_; rw [HGet.out, HGd.out])
                                      | fail)
                                    refine (HasS_any Au cu up d X1 HN.out.u.rd HN.out.u.len).mono ?_
                                    rintro e z1 ⟨rfl, rfl⟩
                                    rw [hup]
                                    go_wp2_with fail
                                    refine (HasS_any Ah ch half d X1 HN.out.h.rd HN.out.h.len).mono ?_
                                    rintro e z1 ⟨rfl, rfl⟩
                                    rw [hha]
                                    go_wp2_with fail
                                    go_roundw
                                    case rel => exact ⟨j + 1, by omega, by go_num, HBv⟩
                                    case measure => simp [intOf]; omega
                            · have hap := HAs.out a (by rw [beq_iff_eq] at eT; rw [← eT]; exact .inr HEm.out)
                              cases eF : (a == s)
                              · skip
                                as_aux_lemma =>
                                  generalize hgd : setU up half tl a = gd at *
                                  have HGd := Lib.hid hgd
                                  clear hgd
                                  rcases hap with rfl | ⟨rfl, hup, hha⟩
                                  · go_wp2_with (first
                                      | (at_lookup; refine wpList_lookup_is _ (by rfl) (.tmp 140) (.tmp 141) 62 (by rfl) 3 Tryz.underlying62 (.int .i64 0) (zeroI _) w4.heap.size _ _ (by rfl) HMt.out a (by rfl) hoka ?_; rw [HGet.out, HGd.out])
                                      | fail)
                                    go_wp2_with fail
                                    go_roundw
                                    case rel => exact ⟨j + 1, by omega, by go_num, HBv⟩
                                    case measure => simp [intOf]; omega
                                  · go_wp2_with (first
                                      | (at_lookup; refine wpList_lookup_is _ (by rfl) (.tmp 140) (.tmp 141) 62 (by rfl) 3 Tryz.underlying62 (.int .i64 0) (zeroI _) w4.heap.size _ _ (by rfl) HMt.out a (by rfl) hoka ?_; rw [HGet.out, HGd.out])
                                      | fail)
                                    refine (HasS_any Au cu up a X1 HN.out.u.rd HN.out.u.len).mono ?_
                                    rintro e z1 ⟨rfl, rfl⟩
                                    rw [hup]
                                    go_wp2_with fail
                                    refine (HasS_any Ah ch half a X1 HN.out.h.rd HN.out.h.len).mono ?_
                                    rintro e z1 ⟨rfl, rfl⟩
                                    rw [hha]
                                    go_wp2_with fail
                                    go_roundw
                                    case rel => exact ⟨j + 1, by omega, by go_num, HBv⟩
                                    case measure => simp [intOf]; omega
                              · skip
                                as_aux_lemma =>
                                  generalize hgd : setU up half tl a = gd at *
                                  have HGd := Lib.hid hgd
                                  clear hgd
                                  rcases hap with rfl | ⟨rfl, hup, hha⟩
                                  · go_wp2_with (first
                                      | (at_lookup; refine wpList_lookup_is _ (by rfl) (.tmp 140) (.tmp 141) 62 (by rfl) 3 Tryz.underlying62 (.int .i64 0) (zeroI _) w4.heap.size _ _ (by rfl) HMt.out a (by rfl) hoka ?_; rw [HGet.out, HGd.out])
                                      | fail)
                                    go_wp2_with fail
                                    go_roundw
                                    case rel => exact ⟨j + 1, by omega, by go_num, HBv⟩
                                    case measure => simp [intOf]; omega
                                  · go_wp2_with (first
                                      | (at_lookup; refine wpList_lookup_is _ (by rfl) (.tmp 140) (.tmp 141) 62 (by rfl) 3 Tryz.underlying62 (.int .i64 0) (zeroI _) w4.heap.size _ _ (by rfl) HMt.out a (by rfl) hoka ?_; rw [HGet.out, HGd.out])
                                      | fail)
                                    refine (HasS_any Au cu up a X1 HN.out.u.rd HN.out.u.len).mono ?_
                                    rintro e z1 ⟨rfl, rfl⟩
                                    rw [hup]
                                    go_wp2_with fail
                                    refine (HasS_any Ah ch half a X1 HN.out.h.rd HN.out.h.len).mono ?_
                                    rintro e z1 ⟨rfl, rfl⟩
                                    rw [hha]
                                    go_wp2_with fail
                                    go_roundw
                                    case rel => exact ⟨j + 1, by omega, by go_num, HBv⟩
                                    case measure => simp [intOf]; omega
                          · have b1 : (r == 1) = false := by simpa using r1
                            have b4 : (r == 4) = false := by simpa using r4
                            have b6 : (r == 6) = false := by simpa using r6
                            clear r1 r4 r6
                            cases eF : (a == s)
                            · skip
                              as_aux_lemma =>
                                go_wp2_with fail
                                go_roundw
                                case rel => exact ⟨j + 1, by omega, by go_num, HBv⟩
                                case measure => simp [intOf]; omega
                            · skip
                              as_aux_lemma =>
                                go_wp2_with fail
                                go_roundw
                                case rel => exact ⟨j + 1, by omega, by go_num, HBv⟩
                                case measure => simp [intOf]; omega
                    · obtain rfl : j = es.length := by omega
                      have HB9 := Lib.hid (lift HB8.out HBy.out)
                      go_wp2_with fail
                      go_roundw
                      case rel => exact ⟨k + 1, by omega, by go_num, HB9⟩
                      case measure => simp [intOf]; omega
              · have e1 : (t' != 1) = true := by simp [bne]; exact fun h => hst (.inl h)
                have e3 : (t' != 3) = true := by simp [bne]; exact fun h => hst (.inr h)
                clear hst HNd HAp
                go_wp2_with fail
                go_roundw
                case rel => exact ⟨k + 1, by omega, by go_num, HBx.out.alloc hz7 _⟩
                case measure => simp [intOf]; omega
            · obtain rfl : k = tl.length := by omega
              go_wp2_with fail
              go_ret
              exact ⟨rfl, HB.out⟩
    · have hne : ((madeT ns es up half (u, t)).err != 0) = true := by simp [bne, he]
      clear he
      generalize (madeT ns es up half (u, t)).err = te at *
      generalize (jobsT up half (madeT ns es up half (u, t)).l).length = jl at *
      go_wp2_with fail
      go_ret
      exact ⟨rfl, HB.out⟩
end Od
end Go.Proofs.YtbllehjhmfehbaaGreat
end
