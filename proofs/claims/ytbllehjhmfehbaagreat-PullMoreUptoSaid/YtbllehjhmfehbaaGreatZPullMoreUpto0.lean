/- My texts, joined for the claim: FrameUP LpD. -/
import Derived.Test.YtbllehjhmfehbaaGreatZB15
import Derived.Deep.CondSized
import Derived.Test.YtbllehjhmfehbaaGreatZB0
import Derived.Deep.DeepCutAuto

section
/- What the bound of a statement's second form gives for rows of texts that came in, and for who is up. -/
namespace Go.Proofs.YtbllehjhmfehbaaGreat
open Go.ChangeShapes Go.WideShapes Go.ChangeAt Go.RowKit Go.Deep
section
variable {H : Type} {enc : TypeId × Value → H}
theorem bulk_one (d : DataW H) : 1 ≤ Rows.uptoBulk d := by
  cases d with
  | lit l => cases l <;> simp [Rows.uptoBulk]
  | nil => simp [Rows.uptoBulk]
  | ptr d => simp [Rows.uptoBulk]
  | slice elems spare => simp [Rows.uptoBulk]
  | agg parts => simp [Rows.uptoBulk]
  | iface t d => simp [Rows.uptoBulk]
  | map entries => simp [Rows.uptoBulk]
  | held h => simp [Rows.uptoBulk]
theorem bulk_len (l : List (DataW H)) : l.length ≤ Rows.uptoBulkAll l := by
  induction l with
  | nil => simp [Rows.uptoBulkAll]
  | cons x r ih => have := bulk_one x; simp only [Rows.uptoBulkAll, List.length_cons]; omega
theorem bulk_part {d : DataW H} {l : List (DataW H)} (h : d ∈ l) : Rows.uptoBulk d ≤ Rows.uptoBulkAll l := by
  induction l with
  | nil => cases h
  | cons x r ih =>
    simp only [Rows.uptoBulkAll]
    rcases List.mem_cons.1 h with e | e
    · subst e; omega
    · have := ih e; omega
theorem bulk_small {d : DataW H} {l : List (DataW H)} (hk : Rows.uptoSmall H l = true) (h : d ∈ l) : Rows.uptoBulk d ≤ 1048576 := by
  have h1 := of_decide_eq_true hk
  exact Nat.le_trans (bulk_part h) h1
theorem open_rd_bulk {P : Program} {W : World} {t e : TypeId} {fuel : Nat} {A : Option Addr} {len c : Nat} {y : DataW H × List MemPlace} (ht : P.underlying t = some (.slice e))
    (h : DataW.trod enc P W 0 (fun _ => true) true fuel t [.slice A len c] = some y) : len ≤ Rows.uptoBulk y.1 := by
  rcases open_slice ht h with ⟨hcs, _⟩ | ⟨a, len', cap, m, n, D, Pl, hcs, _, hl, hm, hmm, hx, hi⟩
  · simp only [List.cons.injEq, and_true, Value.slice.injEq] at hcs
    omega
  · simp only [List.cons.injEq, and_true, Value.slice.injEq] at hcs
    obtain ⟨_, rfl, _⟩ := hcs
    rw [hx]
    simp only [Rows.uptoBulk]
    have := bulk_len (H := H) ((List.range len).map D)
    simp only [List.length_map, List.length_range] at this
    omega
theorem strs_bulk {W : World} {A : Option Addr} {len c : Nat} {d : DataW H} {p : List MemPlace} (h : DataW.Trod enc Tryz.prog W 0 (fun _ => true) true 26 (.slice A len c) d p) : len ≤ Rows.uptoBulk d := by
  obtain ⟨fuel, hf⟩ := h
  exact open_rd_bulk Tryz.underlying26 hf
set_option maxRecDepth 100000 in
/-- Who is up is no longer than the bulk of the whole. -/
theorem now_bulk {r : Reach} {b0 : Nat} {W : World} {Au Ah : Option Addr} {lu lh cu ch : Nat} {d : DataW H} {p : List MemPlace} (hv : Value.okWide Tryz.prog W r b0 28 (.agg #[.slice Au lu cu, .slice Ah lh ch])) (h : DataW.Trod enc Tryz.prog W 0 (fun _ => true) true 28 (.agg #[.slice Au lu cu, .slice Ah lh ch]) d p) : lu ≤ Rows.uptoBulk d := by
  obtain ⟨v0, v1, y0, y1, n, he, rfl, rfl, h0, h1⟩ := Joins.open_agg2 Tryz.underlying28 (by kernel_rfl) (by kernel_rfl) hv h
  obtain ⟨rfl, rfl⟩ : v0 = .slice Au lu cu ∧ v1 = .slice Ah lh ch := by
    injection he with he
    injection he with he
    injection he with e1 e2
    injection e2 with e2 _
    exact ⟨e1.symm, e2.symm⟩
  have h2 := open_rd_bulk Tryz.underlying26 h0
  refine Nat.le_trans h2 ?_
  simp only [Rows.uptoBulk, Rows.uptoBulkAll]
  omega
end
end Go.Proofs.YtbllehjhmfehbaaGreat
end

section
/- The walk of the law PullMore, of rows that are not too long. (bel2) -/
namespace Go.Proofs.YtbllehjhmfehbaaGreat
open Go.RowKit Go.Sort Go.Maps
set_option linter.unusedSimpArgs false
namespace Od

theorem key_one {l : List Pl} (h : SS ltJ (l.map keyP)) {p q : Pl} (hp : p ∈ l) (hq : q ∈ l) (e : keyP p = keyP q) : p = q := by
  obtain ⟨i, hi, rfl⟩ := List.mem_iff_getElem.1 hp
  obtain ⟨j, hj, rfl⟩ := List.mem_iff_getElem.1 hq
  have hpw := List.pairwise_iff_getElem.1 (List.pairwise_map.1 h)
  rcases Nat.lt_trichotomy i j with h1 | h1 | h1
  · have h2 := hpw i j hi hj h1
    rw [e, toJ.irrefl] at h2; cases h2
  · subst h1; rfl
  · have h2 := hpw j i hj hi h1
    rw [e, toJ.irrefl] at h2; cases h2
theorem more_need {ns : List Nd} {es : List Ed} {up up' half : List Str} {first : Jp} (hu : ∀ s ∈ up, s ∈ up') {p q : Pl} (hp : p ∈ pullQ ns es up half first []) (hq : q ∈ pullQ ns es up' half first []) (e : keyP q = keyP p) : p.2.2.1 = true → q.2.2.1 = true := by
  obtain ⟨q', hq', e2, h⟩ := pull_more hu hp
  have : q = q' := key_one (pullQ_nd _ _ _ _ _ _) hq hq' (e.trans e2.symm)
  subst this; exact h
section
variable {P : Program} {ops : Array Oper} {Q : Exit → Act → World → Prop} {md : Region.Mode} {S : World → Prop}
variable {i j : Nat} {dst dst2 : Option Tmp} {op op2 : Op} {ty ty2 : TypeId} {pos pos2 : String} {aft aft2 : Array Edge} {grd grd2 : Option (Nat × Bool)} {fuel : Nat} {listed : Array Bool} {a : Act} {w : World}
theorem ready_two (hi : ops[i]? = some ⟨dst, op, ty, pos, aft, grd⟩) (hj : ops[j]? = some ⟨dst2, op2, ty2, pos2, aft2, grd2⟩) (hr : Region.ready md ops listed = [i, j])
    (h : ∀ K' : Act → World → Prop, Shut (∀ a w, S w → (S w → wpAnyH P md ops Q S fuel (listed.setIfInBounds i true) a w) → K' a w) → if Region.wanted ⟨dst, op, ty, pos, aft, grd⟩ (yielded ops a.tmps) = true then Oper.wp P ⟨dst, op, ty, pos, aft, grd⟩ a w K' Q else K' (a.put dst undef) w)
    (h2 : ∀ K' : Act → World → Prop, Shut (∀ a w, S w → (S w → wpAnyH P md ops Q S fuel (listed.setIfInBounds j true) a w) → K' a w) → if Region.wanted ⟨dst2, op2, ty2, pos2, aft2, grd2⟩ (yielded ops a.tmps) = true then Oper.wp P ⟨dst2, op2, ty2, pos2, aft2, grd2⟩ a w K' Q else K' (a.put dst2 undef) w) :
    wpAnyH P md ops Q S (fuel + 1) listed a w :=
  wpAnyH_ready hr (by simp) (AllReadyH.cons hi h (AllReadyH.cons hj h2 AllReadyH.nil))
end
set_option maxRecDepth 100000 in
set_option maxHeartbeats 32000000 in
theorem pullMore_any (An Ae Au Ah Am : Option Addr) (cn ce cu ch cm : Nat) (ns : List Nd) (es : List Ed) (up half more : List Str) (u : Str) (t : Int) (w : World) (hg : GIw w An Ae ns es) (hn : NIn w Au Ah up half) (hmr : Rd w w.heap.size 1 Am more.length (svs more)) (hul : up.length ≤ 1048576) (hml : more.length ≤ 1048576) (hof : okJ (u, t)) :
    Calls Tryz.prog 7 #[gV An ns.length cn Ae es.length ce, nowV Au up.length cu Ah half.length ch, .slice Am more.length cm, sv u, .int .i64 t] w fun e w' => e = .returned (.bool true) ∧ Below w.heap.size w w' := by
  obtain ⟨s0, hs, hs0, hs1, hs2⟩ := info_parts infoS
  have HG := Lib.hid hg
  have HN := Lib.hid hn
  have HMr := Lib.hid hmr
  clear hg hn hmr
  go_enter Tryz.func7, Tryz.ntmps7
  go_wp2_with fail
  first | (refine wp_named ?_; intro W1 hW) | (refine calls_named ?_; intro W1 hW)
  have B1 : Below w.heap.size w W1 := by rw [hW]; exact (by repeat (first | exact Below.refl _ _ | assumption | refine Below.alloc ?_ (by first | omega | (simp <;> omega)) _ | refine Below.setCell ?_ (by first | omega | (simp <;> omega)) _ | refine Below.drew ?_))
  replace HMr := Lib.hid (HMr.out.at B1)
  replace HG := Lib.hid (HG.out.at B1)
  replace HN := Lib.hid (HN.out.at B1)
  have n1 : w.heap.size < W1.heap.size := by rw [hW]; simp <;> omega
  have n2 : (w.heap.size + 1) < W1.heap.size := by rw [hW]; simp <;> omega
  have c0 : W1.cell? ⟨w.heap.size, 0, none⟩ = some (.slice An ns.length cn) := by rw [hW]; go_simp
  have c1 : W1.cell? ⟨w.heap.size, 1, none⟩ = some (.slice Ae es.length ce) := by rw [hW]; go_simp
  have c2 : W1.cell? ⟨(w.heap.size + 1), 0, none⟩ = some (.slice Au up.length cu) := by rw [hW]; go_simp
  have c3 : W1.cell? ⟨(w.heap.size + 1), 1, none⟩ = some (.slice Ah half.length ch) := by rw [hW]; go_simp
  clear hW
  have HB := Lib.hid B1
  clear B1
  refine (shown17_any W1).mono ?_
  rintro e w2 ⟨rfl, hb⟩
  replace c0 := cellAt c0 hb (by omega)
  replace c1 := cellAt c1 hb (by omega)
  replace c2 := cellAt c2 hb (by omega)
  replace c3 := cellAt c3 hb (by omega)
  replace HMr := Lib.hid (HMr.out.at hb)
  replace HG := Lib.hid (HG.out.at hb)
  replace HN := Lib.hid (HN.out.at hb)
  replace n1 : w.heap.size < w2.heap.size := ltAt n1 hb
  replace n2 : (w.heap.size + 1) < w2.heap.size := ltAt n2 hb
  replace HB := Lib.hid (lift HB.out hb)
  clear hb
  go_wp2_with fail
  refine (small17_any An Ae cn ce ns es w2 HG.out).mono ?_
  rintro e w3 ⟨rfl, hb⟩
  replace c0 := cellAt c0 hb (by omega)
  replace c1 := cellAt c1 hb (by omega)
  replace c2 := cellAt c2 hb (by omega)
  replace c3 := cellAt c3 hb (by omega)
  replace HMr := Lib.hid (HMr.out.at hb)
  replace HG := Lib.hid (HG.out.at hb)
  replace HN := Lib.hid (HN.out.at hb)
  replace n1 : w.heap.size < w3.heap.size := ltAt n1 hb
  replace n2 : (w.heap.size + 1) < w3.heap.size := ltAt n2 hb
  replace HB := Lib.hid (lift HB.out hb)
  clear hb
  cases hsm : small17 ns es
  · skip
    go_wp2_with fail
    go_ret
    exact ⟨rfl, HB.out⟩
  · obtain ⟨hl, hmay⟩ := small17_iff.1 hsm
    have hnl := may_len hmay
    have HMay := Lib.hid hmay
    clear hmay hsm
    go_wp2_with fail
    refine (MayGB_any An Ae cn ce ns es w3 HG.out (by omega)).mono ?_
    rw [HMay.out]
    rintro e w4 ⟨rfl, hb⟩
    replace c0 := cellAt c0 hb (by omega)
    replace c1 := cellAt c1 hb (by omega)
    replace c2 := cellAt c2 hb (by omega)
    replace c3 := cellAt c3 hb (by omega)
    replace HMr := Lib.hid (HMr.out.at hb)
    replace HG := Lib.hid (HG.out.at hb)
    replace HN := Lib.hid (HN.out.at hb)
    replace n1 : w.heap.size < w4.heap.size := ltAt n1 hb
    replace n2 : (w.heap.size + 1) < w4.heap.size := ltAt n2 hb
    replace HB := Lib.hid (lift HB.out hb)
    clear hb
    have HK := Lib.hid (show up.length ≤ maxLen ∧ up.length * 16 ≤ 140737488355328 ∧ up.length + more.length ≤ maxLen ∧ (up.length + more.length) * 16 ≤ 140737488355328 by unfold maxLen; omega)
    go_wp2_with fail
    go_upto_region 5 with fail
    go_cut [11] (fun v wx => ∃ (tB : Nat) (A7 : Option Addr) (c7 : Nat), v = .pointer (some ⟨tB, 0, none⟩) ∧ Hid (tB < wx.heap.size) ∧ Hid (wx.cell? ⟨tB, 0, none⟩ = some (.slice A7 (up.length + more.length) c7)) ∧ Hid (wx.cell? ⟨tB, 1, none⟩ = some (.slice Ah half.length ch)) ∧ Hid (Rd wx wx.heap.size 1 A7 (up.length + more.length) (svs up ++ svs more)) ∧ Hid (Below w4.heap.size w4 wx))
    case first =>
      refine wp_region_held_drew (S := fun w' => Below w4.heap.size w4 w') (by kernel_rfl) (Below.drew (Below.refl _ _)) (fun hHeld => ?_)
      refine tY (i := 0) (v := ?_) rfl ?_ hHeld ?_; rotate_left 1; focus (intro w' hSw; clear hSw; go_simp; try with_reducible rfl)
      (try simp only [Act.put, zn1, zn2, zn3])
      refine tY (i := 1) (v := ?_) rfl ?_ hHeld ?_; rotate_left 1; focus (intro w' hSw; have hCell := fun (b o : Nat) (h : b < w4.heap.size) => hSw.cell (p := ⟨b, o, none⟩) h; clear hSw; go_simp; try with_reducible rfl)
      (try simp only [Act.put, zn1, zn2, zn3])
      refine tY (i := 3) (v := ?_) rfl ?_ hHeld ?_; rotate_left 1; focus (intro w' hSw; clear hSw; go_simp; try with_reducible rfl)
      (try simp only [Act.put, zn1, zn2, zn3])
      refine tY (i := 5) (v := ?_) rfl ?_ hHeld ?_; rotate_left 1; focus (intro w' hSw; clear hSw; go_simp; try with_reducible rfl)
      (try simp only [Act.put, zn1, zn2, zn3])
      refine tY (i := 6) (v := ?_) rfl ?_ hHeld ?_; rotate_left 1; focus (intro w' hSw; have hCell := fun (b o : Nat) (h : b < w4.heap.size) => hSw.cell (p := ⟨b, o, none⟩) h; clear hSw; go_simp; try with_reducible rfl)
      (try simp only [Act.put, zn1, zn2, zn3])
      refine ready_two (i := 2) (j := 8) rfl rfl (by kernel_rfl) (fun K hK => ?_) (fun K hK => ?_)
      · skip
        refine step_append_first _ (by rfl) (.const (.slice none 0 0)) (.tmp 28) 26 (by rfl) _ 9 s0 (.string ⟨#[]⟩) 1 16 Tryz.underlying26 hs hs0 hs1 hs2 rfl (by decide) (by rfl) _ Au up.length cu (svs up) (by rfl) (HN.out.u.rd.at' (Nat.le_refl _) hHeld) (one_svs up) HK.out.1 HK.out.2.1 (Nat.le_refl _) ?_
        intro A6 c6 y1 ho6 hb
        have HO6 := Lib.hid ho6
        have HB1 := Lib.hid hb
        clear ho6
        refine hK.out _ _ ?_ (fun hHeld2 => ?_)
        · (try dsimp only); exact (Below.trans hHeld (Below.mono hb hHeld.size))
        clear hK K hHeld; have hHeld := hHeld2; clear hHeld2; (try simp only [Act.put, zn1, zn2, zn3])
        clear hb
        refine ready_two (i := 4) (j := 8) rfl rfl (by kernel_rfl) (fun K hK => ?_) (fun K hK => ?_)
        · skip
          refine step_append_rd _ (by rfl) (.tmp 29) (.tmp 30) 26 (by rfl) w4.heap.size 9 s0 (.string ⟨#[]⟩) 1 16 Tryz.underlying26 hs hs0 hs1 hs2 rfl (by decide) (.slice A6 up.length c6) up.length (svs up) (by rfl) (own_base HO6.out (by simp)) _ Am more.length cm (svs more) (by rfl) (HMr.out.at hHeld) (one_svs more) HK.out.2.2.1 HK.out.2.2.2 hHeld.size ?_
          intro A7 c7 w7 ho7 hg7 hat7
          have hb7 := hHeld.grown hg7 hHeld.size (fun g hg => by have := (HO6.out.lt g hg).1; simp at this; omega)
          have HO7 := Lib.hid (own_rd' ho7)
          clear ho7 hat7
          refine hK.out _ _ ?_ (fun hHeld2 => ?_)
          · (try dsimp only); exact hb7
          clear hK K hHeld; have hHeld := hHeld2; clear hHeld2; (try simp only [Act.put, zn1, zn2, zn3])
          clear hb7
          refine tY (i := 7) (v := ?_) rfl ?_ hHeld ?_; rotate_left 1; focus (intro w' hSw; clear hSw; go_simp; try with_reducible rfl)
          (try simp only [Act.put, zn1, zn2, zn3])
          refine ready_one (i := 8) rfl (by kernel_rfl) (fun K hK => ?_)
          go_simp
          have hk7 := hHeld
          have hz7 := hHeld.size
          refine hK.out _ _ ?_ (fun hHeld2 => ?_)
          · (try dsimp only); exact ((by repeat (first | exact Below.refl _ _ | assumption | refine Below.alloc ?_ (by first | omega | (simp <;> omega)) _ | refine Below.setCell ?_ (by first | omega | (simp <;> omega)) _ | refine Below.drew ?_)))
          clear hK K hHeld; have hHeld := hHeld2; clear hHeld2; (try simp only [Act.put, zn1, zn2, zn3])
          refine ready_one (i := 9) rfl (by kernel_rfl) (fun K hK => ?_)
          go_simp
          refine hK.out _ _ ?_ (fun hHeld2 => ?_)
          · (try dsimp only); exact ((by repeat (first | exact Below.refl _ _ | assumption | refine Below.alloc ?_ (by first | omega | (simp <;> omega)) _ | refine Below.setCell ?_ (by first | omega | (simp <;> omega)) _ | refine Below.drew ?_)))
          clear hK K hHeld; have hHeld := hHeld2; clear hHeld2; (try simp only [Act.put, zn1, zn2, zn3])
          refine wpAnyH_done (by kernel_rfl) ?_ _
          go_wp2_with fail
          go_meet
          refine ⟨_, A7, c7, rfl, by simp [Hid], by show World.cell? _ _ = _; go_simp, by show World.cell? _ _ = _; go_simp, ?_, hHeld⟩
          exact HO7.out.at ((Below.refl _ _).alloc (Nat.le_refl _) _)
        · go_simp
          have hz1 := hHeld.size
          have HO6b := Lib.hid (own_alloc HO6.out (.cells #[.slice none 0 0, .slice none 0 0] 28))
          have hne : (Value.slice A6 up.length c6).ownBlock ≠ some y1.heap.size := fun e => by have := (HO6.out.lt _ e).2; omega
          have z0 : (y1.alloc (.cells #[.slice none 0 0, .slice none 0 0] 28)).cell? ⟨y1.heap.size, 0, none⟩ = some (.slice none 0 0) := by go_simp
          have z1 : (y1.alloc (.cells #[.slice none 0 0, .slice none 0 0] 28)).cell? ⟨y1.heap.size, 1, none⟩ = some (.slice none 0 0) := by go_simp
          have f0 : (y1.alloc (.cells #[.slice none 0 0, .slice none 0 0] 28)).frozen? ⟨y1.heap.size, 0, none⟩ = false := by go_simp
          have f1 : (y1.alloc (.cells #[.slice none 0 0, .slice none 0 0] 28)).frozen? ⟨y1.heap.size, 1, none⟩ = false := by go_simp
          have hwb : w4.heap.size ≤ y1.heap.size := hHeld.size
          have lz : y1.heap.size < (y1.alloc (.cells #[.slice none 0 0, .slice none 0 0] 28)).heap.size := by simp
          refine hK.out _ _ ?_ (fun hHeld2 => ?_)
          · (try dsimp only); exact ((by repeat (first | exact Below.refl _ _ | assumption | refine Below.alloc ?_ (by first | omega | (simp <;> omega)) _ | refine Below.setCell ?_ (by first | omega | (simp <;> omega)) _ | refine Below.drew ?_)))
          clear hK K hHeld; have hHeld := hHeld2; clear hHeld2; (try simp only [Act.put, zn1, zn2, zn3])
          generalize hwz : y1.alloc (.cells #[.slice none 0 0, .slice none 0 0] 28) = wz at *
          generalize htB : y1.heap.size = tB at *
          clear HO6 hwz
          have HO6 := HO6b
          refine ready_one (i := 4) rfl (by kernel_rfl) (fun K hK => ?_)
          refine step_append_rd _ (by rfl) (.tmp 29) (.tmp 30) 26 (by rfl) _ 9 s0 (.string ⟨#[]⟩) 1 16 Tryz.underlying26 hs hs0 hs1 hs2 rfl (by decide) (.slice A6 up.length c6) up.length (svs up) (by rfl) HO6.out _ Am more.length cm (svs more) (by rfl) (HMr.out.at hHeld) (one_svs more) HK.out.2.2.1 HK.out.2.2.2 (by first | exact hHeld.size | (simp; omega) | omega) ?_
          intro A7 c7 w7 ho7 hg7 hat7
          have hb7 := hHeld.grown hg7 hHeld.size (fun g hg => by have := (HO6.out.lt g hg).1; first | omega | (simp at this; omega))
          have HO7 := Lib.hid (own_rd' ho7)
          have z0 := cell_kept z0 hg7 lz hne
          have z1 := cell_kept z1 hg7 lz hne
          have f0 := fro_kept f0 hg7 lz hne
          have f1 := fro_kept f1 hg7 lz hne
          have hne7 : ∀ ad : Addr, 0 < up.length + more.length → A7 = some ad → tB ≠ ad.block := fun ad _ e h => by
            subst e
            rcases hat7 with h1 | h1
            · exact hne (h1.symm.trans (by rw [h]; rfl))
            · have h2 : some ad.block = some _ := h1
              injection h2 with h2
              omega
          have lz := Nat.lt_of_lt_of_le lz hg7.size
          clear ho7 hat7 hg7
          refine hK.out _ _ ?_ (fun hHeld2 => ?_)
          · (try dsimp only); exact hb7
          clear hK K hHeld; have hHeld := hHeld2; clear hHeld2; (try simp only [Act.put, zn1, zn2, zn3])
          clear hb7
          refine tY (i := 7) (v := ?_) rfl ?_ hHeld ?_; rotate_left 1; focus (intro w' hSw; clear hSw; go_simp; try with_reducible rfl)
          (try simp only [Act.put, zn1, zn2, zn3])
          refine ready_one (i := 9) rfl (by kernel_rfl) (fun K hK => ?_)
          go_simp
          refine hK.out _ _ ?_ (fun hHeld2 => ?_)
          · (try dsimp only); exact ((hHeld.setCell hwb _).setCell hwb _)
          clear hK K hHeld; have hHeld := hHeld2; clear hHeld2; (try simp only [Act.put, zn1, zn2, zn3])
          refine wpAnyH_done (by kernel_rfl) ?_ _
          go_wp2_with fail
          go_meet
          refine ⟨tB, A7, c7, rfl, ?_, ?_, ?_, ?_, hHeld⟩
          · show tB < _
            simp only [World.size_setCell]; exact lz
          · show World.cell? _ _ = _
            rw [World.cell?_setCell_other _ _ _ _ (by simp)]
            exact World.cell?_setCell_same _ _ _ z0
          · show World.cell? _ _ = _
            exact World.cell?_setCell_same _ _ _ ((World.cell?_setCell_other _ _ _ _ (by simp)).trans z1)
          · show Rd _ _ _ _ _ _
            simp only [World.size_setCell]
            exact (HO7.out.setCellF (p := ⟨tB, 0, none⟩) hne7 _).setCellF (p := ⟨tB, 1, none⟩) hne7 _
      · go_simp
        have z0 : ((w4.alloc (.cells #[.slice none 0 0, .slice none 0 0] 28)).drew).cell? ⟨w4.heap.size, 0, none⟩ = some (.slice none 0 0) := by go_simp
        have z1 : ((w4.alloc (.cells #[.slice none 0 0, .slice none 0 0] 28)).drew).cell? ⟨w4.heap.size, 1, none⟩ = some (.slice none 0 0) := by go_simp
        have f0 : ((w4.alloc (.cells #[.slice none 0 0, .slice none 0 0] 28)).drew).frozen? ⟨w4.heap.size, 0, none⟩ = false := by go_simp
        have f1 : ((w4.alloc (.cells #[.slice none 0 0, .slice none 0 0] 28)).drew).frozen? ⟨w4.heap.size, 1, none⟩ = false := by go_simp
        have lz : w4.heap.size < ((w4.alloc (.cells #[.slice none 0 0, .slice none 0 0] 28)).drew).heap.size := by simp
        have hwb : w4.heap.size ≤ w4.heap.size := Nat.le_refl _
        refine hK.out _ _ ?_ (fun hHeld2 => ?_)
        · (try dsimp only); exact ((by repeat (first | exact Below.refl _ _ | assumption | refine Below.alloc ?_ (by first | omega | (simp <;> omega)) _ | refine Below.setCell ?_ (by first | omega | (simp <;> omega)) _ | refine Below.drew ?_)))
        clear hK K hHeld; have hHeld := hHeld2; clear hHeld2; (try simp only [Act.put, zn1, zn2, zn3])
        generalize hwz : (w4.alloc (.cells #[.slice none 0 0, .slice none 0 0] 28)).drew = wz at *
        clear hwz
        have hws := hHeld.size
        refine ready_one (i := 2) rfl (by kernel_rfl) (fun K hK => ?_)
        refine step_append_first _ (by rfl) (.const (.slice none 0 0)) (.tmp 28) 26 (by rfl) _ 9 s0 (.string ⟨#[]⟩) 1 16 Tryz.underlying26 hs hs0 hs1 hs2 rfl (by decide) (by rfl) _ Au up.length cu (svs up) (by rfl) (HN.out.u.rd.at' (Nat.le_refl _) hHeld) (one_svs up) HK.out.1 HK.out.2.1 (Nat.le_refl _) ?_
        intro A6 c6 y1 ho6 hb
        have HO6 := Lib.hid ho6
        have HB1 := Lib.hid hb
        clear ho6
        refine hK.out _ _ ?_ (fun hHeld2 => ?_)
        · (try dsimp only); exact (Below.trans hHeld (Below.mono hb hHeld.size))
        clear hK K hHeld; have hHeld := hHeld2; clear hHeld2; (try simp only [Act.put, zn1, zn2, zn3])
        clear hb
        have hne : (Value.slice A6 up.length c6).ownBlock ≠ some w4.heap.size := fun e => by have := (HO6.out.lt _ e).1; omega
        have z0 := cellAt z0 HB1.out lz
        have z1 := cellAt z1 HB1.out lz
        have f0 := froAt f0 HB1.out lz
        have f1 := froAt f1 HB1.out lz
        have lz := ltAt lz HB1.out
        obtain ⟨tB, htB⟩ : ∃ tB, tB = w4.heap.size := ⟨_, rfl⟩
        rw [← htB] at hne z0 z1 f0 f1 lz
        replace hwb : w4.heap.size ≤ tB := by omega
        have hz1 := HB1.out.size
        refine ready_one (i := 4) rfl (by kernel_rfl) (fun K hK => ?_)
        refine step_append_rd _ (by rfl) (.tmp 29) (.tmp 30) 26 (by rfl) _ 9 s0 (.string ⟨#[]⟩) 1 16 Tryz.underlying26 hs hs0 hs1 hs2 rfl (by decide) (.slice A6 up.length c6) up.length (svs up) (by rfl) HO6.out _ Am more.length cm (svs more) (by rfl) (HMr.out.at hHeld) (one_svs more) HK.out.2.2.1 HK.out.2.2.2 (by first | exact hHeld.size | (simp; omega) | omega) ?_
        intro A7 c7 w7 ho7 hg7 hat7
        have hb7 := hHeld.grown hg7 hHeld.size (fun g hg => by have := (HO6.out.lt g hg).1; first | omega | (simp at this; omega))
        have HO7 := Lib.hid (own_rd' ho7)
        have z0 := cell_kept z0 hg7 lz hne
        have z1 := cell_kept z1 hg7 lz hne
        have f0 := fro_kept f0 hg7 lz hne
        have f1 := fro_kept f1 hg7 lz hne
        have hne7 : ∀ ad : Addr, 0 < up.length + more.length → A7 = some ad → tB ≠ ad.block := fun ad _ e h => by
          subst e
          rcases hat7 with h1 | h1
          · exact hne (h1.symm.trans (by rw [h]; rfl))
          · have h2 : some ad.block = some _ := h1
            injection h2 with h2
            omega
        have lz := Nat.lt_of_lt_of_le lz hg7.size
        clear ho7 hat7 hg7
        refine hK.out _ _ ?_ (fun hHeld2 => ?_)
        · (try dsimp only); exact hb7
        clear hK K hHeld; have hHeld := hHeld2; clear hHeld2; (try simp only [Act.put, zn1, zn2, zn3])
        clear hb7
        refine tY (i := 7) (v := ?_) rfl ?_ hHeld ?_; rotate_left 1; focus (intro w' hSw; clear hSw; go_simp; try with_reducible rfl)
        (try simp only [Act.put, zn1, zn2, zn3])
        refine ready_one (i := 9) rfl (by kernel_rfl) (fun K hK => ?_)
        subst htB
        go_simp
        refine hK.out _ _ ?_ (fun hHeld2 => ?_)
        · (try dsimp only); exact ((hHeld.setCell hwb _).setCell hwb _)
        clear hK K hHeld; have hHeld := hHeld2; clear hHeld2; (try simp only [Act.put, zn1, zn2, zn3])
        refine wpAnyH_done (by kernel_rfl) ?_ _
        go_wp2_with fail
        go_meet
        refine ⟨w4.heap.size, A7, c7, rfl, ?_, ?_, ?_, ?_, hHeld⟩
        · show w4.heap.size < _
          simp only [World.size_setCell]; exact lz
        · show World.cell? _ _ = _
          rw [World.cell?_setCell_other _ _ _ _ (by simp)]
          exact World.cell?_setCell_same _ _ _ z0
        · show World.cell? _ _ = _
          exact World.cell?_setCell_same _ _ _ ((World.cell?_setCell_other _ _ _ _ (by simp)).trans z1)
        · show Rd _ _ _ _ _ _
          simp only [World.size_setCell]
          exact (HO7.out.setCellF (p := ⟨w4.heap.size, 0, none⟩) hne7 _).setCellF (p := ⟨w4.heap.size, 1, none⟩) hne7 _
    case rest =>
    obtain ⟨tB, A7, c7, rfl, HLt, HT0, HT1, HR7, HB4⟩ := hcut
    replace c0 := cellAt c0 HB4.out (by omega)
    replace c1 := cellAt c1 HB4.out (by omega)
    replace c2 := cellAt c2 HB4.out (by omega)
    replace c3 := cellAt c3 HB4.out (by omega)
    replace HMr := Lib.hid (HMr.out.at HB4.out)
    replace HG := Lib.hid (HG.out.at HB4.out)
    replace HN := Lib.hid (HN.out.at HB4.out)
    replace n1 : w.heap.size < wc.heap.size := ltAt n1 HB4.out
    replace n2 : (w.heap.size + 1) < wc.heap.size := ltAt n2 HB4.out
    replace HB := Lib.hid (lift HB.out HB4.out)
    obtain ⟨W5, rfl⟩ : ∃ wo : World, wo = wc := ⟨_, rfl⟩
    have m5 := HLt.out
    have t0 := HT0.out
    have t1 := HT1.out
    clear HLt HT0 HT1
    have hUr : Rd W5 W5.heap.size 1 A7 (up ++ more).length (svs (up ++ more)) := by
      rw [List.length_append, show svs (up ++ more) = svs up ++ svs more by simp [svs]]
      exact HR7.out
    have HUr := Lib.hid hUr
    have hUm := fun s (h : s ∈ up) => List.mem_append_left more h
    have hUl : (up ++ more).length ≤ 2097152 := by rw [List.length_append]; omega
    rw [← List.length_append] at t0
    have HUm := Lib.hid hUm
    clear hUr hUm HR7
    generalize up ++ more = U at *
    try go_wp2_with fail
    refine wp_region_held_drew (S := fun w' => Below W5.heap.size W5 w') (by kernel_rfl) (Below.drew (Below.refl _ _)) (fun hHeld => ?_)
    refine tY (i := 0) (v := ?_) rfl ?_ hHeld ?_; rotate_left 1; focus (intro w' hSw; have hCell := fun (b o : Nat) (h : b < W5.heap.size) => hSw.cell (p := ⟨b, o, none⟩) h; clear hSw; go_simp; try with_reducible rfl)
    (try simp only [Act.put, zn1, zn2, zn3])
    refine tY (i := 1) (v := ?_) rfl ?_ hHeld ?_; rotate_left 1; focus (intro w' hSw; have hCell := fun (b o : Nat) (h : b < W5.heap.size) => hSw.cell (p := ⟨b, o, none⟩) h; clear hSw; go_simp; try with_reducible rfl)
    (try simp only [Act.put, zn1, zn2, zn3])
    refine tY (i := 2) (v := ?_) rfl ?_ hHeld ?_; rotate_left 1; focus (intro w' hSw; clear hSw; go_simp; try with_reducible rfl)
    (try simp only [Act.put, zn1, zn2, zn3])
    refine tY (i := 3) (v := ?_) rfl ?_ hHeld ?_; rotate_left 1; focus (intro w' hSw; clear hSw; go_simp; try with_reducible rfl)
    (try simp only [Act.put, zn1, zn2, zn3])
    refine tY (i := 5) (v := ?_) rfl ?_ hHeld ?_; rotate_left 1; focus (intro w' hSw; have hCell := fun (b o : Nat) (h : b < W5.heap.size) => hSw.cell (p := ⟨b, o, none⟩) h; clear hSw; go_simp; try with_reducible rfl)
    (try simp only [Act.put, zn1, zn2, zn3])
    refine tY (i := 6) (v := ?_) rfl ?_ hHeld ?_; rotate_left 1; focus (intro w' hSw; have hCell := fun (b o : Nat) (h : b < W5.heap.size) => hSw.cell (p := ⟨b, o, none⟩) h; clear hSw; go_simp; try with_reducible rfl)
    (try simp only [Act.put, zn1, zn2, zn3])
    refine tY (i := 7) (v := ?_) rfl ?_ hHeld ?_; rotate_left 1; focus (intro w' hSw; clear hSw; go_simp; try with_reducible rfl)
    (try simp only [Act.put, zn1, zn2, zn3])
    refine tY (i := 8) (v := ?_) rfl ?_ hHeld ?_; rotate_left 1; focus (intro w' hSw; clear hSw; go_simp; try with_reducible rfl)
    (try simp only [Act.put, zn1, zn2, zn3])
    refine ready_one (i := 4) rfl (by kernel_rfl) (fun K hK => ?_)
    go_simp
    refine (PAll_any An Ae Au Ah none cn ce cu ch 0 ns es up half [] u t _ (HG.out.at hHeld).rn (by omega) (HG.out.at hHeld).re (by omega) (HN.out.at hHeld).u (HN.out.at hHeld).h Rd.none_ (by simp) HG.out.oke hof (fun _ h => by cases h)).mono ?_
    rintro e y3 ⟨A8, c8, rfl, ho8, hb⟩
    have HR8 := Lib.hid (own_rd' ho8)
    clear ho8
    refine hK.out _ _ ?_ (fun hHeld2 => ?_)
    · (try dsimp only); first | exact Below.trans hHeld (Below.mono hb hHeld.size) | exact hHeld | exact Below.drew hHeld | exact (by repeat (first | exact Below.refl _ _ | assumption | refine Below.alloc ?_ (by first | omega | (simp <;> omega)) _ | refine Below.setCell ?_ (by first | omega | (simp <;> omega)) _ | refine Below.drew ?_))
    clear hK K hHeld; have hHeld := hHeld2; clear hHeld2; (try simp only [Act.put, zn1, zn2, zn3])
    refine ready_one (i := 9) rfl (by kernel_rfl) (fun K hK => ?_)
    go_simp
    refine (PAll_any An Ae A7 Ah none cn ce c7 ch 0 ns es U half [] u t _ (HG.out.at hHeld).rn (by omega) (HG.out.at hHeld).re (by omega) (show SIn _ A7 U from ⟨HUr.out.at hHeld, by omega⟩) (HN.out.at hHeld).h Rd.none_ (by simp) HG.out.oke hof (fun _ h => by cases h)).mono ?_
    rintro e y4 ⟨A9, c9, rfl, ho9, hb⟩
    have HR9 := Lib.hid (own_rd' ho9)
    have HR8b := Lib.hid (HR8.out.at hb)
    clear ho9
    refine hK.out _ _ ?_ (fun hHeld2 => ?_)
    · (try dsimp only); first | exact Below.trans hHeld (Below.mono hb hHeld.size) | exact hHeld | exact Below.drew hHeld | exact (by repeat (first | exact Below.refl _ _ | assumption | refine Below.alloc ?_ (by first | omega | (simp <;> omega)) _ | refine Below.setCell ?_ (by first | omega | (simp <;> omega)) _ | refine Below.drew ?_))
    clear hK K hHeld; have hHeld := hHeld2; clear hHeld2; (try simp only [Act.put, zn1, zn2, zn3])
    refine tY (i := 10) (v := ?_) rfl ?_ hHeld ?_; rotate_left 1; focus (intro w' hSw; clear hSw; go_simp; try with_reducible rfl)
    (try simp only [Act.put, zn1, zn2, zn3])
    refine tY (i := 11) (v := ?_) rfl ?_ hHeld ?_; rotate_left 1; focus (intro w' hSw; clear hSw; go_simp; try with_reducible rfl)
    (try simp only [Act.put, zn1, zn2, zn3])
    refine wpAnyH_done (by kernel_rfl) ?_ _
    have HB6 := Lib.hid (lift HB.out hHeld)
    have hlen1 := pullQ_len ns es up half (u, t) []
    have hlen2 := pullQ_len ns es U half (u, t) []
    have hsub : ∀ p ∈ pullQ ns es up half (u, t) [], ∃ q ∈ pullQ ns es U half (u, t) [], keyP q = keyP p := fun p hp => by
      obtain ⟨q, hq, e, _⟩ := pull_more HUm.out hp
      exact ⟨q, hq, e⟩
    have HEnd := Lib.hid (atK_end (pullQ_nd _ _ _ _ _ _) (pullQ_nd _ _ _ _ _ _) hsub)
    have HAt := Lib.hid (fun (k : Nat) (hk : k < (pullQ ns es U half (u, t) []).length) => atK_at (pullQ_nd ns es up half (u, t) []) (pullQ_nd ns es U half (u, t) []) hsub hk)
    have HLe := Lib.hid (atK_le (pullQ_nd ns es up half (u, t) []) (pullQ_nd ns es U half (u, t) []) hsub)
    have HNeed := Lib.hid (fun (p q : Pl) (hp : p ∈ pullQ ns es up half (u, t) []) (hq : q ∈ pullQ ns es U half (u, t) []) (e : keyP q = keyP p) => more_need HUm.out hp hq e)
    clear hsub hHeld
    generalize pullQ ns es up half (u, t) [] = L at *
    generalize pullQ ns es U half (u, t) [] = M at *
    go_wp2_with fail
    go_loopw [14, 47] (fun v i wr => ∃ k : Nat, k ≤ M.length ∧ i = .int .i64 k ∧ v = .int .i64 (atK L M k : Nat) ∧ Hid (Below y4.heap.size y4 wr)) (fun _ i _ => M.length - (intOf i).toNat)
    case atStart => exact ⟨0, Nat.zero_le _, rfl, rfl, Below.refl _ _⟩
    case round =>
      obtain ⟨k, hk, rfl, rfl, HBx⟩ := hrel
      have hzx := HBx.out.size
      by_cases hlt : k < M.length
      · obtain ⟨b3, o3, hA3, hB3, x0, x1, x2, x3⟩ := (HR9.out.at HBx.out).pl hlt
        subst hA3
        have hat := HAt.out k hlt
        have hsu := atK_succ (l := L) hlt
        have hle := HLe.out k
        have hmm := List.getElem_mem hlt
        generalize M[k] = p at x0 x1 x2 x3 hat hsu hmm
        obtain ⟨s, t', n', b'⟩ := p
        simp only at x0 x1 x2 x3
        have HMm := Lib.hid hmm
        generalize atK L M k = a at hat hsu hle ⊢
        have k1 : (0 : Int) ≤ (k : Int) := by omega
        have k2 : (k : Int) < (M.length : Int) := by omega
        have HSu := Lib.hid hsu
        clear hsu hmm
        go_wp2_with fail
        first | (refine wp_named ?_; intro W8 hW) | (refine calls_named ?_; intro W8 hW)
        have B8 : Below wr.heap.size wr W8 := by rw [hW]; exact (by repeat (first | exact Below.refl _ _ | assumption | refine Below.alloc ?_ (by first | omega | (simp <;> omega)) _ | refine Below.setCell ?_ (by first | omega | (simp <;> omega)) _ | refine Below.drew ?_))
        replace hB3 : b3 < W8.heap.size := ltAt hB3 B8
        have m8 : wr.heap.size < W8.heap.size := by rw [hW]; simp <;> omega
        have v0 : W8.cell? ⟨wr.heap.size, 0, none⟩ = some (sv s) := by rw [hW]; go_simp
        have v1 : W8.cell? ⟨wr.heap.size, 1, none⟩ = some (.int .i64 t') := by rw [hW]; go_simp
        have v2 : W8.cell? ⟨wr.heap.size, 2, none⟩ = some (.bool n') := by rw [hW]; go_simp
        clear hW
        have HB8 := Lib.hid B8
        have hb8 := HBx.out.trans (B8.mono HBx.out.size)
        clear B8 x0 x1 x2 x3
        by_cases ha : a < L.length
        · obtain ⟨b4, o4, hA4, hB4, q0, q1, q2, q3⟩ := (HR8b.out.at hb8).pl ha
          subst hA4
          have hneed := HNeed.out _ _ (List.getElem_mem ha) HMm.out
          have HNd := Lib.hid hneed
          generalize hQe : L[a] = q at q0 q1 q2 q3 hat HNd
          obtain ⟨sq, tq, nq, bq⟩ := q
          simp only at q0 q1 q2 q3
          have hd : decide (a < L.length) = true := by simpa using ha
          have a1 : (0 : Int) ≤ (a : Int) := by omega
          have a2 : (a : Int) < (L.length : Int) := by omega
          have HAt2 := Lib.hid hat
          have HQe := Lib.hid hQe
          clear hat hneed hQe hb8
          cases e1 : (sq == s)
          · have HA := Lib.hid (show atK L M (k + 1) = a by
              refine HSu.out.trans ((congrArg (a + ·) (if_neg ?_)).trans (Nat.add_zero a))
              intro h
              obtain ⟨h1, h2⟩ := HAt2.out.1 h
              rw [HQe.out] at h2
              have h3 : sq = s := congrArg (fun k : Jp => k.1) h2
              rw [h3] at e1; simp at e1)
            try go_wp2_with fail
            refine wp_region_held_drew (S := fun w' => Below W8.heap.size W8 w') (by kernel_rfl) (Below.drew (Below.refl _ _)) (fun hHeld => ?_)
            refine tY (i := 0) (v := ?_) rfl ?_ hHeld ?_; rotate_left 1; focus (intro w' hSw; clear hSw; go_simp; try with_reducible rfl)
            (try simp only [Act.put, zn1, zn2, zn3])
            refine tY (i := 1) (v := ?_) rfl ?_ hHeld ?_; rotate_left 1; focus (intro w' hSw; clear hSw; go_simp; try with_reducible rfl)
            (try simp only [Act.put, zn1, zn2, zn3])
            refine tY (i := 2) (v := ?_) rfl ?_ hHeld ?_; rotate_left 1; focus (intro w' hSw; clear hSw; go_simp; try with_reducible rfl)
            (try simp only [Act.put, zn1, zn2, zn3])
            refine tY (i := 3) (v := ?_) rfl ?_ hHeld ?_; rotate_left 1; focus (intro w' hSw; clear hSw; go_simp; try with_reducible rfl)
            (try simp only [Act.put, zn1, zn2, zn3])
            refine tY (i := 4) (v := ?_) rfl ?_ hHeld ?_; rotate_left 1; focus (intro w' hSw; clear hSw; go_simp; try with_reducible rfl)
            (try simp only [Act.put, zn1, zn2, zn3])
            refine tY (i := 5) (v := ?_) rfl ?_ hHeld ?_; rotate_left 1; focus (intro w' hSw; clear hSw; go_simp; try with_reducible rfl)
            (try simp only [Act.put, zn1, zn2, zn3])
            refine tY (i := 6) (v := ?_) rfl ?_ hHeld ?_; rotate_left 1; focus (intro w' hSw; clear hSw; go_simp; try with_reducible rfl)
            (try simp only [Act.put, zn1, zn2, zn3])
            refine tY (i := 7) (v := ?_) rfl ?_ hHeld ?_; rotate_left 1; focus (intro w' hSw; clear hSw; go_simp; try with_reducible rfl)
            (try simp only [Act.put, zn1, zn2, zn3])
            refine tY (i := 8) (v := ?_) rfl ?_ hHeld ?_; rotate_left 1; focus (intro w' hSw; clear hSw; go_simp; try with_reducible rfl)
            (try simp only [Act.put, zn1, zn2, zn3])
            refine tY (i := 9) (v := ?_) rfl ?_ hHeld ?_; rotate_left 1; focus (intro w' hSw; have hCell := fun (b o : Nat) (h : b < W8.heap.size) => hSw.cell (p := ⟨b, o, none⟩) h; clear hSw; go_simp; try with_reducible rfl)
            (try simp only [Act.put, zn1, zn2, zn3])
            refine tY (i := 10) (v := ?_) rfl ?_ hHeld ?_; rotate_left 1; focus (intro w' hSw; clear hSw; go_simp; try with_reducible rfl)
            (try simp only [Act.put, zn1, zn2, zn3])
            refine tY (i := 11) (v := ?_) rfl ?_ hHeld ?_; rotate_left 1; focus (intro w' hSw; have hCell := fun (b o : Nat) (h : b < W8.heap.size) => hSw.cell (p := ⟨b, o, none⟩) h; clear hSw; go_simp; try with_reducible rfl)
            (try simp only [Act.put, zn1, zn2, zn3])
            refine tY (i := 12) (v := ?_) rfl ?_ hHeld ?_; rotate_left 1; focus (intro w' hSw; clear hSw; go_simp; try with_reducible rfl)
            (try simp only [Act.put, zn1, zn2, zn3])
            refine tY (i := 13) (v := ?_) rfl ?_ hHeld ?_; rotate_left 1; focus (intro w' hSw; clear hSw; go_simp; try with_reducible rfl)
            (try simp only [Act.put, zn1, zn2, zn3])
            refine tY (i := 14) (v := ?_) rfl ?_ hHeld ?_; rotate_left 1; focus (intro w' hSw; clear hSw; go_simp; try with_reducible rfl)
            (try simp only [Act.put, zn1, zn2, zn3])
            refine tS (i := 15) rfl hHeld ?_; (try simp only [Act.put, zn1, zn2, zn3])
            refine tS (i := 16) rfl hHeld ?_; (try simp only [Act.put, zn1, zn2, zn3])
            refine tS (i := 17) rfl hHeld ?_; (try simp only [Act.put, zn1, zn2, zn3])
            refine tS (i := 18) rfl hHeld ?_; (try simp only [Act.put, zn1, zn2, zn3])
            refine tS (i := 19) rfl hHeld ?_; (try simp only [Act.put, zn1, zn2, zn3])
            refine tS (i := 20) rfl hHeld ?_; (try simp only [Act.put, zn1, zn2, zn3])
            refine tS (i := 21) rfl hHeld ?_; (try simp only [Act.put, zn1, zn2, zn3])
            refine tS (i := 22) rfl hHeld ?_; (try simp only [Act.put, zn1, zn2, zn3])
            refine tY (i := 23) (v := ?_) rfl ?_ hHeld ?_; rotate_left 1; focus (intro w' hSw; clear hSw; go_simp; try with_reducible rfl)
            (try simp only [Act.put, zn1, zn2, zn3])
            refine wpAnyH_done (by kernel_rfl) ?_ _
            go_wp2_with fail
            go_roundw
            case rel => exact ⟨k + 1, by omega, by go_num, by rw [HA.out] <;> first | rfl | go_num, lift HBx.out (lift HB8.out hHeld)⟩
            case measure => simp [intOf]; omega
          · cases e2 : (tq == t')
            · have HA := Lib.hid (show atK L M (k + 1) = a by
                refine HSu.out.trans ((congrArg (a + ·) (if_neg ?_)).trans (Nat.add_zero a))
                intro h
                obtain ⟨h1, h2⟩ := HAt2.out.1 h
                rw [HQe.out] at h2
                have h3 : tq = t' := congrArg (fun k : Jp => k.2) h2
                rw [h3] at e2; simp at e2)
              try go_wp2_with fail
              refine wp_region_held_drew (S := fun w' => Below W8.heap.size W8 w') (by kernel_rfl) (Below.drew (Below.refl _ _)) (fun hHeld => ?_)
              refine tY (i := 0) (v := ?_) rfl ?_ hHeld ?_; rotate_left 1; focus (intro w' hSw; clear hSw; go_simp; try with_reducible rfl)
              (try simp only [Act.put, zn1, zn2, zn3])
              refine tY (i := 1) (v := ?_) rfl ?_ hHeld ?_; rotate_left 1; focus (intro w' hSw; clear hSw; go_simp; try with_reducible rfl)
              (try simp only [Act.put, zn1, zn2, zn3])
              refine tY (i := 2) (v := ?_) rfl ?_ hHeld ?_; rotate_left 1; focus (intro w' hSw; clear hSw; go_simp; try with_reducible rfl)
              (try simp only [Act.put, zn1, zn2, zn3])
              refine tY (i := 3) (v := ?_) rfl ?_ hHeld ?_; rotate_left 1; focus (intro w' hSw; clear hSw; go_simp; try with_reducible rfl)
              (try simp only [Act.put, zn1, zn2, zn3])
              refine tY (i := 4) (v := ?_) rfl ?_ hHeld ?_; rotate_left 1; focus (intro w' hSw; clear hSw; go_simp; try with_reducible rfl)
              (try simp only [Act.put, zn1, zn2, zn3])
              refine tY (i := 5) (v := ?_) rfl ?_ hHeld ?_; rotate_left 1; focus (intro w' hSw; clear hSw; go_simp; try with_reducible rfl)
              (try simp only [Act.put, zn1, zn2, zn3])
              refine tY (i := 6) (v := ?_) rfl ?_ hHeld ?_; rotate_left 1; focus (intro w' hSw; clear hSw; go_simp; try with_reducible rfl)
              (try simp only [Act.put, zn1, zn2, zn3])
              refine tY (i := 7) (v := ?_) rfl ?_ hHeld ?_; rotate_left 1; focus (intro w' hSw; clear hSw; go_simp; try with_reducible rfl)
              (try simp only [Act.put, zn1, zn2, zn3])
              refine tY (i := 8) (v := ?_) rfl ?_ hHeld ?_; rotate_left 1; focus (intro w' hSw; clear hSw; go_simp; try with_reducible rfl)
              (try simp only [Act.put, zn1, zn2, zn3])
              refine tY (i := 9) (v := ?_) rfl ?_ hHeld ?_; rotate_left 1; focus (intro w' hSw; have hCell := fun (b o : Nat) (h : b < W8.heap.size) => hSw.cell (p := ⟨b, o, none⟩) h; clear hSw; go_simp; try with_reducible rfl)
              (try simp only [Act.put, zn1, zn2, zn3])
              refine tY (i := 10) (v := ?_) rfl ?_ hHeld ?_; rotate_left 1; focus (intro w' hSw; clear hSw; go_simp; try with_reducible rfl)
              (try simp only [Act.put, zn1, zn2, zn3])
              refine tY (i := 11) (v := ?_) rfl ?_ hHeld ?_; rotate_left 1; focus (intro w' hSw; have hCell := fun (b o : Nat) (h : b < W8.heap.size) => hSw.cell (p := ⟨b, o, none⟩) h; clear hSw; go_simp; try with_reducible rfl)
              (try simp only [Act.put, zn1, zn2, zn3])
              refine tY (i := 12) (v := ?_) rfl ?_ hHeld ?_; rotate_left 1; focus (intro w' hSw; clear hSw; go_simp; try with_reducible rfl)
              (try simp only [Act.put, zn1, zn2, zn3])
              refine tY (i := 13) (v := ?_) rfl ?_ hHeld ?_; rotate_left 1; focus (intro w' hSw; clear hSw; go_simp; try with_reducible rfl)
              (try simp only [Act.put, zn1, zn2, zn3])
              refine tY (i := 14) (v := ?_) rfl ?_ hHeld ?_; rotate_left 1; focus (intro w' hSw; clear hSw; go_simp; try with_reducible rfl)
              (try simp only [Act.put, zn1, zn2, zn3])
              refine tY (i := 15) (v := ?_) rfl ?_ hHeld ?_; rotate_left 1; focus (intro w' hSw; clear hSw; go_simp; try with_reducible rfl)
              (try simp only [Act.put, zn1, zn2, zn3])
              refine tY (i := 16) (v := ?_) rfl ?_ hHeld ?_; rotate_left 1; focus (intro w' hSw; clear hSw; go_simp; try with_reducible rfl)
              (try simp only [Act.put, zn1, zn2, zn3])
              refine tY (i := 17) (v := ?_) rfl ?_ hHeld ?_; rotate_left 1; focus (intro w' hSw; clear hSw; go_simp; try with_reducible rfl)
              (try simp only [Act.put, zn1, zn2, zn3])
              refine tY (i := 18) (v := ?_) rfl ?_ hHeld ?_; rotate_left 1; focus (intro w' hSw; clear hSw; go_simp; try with_reducible rfl)
              (try simp only [Act.put, zn1, zn2, zn3])
              refine tY (i := 19) (v := ?_) rfl ?_ hHeld ?_; rotate_left 1; focus (intro w' hSw; have hCell := fun (b o : Nat) (h : b < W8.heap.size) => hSw.cell (p := ⟨b, o, none⟩) h; clear hSw; go_simp; try with_reducible rfl)
              (try simp only [Act.put, zn1, zn2, zn3])
              refine tY (i := 20) (v := ?_) rfl ?_ hHeld ?_; rotate_left 1; focus (intro w' hSw; clear hSw; go_simp; try with_reducible rfl)
              (try simp only [Act.put, zn1, zn2, zn3])
              refine tY (i := 21) (v := ?_) rfl ?_ hHeld ?_; rotate_left 1; focus (intro w' hSw; have hCell := fun (b o : Nat) (h : b < W8.heap.size) => hSw.cell (p := ⟨b, o, none⟩) h; clear hSw; go_simp; try with_reducible rfl)
              (try simp only [Act.put, zn1, zn2, zn3])
              refine tY (i := 22) (v := ?_) rfl ?_ hHeld ?_; rotate_left 1; focus (intro w' hSw; clear hSw; go_simp; try with_reducible rfl)
              (try simp only [Act.put, zn1, zn2, zn3])
              refine tY (i := 23) (v := ?_) rfl ?_ hHeld ?_; rotate_left 1; focus (intro w' hSw; clear hSw; go_simp; try with_reducible rfl)
              (try simp only [Act.put, zn1, zn2, zn3])
              refine wpAnyH_done (by kernel_rfl) ?_ _
              go_wp2_with fail
              go_roundw
              case rel => exact ⟨k + 1, by omega, by go_num, by rw [HA.out] <;> first | rfl | go_num, lift HBx.out (lift HB8.out hHeld)⟩
              case measure => simp [intOf]; omega
            · have hkk : keyP (s, t', n', b') = keyP (sq, tq, nq, bq) := by
                rw [beq_iff_eq] at e1 e2
                show (s, t') = (sq, tq)
                rw [e1, e2]
              have HA := Lib.hid (show atK L M (k + 1) = a + 1 by
                refine HSu.out.trans (congrArg (a + ·) (if_pos ?_))
                exact HAt2.out.2 ⟨ha, by rw [HQe.out]; exact hkk.symm⟩)
              have hnd : nq = true → n' = true := HNd.out hkk
              have hw1 : IntKind.i64.wrap ((a : Int) + 1) = (a : Int) + 1 := IntWalk.i64_in _ (by omega)
              have HNd2 := Lib.hid hnd
              clear hnd hkk
              try go_wp2_with fail
              refine wp_region_held_drew (S := fun w' => Below W8.heap.size W8 w') (by kernel_rfl) (Below.drew (Below.refl _ _)) (fun hHeld => ?_)
              refine tY (i := 0) (v := ?_) rfl ?_ hHeld ?_; rotate_left 1; focus (intro w' hSw; clear hSw; go_simp; try with_reducible rfl)
              (try simp only [Act.put, zn1, zn2, zn3])
              refine tY (i := 1) (v := ?_) rfl ?_ hHeld ?_; rotate_left 1; focus (intro w' hSw; clear hSw; go_simp; try with_reducible rfl)
              (try simp only [Act.put, zn1, zn2, zn3])
              refine tY (i := 2) (v := ?_) rfl ?_ hHeld ?_; rotate_left 1; focus (intro w' hSw; clear hSw; go_simp; try with_reducible rfl)
              (try simp only [Act.put, zn1, zn2, zn3])
              refine tY (i := 3) (v := ?_) rfl ?_ hHeld ?_; rotate_left 1; focus (intro w' hSw; clear hSw; go_simp; try with_reducible rfl)
              (try simp only [Act.put, zn1, zn2, zn3])
              refine tY (i := 4) (v := ?_) rfl ?_ hHeld ?_; rotate_left 1; focus (intro w' hSw; clear hSw; go_simp; try with_reducible rfl)
              (try simp only [Act.put, zn1, zn2, zn3])
              refine tY (i := 5) (v := ?_) rfl ?_ hHeld ?_; rotate_left 1; focus (intro w' hSw; clear hSw; go_simp; try with_reducible rfl)
              (try simp only [Act.put, zn1, zn2, zn3])
              refine tY (i := 6) (v := ?_) rfl ?_ hHeld ?_; rotate_left 1; focus (intro w' hSw; clear hSw; go_simp; try with_reducible rfl)
              (try simp only [Act.put, zn1, zn2, zn3])
              refine tY (i := 7) (v := ?_) rfl ?_ hHeld ?_; rotate_left 1; focus (intro w' hSw; clear hSw; go_simp; try with_reducible rfl)
              (try simp only [Act.put, zn1, zn2, zn3])
              refine tY (i := 8) (v := ?_) rfl ?_ hHeld ?_; rotate_left 1; focus (intro w' hSw; clear hSw; go_simp; try with_reducible rfl)
              (try simp only [Act.put, zn1, zn2, zn3])
              refine tY (i := 9) (v := ?_) rfl ?_ hHeld ?_; rotate_left 1; focus (intro w' hSw; have hCell := fun (b o : Nat) (h : b < W8.heap.size) => hSw.cell (p := ⟨b, o, none⟩) h; clear hSw; go_simp; try with_reducible rfl)
              (try simp only [Act.put, zn1, zn2, zn3])
              refine tY (i := 10) (v := ?_) rfl ?_ hHeld ?_; rotate_left 1; focus (intro w' hSw; clear hSw; go_simp; try with_reducible rfl)
              (try simp only [Act.put, zn1, zn2, zn3])
              refine tY (i := 11) (v := ?_) rfl ?_ hHeld ?_; rotate_left 1; focus (intro w' hSw; have hCell := fun (b o : Nat) (h : b < W8.heap.size) => hSw.cell (p := ⟨b, o, none⟩) h; clear hSw; go_simp; try with_reducible rfl)
              (try simp only [Act.put, zn1, zn2, zn3])
              refine tY (i := 12) (v := ?_) rfl ?_ hHeld ?_; rotate_left 1; focus (intro w' hSw; clear hSw; go_simp; try with_reducible rfl)
              (try simp only [Act.put, zn1, zn2, zn3])
              refine tY (i := 13) (v := ?_) rfl ?_ hHeld ?_; rotate_left 1; focus (intro w' hSw; clear hSw; go_simp; try with_reducible rfl)
              (try simp only [Act.put, zn1, zn2, zn3])
              refine tY (i := 14) (v := ?_) rfl ?_ hHeld ?_; rotate_left 1; focus (intro w' hSw; clear hSw; go_simp; try with_reducible rfl)
              (try simp only [Act.put, zn1, zn2, zn3])
              refine tY (i := 15) (v := ?_) rfl ?_ hHeld ?_; rotate_left 1; focus (intro w' hSw; clear hSw; go_simp; try with_reducible rfl)
              (try simp only [Act.put, zn1, zn2, zn3])
              refine tY (i := 16) (v := ?_) rfl ?_ hHeld ?_; rotate_left 1; focus (intro w' hSw; clear hSw; go_simp; try with_reducible rfl)
              (try simp only [Act.put, zn1, zn2, zn3])
              refine tY (i := 17) (v := ?_) rfl ?_ hHeld ?_; rotate_left 1; focus (intro w' hSw; clear hSw; go_simp; try with_reducible rfl)
              (try simp only [Act.put, zn1, zn2, zn3])
              refine tY (i := 18) (v := ?_) rfl ?_ hHeld ?_; rotate_left 1; focus (intro w' hSw; clear hSw; go_simp; try with_reducible rfl)
              (try simp only [Act.put, zn1, zn2, zn3])
              refine tY (i := 19) (v := ?_) rfl ?_ hHeld ?_; rotate_left 1; focus (intro w' hSw; have hCell := fun (b o : Nat) (h : b < W8.heap.size) => hSw.cell (p := ⟨b, o, none⟩) h; clear hSw; go_simp; try with_reducible rfl)
              (try simp only [Act.put, zn1, zn2, zn3])
              refine tY (i := 20) (v := ?_) rfl ?_ hHeld ?_; rotate_left 1; focus (intro w' hSw; clear hSw; go_simp; try with_reducible rfl)
              (try simp only [Act.put, zn1, zn2, zn3])
              refine tY (i := 21) (v := ?_) rfl ?_ hHeld ?_; rotate_left 1; focus (intro w' hSw; have hCell := fun (b o : Nat) (h : b < W8.heap.size) => hSw.cell (p := ⟨b, o, none⟩) h; clear hSw; go_simp; try with_reducible rfl)
              (try simp only [Act.put, zn1, zn2, zn3])
              refine tY (i := 22) (v := ?_) rfl ?_ hHeld ?_; rotate_left 1; focus (intro w' hSw; clear hSw; go_simp; try with_reducible rfl)
              (try simp only [Act.put, zn1, zn2, zn3])
              refine tY (i := 23) (v := ?_) rfl ?_ hHeld ?_; rotate_left 1; focus (intro w' hSw; clear hSw; go_simp; try with_reducible rfl)
              (try simp only [Act.put, zn1, zn2, zn3])
              refine wpAnyH_done (by kernel_rfl) ?_ _
              cases nq
              · skip
                go_wp2_with fail
                go_roundw
                case rel => exact ⟨k + 1, by omega, by go_num, by rw [HA.out] <;> first | rfl | go_num, lift HBx.out (lift HB8.out hHeld)⟩
                case measure => simp [intOf]; omega
              · have hn := HNd2.out rfl
                subst hn
                go_wp2_with fail
                go_roundw
                case rel => exact ⟨k + 1, by omega, by go_num, by rw [HA.out] <;> first | rfl | go_num, lift HBx.out (lift HB8.out hHeld)⟩
                case measure => simp [intOf]; omega
        · have hd : decide (a < L.length) = false := by rw [decide_eq_false_iff_not]; exact ha
          have HA := Lib.hid (show atK L M (k + 1) = a by
            refine HSu.out.trans ((congrArg (a + ·) (if_neg ?_)).trans (Nat.add_zero a))
            intro h
            obtain ⟨h1, _⟩ := hat.1 h
            exact ha h1)
          clear hat ha
          try go_wp2_with fail
          refine wp_region_held_drew (S := fun w' => Below W8.heap.size W8 w') (by kernel_rfl) (Below.drew (Below.refl _ _)) (fun hHeld => ?_)
          refine tY (i := 0) (v := ?_) rfl ?_ hHeld ?_; rotate_left 1; focus (intro w' hSw; clear hSw; go_simp; try with_reducible rfl)
          (try simp only [Act.put, zn1, zn2, zn3])
          refine tY (i := 1) (v := ?_) rfl ?_ hHeld ?_; rotate_left 1; focus (intro w' hSw; clear hSw; go_simp; try with_reducible rfl)
          (try simp only [Act.put, zn1, zn2, zn3])
          refine tY (i := 2) (v := ?_) rfl ?_ hHeld ?_; rotate_left 1; focus (intro w' hSw; clear hSw; go_simp; try with_reducible rfl)
          (try simp only [Act.put, zn1, zn2, zn3])
          refine tY (i := 3) (v := ?_) rfl ?_ hHeld ?_; rotate_left 1; focus (intro w' hSw; clear hSw; go_simp; try with_reducible rfl)
          (try simp only [Act.put, zn1, zn2, zn3])
          refine tY (i := 4) (v := ?_) rfl ?_ hHeld ?_; rotate_left 1; focus (intro w' hSw; clear hSw; go_simp; try with_reducible rfl)
          (try simp only [Act.put, zn1, zn2, zn3])
          refine tS (i := 5) rfl hHeld ?_; (try simp only [Act.put, zn1, zn2, zn3])
          refine tS (i := 6) rfl hHeld ?_; (try simp only [Act.put, zn1, zn2, zn3])
          refine tS (i := 7) rfl hHeld ?_; (try simp only [Act.put, zn1, zn2, zn3])
          refine tS (i := 8) rfl hHeld ?_; (try simp only [Act.put, zn1, zn2, zn3])
          refine tS (i := 9) rfl hHeld ?_; (try simp only [Act.put, zn1, zn2, zn3])
          refine tS (i := 10) rfl hHeld ?_; (try simp only [Act.put, zn1, zn2, zn3])
          refine tS (i := 11) rfl hHeld ?_; (try simp only [Act.put, zn1, zn2, zn3])
          refine tS (i := 12) rfl hHeld ?_; (try simp only [Act.put, zn1, zn2, zn3])
          refine tY (i := 13) (v := ?_) rfl ?_ hHeld ?_; rotate_left 1; focus (intro w' hSw; clear hSw; go_simp; try with_reducible rfl)
          (try simp only [Act.put, zn1, zn2, zn3])
          refine tY (i := 14) (v := ?_) rfl ?_ hHeld ?_; rotate_left 1; focus (intro w' hSw; clear hSw; go_simp; try with_reducible rfl)
          (try simp only [Act.put, zn1, zn2, zn3])
          refine tS (i := 15) rfl hHeld ?_; (try simp only [Act.put, zn1, zn2, zn3])
          refine tS (i := 16) rfl hHeld ?_; (try simp only [Act.put, zn1, zn2, zn3])
          refine tS (i := 17) rfl hHeld ?_; (try simp only [Act.put, zn1, zn2, zn3])
          refine tS (i := 18) rfl hHeld ?_; (try simp only [Act.put, zn1, zn2, zn3])
          refine tS (i := 19) rfl hHeld ?_; (try simp only [Act.put, zn1, zn2, zn3])
          refine tS (i := 20) rfl hHeld ?_; (try simp only [Act.put, zn1, zn2, zn3])
          refine tS (i := 21) rfl hHeld ?_; (try simp only [Act.put, zn1, zn2, zn3])
          refine tS (i := 22) rfl hHeld ?_; (try simp only [Act.put, zn1, zn2, zn3])
          refine tY (i := 23) (v := ?_) rfl ?_ hHeld ?_; rotate_left 1; focus (intro w' hSw; clear hSw; go_simp; try with_reducible rfl)
          (try simp only [Act.put, zn1, zn2, zn3])
          refine wpAnyH_done (by kernel_rfl) ?_ _
          go_wp2_with fail
          go_roundw
          case rel => exact ⟨k + 1, by omega, by go_num, by rw [HA.out] <;> first | rfl | go_num, lift HBx.out (lift HB8.out hHeld)⟩
          case measure => simp [intOf]; omega
      · obtain rfl : k = M.length := by omega
        have hE := HEnd.out
        rw [hE]
        have HB9 := Lib.hid (lift HB6.out HBx.out)
        go_wp2_with fail
        go_ret
        exact ⟨rfl, HB9.out⟩
end Od
end Go.Proofs.YtbllehjhmfehbaaGreat
end
