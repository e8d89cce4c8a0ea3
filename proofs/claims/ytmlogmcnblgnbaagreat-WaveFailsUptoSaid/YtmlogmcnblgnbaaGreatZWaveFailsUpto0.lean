/- My texts, joined for the claim: FrameU RPut RIn LvG LvF. -/
import Derived.Test.YtmlogmcnblgnbaaGreatZB15
import Derived.Deep.CondSized
import Derived.Test.YtmlogmcnblgnbaaGreatZB0
import Derived.Test.YtmlogmcnblgnbaaGreatRows
import Derived.Test.YtmlogmcnblgnbaaGreatZB7
import Derived.Test.YtmlogmcnblgnbaaGreatZB3
import Derived.Test.YtmlogmcnblgnbaaGreatZB4

section
/- What the bound of a statement's second form gives for rows of texts that came in. -/
namespace Go.Proofs.YtmlogmcnblgnbaaGreat
open Go.ChangeShapes Go.WideShapes Go.ChangeAt Go.RowKit Go.Deep
section
variable {H : Type} {enc : TypeId × Value → H}
theorem bulk_one (d : DataW H) : 1 ≤ Rows.uptoBulk d := by
  cases d with
  | lit l => cases l <;> simp [Rows.uptoBulk]
  | nil => simp [Rows.uptoBulk]
  | ptr d => simp [Rows.uptoBulk]
  | slice elems spare => simp [Rows.uptoBulk]
  | agg parts => simp [Rows.uptoBulk]
  | iface t d => simp [Rows.uptoBulk]
  | map entries => simp [Rows.uptoBulk]
  | held h => simp [Rows.uptoBulk]
theorem bulk_len (l : List (DataW H)) : l.length ≤ Rows.uptoBulkAll l := by
  induction l with
  | nil => simp [Rows.uptoBulkAll]
  | cons x r ih => have := bulk_one x; simp only [Rows.uptoBulkAll, List.length_cons]; omega
theorem bulk_part {d : DataW H} {l : List (DataW H)} (h : d ∈ l) : Rows.uptoBulk d ≤ Rows.uptoBulkAll l := by
  induction l with
  | nil => cases h
  | cons x r ih =>
    simp only [Rows.uptoBulkAll]
    rcases List.mem_cons.1 h with e | e
    · subst e; omega
    · have := ih e; omega
theorem bulk_small {d : DataW H} {l : List (DataW H)} (hk : Rows.uptoSmall H l = true) (h : d ∈ l) : Rows.uptoBulk d ≤ 1048576 := by
  have h1 := of_decide_eq_true hk
  exact Nat.le_trans (bulk_part h) h1
theorem open_rd_bulk {P : Program} {W : World} {t e : TypeId} {fuel : Nat} {A : Option Addr} {len c : Nat} {y : DataW H × List MemPlace} (ht : P.underlying t = some (.slice e))
    (h : DataW.trod enc P W 0 (fun _ => true) true fuel t [.slice A len c] = some y) : len ≤ Rows.uptoBulk y.1 := by
  rcases open_slice ht h with ⟨hcs, _⟩ | ⟨a, len', cap, m, n, D, Pl, hcs, _, hl, hm, hmm, hx, hi⟩
  · simp only [List.cons.injEq, and_true, Value.slice.injEq] at hcs
    omega
  · simp only [List.cons.injEq, and_true, Value.slice.injEq] at hcs
    obtain ⟨_, rfl, _⟩ := hcs
    rw [hx]
    simp only [Rows.uptoBulk]
    have := bulk_len (H := H) ((List.range len).map D)
    simp only [List.length_map, List.length_range] at this
    omega
theorem strs_bulk {W : World} {A : Option Addr} {len c : Nat} {d : DataW H} {p : List MemPlace} (h : DataW.Trod enc Tryz.prog W 0 (fun _ => true) true 27 (.slice A len c) d p) : len ≤ Rows.uptoBulk d := by
  obtain ⟨fuel, hf⟩ := h
  exact open_rd_bulk Tryz.underlying27 hf
end
end Go.Proofs.YtmlogmcnblgnbaaGreat
end

section
/- The walk of matinsref15.put: a text into a rising row, once. -/
namespace Go.Proofs.YtmlogmcnblgnbaaGreat
open Go.RowKit Go.Sort

namespace Od
theorem svs_app (a b : List Str) : svs (a ++ b) = svs a ++ svs b := by simp [svs]
set_option maxRecDepth 100000 in
set_option maxHeartbeats 1000000 in
theorem put15_any (A : Option Addr) (c : Nat) (ss : List Str) (s : Str) (w : World) (hr : Rd w w.heap.size 1 A ss.length (svs ss)) (hc : ss.length ≤ c) (hl : ss.length ≤ 1000000) :
    Calls Tryz.prog 66 #[.slice A ss.length c, sv s] w (RdIs 1 (insL ltS s ss).length (svs (insL ltS s ss)) w) := by
  obtain ⟨i0, hi, hz0, hz1, hz2⟩ := info_parts inS
  have Hr := Lib.hid hr
  clear hr
  go_enter Tryz.func66, Tryz.ntmps66
  go_wp2_with fail
  go_loop [5] (fun i => ∃ k : Nat, k ≤ ss.length ∧ i = .int .i64 k ∧ Hid (∀ y ∈ ss.take k, ltS y s = true)) (fun i => ss.length - (intOf i).toNat)
  case atStart => exact ⟨0, Nat.zero_le _, rfl, by simp [Hid]⟩
  case round =>
    obtain ⟨k, hk, rfl, hall⟩ := hrel
    by_cases hlt : k < ss.length
    · obtain ⟨b, o, rfl, hB, hc0⟩ := Hr.out.str hlt
      generalize hx : ss[k] = x at hc0
      have Hx := Lib.hid hx
      clear hx
      cases hlx : Op.bytesLess x s
      · have hge : ∀ h : k < ss.length, ltS ss[k] s = false := fun _ => by rw [Hx.out]; exact hlx
        have Hge := Lib.hid hge
        clear hge
        cases hxs : (x == s)
        · go_wp2_with fail
          have hge := Hge.out
          have hne : ¬ ss[k]? = some s := by rw [List.getElem?_eq_getElem hlt, Hx.out]; intro e; injection e with e; rw [e] at hxs; simp at hxs
          clear hlx hxs
          have hins : insL ltS s ss = ss.take k ++ s :: ss.drop k := by rw [insL_cut ss k hk hall hge, if_neg hne]
          have HI := Lib.hid hins
          have HR1 := Lib.hid (Hr.out.takeA hk)
          have HR2 := Lib.hid (Hr.out.dropA hk hc)
          have hs1 := run_slice_full (P := Tryz.prog) Tryz.underlying27 hi (some ⟨b, o, none⟩) ss.length c k (Nat.le_trans hk hc)
          have hs2 := run_slice_tail (P := Tryz.prog) Tryz.underlying27 hi (some ⟨b, o, none⟩) ss.length c k hk
          rw [hz1] at hs1 hs2
          clear hins hne hge
          have hlk : (ss.drop k).length = ss.length - k := List.length_drop
          have HLk := Lib.hid hlk
          clear hlk
          try go_wp2_with fail
          refine wp_region_held_drew (S := fun w' => Below w.heap.size w w') (by kernel_rfl) (Below.drew (Below.refl _ _)) (fun hHeld => ?_)
          refine tY (i := 0) (v := ?_) rfl ?_ hHeld ?_; rotate_left 1; focus (intro w' hSw; clear hSw; go_simp; try with_reducible rfl)
          (try simp only [Act.put, zn1, zn2, zn3])
          refine tY (i := 1) (v := ?_) rfl ?_ hHeld ?_; rotate_left 1; focus (intro w' hSw; clear hSw; go_simp; try with_reducible rfl)
          (try simp only [Act.put, zn1, zn2, zn3])
          refine tY (i := 2) (v := ?_) rfl ?_ hHeld ?_; rotate_left 1; focus (intro w' hSw; clear hSw; go_simp; try with_reducible rfl)
          (try simp only [Act.put, zn1, zn2, zn3])
          refine tY (i := 3) (v := ?_) rfl ?_ hHeld ?_; rotate_left 1; focus (intro w' hSw; clear hSw; go_simp; try with_reducible rfl)
          (try simp only [Act.put, zn1, zn2, zn3])
          refine tY (i := 4) (v := ?_) rfl ?_ hHeld ?_; rotate_left 1; focus (intro w' hSw; clear hSw; go_simp; try with_reducible rfl)
          (try simp only [Act.put, zn1, zn2, zn3])
          refine tY (i := 6) (v := ?_) rfl ?_ hHeld ?_; rotate_left 1; focus (intro w' hSw; clear hSw; go_simp; try with_reducible rfl)
          (try simp only [Act.put, zn1, zn2, zn3])
          refine tY (i := 7) (v := ?_) rfl ?_ hHeld ?_; rotate_left 1; focus (intro w' hSw; clear hSw; go_simp; try with_reducible rfl)
          (try simp only [Act.put, zn1, zn2, zn3])
          refine tY (i := 8) (v := ?_) rfl ?_ hHeld ?_; rotate_left 1; focus (intro w' hSw; clear hSw; go_simp; try with_reducible rfl)
          (try simp only [Act.put, zn1, zn2, zn3])
          refine ready_one (i := 5) rfl (by kernel_rfl) (fun K hK => ?_)
          go_simp
          refine hK.out _ _ ?_ (fun hHeld2 => ?_)
          · (try dsimp only); first | exact hHeld | exact (by repeat (first | exact Below.refl _ _ | assumption | refine Below.alloc ?_ (by simp <;> omega) _ | refine Below.setCell ?_ (by simp <;> omega) _ | refine Below.drew ?_))
          clear hK K hHeld; have hHeld := hHeld2; clear hHeld2; (try simp only [Act.put, zn1, zn2, zn3])
          refine ready_one (i := 9) rfl (by kernel_rfl) (fun K hK => ?_)
          refine step_append_full (by rfl) (.tmp 38) (.tmp 41) 27 (by rfl) 9 i0 (.string ⟨#[]⟩) 1 16 Tryz.underlying27 hi hz0 hz1 hz2 rfl _ (some ⟨w.heap.size, 0, none⟩) 1 [sv s] (by rfl) (Rd.lit w.drew [sv s] 9 1 1 rfl) (Nat.le_refl _) _ _ (ss.length - k) (c - k) _ (by rfl) (HR2.out.at' (Nat.le_refl _) hHeld) (one_drop (one_svs ss) _) (by unfold maxLen; omega) (by omega) ?_
          intro A2 c2 v2 hc2 hr2 hb
          have HR3 := Lib.hid hr2
          clear hr2
          refine hK.out _ _ ?_ (fun hHeld2 => ?_)
          · (try dsimp only); first | exact Below.trans hHeld (Below.mono hb hHeld.size) | exact hHeld | exact Below.drew hHeld | exact (by repeat (first | exact Below.refl _ _ | assumption | refine Below.alloc ?_ (by simp <;> omega) _ | refine Below.setCell ?_ (by simp <;> omega) _ | refine Below.drew ?_))
          clear hK K hHeld; have hHeld := hHeld2; clear hHeld2; (try simp only [Act.put, zn1, zn2, zn3])
          refine ready_one (i := 10) rfl (by kernel_rfl) (fun K hK => ?_)
          refine step_append_full (by rfl) (.tmp 36) (.tmp 42) 27 (by rfl) 9 i0 (.string ⟨#[]⟩) 1 16 Tryz.underlying27 hi hz0 hz1 hz2 rfl _ _ k _ (by rfl) (HR1.out.at' (Nat.le_refl _) hHeld) (Nat.le_refl _) _ A2 (1 + (ss.length - k)) c2 _ (by rfl) HR3.out (one_app (one_sv s) (one_drop (one_svs ss) _)) (by unfold maxLen; omega) (by omega) ?_
          intro A3 c3 v3 hc3 hr3 hb
          have HR4 := Lib.hid hr3
          clear hr3
          refine hK.out _ _ ?_ (fun hHeld2 => ?_)
          · (try dsimp only); first | exact Below.trans hHeld (Below.mono hb hHeld.size) | exact hHeld | exact Below.drew hHeld | exact (by repeat (first | exact Below.refl _ _ | assumption | refine Below.alloc ?_ (by simp <;> omega) _ | refine Below.setCell ?_ (by simp <;> omega) _ | refine Below.drew ?_))
          clear hK K hHeld; have hHeld := hHeld2; clear hHeld2; (try simp only [Act.put, zn1, zn2, zn3])
          refine tY (i := 11) (v := ?_) rfl ?_ hHeld ?_; rotate_left 1; focus (intro w' hSw; clear hSw; go_simp; try with_reducible rfl)
          (try simp only [Act.put, zn1, zn2, zn3])
          refine wpAnyH_done (by kernel_rfl) ?_ _
          go_wp2_with fail
          go_ret
          refine RdIs.of hc3 HR4.out hHeld ?_ ?_
          · rw [HI.out, List.length_append, List.length_cons, List.length_take, HLk.out]; omega
          · rw [HI.out]; simp [svs, List.map_take, List.map_drop]
        · go_wp2_with fail
          go_ret
          have hins : insL ltS s ss = ss := by rw [insL_cut ss k hk hall Hge.out, if_pos]; rw [List.getElem?_eq_getElem hlt, Hx.out]; simpa using hxs
          exact RdIs.of hc Hr.out (Below.refl _ _) (by rw [hins]) (by rw [hins])
      · go_wp2_with fail
        go_round
        case rel =>
          refine ⟨k + 1, by omega, by go_num, fun y hy => ?_⟩
          rw [List.take_succ_eq_append_getElem hlt, List.mem_append, List.mem_singleton] at hy
          rcases hy with h | h
          · exact hall y h
          · rw [h, Hx.out]; exact hlx
        case measure => simp [intOf]; omega
    · have hge : ∀ h : k < ss.length, ltS ss[k] s = false := fun h => absurd h hlt
      have hne : ¬ ss[k]? = some s := by rw [List.getElem?_eq_none (by omega)]; simp
      go_wp2_with fail
      have hins : insL ltS s ss = ss.take k ++ s :: ss.drop k := by rw [insL_cut ss k hk hall hge, if_neg hne]
      have HI := Lib.hid hins
      have HR1 := Lib.hid (Hr.out.takeA hk)
      have HR2 := Lib.hid (Hr.out.dropA hk hc)
      have hs1 := run_slice_full (P := Tryz.prog) Tryz.underlying27 hi A ss.length c k (Nat.le_trans hk hc)
      have hs2 := run_slice_tail (P := Tryz.prog) Tryz.underlying27 hi A ss.length c k hk
      rw [hz1] at hs1 hs2
      clear hins hne hge
      have hlk : (ss.drop k).length = ss.length - k := List.length_drop
      have HLk := Lib.hid hlk
      clear hlk
      try go_wp2_with fail
      refine wp_region_held_drew (S := fun w' => Below w.heap.size w w') (by kernel_rfl) (Below.drew (Below.refl _ _)) (fun hHeld => ?_)
      refine tY (i := 0) (v := ?_) rfl ?_ hHeld ?_; rotate_left 1; focus (intro w' hSw; clear hSw; go_simp; try with_reducible rfl)
      (try simp only [Act.put, zn1, zn2, zn3])
      refine tY (i := 1) (v := ?_) rfl ?_ hHeld ?_; rotate_left 1; focus (intro w' hSw; clear hSw; go_simp; try with_reducible rfl)
      (try simp only [Act.put, zn1, zn2, zn3])
      refine tY (i := 2) (v := ?_) rfl ?_ hHeld ?_; rotate_left 1; focus (intro w' hSw; clear hSw; go_simp; try with_reducible rfl)
      (try simp only [Act.put, zn1, zn2, zn3])
      refine tY (i := 3) (v := ?_) rfl ?_ hHeld ?_; rotate_left 1; focus (intro w' hSw; clear hSw; go_simp; try with_reducible rfl)
      (try simp only [Act.put, zn1, zn2, zn3])
      refine tY (i := 4) (v := ?_) rfl ?_ hHeld ?_; rotate_left 1; focus (intro w' hSw; clear hSw; go_simp; try with_reducible rfl)
      (try simp only [Act.put, zn1, zn2, zn3])
      refine tY (i := 6) (v := ?_) rfl ?_ hHeld ?_; rotate_left 1; focus (intro w' hSw; clear hSw; go_simp; try with_reducible rfl)
      (try simp only [Act.put, zn1, zn2, zn3])
      refine tY (i := 7) (v := ?_) rfl ?_ hHeld ?_; rotate_left 1; focus (intro w' hSw; clear hSw; go_simp; try with_reducible rfl)
      (try simp only [Act.put, zn1, zn2, zn3])
      refine tY (i := 8) (v := ?_) rfl ?_ hHeld ?_; rotate_left 1; focus (intro w' hSw; clear hSw; go_simp; try with_reducible rfl)
      (try simp only [Act.put, zn1, zn2, zn3])
      refine ready_one (i := 5) rfl (by kernel_rfl) (fun K hK => ?_)
      go_simp
      refine hK.out _ _ ?_ (fun hHeld2 => ?_)
      · (try dsimp only); first | exact hHeld | exact (by repeat (first | exact Below.refl _ _ | assumption | refine Below.alloc ?_ (by simp <;> omega) _ | refine Below.setCell ?_ (by simp <;> omega) _ | refine Below.drew ?_))
      clear hK K hHeld; have hHeld := hHeld2; clear hHeld2; (try simp only [Act.put, zn1, zn2, zn3])
      refine ready_one (i := 9) rfl (by kernel_rfl) (fun K hK => ?_)
      refine step_append_full (by rfl) (.tmp 38) (.tmp 41) 27 (by rfl) 9 i0 (.string ⟨#[]⟩) 1 16 Tryz.underlying27 hi hz0 hz1 hz2 rfl _ (some ⟨w.heap.size, 0, none⟩) 1 [sv s] (by rfl) (Rd.lit w.drew [sv s] 9 1 1 rfl) (Nat.le_refl _) _ _ (ss.length - k) (c - k) _ (by rfl) (HR2.out.at' (Nat.le_refl _) hHeld) (one_drop (one_svs ss) _) (by unfold maxLen; omega) (by omega) ?_
      intro A2 c2 v2 hc2 hr2 hb
      have HR3 := Lib.hid hr2
      clear hr2
      refine hK.out _ _ ?_ (fun hHeld2 => ?_)
      · (try dsimp only); first | exact Below.trans hHeld (Below.mono hb hHeld.size) | exact hHeld | exact Below.drew hHeld | exact (by repeat (first | exact Below.refl _ _ | assumption | refine Below.alloc ?_ (by simp <;> omega) _ | refine Below.setCell ?_ (by simp <;> omega) _ | refine Below.drew ?_))
      clear hK K hHeld; have hHeld := hHeld2; clear hHeld2; (try simp only [Act.put, zn1, zn2, zn3])
      refine ready_one (i := 10) rfl (by kernel_rfl) (fun K hK => ?_)
      refine step_append_full (by rfl) (.tmp 36) (.tmp 42) 27 (by rfl) 9 i0 (.string ⟨#[]⟩) 1 16 Tryz.underlying27 hi hz0 hz1 hz2 rfl _ _ k _ (by rfl) (HR1.out.at' (Nat.le_refl _) hHeld) (Nat.le_refl _) _ A2 (1 + (ss.length - k)) c2 _ (by rfl) HR3.out (one_app (one_sv s) (one_drop (one_svs ss) _)) (by unfold maxLen; omega) (by omega) ?_
      intro A3 c3 v3 hc3 hr3 hb
      have HR4 := Lib.hid hr3
      clear hr3
      refine hK.out _ _ ?_ (fun hHeld2 => ?_)
      · (try dsimp only); first | exact Below.trans hHeld (Below.mono hb hHeld.size) | exact hHeld | exact Below.drew hHeld | exact (by repeat (first | exact Below.refl _ _ | assumption | refine Below.alloc ?_ (by simp <;> omega) _ | refine Below.setCell ?_ (by simp <;> omega) _ | refine Below.drew ?_))
      clear hK K hHeld; have hHeld := hHeld2; clear hHeld2; (try simp only [Act.put, zn1, zn2, zn3])
      refine tY (i := 11) (v := ?_) rfl ?_ hHeld ?_; rotate_left 1; focus (intro w' hSw; clear hSw; go_simp; try with_reducible rfl)
      (try simp only [Act.put, zn1, zn2, zn3])
      refine wpAnyH_done (by kernel_rfl) ?_ _
      go_wp2_with fail
      go_ret
      refine RdIs.of hc3 HR4.out hHeld ?_ ?_
      · rw [HI.out, List.length_append, List.length_cons, List.length_take, HLk.out]; omega
      · rw [HI.out]; simp [svs, List.map_take, List.map_drop]
end Od
end Go.Proofs.YtmlogmcnblgnbaaGreat
end

section
/- The walk of matinsref15.In: who leads to a unit by a relation, rising, each once. (bel2) -/
namespace Go.Proofs.YtmlogmcnblgnbaaGreat
open Go.RowKit Go.Sort
set_option linter.unusedSimpArgs false

namespace Od
def inQ (u : Str) (rel : Int) (e : Ed) : Bool := e.2.1 == u && e.2.2 == rel
def inRaw (es : List Ed) (u : Str) (rel : Int) : List Str := (es.filter (inQ u rel)).map (fun e => e.1)
def inR (es : List Ed) (u : Str) (rel : Int) : List Str := canon ltS (inRaw es u rel)
theorem inRaw_succ {es : List Ed} {u : Str} {rel : Int} {k : Nat} (h : k < es.length) : inRaw (es.take (k + 1)) u rel = inRaw (es.take k) u rel ++ (if (es[k].2.1 == u && es[k].2.2 == rel) = true then [es[k].1] else []) := by
  unfold inRaw
  rw [List.take_succ_eq_append_getElem h, List.filter_append, List.map_append]
  congr 1
  rw [List.filter_cons, List.filter_nil]
  show List.map _ (if inQ u rel es[k] = true then _ else _) = _
  unfold inQ
  split <;> simp
theorem inR_put {l : List Str} {s : Str} : canon ltS (l ++ [s]) = insL ltS s (canon ltS l) := by unfold canon; rw [List.foldl_append]; rfl
theorem inR_len (es : List Ed) (u : Str) (rel : Int) (k : Nat) : (canon ltS (inRaw (es.take k) u rel)).length ≤ es.length := by
  refine Nat.le_trans (canon_len _) ?_
  unfold inRaw
  rw [List.length_map]
  refine Nat.le_trans (List.length_filter_le _ _) ?_
  rw [List.length_take]; omega
theorem inR_nil {es : List Ed} {u : Str} {rel : Int} (h : (inR es u rel).length = 0) (a : Str) : hasE es a u rel = false := by
  cases hh : hasE es a u rel
  · rfl
  · exfalso
    have h1 := List.length_eq_zero_iff.1 h
    have h2 : a ∈ inR es u rel := (mem_canon toS).2 (List.mem_map.2 ⟨(a, u, rel), List.mem_filter.2 ⟨hasE_iff.1 hh, by unfold inQ; simp⟩, rfl⟩)
    rw [h1] at h2; cases h2
set_option maxRecDepth 100000 in
set_option maxHeartbeats 4000000 in
theorem In15_any (An Ae : Option Addr) (nn cn ce : Nat) (es : List Ed) (u : Str) (rel : Int) (w : World) (hr : Rd w w.heap.size 3 Ae es.length (edsC es)) (hl : es.length ≤ 1000000) :
    Calls Tryz.prog 34 #[gV An nn cn Ae es.length ce, sv u, .int .i64 rel] w (RdIs 1 (inR es u rel).length (svs (inR es u rel)) w) := by
  have Hr := Lib.hid hr
  clear hr
  go_enter Tryz.func34, Tryz.ntmps34
  go_wp2_with fail
  first | (refine wp_named ?_; intro W1 hW) | (refine calls_named ?_; intro W1 hW)
  have B1 : Below w.heap.size w W1 := by rw [hW]; exact (by repeat (first | exact Below.refl _ _ | assumption | refine Below.alloc ?_ (by first | omega | (simp <;> omega)) _ | refine Below.setCell ?_ (by first | omega | (simp <;> omega)) _ | refine Below.drew ?_))
  replace Hr := Lib.hid (Hr.out.at B1)
  have n1 : w.heap.size < W1.heap.size := by rw [hW]; simp <;> omega
  have g0 : W1.cell? ⟨w.heap.size, 0, none⟩ = some (.slice An nn cn) := by rw [hW]; go_simp
  have g1 : W1.cell? ⟨w.heap.size, 1, none⟩ = some (.slice Ae es.length ce) := by rw [hW]; go_simp
  clear hW
  have HB1 := Lib.hid B1
  clear B1
  go_wp2_with fail
  go_loopw [7, 13] (fun v i wr => ∃ (k : Nat) (A9 : Option Addr) (c9 : Nat), k ≤ es.length ∧ i = .int .i64 k ∧ v = .slice A9 (canon ltS (inRaw (es.take k) u rel)).length c9 ∧ (canon ltS (inRaw (es.take k) u rel)).length ≤ c9 ∧ Hid (Rd wr wr.heap.size 1 A9 (canon ltS (inRaw (es.take k) u rel)).length (svs (canon ltS (inRaw (es.take k) u rel)))) ∧ Below W1.heap.size W1 wr) (fun _ i _ => es.length - (intOf i).toNat)
  case atStart => exact ⟨0, none, 0, Nat.zero_le _, rfl, rfl, Nat.le_refl _, Rd.none_, Below.refl _ _⟩
  case round =>
    obtain ⟨k, A9, c9, hk, rfl, rfl, hc9, HR, hb⟩ := hrel
    have HBl := Lib.hid hb
    replace g0 := cellAt g0 hb (by omega)
    replace g1 := cellAt g1 hb (by omega)
    replace Hr := Lib.hid (Hr.out.at hb)
    replace n1 : w.heap.size < wr.heap.size := ltAt n1 hb
    clear hb
    by_cases hlt : k < es.length
    · obtain ⟨b2, o2, hA, hB2, x0, x1, x2⟩ := Hr.out.edge hlt
      have hsu := inRaw_succ (u := u) (rel := rel) hlt
      have hll := inR_len es u rel k
      subst hA
      generalize es[k] = e at x0 x1 x2 hsu
      obtain ⟨s, d, r⟩ := e
      simp only at x0 x1 x2 hsu
      generalize inRaw (es.take k) u rel = L at HR hsu hll hc9 ⊢
      have HSu := Lib.hid hsu
      have m1 : (0 : Int) ≤ (k : Int) := by omega
      have m2 : (k : Int) < (es.length : Int) := by omega
      clear hsu
      cases e1 : (d == u)
      · have HS2 := Lib.hid (show inRaw (es.take (k + 1)) u rel = L by rw [HSu.out, e1]; simp)
        go_wp2_with fail
        go_roundw
        case rel => exact ⟨k + 1, A9, c9, by omega, by go_num, by rw [HS2.out], by rw [HS2.out]; exact hc9, by rw [HS2.out]; exact HR.out.at ((Below.refl _ _).alloc (Nat.le_refl _) _), HBl.out.alloc (by have := HBl.out.size; omega) _⟩
        case measure => simp [intOf]; omega
      · cases e2 : (r == rel)
        · have HS2 := Lib.hid (show inRaw (es.take (k + 1)) u rel = L by rw [HSu.out, e1, e2]; simp)
          go_wp2_with fail
          go_roundw
          case rel => exact ⟨k + 1, A9, c9, by omega, by go_num, by rw [HS2.out], by rw [HS2.out]; exact hc9, by rw [HS2.out]; exact HR.out.at ((Below.refl _ _).alloc (Nat.le_refl _) _), HBl.out.alloc (by have := HBl.out.size; omega) _⟩
          case measure => simp [intOf]; omega
        · have HS2 := Lib.hid (show inRaw (es.take (k + 1)) u rel = L ++ [s] by rw [HSu.out, e1, e2]; rfl)
          go_wp2_with fail
          first | (refine wp_named ?_; intro W4 hW) | (refine calls_named ?_; intro W4 hW)
          have B4 : Below wr.heap.size wr W4 := by rw [hW]; exact (by repeat (first | exact Below.refl _ _ | assumption | refine Below.alloc ?_ (by first | omega | (simp <;> omega)) _ | refine Below.setCell ?_ (by first | omega | (simp <;> omega)) _ | refine Below.drew ?_))
          replace g0 := cellAt g0 B4 (by omega)
          replace g1 := cellAt g1 B4 (by omega)
          replace Hr := Lib.hid (Hr.out.at B4)
          replace n1 : w.heap.size < W4.heap.size := ltAt n1 B4
          replace HBl := Lib.hid (lift HBl.out B4)
          replace HR := Lib.hid (HR.out.at B4)
          clear hW
          clear B4 x0 x1 x2
          refine (put15_any A9 c9 (canon ltS L) s W4 HR.out hc9 (by omega)).mono ?_
          rintro e v3 ⟨A8, c8, rfl, hc8, hr8, hb⟩
          have HR8 := Lib.hid hr8
          replace g0 := cellAt g0 hb (by omega)
          replace g1 := cellAt g1 hb (by omega)
          replace Hr := Lib.hid (Hr.out.at hb)
          replace n1 : w.heap.size < v3.heap.size := ltAt n1 hb
          replace HBl := Lib.hid (lift HBl.out hb)
          replace HR := Lib.hid (HR.out.at hb)
          clear hb hr8
          go_wp2_with fail
          go_roundw
          case rel =>
            refine ⟨k + 1, A8, c8, by omega, by go_num, ?_, ?_, ?_, HBl.out⟩
            · rw [HS2.out, inR_put]
            · rw [HS2.out, inR_put]; exact hc8
            · rw [HS2.out, inR_put]; exact HR8
          case measure => simp [intOf]; omega
    · have htk : es.take k = es := List.take_of_length_le (by omega)
      rw [htk] at HR hc9 ⊢
      have HB := Lib.hid (lift HB1.out HBl.out)
      go_wp2_with fail
      go_ret
      exact ⟨A9, c9, rfl, hc9, HR.out, HB.out⟩
end Od
end Go.Proofs.YtmlogmcnblgnbaaGreat
end

section
/- The walk of the law WavePart. (bel2) -/
namespace Go.Proofs.YtmlogmcnblgnbaaGreat
open Go.RowKit Go.Sort
set_option linter.unusedSimpArgs false

namespace Od

theorem and_range (x : Int) : 0 ≤ bits .and .i64 x 65535 ∧ bits .and .i64 x 65535 ≤ 65535 := by
  have e : bits .and .i64 x 65535 = IntKind.i64.wrap ((BitVec.ofInt 64 x &&& BitVec.ofInt 64 65535).toNat : Int) := rfl
  have h : (BitVec.ofInt 64 x &&& BitVec.ofInt 64 65535).toNat ≤ 65535 := by
    rw [BitVec.toNat_and]
    exact Nat.le_trans Nat.and_le_right (by decide)
  rw [e, IntWalk.i64_in _ (by omega)]
  omega
theorem cut_at (x : Int) (n : Nat) (hn : 1 ≤ n) : ∃ k : Nat, k < n ∧ (bits .and .i64 x 65535).tmod (n : Int) = (k : Int) := by
  have h := and_range x
  generalize bits .and .i64 x 65535 = v at h
  have e : v.tmod (n : Int) = v % (n : Int) := Int.tmod_eq_emod_of_nonneg h.1
  have h1 := Int.emod_nonneg v (show (n : Int) ≠ 0 by omega)
  have h2 := Int.emod_lt_of_pos v (show (0 : Int) < (n : Int) by omega)
  exact ⟨(v % (n : Int)).toNat, by omega, by rw [e]; omega⟩
theorem run_slice_to {P : Program} {t e : TypeId} {i : TypeInfo} (ht : P.underlying t = some (.slice e)) (hi : P.info? e = some i) (A : Option Addr) (n c k : Nat) (hk : k ≤ c) (w : World) :
    (Instr.slice t (.slice A n c) none (some (.int .i64 k)) none).run P w = .ok (.slice A k c) w := by
  simp [Instr.slice, run_underlying ht, Instr.sliceBounds, Instr.sliceBound, asIntOf, sizeOf, typeInfo, hi]
  rw [if_pos hk]
  split
  · rfl
  · cases A <;> simp [Addr.add]
theorem jbsC_take (l : List Jb) (m : Nat) : (jbsC l).take (m * 4) = jbsC (l.take m) := by
  induction m generalizing l with
  | zero => simp [jbsC]
  | succ m ih =>
    cases l with
    | nil => simp [jbsC]
    | cons a l =>
      rw [show (m + 1) * 4 = m * 4 + 4 from by omega, List.take_succ_cons]
      show ((jbC a) ++ jbsC l).take (m * 4 + 4) = jbC a ++ jbsC (l.take m)
      rw [← ih l, show m * 4 + 4 = (jbC a).length + m * 4 from by rw [jbC_len]; omega, List.take_length_add_append]
section
variable {P : Program} {w : World}
theorem step_append_rdw {ops : Array Oper} {o : Oper} {a : Act} {K : Act → World → Prop} {Q : Exit → Act → World → Prop} {E : Prop} (hw : Region.wanted o (yielded ops a.tmps) = true) (s x : Operand) (t : TypeId)
    (ho : o.op = .call { callee := .builtin .append, args := #[s, x], argTypes := #[t, t] })
    (base : Nat) (e : TypeId) (i : TypeInfo) (z : Value) (size bytes : Nat) (ht : P.underlying t = some (.slice e)) (hi : P.info? e = some i) (hz : i.zero = some z)
    (hsize : i.size = size) (hby : i.bytes = bytes) (hzs : z.cells.size = size) (hsz : 0 < size)
    (v : Value) (n : Nat) (xs : List Value) (hs : a.eval s = v) (hown : w.ownsRow base e size v n xs)
    (B : Nat) (A : Option Addr) (m c : Nat) (news : List Value) (hx : a.eval x = .slice A m c) (hr : Rd w B size A m news) (h1 : ∀ u ∈ news, u.oneCell' = true)
    (h63 : n + m ≤ maxLen) (hbytes : (n + m) * bytes ≤ 140737488355328) (hbase : base ≤ w.heap.size)
    (h : ∀ A' c' w', w'.ownsRow base e size (.slice A' (n + m) c') (n + m) (xs ++ news) → w.grownBy w' v.ownBlock → K (a.put o.dst (.slice A' (n + m) c')) w') :
    if Region.wanted o (yielded ops a.tmps) = true then Oper.wp P o a w K Q else E := by
  rw [if_pos hw]
  exact wp_append_rd w s x t ho base e i z size bytes ht hi hz hsize hby hzs hsz v n xs hs hown B A m c news hx hr h1 h63 hbytes hbase fun A' c' w' h2 h3 _ => h A' c' w' h2 h3
theorem step_append_firstw {ops : Array Oper} {o : Oper} {a : Act} {K : Act → World → Prop} {Q : Exit → Act → World → Prop} {E : Prop} (hw : Region.wanted o (yielded ops a.tmps) = true) (s x : Operand) (t : TypeId)
    (ho : o.op = .call { callee := .builtin .append, args := #[s, x], argTypes := #[t, t] })
    (base : Nat) (e : TypeId) (i : TypeInfo) (z : Value) (size bytes : Nat) (ht : P.underlying t = some (.slice e)) (hi : P.info? e = some i) (hz : i.zero = some z)
    (hsize : i.size = size) (hby : i.bytes = bytes) (hzs : z.cells.size = size) (hsz : 0 < size) (hs : a.eval s = .slice none 0 0)
    (B : Nat) (A : Option Addr) (m c : Nat) (news : List Value) (hx : a.eval x = .slice A m c) (hr : Rd w B size A m news) (h1 : ∀ u ∈ news, u.oneCell' = true)
    (h63 : m ≤ maxLen) (hbytes : m * bytes ≤ 140737488355328) (hbase : base ≤ w.heap.size)
    (h : ∀ A' c' w', w'.ownsRow base e size (.slice A' m c') m news → Below w.heap.size w w' → K (a.put o.dst (.slice A' m c')) w') :
    if Region.wanted o (yielded ops a.tmps) = true then Oper.wp P o a w K Q else E := by
  refine step_append_rdw hw s x t ho base e i z size bytes ht hi hz hsize hby hzs hsz (.slice none 0 0) 0 [] hs (World.ownsRow_nil _ _ _ _) B A m c news hx hr h1 (by omega) (by simpa using hbytes) hbase ?_
  intro A' c' w' h2 h3
  rw [Nat.zero_add, List.nil_append] at h2
  rw [Nat.zero_add]
  exact h A' c' w' h2 ((Below.refl _ _).grown h3 (Nat.le_refl _) (by simp [Value.ownBlock]))
end
theorem one_jbsC' (l : List Jb) : ∀ u ∈ jbsC l, u.oneCell' = true := one_jbsC l
set_option maxRecDepth 100000 in
set_option maxHeartbeats 16000000 in
theorem wavePart_any (An Ae : Option Addr) (cn ce : Nat) (ns : List Nd) (es : List Ed) (A : Option Addr) (c : Nat) (q : List Jb) (Af : Option Addr) (cf : Nat) (fails : List Str) (at_ : Int) (w : World) (hg : GIw w An Ae ns es) (hq : QIn w A c q) (hf : Rd w w.heap.size 1 Af fails.length (svs fails)) (hlf : fails.length ≤ 140737488351232) :
    Calls Tryz.prog 11 #[gV An ns.length cn Ae es.length ce, .slice A q.length c, .slice Af fails.length cf, .int .i64 at_] w fun e w' => e = .returned (.bool true) ∧ Below w.heap.size w w' := by
  obtain ⟨i0, hi, hz0, hz1, hz2⟩ := info_parts infoJb
  have HG := Lib.hid hg
  have HQ := Lib.hid hq
  have HFl := Lib.hid hf
  clear hg hq hf
  cases d40 : decide ((40 : Int) < (q.length : Int))
  · cases d0 : ((q.length : Int) == 0)
    · have h40 : ¬ (40 : Int) < (q.length : Int) := by simpa using d40
      have h0 : 1 ≤ q.length := by
        have : ¬ (q.length : Int) = 0 := by simpa using d0
        omega
      go_enter Tryz.func11, Tryz.ntmps11
      go_wp2_with fail
      first | (refine wp_named ?_; intro W1 hW) | (refine calls_named ?_; intro W1 hW)
      have B1 : Below w.heap.size w W1 := by rw [hW]; exact (by repeat (first | exact Below.refl _ _ | assumption | refine Below.alloc ?_ (by first | omega | (simp <;> omega)) _ | refine Below.setCell ?_ (by first | omega | (simp <;> omega)) _ | refine Below.drew ?_))
      replace HG := Lib.hid (HG.out.at B1)
      replace HQ := Lib.hid (HQ.out.at B1)
      replace HFl := Lib.hid (HFl.out.at B1)
      have nw1 : w.heap.size < W1.heap.size := by rw [hW]; simp <;> omega
      have c0 : W1.cell? ⟨w.heap.size, 0, none⟩ = some (.slice An ns.length cn) := by rw [hW]; go_simp
      have c1 : W1.cell? ⟨w.heap.size, 1, none⟩ = some (.slice Ae es.length ce) := by rw [hW]; go_simp
      clear hW
      have HB := Lib.hid B1
      clear B1
      refine (shown_any W1).mono ?_
      rintro e w2 ⟨rfl, hb⟩
      replace c0 := cellAt c0 hb (by omega)
      replace c1 := cellAt c1 hb (by omega)
      replace HG := Lib.hid (HG.out.at hb)
      replace HQ := Lib.hid (HQ.out.at hb)
      replace HFl := Lib.hid (HFl.out.at hb)
      replace nw1 : w.heap.size < w2.heap.size := ltAt nw1 hb
      replace HB := Lib.hid (lift HB.out hb)
      clear hb
      go_wp2_with fail
      refine (small_any An Ae cn ce ns es w2).mono ?_
      rintro e w3 ⟨rfl, hb⟩
      replace c0 := cellAt c0 hb (by omega)
      replace c1 := cellAt c1 hb (by omega)
      replace HG := Lib.hid (HG.out.at hb)
      replace HQ := Lib.hid (HQ.out.at hb)
      replace HFl := Lib.hid (HFl.out.at hb)
      replace nw1 : w.heap.size < w3.heap.size := ltAt nw1 hb
      replace HB := Lib.hid (lift HB.out hb)
      clear hb
      cases hsm : smallB ns es
      · go_wp2_with fail
        go_ret
        exact ⟨rfl, HB.out⟩
      · have hs2 := smallB_iff.1 hsm
        have hl1 := hs2.1
        have hl2 := hs2.2
        clear hs2
        go_wp2_with fail
        refine (SoundQ_any An Ae cn ce ns es A c q w3 (HG.out.q (by omega) (by omega)) HQ.out (by omega)).mono ?_
        rintro e w4 ⟨rfl, hb⟩
        replace c0 := cellAt c0 hb (by omega)
        replace c1 := cellAt c1 hb (by omega)
        replace HG := Lib.hid (HG.out.at hb)
        replace HQ := Lib.hid (HQ.out.at hb)
        replace HFl := Lib.hid (HFl.out.at hb)
        replace nw1 : w.heap.size < w4.heap.size := ltAt nw1 hb
        replace HB := Lib.hid (lift HB.out hb)
        clear hb
        cases hsd : soundQ ns es q
        · go_wp2_with fail
          go_ret
          exact ⟨rfl, HB.out⟩
        · obtain ⟨k, hk, hcut⟩ := cut_at at_ q.length h0
          obtain ⟨b2, o2, hA, hB2, x0, x1, x2, x3⟩ := HQ.out.rq.job hk
          have hpart := fun h => fact_part (fails := fails) hsd hk h
          have hsd2 := sound_sub hsd (dropAt_sub q k)
          have HSd := Lib.hid hsd
          have HSd2 := Lib.hid hsd2
          have HPart := Lib.hid hpart
          have hqk := Lib.hid (Eq.refl q[k])
          have hxk : (q[k]'hk).1 = (q[k]'hk).1 := rfl
          generalize hu : q[k].1 = u at x0 hxk
          have HU := Lib.hid hu
          have k1 : (0 : Int) ≤ (k : Int) := by omega
          have k2 : (k : Int) < (q.length : Int) := by omega
          have kw : IntKind.i64.wrap ((k : Int) + 1) = (k : Int) + 1 := IntWalk.i64_in _ (by omega)
          have hi1 := inR_len es u 1 es.length
          have hi4 := inR_len es u 4 es.length
          rw [List.take_length] at hi1 hi4
          change (inR es u 1).length ≤ _ at hi1
          change (inR es u 4).length ≤ _ at hi4
          have hia : IntKind.i64.wrap (((inR es u 1).length : Int) + ((inR es u 4).length : Int)) = ((inR es u 1).length : Int) + ((inR es u 4).length : Int) := IntWalk.i64_in _ (by omega)
          clear hu hxk hsd hsd2 hpart hqk x1 x2 x3
          subst hA
          have hcap := HQ.out.cap
          go_wp2_with fail
          try go_wp2_with fail
          refine wp_region_held_drew (S := fun w' => Below w4.heap.size w4 w') (by kernel_rfl) (Below.drew (Below.refl _ _)) (fun hHeld => ?_)
          refine tY (i := 0) (v := ?_) rfl ?_ hHeld ?_; rotate_left 1; focus (intro w' hSw; have hCell := fun (b o : Nat) (h : b < w4.heap.size) => hSw.cell (p := ⟨b, o, none⟩) h; clear hSw; go_simp; try with_reducible rfl)
          (try simp only [Act.put, zn1, zn2, zn3])
          refine tY (i := 1) (v := ?_) rfl ?_ hHeld ?_; rotate_left 1; focus (intro w' hSw; clear hSw; go_simp; try with_reducible rfl)
          (try simp only [Act.put, zn1, zn2, zn3])
          refine tY (i := 2) (v := ?_) rfl ?_ hHeld ?_; rotate_left 1; focus (intro w' hSw; clear hSw; go_simp; try with_reducible rfl)
          (try simp only [Act.put, zn1, zn2, zn3])
          refine tY (i := 3) (v := ?_) rfl ?_ hHeld ?_; rotate_left 1; focus (intro w' hSw; clear hSw; go_simp; try with_reducible rfl)
          (try simp only [Act.put, zn1, zn2, zn3])
          refine tY (i := 4) (v := ?_) rfl ?_ hHeld ?_; rotate_left 1; focus (intro w' hSw; clear hSw; go_simp; try with_reducible rfl)
          (try simp only [Act.put, zn1, zn2, zn3])
          refine tY (i := 5) (v := ?_) rfl ?_ hHeld ?_; rotate_left 1; focus (intro w' hSw; have hCell := fun (b o : Nat) (h : b < w4.heap.size) => hSw.cell (p := ⟨b, o, none⟩) h; clear hSw; go_simp; try with_reducible rfl)
          (try simp only [Act.put, zn1, zn2, zn3])
          refine tY (i := 8) (v := ?_) rfl ?_ hHeld ?_; rotate_left 1; focus (intro w' hSw; have hCell := fun (b o : Nat) (h : b < w4.heap.size) => hSw.cell (p := ⟨b, o, none⟩) h; clear hSw; go_simp; try with_reducible rfl)
          (try simp only [Act.put, zn1, zn2, zn3])
          refine tY (i := 9) (v := ?_) rfl ?_ hHeld ?_; rotate_left 1; focus (intro w' hSw; clear hSw; go_simp; try with_reducible rfl)
          (try simp only [Act.put, zn1, zn2, zn3])
          refine tY (i := 10) (v := ?_) rfl ?_ hHeld ?_; rotate_left 1; focus (intro w' hSw; clear hSw; go_simp; try with_reducible rfl)
          (try simp only [Act.put, zn1, zn2, zn3])
          refine tY (i := 11) (v := ?_) rfl ?_ hHeld ?_; rotate_left 1; focus (intro w' hSw; clear hSw; go_simp; try with_reducible rfl)
          (try simp only [Act.put, zn1, zn2, zn3])
          refine tY (i := 12) (v := ?_) rfl ?_ hHeld ?_; rotate_left 1; focus (intro w' hSw; clear hSw; go_simp; try with_reducible rfl)
          (try simp only [Act.put, zn1, zn2, zn3])
          refine tY (i := 13) (v := ?_) rfl ?_ hHeld ?_; rotate_left 1; focus (intro w' hSw; have hCell := fun (b o : Nat) (h : b < w4.heap.size) => hSw.cell (p := ⟨b, o, none⟩) h; clear hSw; go_simp; try with_reducible rfl)
          (try simp only [Act.put, zn1, zn2, zn3])
          refine ready_one (i := 6) rfl (by kernel_rfl) (fun K hK => ?_)
          go_simp
          refine (In15_any An Ae ns.length cn ce es u 1 _ (HG.out.at hHeld).re (by omega)).mono ?_
          rintro e v1 ⟨A5, c5, rfl, hc5, ho5, hb⟩
          clear ho5
          refine hK.out _ _ ?_ (fun hHeld2 => ?_)
          · (try dsimp only); first | exact Below.trans hHeld (Below.mono hb hHeld.size) | exact hHeld | exact Below.drew hHeld | exact (by repeat (first | exact Below.refl _ _ | assumption | refine Below.alloc ?_ (by first | omega | (simp <;> omega)) _ | refine Below.setCell ?_ (by first | omega | (simp <;> omega)) _ | refine Below.drew ?_))
          clear hK K hHeld; have hHeld := hHeld2; clear hHeld2; (try simp only [Act.put, zn1, zn2, zn3])
          refine tY (i := 7) (v := ?_) rfl ?_ hHeld ?_; rotate_left 1; focus (intro w' hSw; clear hSw; go_simp; try with_reducible rfl)
          (try simp only [Act.put, zn1, zn2, zn3])
          refine ready_one (i := 14) rfl (by kernel_rfl) (fun K hK => ?_)
          go_simp
          refine (In15_any An Ae ns.length cn ce es u 4 _ (HG.out.at hHeld).re (by omega)).mono ?_
          rintro e v2 ⟨A6, c6, rfl, hc6, ho6, hb⟩
          clear ho6
          refine hK.out _ _ ?_ (fun hHeld2 => ?_)
          · (try dsimp only); first | exact Below.trans hHeld (Below.mono hb hHeld.size) | exact hHeld | exact Below.drew hHeld | exact (by repeat (first | exact Below.refl _ _ | assumption | refine Below.alloc ?_ (by first | omega | (simp <;> omega)) _ | refine Below.setCell ?_ (by first | omega | (simp <;> omega)) _ | refine Below.drew ?_))
          clear hK K hHeld; have hHeld := hHeld2; clear hHeld2; (try simp only [Act.put, zn1, zn2, zn3])
          refine tY (i := 15) (v := ?_) rfl ?_ hHeld ?_; rotate_left 1; focus (intro w' hSw; clear hSw; go_simp; try with_reducible rfl)
          (try simp only [Act.put, zn1, zn2, zn3])
          refine tY (i := 16) (v := ?_) rfl ?_ hHeld ?_; rotate_left 1; focus (intro w' hSw; clear hSw; go_simp; try with_reducible rfl)
          (try simp only [Act.put, zn1, zn2, zn3])
          refine tY (i := 17) (v := ?_) rfl ?_ hHeld ?_; rotate_left 1; focus (intro w' hSw; clear hSw; go_simp; try with_reducible rfl)
          (try simp only [Act.put, zn1, zn2, zn3])
          refine wpAnyH_done (by kernel_rfl) ?_ _
          replace c0 := cellAt c0 hHeld (by omega)
          replace c1 := cellAt c1 hHeld (by omega)
          replace x0 := cellAt x0 hHeld (by omega)
          replace HG := Lib.hid (HG.out.at hHeld)
          replace HQ := Lib.hid (HQ.out.at hHeld)
          replace HFl := Lib.hid (HFl.out.at hHeld)
          replace nw1 : w.heap.size < v2.heap.size := ltAt nw1 hHeld
          replace HB := Lib.hid (lift HB.out hHeld)
          replace hB2 : b2 < v2.heap.size := ltAt hB2 hHeld
          clear hHeld
          by_cases hz : (inR es u 1).length = 0 ∧ (inR es u 4).length = 0
          · have hn := HPart.out (fun v => by rw [HU.out]; exact ⟨inR_nil hz.1 v, inR_nil hz.2 v⟩)
            have HN := Lib.hid hn
            have e0 : ((0 : Nat) : Int) = 0 := rfl
            simp only [hz.1, hz.2, e0]
            clear hn hz hi1 hi4 hia
            have ho1 := one_jbsC' (q.take k)
            have ho2 := one_jbsC' (q.drop (k + 1))
            have hkl : (q.take k).length = k := by rw [List.length_take]; omega
            have hdl : (dropAt q k).length = k + (q.drop (k + 1)).length := by unfold dropAt; rw [List.length_append, hkl]
            have hdd : (q.drop (k + 1)).length = q.length - (k + 1) := List.length_drop
            have h63 : k ≤ maxLen := by unfold maxLen; omega
            have h63b : k + (q.drop (k + 1)).length ≤ maxLen := by unfold maxLen; omega
            have hby : k * 40 ≤ 140737488355328 := by omega
            have hbyb : (k + (q.drop (k + 1)).length) * 40 ≤ 140737488355328 := by omega
            have HL := Lib.hid (And.intro ho1 (And.intro ho2 (And.intro h63 (And.intro h63b (And.intro hby hbyb)))))
            have HDl := Lib.hid (show k + (q.drop (k + 1)).length = (dropAt q k).length from hdl.symm)
            have HD40 := Lib.hid (show (dropAt q k).length ≤ 40 by omega)
            have HDj := Lib.hid (show jbsC (q.take k) ++ jbsC (q.drop (k + 1)) = jbsC (dropAt q k) by rw [← jbsC_app]; rfl)
            clear ho1 ho2 h63 h63b hby hbyb
            have HT1 := Lib.hid (show Rd v2 v2.heap.size 4 (some ⟨b2, o2, none⟩) k (jbsC (q.take k)) by rw [← jbsC_take]; exact HQ.out.rq.take (by omega))
            have hrd1 := HQ.out.rq.dropA (m := k + 1) (by omega) hcap
            have hml1 : (q.drop (k + 1)).length = q.length - (k + 1) := List.length_drop
            have hsl1 := run_slice_to (P := Tryz.prog) Tryz.underlying26 hi (some ⟨b2, o2, none⟩) q.length c k (by omega)
            have hst1 := run_slice_tail (P := Tryz.prog) Tryz.underlying26 hi (some ⟨b2, o2, none⟩) q.length c (k + 1) (by omega)
            rw [hz1] at hst1
            rw [show (((k + 1 : Nat)) : Int) = (k : Int) + 1 from by omega, ← hml1] at hst1
            rw [← hml1, ← jbsC_drop] at hrd1
            generalize hAd1 : dropA (some ⟨b2, o2, none⟩) c (k + 1) 4 = Ad1 at hst1 hrd1
            have HRd1 := Lib.hid hrd1
            clear hrd1 hAd1
            generalize hM1 : q.drop (k + 1) = M1 at *
            clear hml1 hM1 hdl hdd hkl
            go_wp2_with fail
            try go_wp2_with fail
            refine wp_region_held_drew (S := fun w' => Below v2.heap.size v2 w') (by kernel_rfl) (Below.drew (Below.refl _ _)) (fun hHeld => ?_)
            refine tY (i := 0) (v := ?_) rfl ?_ hHeld ?_; rotate_left 1; focus (intro w' hSw; clear hSw; go_simp; try with_reducible rfl)
            (try simp only [Act.put, zn1, zn2, zn3])
            refine tY (i := 1) (v := ?_) rfl ?_ hHeld ?_; rotate_left 1; focus (intro w' hSw; clear hSw; go_simp; try with_reducible rfl)
            (try simp only [Act.put, zn1, zn2, zn3])
            refine tY (i := 2) (v := ?_) rfl ?_ hHeld ?_; rotate_left 1; focus (intro w' hSw; clear hSw; go_simp; try with_reducible rfl)
            (try simp only [Act.put, zn1, zn2, zn3])
            refine tY (i := 4) (v := ?_) rfl ?_ hHeld ?_; rotate_left 1; focus (intro w' hSw; clear hSw; go_simp; try with_reducible rfl)
            (try simp only [Act.put, zn1, zn2, zn3])
            refine tY (i := 5) (v := ?_) rfl ?_ hHeld ?_; rotate_left 1; focus (intro w' hSw; clear hSw; go_simp; try with_reducible rfl)
            (try simp only [Act.put, zn1, zn2, zn3])
            refine tY (i := 6) (v := ?_) rfl ?_ hHeld ?_; rotate_left 1; focus (intro w' hSw; clear hSw; go_simp; try with_reducible rfl)
            (try simp only [Act.put, zn1, zn2, zn3])
            refine tY (i := 7) (v := ?_) rfl ?_ hHeld ?_; rotate_left 1; focus (intro w' hSw; clear hSw; go_simp; try with_reducible rfl)
            (try simp only [Act.put, zn1, zn2, zn3])
            refine ready_one (i := 3) rfl (by kernel_rfl) (fun K hK => ?_)
            refine step_append_firstw (by rfl) (.const (.slice none 0 0)) (.tmp 59) 26 (by rfl) v2.heap.size 48 i0 _ 4 40 Tryz.underlying26 hi hz0 hz1 hz2 rfl (by decide) (by rfl) _ _ k c _ (by rfl) (HT1.out.drew) HL.out.1 HL.out.2.2.1 HL.out.2.2.2.2.1 (Nat.le_refl _) ?_
            intro A5 c5 y1 ho5 hb
            have HO5 := Lib.hid ho5
            clear ho5
            refine hK.out _ _ ?_ (fun hHeld2 => ?_)
            · (try dsimp only); first | exact Below.trans hHeld (Below.mono hb hHeld.size) | exact hHeld | exact Below.drew hHeld | exact (by repeat (first | exact Below.refl _ _ | assumption | refine Below.alloc ?_ (by first | omega | (simp <;> omega)) _ | refine Below.setCell ?_ (by first | omega | (simp <;> omega)) _ | refine Below.drew ?_))
            clear hK K hHeld; have hHeld := hHeld2; clear hHeld2; (try simp only [Act.put, zn1, zn2, zn3])
            refine ready_one (i := 8) rfl (by kernel_rfl) (fun K hK => ?_)
            refine step_append_rdw (by rfl) (.tmp 60) (.tmp 64) 26 (by rfl) v2.heap.size 48 i0 _ 4 40 Tryz.underlying26 hi hz0 hz1 hz2 rfl (by decide) (.slice A5 k c5) k (jbsC (q.take k)) (by rfl) HO5.out _ Ad1 M1.length (c - (k + 1)) (jbsC M1) (by rfl) (HRd1.out.at hHeld) HL.out.2.1 HL.out.2.2.2.1 HL.out.2.2.2.2.2 hHeld.size ?_
            rw [HDl.out, HDj.out]
            intro A6 c6 y2 ho6 hg6
            have hS : Below v2.heap.size v2 y2 := hHeld.grown hg6 hHeld.size (fun g hg => (HO5.out.lt g hg).1)
            have HO6 := Lib.hid ho6
            have hz6 := hg6.size
            clear ho6 hg6
            refine hK.out _ _ ?_ (fun hHeld2 => ?_)
            · (try dsimp only); first | exact Below.trans hHeld (Below.mono hb hHeld.size) | exact hHeld | exact Below.drew hHeld | exact (by repeat (first | exact Below.refl _ _ | assumption | refine Below.alloc ?_ (by first | omega | (simp <;> omega)) _ | refine Below.setCell ?_ (by first | omega | (simp <;> omega)) _ | refine Below.drew ?_))
            clear hK K hHeld; have hHeld := hHeld2; clear hHeld2; (try simp only [Act.put, zn1, zn2, zn3])
            refine tY (i := 9) (v := ?_) rfl ?_ hHeld ?_; rotate_left 1; focus (intro w' hSw; clear hSw; go_simp; try with_reducible rfl)
            (try simp only [Act.put, zn1, zn2, zn3])
            refine wpAnyH_done (by kernel_rfl) ?_ _
            replace c0 := cellAt c0 hHeld (by omega)
            replace c1 := cellAt c1 hHeld (by omega)
            replace x0 := cellAt x0 hHeld (by omega)
            replace HG := Lib.hid (HG.out.at hHeld)
            replace HQ := Lib.hid (HQ.out.at hHeld)
            replace HFl := Lib.hid (HFl.out.at hHeld)
            replace nw1 : w.heap.size < y2.heap.size := ltAt nw1 hHeld
            replace HB := Lib.hid (lift HB.out hHeld)
            replace hB2 : b2 < y2.heap.size := ltAt hB2 hHeld
            have HLf : Hid (QIn y2 A6 c6 (dropAt q k)) := ⟨own_rd' HO6.out, mayQ.okW (sound_ends HSd2.out).1, (own_cap HO6.out).1⟩
            have hdl2 : (dropAt q k).length ≤ 40 := HD40.out
            clear hHeld HO5 HO6 HT1 HRd1
            have HFx := Lib.hid (show facR ns es fails q = factQ es fails q by unfold facR; rw [if_pos HSd.out])
            have HFy := Lib.hid (show facR ns es fails (dropAt q k) = factQ es fails (dropAt q k) by unfold facR; rw [if_pos HSd2.out])
            have hxl : (factQ es fails q).length = q.length := fact_len _ _ _
            generalize hx : factQ es fails q = x at *
            generalize hy : factQ es fails (dropAt q k) = y at *
            have hyl : y.length = (dropAt q k).length := by rw [← hy]; exact fact_len _ _ _
            have hyl2 : y.length ≤ 40 := by omega
            clear hx hy hyl
            have HXl := Lib.hid hxl
            have hxk : k < x.length := by omega
            have hx40 : x.length ≤ 40 := by omega
            clear hxl
            go_wp2_with fail
            try go_wp2_with fail
            refine wp_region_held_drew (S := fun w' => Below y2.heap.size y2 w') (by kernel_rfl) (Below.drew (Below.refl _ _)) (fun hHeld => ?_)
            refine tY (i := 0) (v := ?_) rfl ?_ hHeld ?_; rotate_left 1; focus (intro w' hSw; have hCell := fun (b o : Nat) (h : b < y2.heap.size) => hSw.cell (p := ⟨b, o, none⟩) h; clear hSw; go_simp; try with_reducible rfl)
            (try simp only [Act.put, zn1, zn2, zn3])
            refine tY (i := 1) (v := ?_) rfl ?_ hHeld ?_; rotate_left 1; focus (intro w' hSw; clear hSw; go_simp; try with_reducible rfl)
            (try simp only [Act.put, zn1, zn2, zn3])
            refine tY (i := 2) (v := ?_) rfl ?_ hHeld ?_; rotate_left 1; focus (intro w' hSw; clear hSw; go_simp; try with_reducible rfl)
            (try simp only [Act.put, zn1, zn2, zn3])
            refine tY (i := 4) (v := ?_) rfl ?_ hHeld ?_; rotate_left 1; focus (intro w' hSw; have hCell := fun (b o : Nat) (h : b < y2.heap.size) => hSw.cell (p := ⟨b, o, none⟩) h; clear hSw; go_simp; try with_reducible rfl)
            (try simp only [Act.put, zn1, zn2, zn3])
            refine tY (i := 5) (v := ?_) rfl ?_ hHeld ?_; rotate_left 1; focus (intro w' hSw; clear hSw; go_simp; try with_reducible rfl)
            (try simp only [Act.put, zn1, zn2, zn3])
            refine tY (i := 6) (v := ?_) rfl ?_ hHeld ?_; rotate_left 1; focus (intro w' hSw; clear hSw; go_simp; try with_reducible rfl)
            (try simp only [Act.put, zn1, zn2, zn3])
            refine ready_one (i := 3) rfl (by kernel_rfl) (fun K hK => ?_)
            go_simp
            refine (FactW_any An Ae cn ce ns es _ c q Af cf fails _ ((HG.out.at hHeld).q (by omega) (by omega)) (HQ.out.at hHeld) (HFl.out.at hHeld) (by omega) (by omega)).mono ?_
            rw [HFx.out]
            rintro e z1 ⟨A7, c7, rfl, hc7, hr7, hb⟩
            have HR7 := Lib.hid hr7
            clear hr7
            refine hK.out _ _ ?_ (fun hHeld2 => ?_)
            · (try dsimp only); first | exact Below.trans hHeld (Below.mono hb hHeld.size) | exact hHeld | exact Below.drew hHeld | exact (by repeat (first | exact Below.refl _ _ | assumption | refine Below.alloc ?_ (by first | omega | (simp <;> omega)) _ | refine Below.setCell ?_ (by first | omega | (simp <;> omega)) _ | refine Below.drew ?_))
            clear hK K hHeld; have hHeld := hHeld2; clear hHeld2; (try simp only [Act.put, zn1, zn2, zn3])
            refine ready_one (i := 7) rfl (by kernel_rfl) (fun K hK => ?_)
            go_simp
            refine (FactW_any An Ae cn ce ns es A6 c6 (dropAt q k) Af cf fails _ ((HG.out.at hHeld).q (by omega) (by omega)) (HLf.out.at hHeld) (HFl.out.at hHeld) (by omega) (by omega)).mono ?_
            rw [HFy.out]
            rintro e z2 ⟨A8, c8, rfl, hc8, hr8, hb⟩
            have HR8 := Lib.hid hr8
            have HR7b := Lib.hid (HR7.out.at hb)
            clear hr8
            refine hK.out _ _ ?_ (fun hHeld2 => ?_)
            · (try dsimp only); first | exact Below.trans hHeld (Below.mono hb hHeld.size) | exact hHeld | exact Below.drew hHeld | exact (by repeat (first | exact Below.refl _ _ | assumption | refine Below.alloc ?_ (by first | omega | (simp <;> omega)) _ | refine Below.setCell ?_ (by first | omega | (simp <;> omega)) _ | refine Below.drew ?_))
            clear hK K hHeld; have hHeld := hHeld2; clear hHeld2; (try simp only [Act.put, zn1, zn2, zn3])
            refine tY (i := 8) (v := ?_) rfl ?_ hHeld ?_; rotate_left 1; focus (intro w' hSw; clear hSw; go_simp; try with_reducible rfl)
            (try simp only [Act.put, zn1, zn2, zn3])
            refine tY (i := 9) (v := ?_) rfl ?_ hHeld ?_; rotate_left 1; focus (intro w' hSw; clear hSw; go_simp; try with_reducible rfl)
            (try simp only [Act.put, zn1, zn2, zn3])
            refine wpAnyH_done (by kernel_rfl) ?_ _
            replace c0 := cellAt c0 hHeld (by omega)
            replace c1 := cellAt c1 hHeld (by omega)
            replace x0 := cellAt x0 hHeld (by omega)
            replace HG := Lib.hid (HG.out.at hHeld)
            replace HQ := Lib.hid (HQ.out.at hHeld)
            replace HFl := Lib.hid (HFl.out.at hHeld)
            replace nw1 : w.heap.size < z2.heap.size := ltAt nw1 hHeld
            replace HB := Lib.hid (lift HB.out hHeld)
            replace hB2 : b2 < z2.heap.size := ltAt hB2 hHeld
            replace HLf := Lib.hid (HLf.out.at hHeld)
            clear hHeld HR7
            have ho1 := one_jbsC' (x.take k)
            have ho2 := one_jbsC' (x.drop (k + 1))
            have hkl2 : (x.take k).length = k := by rw [List.length_take]; omega
            have hdd2 : (x.drop (k + 1)).length = x.length - (k + 1) := List.length_drop
            have hdl : (dropAt x k).length = k + (x.drop (k + 1)).length := by unfold dropAt; rw [List.length_append, hkl2]
            have h63 : k ≤ maxLen := by unfold maxLen; omega
            have h63b : k + (x.drop (k + 1)).length ≤ maxLen := by unfold maxLen; omega
            have hby : k * 40 ≤ 140737488355328 := by omega
            have hbyb : (k + (x.drop (k + 1)).length) * 40 ≤ 140737488355328 := by omega
            have HL2 := Lib.hid (And.intro ho1 (And.intro ho2 (And.intro h63 (And.intro h63b (And.intro hby hbyb)))))
            have HDl2 := Lib.hid (show k + (x.drop (k + 1)).length = y.length by rw [← HN.out]; exact hdl.symm)
            have HDj2 := Lib.hid (show jbsC (x.take k) ++ jbsC (x.drop (k + 1)) = jbsC y by rw [← jbsC_app, ← HN.out]; rfl)
            clear ho1 ho2 h63 h63b hby hbyb
            have HT2 := Lib.hid (show Rd z2 z2.heap.size 4 A7 k (jbsC (x.take k)) by rw [← jbsC_take]; exact HR7b.out.take (by omega))
            have hrd2 := HR7b.out.dropA (m := k + 1) (by omega) hc7
            have hml2 : (x.drop (k + 1)).length = x.length - (k + 1) := List.length_drop
            have hsl2 := run_slice_to (P := Tryz.prog) Tryz.underlying26 hi A7 x.length c7 k (by omega)
            have hst2 := run_slice_tail (P := Tryz.prog) Tryz.underlying26 hi A7 x.length c7 (k + 1) (by omega)
            rw [hz1] at hst2
            rw [show (((k + 1 : Nat)) : Int) = (k : Int) + 1 from by omega, ← hml2] at hst2
            rw [← hml2, ← jbsC_drop] at hrd2
            generalize hAd2 : dropA A7 c7 (k + 1) 4 = Ad2 at hst2 hrd2
            have HRd2 := Lib.hid hrd2
            clear hrd2 hAd2
            generalize hM2 : x.drop (k + 1) = M2 at *
            clear hml2 hM2 hdl hdd2 hkl2
            have eL : ((x.length : Int) == (q.length : Int)) = true := by rw [HXl.out]; simp
            go_wp2_with fail
            try go_wp2_with fail
            refine wp_region_held_drew (S := fun w' => Below z2.heap.size z2 w') (by kernel_rfl) (Below.drew (Below.refl _ _)) (fun hHeld => ?_)
            refine tY (i := 0) (v := ?_) rfl ?_ hHeld ?_; rotate_left 1; focus (intro w' hSw; clear hSw; go_simp; try with_reducible rfl)
            (try simp only [Act.put, zn1, zn2, zn3])
            refine tY (i := 1) (v := ?_) rfl ?_ hHeld ?_; rotate_left 1; focus (intro w' hSw; clear hSw; go_simp; try with_reducible rfl)
            (try simp only [Act.put, zn1, zn2, zn3])
            refine tY (i := 2) (v := ?_) rfl ?_ hHeld ?_; rotate_left 1; focus (intro w' hSw; clear hSw; go_simp; try with_reducible rfl)
            (try simp only [Act.put, zn1, zn2, zn3])
            refine tY (i := 3) (v := ?_) rfl ?_ hHeld ?_; rotate_left 1; focus (intro w' hSw; clear hSw; go_simp; try with_reducible rfl)
            (try simp only [Act.put, zn1, zn2, zn3])
            refine tY (i := 4) (v := ?_) rfl ?_ hHeld ?_; rotate_left 1; focus (intro w' hSw; clear hSw; go_simp; try with_reducible rfl)
            (try simp only [Act.put, zn1, zn2, zn3])
            refine tY (i := 5) (v := ?_) rfl ?_ hHeld ?_; rotate_left 1; focus (intro w' hSw; clear hSw; go_simp; try with_reducible rfl)
            (try simp only [Act.put, zn1, zn2, zn3])
            refine tY (i := 6) (v := ?_) rfl ?_ hHeld ?_; rotate_left 1; focus (intro w' hSw; clear hSw; go_simp; try with_reducible rfl)
            (try simp only [Act.put, zn1, zn2, zn3])
            refine tY (i := 7) (v := ?_) rfl ?_ hHeld ?_; rotate_left 1; focus (intro w' hSw; clear hSw; go_simp; try with_reducible rfl)
            (try simp only [Act.put, zn1, zn2, zn3])
            refine tY (i := 8) (v := ?_) rfl ?_ hHeld ?_; rotate_left 1; focus (intro w' hSw; clear hSw; go_simp; try with_reducible rfl)
            (try simp only [Act.put, zn1, zn2, zn3])
            refine tY (i := 10) (v := ?_) rfl ?_ hHeld ?_; rotate_left 1; focus (intro w' hSw; clear hSw; go_simp; try with_reducible rfl)
            (try simp only [Act.put, zn1, zn2, zn3])
            refine tY (i := 11) (v := ?_) rfl ?_ hHeld ?_; rotate_left 1; focus (intro w' hSw; clear hSw; go_simp; try with_reducible rfl)
            (try simp only [Act.put, zn1, zn2, zn3])
            refine tY (i := 12) (v := ?_) rfl ?_ hHeld ?_; rotate_left 1; focus (intro w' hSw; clear hSw; go_simp; try with_reducible rfl)
            (try simp only [Act.put, zn1, zn2, zn3])
            refine tY (i := 13) (v := ?_) rfl ?_ hHeld ?_; rotate_left 1; focus (intro w' hSw; clear hSw; go_simp; try with_reducible rfl)
            (try simp only [Act.put, zn1, zn2, zn3])
            refine tY (i := 15) (v := ?_) rfl ?_ hHeld ?_; rotate_left 1; focus (intro w' hSw; clear hSw; go_simp; try with_reducible rfl)
            (try simp only [Act.put, zn1, zn2, zn3])
            refine ready_one (i := 9) rfl (by kernel_rfl) (fun K hK => ?_)
            refine step_append_firstw (by rfl) (.const (.slice none 0 0)) (.tmp 82) 26 (by rfl) z2.heap.size 48 i0 _ 4 40 Tryz.underlying26 hi hz0 hz1 hz2 rfl (by decide) (by rfl) _ _ k c7 _ (by rfl) (HT2.out.drew) HL2.out.1 HL2.out.2.2.1 HL2.out.2.2.2.2.1 (Nat.le_refl _) ?_
            intro A5 c5 y1 ho5 hb
            have HO5 := Lib.hid ho5
            clear ho5
            refine hK.out _ _ ?_ (fun hHeld2 => ?_)
            · (try dsimp only); first | exact Below.trans hHeld (Below.mono hb hHeld.size) | exact hHeld | exact Below.drew hHeld | exact (by repeat (first | exact Below.refl _ _ | assumption | refine Below.alloc ?_ (by first | omega | (simp <;> omega)) _ | refine Below.setCell ?_ (by first | omega | (simp <;> omega)) _ | refine Below.drew ?_))
            clear hK K hHeld; have hHeld := hHeld2; clear hHeld2; (try simp only [Act.put, zn1, zn2, zn3])
            refine ready_one (i := 14) rfl (by kernel_rfl) (fun K hK => ?_)
            refine step_append_rdw (by rfl) (.tmp 83) (.tmp 87) 26 (by rfl) z2.heap.size 48 i0 _ 4 40 Tryz.underlying26 hi hz0 hz1 hz2 rfl (by decide) (.slice A5 k c5) k (jbsC (x.take k)) (by rfl) HO5.out _ Ad2 M2.length (c7 - (k + 1)) (jbsC M2) (by rfl) (HRd2.out.at hHeld) HL2.out.2.1 HL2.out.2.2.2.1 HL2.out.2.2.2.2.2 hHeld.size ?_
            rw [HDl2.out, HDj2.out]
            intro A9 c9 y3 ho9 hg9
            have hS : Below z2.heap.size z2 y3 := hHeld.grown hg9 hHeld.size (fun g hg => (HO5.out.lt g hg).1)
            have HO9 := Lib.hid ho9
            clear ho9 hg9
            refine hK.out _ _ ?_ (fun hHeld2 => ?_)
            · (try dsimp only); first | exact Below.trans hHeld (Below.mono hb hHeld.size) | exact hHeld | exact Below.drew hHeld | exact (by repeat (first | exact Below.refl _ _ | assumption | refine Below.alloc ?_ (by first | omega | (simp <;> omega)) _ | refine Below.setCell ?_ (by first | omega | (simp <;> omega)) _ | refine Below.drew ?_))
            clear hK K hHeld; have hHeld := hHeld2; clear hHeld2; (try simp only [Act.put, zn1, zn2, zn3])
            refine ready_one (i := 16) rfl (by kernel_rfl) (fun K hK => ?_)
            go_simp
            refine (SameJobs_any A9 A8 c9 c8 y y _ (own_rd' HO9.out) (HR8.out.at hHeld) (by omega)).mono ?_
            rw [decide_eq_true rfl]
            rintro e y4 ⟨rfl, hb⟩
            refine hK.out _ _ ?_ (fun hHeld2 => ?_)
            · (try dsimp only); first | exact Below.trans hHeld (Below.mono hb hHeld.size) | exact hHeld | exact Below.drew hHeld | exact (by repeat (first | exact Below.refl _ _ | assumption | refine Below.alloc ?_ (by first | omega | (simp <;> omega)) _ | refine Below.setCell ?_ (by first | omega | (simp <;> omega)) _ | refine Below.drew ?_))
            clear hK K hHeld; have hHeld := hHeld2; clear hHeld2; (try simp only [Act.put, zn1, zn2, zn3])
            refine tY (i := 17) (v := ?_) rfl ?_ hHeld ?_; rotate_left 1; focus (intro w' hSw; clear hSw; go_simp; try with_reducible rfl)
            (try simp only [Act.put, zn1, zn2, zn3])
            refine tY (i := 18) (v := ?_) rfl ?_ hHeld ?_; rotate_left 1; focus (intro w' hSw; clear hSw; go_simp; try with_reducible rfl)
            (try simp only [Act.put, zn1, zn2, zn3])
            refine wpAnyH_done (by kernel_rfl) ?_ _
            go_wp2_with fail
            go_ret
            exact ⟨rfl, lift HB.out hHeld⟩
          · have hgt : decide ((0 : Int) < ((inR es u 1).length : Int) + ((inR es u 4).length : Int)) = true := by rw [decide_eq_true_eq]; omega
            go_wp2_with fail
            go_ret
            exact ⟨rfl, HB.out⟩
    · go_enter Tryz.func11, Tryz.ntmps11
      go_wp2_with fail
      first | (refine wp_named ?_; intro W1 hW) | (refine calls_named ?_; intro W1 hW)
      have B1 : Below w.heap.size w W1 := by rw [hW]; exact (by repeat (first | exact Below.refl _ _ | assumption | refine Below.alloc ?_ (by first | omega | (simp <;> omega)) _ | refine Below.setCell ?_ (by first | omega | (simp <;> omega)) _ | refine Below.drew ?_))
      replace HG := Lib.hid (HG.out.at B1)
      replace HQ := Lib.hid (HQ.out.at B1)
      replace HFl := Lib.hid (HFl.out.at B1)
      have nw1 : w.heap.size < W1.heap.size := by rw [hW]; simp <;> omega
      have c0 : W1.cell? ⟨w.heap.size, 0, none⟩ = some (.slice An ns.length cn) := by rw [hW]; go_simp
      have c1 : W1.cell? ⟨w.heap.size, 1, none⟩ = some (.slice Ae es.length ce) := by rw [hW]; go_simp
      clear hW
      have HB := Lib.hid B1
      clear B1
      refine (shown_any W1).mono ?_
      rintro e w2 ⟨rfl, hb⟩
      replace c0 := cellAt c0 hb (by omega)
      replace c1 := cellAt c1 hb (by omega)
      replace HG := Lib.hid (HG.out.at hb)
      replace HQ := Lib.hid (HQ.out.at hb)
      replace HFl := Lib.hid (HFl.out.at hb)
      replace nw1 : w.heap.size < w2.heap.size := ltAt nw1 hb
      replace HB := Lib.hid (lift HB.out hb)
      clear hb
      go_wp2_with fail
      refine (small_any An Ae cn ce ns es w2).mono ?_
      rintro e w3 ⟨rfl, hb⟩
      replace c0 := cellAt c0 hb (by omega)
      replace c1 := cellAt c1 hb (by omega)
      replace HG := Lib.hid (HG.out.at hb)
      replace HQ := Lib.hid (HQ.out.at hb)
      replace HFl := Lib.hid (HFl.out.at hb)
      replace nw1 : w.heap.size < w3.heap.size := ltAt nw1 hb
      replace HB := Lib.hid (lift HB.out hb)
      clear hb
      cases hsm : smallB ns es
      · go_wp2_with fail
        go_ret
        exact ⟨rfl, HB.out⟩
      · go_wp2_with fail
        go_ret
        exact ⟨rfl, HB.out⟩
  · go_enter Tryz.func11, Tryz.ntmps11
    go_wp2_with fail
    first | (refine wp_named ?_; intro W1 hW) | (refine calls_named ?_; intro W1 hW)
    have B1 : Below w.heap.size w W1 := by rw [hW]; exact (by repeat (first | exact Below.refl _ _ | assumption | refine Below.alloc ?_ (by first | omega | (simp <;> omega)) _ | refine Below.setCell ?_ (by first | omega | (simp <;> omega)) _ | refine Below.drew ?_))
    replace HG := Lib.hid (HG.out.at B1)
    replace HQ := Lib.hid (HQ.out.at B1)
    replace HFl := Lib.hid (HFl.out.at B1)
    have nw1 : w.heap.size < W1.heap.size := by rw [hW]; simp <;> omega
    have c0 : W1.cell? ⟨w.heap.size, 0, none⟩ = some (.slice An ns.length cn) := by rw [hW]; go_simp
    have c1 : W1.cell? ⟨w.heap.size, 1, none⟩ = some (.slice Ae es.length ce) := by rw [hW]; go_simp
    clear hW
    have HB := Lib.hid B1
    clear B1
    refine (shown_any W1).mono ?_
    rintro e w2 ⟨rfl, hb⟩
    replace c0 := cellAt c0 hb (by omega)
    replace c1 := cellAt c1 hb (by omega)
    replace HG := Lib.hid (HG.out.at hb)
    replace HQ := Lib.hid (HQ.out.at hb)
    replace HFl := Lib.hid (HFl.out.at hb)
    replace nw1 : w.heap.size < w2.heap.size := ltAt nw1 hb
    replace HB := Lib.hid (lift HB.out hb)
    clear hb
    go_wp2_with fail
    refine (small_any An Ae cn ce ns es w2).mono ?_
    rintro e w3 ⟨rfl, hb⟩
    replace c0 := cellAt c0 hb (by omega)
    replace c1 := cellAt c1 hb (by omega)
    replace HG := Lib.hid (HG.out.at hb)
    replace HQ := Lib.hid (HQ.out.at hb)
    replace HFl := Lib.hid (HFl.out.at hb)
    replace nw1 : w.heap.size < w3.heap.size := ltAt nw1 hb
    replace HB := Lib.hid (lift HB.out hb)
    clear hb
    cases hsm : smallB ns es
    · go_wp2_with fail
      go_ret
      exact ⟨rfl, HB.out⟩
    · go_wp2_with fail
      go_ret
      exact ⟨rfl, HB.out⟩
end Od
end Go.Proofs.YtmlogmcnblgnbaaGreat
end

section
/- The walk of the law WaveFails, where texts are not too many. (bel2) -/
namespace Go.Proofs.YtmlogmcnblgnbaaGreat
open Go.RowKit Go.Sort
set_option linter.unusedSimpArgs false

namespace Od

def cleanJ (j : Jb) : Bool := j.2.2.1 != 3 || j.2.2.2 == 1
theorem all_tk_succ {α : Type} {p : α → Bool} {l : List α} {k : Nat} (hk : k < l.length) : (l.take (k + 1)).all p = ((l.take k).all p && p l[k]) := by
  rw [List.take_succ_eq_append_getElem hk, List.all_append]; simp
set_option maxRecDepth 100000 in
set_option maxHeartbeats 16000000 in
theorem waveFails_any (An Ae : Option Addr) (cn ce : Nat) (ns : List Nd) (es : List Ed) (A : Option Addr) (c : Nat) (q : List Jb) (Aa : Option Addr) (ca : Nat) (a : List Str) (Ab : Option Addr) (cb : Nat) (b : List Str) (w : World) (hg : GIw w An Ae ns es) (hq : QIn w A c q) (hfa : Rd w w.heap.size 1 Aa a.length (svs a)) (hfb : Rd w w.heap.size 1 Ab b.length (svs b)) (hla : a.length ≤ 1048576) (hlb : b.length ≤ 1048576) :
    Calls Tryz.prog 10 #[gV An ns.length cn Ae es.length ce, .slice A q.length c, .slice Aa a.length ca, .slice Ab b.length cb] w fun e w' => e = .returned (.bool true) ∧ Below w.heap.size w w' := by
  obtain ⟨s0, hs, hs0, hs1, hs2⟩ := info_parts infoS
  have HG := Lib.hid hg
  have HQ := Lib.hid hq
  have HFl := Lib.hid (And.intro hfa hfb)
  clear hg hq hfa hfb
  cases d40 : decide ((40 : Int) < (q.length : Int))
  · have h40 : ¬ (40 : Int) < (q.length : Int) := by simpa using d40
    go_enter Tryz.func10, Tryz.ntmps10
    go_wp2_with fail
    first | (refine wp_named ?_; intro W1 hW) | (refine calls_named ?_; intro W1 hW)
    have B1 : Below w.heap.size w W1 := by rw [hW]; exact (by repeat (first | exact Below.refl _ _ | assumption | refine Below.alloc ?_ (by first | omega | (simp <;> omega)) _ | refine Below.setCell ?_ (by first | omega | (simp <;> omega)) _ | refine Below.drew ?_))
    replace HG := Lib.hid (HG.out.at B1)
    replace HQ := Lib.hid (HQ.out.at B1)
    replace HFl := Lib.hid ((And.intro (HFl.out.1.at B1) (HFl.out.2.at B1)))
    have nw1 : w.heap.size < W1.heap.size := by rw [hW]; simp <;> omega
    have c0 : W1.cell? ⟨w.heap.size, 0, none⟩ = some (.slice An ns.length cn) := by rw [hW]; go_simp
    have c1 : W1.cell? ⟨w.heap.size, 1, none⟩ = some (.slice Ae es.length ce) := by rw [hW]; go_simp
    clear hW
    have HB := Lib.hid B1
    clear B1
    refine (shown_any W1).mono ?_
    rintro e w2 ⟨rfl, hb⟩
    replace c0 := cellAt c0 hb (by omega)
    replace c1 := cellAt c1 hb (by omega)
    replace HG := Lib.hid (HG.out.at hb)
    replace HQ := Lib.hid (HQ.out.at hb)
    replace HFl := Lib.hid ((And.intro (HFl.out.1.at hb) (HFl.out.2.at hb)))
    replace nw1 : w.heap.size < w2.heap.size := ltAt nw1 hb
    replace HB := Lib.hid (lift HB.out hb)
    clear hb
    go_wp2_with fail
    refine (small_any An Ae cn ce ns es w2).mono ?_
    rintro e w3 ⟨rfl, hb⟩
    replace c0 := cellAt c0 hb (by omega)
    replace c1 := cellAt c1 hb (by omega)
    replace HG := Lib.hid (HG.out.at hb)
    replace HQ := Lib.hid (HQ.out.at hb)
    replace HFl := Lib.hid ((And.intro (HFl.out.1.at hb) (HFl.out.2.at hb)))
    replace nw1 : w.heap.size < w3.heap.size := ltAt nw1 hb
    replace HB := Lib.hid (lift HB.out hb)
    clear hb
    cases hsm : smallB ns es
    · go_wp2_with fail
      go_ret
      exact ⟨rfl, HB.out⟩
    · have hs2 := smallB_iff.1 hsm
      have hl1 := hs2.1
      have hl2 := hs2.2
      clear hs2
      go_wp2_with fail
      refine (SoundQ_any An Ae cn ce ns es A c q w3 (HG.out.q (by omega) (by omega)) HQ.out (by omega)).mono ?_
      rintro e w4 ⟨rfl, hb⟩
      replace c0 := cellAt c0 hb (by omega)
      replace c1 := cellAt c1 hb (by omega)
      replace HG := Lib.hid (HG.out.at hb)
      replace HQ := Lib.hid (HQ.out.at hb)
      replace HFl := Lib.hid ((And.intro (HFl.out.1.at hb) (HFl.out.2.at hb)))
      replace nw1 : w.heap.size < w4.heap.size := ltAt nw1 hb
      replace HB := Lib.hid (lift HB.out hb)
      clear hb
      cases hsd : soundQ ns es q
      · go_wp2_with fail
        go_ret
        exact ⟨rfl, HB.out⟩
      · obtain ⟨ab, hab⟩ : ∃ ab, ab = a ++ b := ⟨_, rfl⟩
        have HAl := Lib.hid (show a.length + b.length = ab.length by rw [hab, List.length_append])
        have HAj := Lib.hid (show svs a ++ svs b = svs ab by rw [hab]; exact (svs_app a b).symm)
        have hfx : ∀ f, facR ns es f q = factQ es f q := fun f => by unfold facR; rw [if_pos hsd]
        have hlen : ∀ f, (factQ es f q).length = q.length := fun f => fact_len _ _ _
        have h1 : ∀ (m : Nat) (h : m < q.length) (hx : m < (factQ es a q).length) (hy : m < (factQ es ab q).length), (factQ es ab q)[m].2.2.2 = 1 → (factQ es a q)[m].2.2.2 = 1 := fun m h hx hy e => by
          rw [fact_at h] at e ⊢
          exact fact_less (fun s hs => by rw [hab]; exact List.mem_append_left _ hs) hsd (List.getElem_mem h) e
        have h2 : q.all cleanJ = true → ∀ (m : Nat) (h : m < q.length) (hx : m < (factQ es [] q).length), (factQ es [] q)[m].2.2.2 = 1 := fun hc m h hx => by
          rw [fact_at h]
          refine fact_clean hsd (fun j hj => ?_) (List.getElem_mem h)
          have := List.all_eq_true.1 hc j hj
          unfold cleanJ at this
          simpa using this
        have h3 : ∀ (m : Nat) (h : m < q.length) (hx : m < (factQ es a q).length), q[m].2.2.1 ≠ 3 → (factQ es a q)[m].2.2.2 = 2 → q[m].1 ∈ a := fun m h hx h3 e => by
          rw [fact_at h] at e
          exact fact_own hsd (List.getElem_mem h) h3 e
        have hxa := hfx a
        have hxb := hfx ab
        have hxn := hfx []
        have hla' := hlen a
        have hlb' := hlen ab
        have hln' := hlen []
        clear hfx hlen hab hsd
        generalize factQ es a q = x at *
        generalize factQ es ab q = y at *
        generalize factQ es [] q = z at *
        have HXa := Lib.hid hxa
        have HXb := Lib.hid hxb
        have HXn := Lib.hid hxn
        have HLa := Lib.hid hla'
        have HLb := Lib.hid hlb'
        have HLn := Lib.hid hln'
        have H1 := Lib.hid h1
        have H2 := Lib.hid h2
        have H3 := Lib.hid h3
        have habl : ab.length ≤ 140737488355328 := by have := HAl.out; omega
        have HK := Lib.hid (show a.length ≤ maxLen ∧ a.length * 16 ≤ 140737488355328 ∧ a.length + b.length ≤ maxLen ∧ (a.length + b.length) * 16 ≤ 140737488355328 by unfold maxLen; omega)
        clear hxa hxb hxn hla' hlb' hln' h1 h2 h3
        go_wp2_with fail
        refine (FactW_any An Ae cn ce ns es A c q Aa ca a w4 (HG.out.q (by omega) (by omega)) HQ.out HFl.out.1 (by omega) (by omega)).mono ?_
        rw [HXa.out]
        rintro e x5 ⟨A5, c5, rfl, hc5, hr5, hb⟩
        have HR5 := Lib.hid hr5
        replace c0 := cellAt c0 hb (by omega)
        replace c1 := cellAt c1 hb (by omega)
        replace HG := Lib.hid (HG.out.at hb)
        replace HQ := Lib.hid (HQ.out.at hb)
        replace HFl := Lib.hid ((And.intro (HFl.out.1.at hb) (HFl.out.2.at hb)))
        replace nw1 : w.heap.size < x5.heap.size := ltAt nw1 hb
        replace HB := Lib.hid (lift HB.out hb)
        clear hb hr5
        go_wp2_with fail
        try go_wp2_with fail
        refine wp_region_held_drew (S := fun w' => Below x5.heap.size x5 w') (by kernel_rfl) (Below.drew (Below.refl _ _)) (fun hHeld => ?_)
        refine tY (i := 0) (v := ?_) rfl ?_ hHeld ?_; rotate_left 1; focus (intro w' hSw; have hCell := fun (b o : Nat) (h : b < x5.heap.size) => hSw.cell (p := ⟨b, o, none⟩) h; clear hSw; go_simp; try with_reducible rfl)
        (try simp only [Act.put, zn1, zn2, zn3])
        refine tY (i := 1) (v := ?_) rfl ?_ hHeld ?_; rotate_left 1; focus (intro w' hSw; clear hSw; go_simp; try with_reducible rfl)
        (try simp only [Act.put, zn1, zn2, zn3])
        refine tY (i := 2) (v := ?_) rfl ?_ hHeld ?_; rotate_left 1; focus (intro w' hSw; clear hSw; go_simp; try with_reducible rfl)
        (try simp only [Act.put, zn1, zn2, zn3])
        refine tY (i := 4) (v := ?_) rfl ?_ hHeld ?_; rotate_left 1; focus (intro w' hSw; clear hSw; go_simp; try with_reducible rfl)
        (try simp only [Act.put, zn1, zn2, zn3])
        refine ready_one (i := 3) rfl (by kernel_rfl) (fun K hK => ?_)
        refine step_append_firstw (by rfl) (.const (.slice none 0 0)) (.tmp 38) 27 (by rfl) x5.heap.size 9 s0 (.string ⟨#[]⟩) 1 16 Tryz.underlying27 hs hs0 hs1 hs2 rfl (by decide) (by rfl) _ Aa a.length ca (svs a) (by rfl) (HFl.out.1.drew) (one_svs a) HK.out.1 HK.out.2.1 (Nat.le_refl _) ?_
        intro A6 c6 y1 ho6 hb
        have HO6 := Lib.hid ho6
        clear ho6
        refine hK.out _ _ ?_ (fun hHeld2 => ?_)
        · (try dsimp only); first | exact Below.trans hHeld (Below.mono hb hHeld.size) | exact hHeld | exact Below.drew hHeld | exact (by repeat (first | exact Below.refl _ _ | assumption | refine Below.alloc ?_ (by first | omega | (simp <;> omega)) _ | refine Below.setCell ?_ (by first | omega | (simp <;> omega)) _ | refine Below.drew ?_))
        clear hK K hHeld; have hHeld := hHeld2; clear hHeld2; (try simp only [Act.put, zn1, zn2, zn3])
        refine ready_one (i := 5) rfl (by kernel_rfl) (fun K hK => ?_)
        refine step_append_rdw (by rfl) (.tmp 39) (.tmp 40) 27 (by rfl) x5.heap.size 9 s0 (.string ⟨#[]⟩) 1 16 Tryz.underlying27 hs hs0 hs1 hs2 rfl (by decide) (.slice A6 a.length c6) a.length (svs a) (by rfl) HO6.out _ Ab b.length cb (svs b) (by rfl) (HFl.out.2.at hHeld) (one_svs b) HK.out.2.2.1 HK.out.2.2.2 hHeld.size ?_
        rw [HAl.out, HAj.out]
        intro A7 c7 y2 ho7 hg7
        have hS : Below x5.heap.size x5 y2 := hHeld.grown hg7 hHeld.size (fun g hg => (HO6.out.lt g hg).1)
        have HO7 := Lib.hid ho7
        clear ho7 hg7
        refine hK.out _ _ ?_ (fun hHeld2 => ?_)
        · (try dsimp only); first | exact Below.trans hHeld (Below.mono hb hHeld.size) | exact hHeld | exact Below.drew hHeld | exact (by repeat (first | exact Below.refl _ _ | assumption | refine Below.alloc ?_ (by first | omega | (simp <;> omega)) _ | refine Below.setCell ?_ (by first | omega | (simp <;> omega)) _ | refine Below.drew ?_))
        clear hK K hHeld; have hHeld := hHeld2; clear hHeld2; (try simp only [Act.put, zn1, zn2, zn3])
        refine ready_one (i := 6) rfl (by kernel_rfl) (fun K hK => ?_)
        go_simp
        refine (FactW_any An Ae cn ce ns es A c q A7 c7 ab _ ((HG.out.at hHeld).q (by omega) (by omega)) (HQ.out.at hHeld) (own_rd' HO7.out) (by omega) habl).mono ?_
        rw [HXb.out]
        rintro e y3 ⟨A8, c8, rfl, hc8, hr8, hb⟩
        have HR8 := Lib.hid hr8
        clear hr8
        refine hK.out _ _ ?_ (fun hHeld2 => ?_)
        · (try dsimp only); first | exact Below.trans hHeld (Below.mono hb hHeld.size) | exact hHeld | exact Below.drew hHeld | exact (by repeat (first | exact Below.refl _ _ | assumption | refine Below.alloc ?_ (by first | omega | (simp <;> omega)) _ | refine Below.setCell ?_ (by first | omega | (simp <;> omega)) _ | refine Below.drew ?_))
        clear hK K hHeld; have hHeld := hHeld2; clear hHeld2; (try simp only [Act.put, zn1, zn2, zn3])
        refine tY (i := 7) (v := ?_) rfl ?_ hHeld ?_; rotate_left 1; focus (intro w' hSw; clear hSw; go_simp; try with_reducible rfl)
        (try simp only [Act.put, zn1, zn2, zn3])
        refine wpAnyH_done (by kernel_rfl) ?_ _
        replace c0 := cellAt c0 hHeld (by omega)
        replace c1 := cellAt c1 hHeld (by omega)
        replace HG := Lib.hid (HG.out.at hHeld)
        replace HQ := Lib.hid (HQ.out.at hHeld)
        replace HFl := Lib.hid ((And.intro (HFl.out.1.at hHeld) (HFl.out.2.at hHeld)))
        replace nw1 : w.heap.size < y3.heap.size := ltAt nw1 hHeld
        replace HB := Lib.hid (lift HB.out hHeld)
        replace HR5 := Lib.hid (HR5.out.at hHeld)
        clear hHeld HO6 HO7
        go_wp2_with fail
        refine (FactW_any An Ae cn ce ns es A c q none 0 [] y3 (HG.out.q (by omega) (by omega)) HQ.out Rd.none_ (by omega) (by simp)).mono ?_
        rw [HXn.out]
        rintro e y4 ⟨A9, c9, rfl, hc9, hr9, hb⟩
        have HR9 := Lib.hid hr9
        replace c0 := cellAt c0 hb (by omega)
        replace c1 := cellAt c1 hb (by omega)
        replace HG := Lib.hid (HG.out.at hb)
        replace HQ := Lib.hid (HQ.out.at hb)
        replace HFl := Lib.hid ((And.intro (HFl.out.1.at hb) (HFl.out.2.at hb)))
        replace nw1 : w.heap.size < y4.heap.size := ltAt nw1 hb
        replace HB := Lib.hid (lift HB.out hb)
        replace HR5 := Lib.hid (HR5.out.at hb)
        replace HR8 := Lib.hid (HR8.out.at hb)
        clear hb hr9
        go_wp2_with fail
        go_loopw [12, 48] (fun v i wr => ∃ m : Nat, m ≤ q.length ∧ i = .int .i64 m ∧ v = .bool ((q.take m).all cleanJ) ∧ Below y4.heap.size y4 wr) (fun _ i _ => q.length - (intOf i).toNat)
        case atStart => exact ⟨0, Nat.zero_le _, rfl, rfl, Below.refl _ _⟩
        case round =>
          obtain ⟨m, hmq, rfl, rfl, hb⟩ := hrel
          have HB7 := Lib.hid hb
          replace c0 := cellAt c0 hb (by omega)
          replace c1 := cellAt c1 hb (by omega)
          replace HG := Lib.hid (HG.out.at hb)
          replace HQ := Lib.hid (HQ.out.at hb)
          replace HFl := Lib.hid ((And.intro (HFl.out.1.at hb) (HFl.out.2.at hb)))
          replace nw1 : w.heap.size < wr.heap.size := ltAt nw1 hb
          replace HB := Lib.hid (lift HB.out hb)
          replace HR5 := Lib.hid (HR5.out.at hb)
          replace HR8 := Lib.hid (HR8.out.at hb)
          replace HR9 := Lib.hid (HR9.out.at hb)
          clear hb
          by_cases hlt : m < q.length
          · obtain ⟨bq, oq, hAq, hBq, q0, q1, q2, q3⟩ := HQ.out.rq.job hlt
            have hsu := all_tk_succ (p := cleanJ) hlt
            subst hAq
            generalize q[m] = j at q0 q1 q2 q3 hsu
            obtain ⟨s, t, r, d⟩ := j
            simp only at q0 q1 q2 q3
            have HSu := Lib.hid (hsu.trans (show _ = ((q.take m).all cleanJ && ((r != 3) || (d == 1))) from rfl))
            clear hsu
            have m1 : (0 : Int) ≤ (m : Int) := by omega
            have m2 : (m : Int) < (q.length : Int) := by omega
            cases hc : (q.take m).all cleanJ
            · have HN := Lib.hid (show (q.take (m + 1)).all cleanJ = false by rw [HSu.out, hc]; rfl)
              go_wp2_with fail
              go_roundw
              case rel => exact ⟨m + 1, by omega, by go_num, by rw [HN.out], HB7.out.alloc (by have := HB7.out.size; omega) _⟩
              case measure => simp [intOf]; omega
            · cases rb : (r != 3)
              · cases db : (d == 1)
                · have HN := Lib.hid (show (q.take (m + 1)).all cleanJ = false by rw [HSu.out, hc, rb, db]; rfl)
                  go_wp2_with fail
                  go_roundw
                  case rel => exact ⟨m + 1, by omega, by go_num, by rw [HN.out], HB7.out.alloc (by have := HB7.out.size; omega) _⟩
                  case measure => simp [intOf]; omega
                · have HN := Lib.hid (show (q.take (m + 1)).all cleanJ = true by rw [HSu.out, hc, rb, db]; rfl)
                  go_wp2_with fail
                  go_roundw
                  case rel => exact ⟨m + 1, by omega, by go_num, by rw [HN.out], HB7.out.alloc (by have := HB7.out.size; omega) _⟩
                  case measure => simp [intOf]; omega
              · have HN := Lib.hid (show (q.take (m + 1)).all cleanJ = true by rw [HSu.out, hc, rb]; rfl)
                go_wp2_with fail
                go_roundw
                case rel => exact ⟨m + 1, by omega, by go_num, by rw [HN.out], HB7.out.alloc (by have := HB7.out.size; omega) _⟩
                case measure => simp [intOf]; omega
          · have htk : q.take m = q := List.take_of_length_le (by omega)
            rw [htk]
            have e1 : ((x.length : Int) != (q.length : Int)) = false := by rw [HLa.out]; simp
            have e2 : ((y.length : Int) != (q.length : Int)) = false := by rw [HLb.out]; simp
            have e3 : ((z.length : Int) != (q.length : Int)) = false := by rw [HLn.out]; simp
            generalize hcl : q.all cleanJ = cl
            have HCl := Lib.hid hcl
            clear hcl HB7
            obtain ⟨w9, rfl⟩ : ∃ wo : World, wo = wr := ⟨_, rfl⟩
            go_wp2_with fail
            go_loopw [85] (fun i wr => ∃ m : Nat, m ≤ q.length ∧ i = .int .i64 m ∧ Below w9.heap.size w9 wr) (fun i _ => q.length - (intOf i).toNat)
            case atStart => exact ⟨0, Nat.zero_le _, rfl, Below.refl _ _⟩
            case round =>
              obtain ⟨m, hmq, rfl, hb⟩ := hrel
              have HB7 := Lib.hid hb
              replace c0 := cellAt c0 hb (by omega)
              replace c1 := cellAt c1 hb (by omega)
              replace HG := Lib.hid (HG.out.at hb)
              replace HQ := Lib.hid (HQ.out.at hb)
              replace HFl := Lib.hid ((And.intro (HFl.out.1.at hb) (HFl.out.2.at hb)))
              replace nw1 : w.heap.size < wr.heap.size := ltAt nw1 hb
              replace HB := Lib.hid (lift HB.out hb)
              replace HR5 := Lib.hid (HR5.out.at hb)
              replace HR8 := Lib.hid (HR8.out.at hb)
              replace HR9 := Lib.hid (HR9.out.at hb)
              clear hb
              have HFa := Lib.hid HFl.out.1
              by_cases hlt : m < q.length
              · have hlx : m < x.length := by have := HLa.out; omega
                have hly : m < y.length := by have := HLb.out; omega
                have hlz : m < z.length := by have := HLn.out; omega
                have o1 := H1.out m hlt hlx hly
                have o2 := fun hc => H2.out hc m hlt hlz
                have o3 := H3.out m hlt hlx
                obtain ⟨bq, oq, hAq, hBq, q0, _, q2, _⟩ := HQ.out.rq.job hlt
                obtain ⟨bx, ox, hAx, hBx, _, _, _, xx⟩ := HR5.out.job hlx
                obtain ⟨bY, oy, hAy, hBy, _, _, _, yy⟩ := HR8.out.job hly
                obtain ⟨bz, oz, hAz, hBz, _, _, _, zz⟩ := HR9.out.job hlz
                rw [HCl.out] at o2
                generalize q[m] = jq at q0 q2 o3
                generalize x[m] = jx at xx o1 o3
                generalize y[m] = jy at yy o1
                generalize z[m] = jz at zz o2
                obtain ⟨s, t, r, d⟩ := jq
                obtain ⟨xs', xt, xr, xd⟩ := jx
                obtain ⟨ys', yt, yr, yd⟩ := jy
                obtain ⟨zs', zt, zr, zd⟩ := jz
                simp only at q0 q2 xx yy zz o1 o2 o3
                subst hAq hAx hAy hAz
                have HO := Lib.hid o3
                have HO1 := Lib.hid o1
                have HO2 := Lib.hid o2
                clear o1 o2 o3
                have m1 : (0 : Int) ≤ (m : Int) := by omega
                have m2 : (m : Int) < (q.length : Int) := by omega
                have m3 : (m : Int) < (x.length : Int) := by omega
                have m4 : (m : Int) < (y.length : Int) := by omega
                have m5 : (m : Int) < (z.length : Int) := by omega
                cases yb : (yd == 1)
                · cases cl with
                  | false =>
                    cases rb : (r != 3)
                    · go_wp2_with fail
                      go_roundw
                      case rel => exact ⟨m + 1, by omega, by go_num, HB7.out⟩
                      case measure => simp [intOf]; omega
                    · cases x2 : (xd == 2)
                      · go_wp2_with fail
                        go_roundw
                        case rel => exact ⟨m + 1, by omega, by go_num, HB7.out⟩
                        case measure => simp [intOf]; omega
                      · have hh : hasB a s = true := by rw [hasB_iff]; exact HO.out (by simpa using rb) (by simpa using x2)
                        have HH := Lib.hid hh
                        clear hh
                        go_wp2_with fail
                        refine (HasS_any Aa ca a s _ HFa.out (by omega)).mono ?_
                        rw [HH.out]
                        rintro e v9 ⟨rfl, rfl⟩
                        go_wp2_with fail
                        go_roundw
                        case rel => exact ⟨m + 1, by omega, by go_num, HB7.out⟩
                        case measure => simp [intOf]; omega
                  | true =>
                    have hz1 := HO2.out rfl
                    subst hz1
                    cases rb : (r != 3)
                    · go_wp2_with fail
                      go_roundw
                      case rel => exact ⟨m + 1, by omega, by go_num, HB7.out⟩
                      case measure => simp [intOf]; omega
                    · cases x2 : (xd == 2)
                      · go_wp2_with fail
                        go_roundw
                        case rel => exact ⟨m + 1, by omega, by go_num, HB7.out⟩
                        case measure => simp [intOf]; omega
                      · have hh : hasB a s = true := by rw [hasB_iff]; exact HO.out (by simpa using rb) (by simpa using x2)
                        have HH := Lib.hid hh
                        clear hh
                        go_wp2_with fail
                        refine (HasS_any Aa ca a s _ HFa.out (by omega)).mono ?_
                        rw [HH.out]
                        rintro e v9 ⟨rfl, rfl⟩
                        go_wp2_with fail
                        go_roundw
                        case rel => exact ⟨m + 1, by omega, by go_num, HB7.out⟩
                        case measure => simp [intOf]; omega
                · have hx1 := HO1.out (by simpa using yb)
                  subst hx1
                  cases cl with
                  | false =>
                    cases rb : (r != 3)
                    · go_wp2_with fail
                      go_roundw
                      case rel => exact ⟨m + 1, by omega, by go_num, HB7.out⟩
                      case measure => simp [intOf]; omega
                    · go_wp2_with fail
                      go_roundw
                      case rel => exact ⟨m + 1, by omega, by go_num, HB7.out⟩
                      case measure => simp [intOf]; omega
                  | true =>
                    have hz1 := HO2.out rfl
                    subst hz1
                    cases rb : (r != 3)
                    · go_wp2_with fail
                      go_roundw
                      case rel => exact ⟨m + 1, by omega, by go_num, HB7.out⟩
                      case measure => simp [intOf]; omega
                    · go_wp2_with fail
                      go_roundw
                      case rel => exact ⟨m + 1, by omega, by go_num, HB7.out⟩
                      case measure => simp [intOf]; omega
              · go_wp2_with fail
                go_ret
                exact ⟨rfl, HB.out⟩
  · go_enter Tryz.func10, Tryz.ntmps10
    go_wp2_with fail
    first | (refine wp_named ?_; intro W1 hW) | (refine calls_named ?_; intro W1 hW)
    have B1 : Below w.heap.size w W1 := by rw [hW]; exact (by repeat (first | exact Below.refl _ _ | assumption | refine Below.alloc ?_ (by first | omega | (simp <;> omega)) _ | refine Below.setCell ?_ (by first | omega | (simp <;> omega)) _ | refine Below.drew ?_))
    replace HG := Lib.hid (HG.out.at B1)
    replace HQ := Lib.hid (HQ.out.at B1)
    replace HFl := Lib.hid ((And.intro (HFl.out.1.at B1) (HFl.out.2.at B1)))
    have nw1 : w.heap.size < W1.heap.size := by rw [hW]; simp <;> omega
    have c0 : W1.cell? ⟨w.heap.size, 0, none⟩ = some (.slice An ns.length cn) := by rw [hW]; go_simp
    have c1 : W1.cell? ⟨w.heap.size, 1, none⟩ = some (.slice Ae es.length ce) := by rw [hW]; go_simp
    clear hW
    have HB := Lib.hid B1
    clear B1
    refine (shown_any W1).mono ?_
    rintro e w2 ⟨rfl, hb⟩
    replace c0 := cellAt c0 hb (by omega)
    replace c1 := cellAt c1 hb (by omega)
    replace HG := Lib.hid (HG.out.at hb)
    replace HQ := Lib.hid (HQ.out.at hb)
    replace HFl := Lib.hid ((And.intro (HFl.out.1.at hb) (HFl.out.2.at hb)))
    replace nw1 : w.heap.size < w2.heap.size := ltAt nw1 hb
    replace HB := Lib.hid (lift HB.out hb)
    clear hb
    go_wp2_with fail
    refine (small_any An Ae cn ce ns es w2).mono ?_
    rintro e w3 ⟨rfl, hb⟩
    replace c0 := cellAt c0 hb (by omega)
    replace c1 := cellAt c1 hb (by omega)
    replace HG := Lib.hid (HG.out.at hb)
    replace HQ := Lib.hid (HQ.out.at hb)
    replace HFl := Lib.hid ((And.intro (HFl.out.1.at hb) (HFl.out.2.at hb)))
    replace nw1 : w.heap.size < w3.heap.size := ltAt nw1 hb
    replace HB := Lib.hid (lift HB.out hb)
    clear hb
    cases hsm : smallB ns es
    · go_wp2_with fail
      go_ret
      exact ⟨rfl, HB.out⟩
    · go_wp2_with fail
      go_ret
      exact ⟨rfl, HB.out⟩
end Od
end Go.Proofs.YtmlogmcnblgnbaaGreat
end
