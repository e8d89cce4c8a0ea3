/- My texts, joined for the claim: FramePA RPut RIn RInO RAllM R17Small ROut R17Brings Ready2 R17Put QOf QName QOfA QOfW QNode15R R17AllM. -/
import Derived.Test.YtbllehjhmfehbaaGreatZB15
import Derived.Test.YtbllehjhmfehbaaGreatZB8
import Derived.Test.YtbllehjhmfehbaaGreatZB0
import Derived.Test.YtbllehjhmfehbaaGreatRows
import Derived.Test.YtbllehjhmfehbaaGreatZB10
import Derived.Test.YtbllehjhmfehbaaGreatZB2
import Derived.Test.YtbllehjhmfehbaaGreatZB3
import Derived.Test.YtbllehjhmfehbaaGreatZB4
import Derived.Test.YtbllehjhmfehbaaGreatZB5
import Derived.Test.YtbllehjhmfehbaaGreatZB13
import Derived.Test.YtbllehjhmfehbaaGreatZB9
import Derived.Test.YtbllehjhmfehbaaGreatZB14
import Derived.Deep.DeepCutAuto
import Derived.Laws.Concat
import Derived.RegionTactic
import Derived.BigRegion

section
/- A law's arguments opened for its walk: pulls that came in. -/
namespace Go.Proofs.YtbllehjhmfehbaaGreat
open Go.ChangeShapes Go.WideShapes Go.ChangeAt Go.RowKit Go.Deep

section
variable {H : Type} {enc : TypeId × Value → H} {W : World}
set_option maxRecDepth 100000 in
theorem open_pl {n : Nat} {cs : List Value} {y : DataW H × List MemPlace} (h : DataW.trod enc Tryz.prog W 0 (fun _ => true) true n 37 cs = some y) (hs : Light Tryz.prog 37 y.1) : ∃ e : Od.Pl, Od.plC e = cs ∧ Od.okJ (e.1, e.2.1) := by
  obtain ⟨c0, c1, c2, c3, y0, y1, y2, y3, m, rfl, h0, h1, h2, h3, l0, _, _, l3⟩ := fields4 Tryz.underlying37 (by kernel_rfl) (by kernel_rfl) h hs
  obtain ⟨s, e0, k0⟩ := open_str h0 l0
  obtain ⟨t, e1, _, k1⟩ := DataW.trod_int Tryz.underlying3 h1
  obtain ⟨b, e2, _⟩ := DataW.trod_bool Tryz.underlying4 h2
  obtain ⟨r, e3, _⟩ := open_str h3 l3
  simp only [List.cons.injEq, and_true] at e0 e1 e2 e3
  subst e0 e1 e2 e3
  exact ⟨(s, t, b, r), rfl, okJ_of k0 k1⟩
set_option maxRecDepth 100000 in
theorem open_pulls {r : Reach} {b0 : Nat} {v : Value} {d : DataW H} {p : List MemPlace} (hv : Value.okWide Tryz.prog W r b0 29 v) (h : DataW.Trod enc Tryz.prog W 0 (fun _ => true) true 29 v d p) (hs : Light Tryz.prog 29 d) :
    ∃ (A : Option Addr) (c : Nat) (q : List Od.Pl), v = .slice A q.length c ∧ Rd W W.heap.size 4 A q.length (Od.plsC q) ∧ (∀ p ∈ q, Od.okJ (p.1, p.2.1)) := by
  obtain ⟨a, l, c, rfl⟩ := okWide_slice Tryz.underlying29 hv
  obtain ⟨fuel, hf⟩ := h
  obtain ⟨A, c', q, hv', hc, hr, hk⟩ := open_rd_rows Od.plC 4 (fun e => Od.okJ (e.1, e.2.1)) Tryz.underlying29 (by kernel_rfl) (by omega) Od.plC_len (fun n cs y hy hl => open_pl hy hl) hf hs
  obtain ⟨rfl, rfl, rfl⟩ : a = A ∧ l = q.length ∧ c = c' := by injection hv' with h1 h2 h3; exact ⟨h1, h2, h3⟩
  exact ⟨a, c, q, rfl, hr, hk⟩
end
end Go.Proofs.YtbllehjhmfehbaaGreat
end

section
/- The walk of matinsref15.put: a text into a rising row, once. -/
namespace Go.Proofs.YtbllehjhmfehbaaGreat
open Go.RowKit Go.Sort

namespace Od
theorem svs_app (a b : List Str) : svs (a ++ b) = svs a ++ svs b := by simp [svs]
set_option maxRecDepth 100000 in
set_option maxHeartbeats 1000000 in
theorem put15_any (A : Option Addr) (c : Nat) (ss : List Str) (s : Str) (w : World) (hr : Rd w w.heap.size 1 A ss.length (svs ss)) (hc : ss.length ≤ c) (hl : ss.length ≤ 1000000) :
    Calls Tryz.prog 137 #[.slice A ss.length c, sv s] w (RdIs 1 (insL ltS s ss).length (svs (insL ltS s ss)) w) := by
  obtain ⟨i0, hi, hz0, hz1, hz2⟩ := info_parts inS
  have Hr := Lib.hid hr
  clear hr
  go_enter Tryz.func137, Tryz.ntmps137
  go_wp2_with fail
  go_loop [5] (fun i => ∃ k : Nat, k ≤ ss.length ∧ i = .int .i64 k ∧ Hid (∀ y ∈ ss.take k, ltS y s = true)) (fun i => ss.length - (intOf i).toNat)
  case atStart => exact ⟨0, Nat.zero_le _, rfl, by simp [Hid]⟩
  case round =>
    obtain ⟨k, hk, rfl, hall⟩ := hrel
    by_cases hlt : k < ss.length
    · obtain ⟨b, o, rfl, hB, hc0⟩ := Hr.out.str hlt
      generalize hx : ss[k] = x at hc0
      have Hx := Lib.hid hx
      clear hx
      cases hlx : Op.bytesLess x s
      · have hge : ∀ h : k < ss.length, ltS ss[k] s = false := fun _ => by rw [Hx.out]; exact hlx
        have Hge := Lib.hid hge
        clear hge
        cases hxs : (x == s)
        · go_wp2_with fail
          have hge := Hge.out
          have hne : ¬ ss[k]? = some s := by rw [List.getElem?_eq_getElem hlt, Hx.out]; intro e; injection e with e; rw [e] at hxs; simp at hxs
          clear hlx hxs
          have hins : insL ltS s ss = ss.take k ++ s :: ss.drop k := by rw [insL_cut ss k hk hall hge, if_neg hne]
          have HI := Lib.hid hins
          have HR1 := Lib.hid (Hr.out.takeA hk)
          have HR2 := Lib.hid (Hr.out.dropA hk hc)
          have hs1 := run_slice_full (P := Tryz.prog) Tryz.underlying26 hi (some ⟨b, o, none⟩) ss.length c k (Nat.le_trans hk hc)
          have hs2 := run_slice_tail (P := Tryz.prog) Tryz.underlying26 hi (some ⟨b, o, none⟩) ss.length c k hk
          rw [hz1] at hs1 hs2
          clear hins hne hge
          have hlk : (ss.drop k).length = ss.length - k := List.length_drop
          have HLk := Lib.hid hlk
          clear hlk
          try go_wp2_with fail
          refine wp_region_held_drew (S := fun w' => Below w.heap.size w w') (by kernel_rfl) (Below.drew (Below.refl _ _)) (fun hHeld => ?_)
          refine tY (i := 0) (v := ?_) rfl ?_ hHeld ?_; rotate_left 1; focus (intro w' hSw; clear hSw; go_simp; try with_reducible rfl)
          (try simp only [Act.put, zn1, zn2, zn3])
          refine tY (i := 1) (v := ?_) rfl ?_ hHeld ?_; rotate_left 1; focus (intro w' hSw; clear hSw; go_simp; try with_reducible rfl)
          (try simp only [Act.put, zn1, zn2, zn3])
          refine tY (i := 2) (v := ?_) rfl ?_ hHeld ?_; rotate_left 1; focus (intro w' hSw; clear hSw; go_simp; try with_reducible rfl)
          (try simp only [Act.put, zn1, zn2, zn3])
          refine tY (i := 3) (v := ?_) rfl ?_ hHeld ?_; rotate_left 1; focus (intro w' hSw; clear hSw; go_simp; try with_reducible rfl)
          (try simp only [Act.put, zn1, zn2, zn3])
          refine tY (i := 4) (v := ?_) rfl ?_ hHeld ?_; rotate_left 1; focus (intro w' hSw; clear hSw; go_simp; try with_reducible rfl)
          (try simp only [Act.put, zn1, zn2, zn3])
          refine tY (i := 6) (v := ?_) rfl ?_ hHeld ?_; rotate_left 1; focus (intro w' hSw; clear hSw; go_simp; try with_reducible rfl)
          (try simp only [Act.put, zn1, zn2, zn3])
          refine tY (i := 7) (v := ?_) rfl ?_ hHeld ?_; rotate_left 1; focus (intro w' hSw; clear hSw; go_simp; try with_reducible rfl)
          (try simp only [Act.put, zn1, zn2, zn3])
          refine tY (i := 8) (v := ?_) rfl ?_ hHeld ?_; rotate_left 1; focus (intro w' hSw; clear hSw; go_simp; try with_reducible rfl)
          (try simp only [Act.put, zn1, zn2, zn3])
          refine ready_one (i := 5) rfl (by kernel_rfl) (fun K hK => ?_)
          go_simp
          refine hK.out _ _ ?_ (fun hHeld2 => ?_)
          · (try dsimp only); first | exact hHeld | exact (by repeat (first | exact Below.refl _ _ | assumption | refine Below.alloc ?_ (by simp <;> omega) _ | refine Below.setCell ?_ (by simp <;> omega) _ | refine Below.drew ?_))
          clear hK K hHeld; have hHeld := hHeld2; clear hHeld2; (try simp only [Act.put, zn1, zn2, zn3])
          refine ready_one (i := 9) rfl (by kernel_rfl) (fun K hK => ?_)
          refine step_append_full (by rfl) (.tmp 38) (.tmp 41) 26 (by rfl) 9 i0 (.string ⟨#[]⟩) 1 16 Tryz.underlying26 hi hz0 hz1 hz2 rfl _ (some ⟨w.heap.size, 0, none⟩) 1 [sv s] (by rfl) (Rd.lit w.drew [sv s] 9 1 1 rfl) (Nat.le_refl _) _ _ (ss.length - k) (c - k) _ (by rfl) (HR2.out.at' (Nat.le_refl _) hHeld) (one_drop (one_svs ss) _) (by unfold maxLen; omega) (by omega) ?_
          intro A2 c2 v2 hc2 hr2 hb
          have HR3 := Lib.hid hr2
          clear hr2
          refine hK.out _ _ ?_ (fun hHeld2 => ?_)
          · (try dsimp only); first | exact Below.trans hHeld (Below.mono hb hHeld.size) | exact hHeld | exact Below.drew hHeld | exact (by repeat (first | exact Below.refl _ _ | assumption | refine Below.alloc ?_ (by simp <;> omega) _ | refine Below.setCell ?_ (by simp <;> omega) _ | refine Below.drew ?_))
          clear hK K hHeld; have hHeld := hHeld2; clear hHeld2; (try simp only [Act.put, zn1, zn2, zn3])
          refine ready_one (i := 10) rfl (by kernel_rfl) (fun K hK => ?_)
          refine step_append_full (by rfl) (.tmp 36) (.tmp 42) 26 (by rfl) 9 i0 (.string ⟨#[]⟩) 1 16 Tryz.underlying26 hi hz0 hz1 hz2 rfl _ _ k _ (by rfl) (HR1.out.at' (Nat.le_refl _) hHeld) (Nat.le_refl _) _ A2 (1 + (ss.length - k)) c2 _ (by rfl) HR3.out (one_app (one_sv s) (one_drop (one_svs ss) _)) (by unfold maxLen; omega) (by omega) ?_
          intro A3 c3 v3 hc3 hr3 hb
          have HR4 := Lib.hid hr3
          clear hr3
          refine hK.out _ _ ?_ (fun hHeld2 => ?_)
          · (try dsimp only); first | exact Below.trans hHeld (Below.mono hb hHeld.size) | exact hHeld | exact Below.drew hHeld | exact (by repeat (first | exact Below.refl _ _ | assumption | refine Below.alloc ?_ (by simp <;> omega) _ | refine Below.setCell ?_ (by simp <;> omega) _ | refine Below.drew ?_))
          clear hK K hHeld; have hHeld := hHeld2; clear hHeld2; (try simp only [Act.put, zn1, zn2, zn3])
          refine tY (i := 11) (v := ?_) rfl ?_ hHeld ?_; rotate_left 1; focus (intro w' hSw; clear hSw; go_simp; try with_reducible rfl)
          (try simp only [Act.put, zn1, zn2, zn3])
          refine wpAnyH_done (by kernel_rfl) ?_ _
          go_wp2_with fail
          go_ret
          refine RdIs.of hc3 HR4.out hHeld ?_ ?_
          · rw [HI.out, List.length_append, List.length_cons, List.length_take, HLk.out]; omega
          · rw [HI.out]; simp [svs, List.map_take, List.map_drop]
        · go_wp2_with fail
          go_ret
          have hins : insL ltS s ss = ss := by rw [insL_cut ss k hk hall Hge.out, if_pos]; rw [List.getElem?_eq_getElem hlt, Hx.out]; simpa using hxs
          exact RdIs.of hc Hr.out (Below.refl _ _) (by rw [hins]) (by rw [hins])
      · go_wp2_with fail
        go_round
        case rel =>
          refine ⟨k + 1, by omega, by go_num, fun y hy => ?_⟩
          rw [List.take_succ_eq_append_getElem hlt, List.mem_append, List.mem_singleton] at hy
          rcases hy with h | h
          · exact hall y h
          · rw [h, Hx.out]; exact hlx
        case measure => simp [intOf]; omega
    · have hge : ∀ h : k < ss.length, ltS ss[k] s = false := fun h => absurd h hlt
      have hne : ¬ ss[k]? = some s := by rw [List.getElem?_eq_none (by omega)]; simp
      go_wp2_with fail
      have hins : insL ltS s ss = ss.take k ++ s :: ss.drop k := by rw [insL_cut ss k hk hall hge, if_neg hne]
      have HI := Lib.hid hins
      have HR1 := Lib.hid (Hr.out.takeA hk)
      have HR2 := Lib.hid (Hr.out.dropA hk hc)
      have hs1 := run_slice_full (P := Tryz.prog) Tryz.underlying26 hi A ss.length c k (Nat.le_trans hk hc)
      have hs2 := run_slice_tail (P := Tryz.prog) Tryz.underlying26 hi A ss.length c k hk
      rw [hz1] at hs1 hs2
      clear hins hne hge
      have hlk : (ss.drop k).length = ss.length - k := List.length_drop
      have HLk := Lib.hid hlk
      clear hlk
      try go_wp2_with fail
      refine wp_region_held_drew (S := fun w' => Below w.heap.size w w') (by kernel_rfl) (Below.drew (Below.refl _ _)) (fun hHeld => ?_)
      refine tY (i := 0) (v := ?_) rfl ?_ hHeld ?_; rotate_left 1; focus (intro w' hSw; clear hSw; go_simp; try with_reducible rfl)
      (try simp only [Act.put, zn1, zn2, zn3])
      refine tY (i := 1) (v := ?_) rfl ?_ hHeld ?_; rotate_left 1; focus (intro w' hSw; clear hSw; go_simp; try with_reducible rfl)
      (try simp only [Act.put, zn1, zn2, zn3])
      refine tY (i := 2) (v := ?_) rfl ?_ hHeld ?_; rotate_left 1; focus (intro w' hSw; clear hSw; go_simp; try with_reducible rfl)
      (try simp only [Act.put, zn1, zn2, zn3])
      refine tY (i := 3) (v := ?_) rfl ?_ hHeld ?_; rotate_left 1; focus (intro w' hSw; clear hSw; go_simp; try with_reducible rfl)
      (try simp only [Act.put, zn1, zn2, zn3])
      refine tY (i := 4) (v := ?_) rfl ?_ hHeld ?_; rotate_left 1; focus (intro w' hSw; clear hSw; go_simp; try with_reducible rfl)
      (try simp only [Act.put, zn1, zn2, zn3])
      refine tY (i := 6) (v := ?_) rfl ?_ hHeld ?_; rotate_left 1; focus (intro w' hSw; clear hSw; go_simp; try with_reducible rfl)
      (try simp only [Act.put, zn1, zn2, zn3])
      refine tY (i := 7) (v := ?_) rfl ?_ hHeld ?_; rotate_left 1; focus (intro w' hSw; clear hSw; go_simp; try with_reducible rfl)
      (try simp only [Act.put, zn1, zn2, zn3])
      refine tY (i := 8) (v := ?_) rfl ?_ hHeld ?_; rotate_left 1; focus (intro w' hSw; clear hSw; go_simp; try with_reducible rfl)
      (try simp only [Act.put, zn1, zn2, zn3])
      refine ready_one (i := 5) rfl (by kernel_rfl) (fun K hK => ?_)
      go_simp
      refine hK.out _ _ ?_ (fun hHeld2 => ?_)
      · (try dsimp only); first | exact hHeld | exact (by repeat (first | exact Below.refl _ _ | assumption | refine Below.alloc ?_ (by simp <;> omega) _ | refine Below.setCell ?_ (by simp <;> omega) _ | refine Below.drew ?_))
      clear hK K hHeld; have hHeld := hHeld2; clear hHeld2; (try simp only [Act.put, zn1, zn2, zn3])
      refine ready_one (i := 9) rfl (by kernel_rfl) (fun K hK => ?_)
      refine step_append_full (by rfl) (.tmp 38) (.tmp 41) 26 (by rfl) 9 i0 (.string ⟨#[]⟩) 1 16 Tryz.underlying26 hi hz0 hz1 hz2 rfl _ (some ⟨w.heap.size, 0, none⟩) 1 [sv s] (by rfl) (Rd.lit w.drew [sv s] 9 1 1 rfl) (Nat.le_refl _) _ _ (ss.length - k) (c - k) _ (by rfl) (HR2.out.at' (Nat.le_refl _) hHeld) (one_drop (one_svs ss) _) (by unfold maxLen; omega) (by omega) ?_
      intro A2 c2 v2 hc2 hr2 hb
      have HR3 := Lib.hid hr2
      clear hr2
      refine hK.out _ _ ?_ (fun hHeld2 => ?_)
      · (try dsimp only); first | exact Below.trans hHeld (Below.mono hb hHeld.size) | exact hHeld | exact Below.drew hHeld | exact (by repeat (first | exact Below.refl _ _ | assumption | refine Below.alloc ?_ (by simp <;> omega) _ | refine Below.setCell ?_ (by simp <;> omega) _ | refine Below.drew ?_))
      clear hK K hHeld; have hHeld := hHeld2; clear hHeld2; (try simp only [Act.put, zn1, zn2, zn3])
      refine ready_one (i := 10) rfl (by kernel_rfl) (fun K hK => ?_)
      refine step_append_full (by rfl) (.tmp 36) (.tmp 42) 26 (by rfl) 9 i0 (.string ⟨#[]⟩) 1 16 Tryz.underlying26 hi hz0 hz1 hz2 rfl _ _ k _ (by rfl) (HR1.out.at' (Nat.le_refl _) hHeld) (Nat.le_refl _) _ A2 (1 + (ss.length - k)) c2 _ (by rfl) HR3.out (one_app (one_sv s) (one_drop (one_svs ss) _)) (by unfold maxLen; omega) (by omega) ?_
      intro A3 c3 v3 hc3 hr3 hb
      have HR4 := Lib.hid hr3
      clear hr3
      refine hK.out _ _ ?_ (fun hHeld2 => ?_)
      · (try dsimp only); first | exact Below.trans hHeld (Below.mono hb hHeld.size) | exact hHeld | exact Below.drew hHeld | exact (by repeat (first | exact Below.refl _ _ | assumption | refine Below.alloc ?_ (by simp <;> omega) _ | refine Below.setCell ?_ (by simp <;> omega) _ | refine Below.drew ?_))
      clear hK K hHeld; have hHeld := hHeld2; clear hHeld2; (try simp only [Act.put, zn1, zn2, zn3])
      refine tY (i := 11) (v := ?_) rfl ?_ hHeld ?_; rotate_left 1; focus (intro w' hSw; clear hSw; go_simp; try with_reducible rfl)
      (try simp only [Act.put, zn1, zn2, zn3])
      refine wpAnyH_done (by kernel_rfl) ?_ _
      go_wp2_with fail
      go_ret
      refine RdIs.of hc3 HR4.out hHeld ?_ ?_
      · rw [HI.out, List.length_append, List.length_cons, List.length_take, HLk.out]; omega
      · rw [HI.out]; simp [svs, List.map_take, List.map_drop]
end Od
end Go.Proofs.YtbllehjhmfehbaaGreat
end

section
/- The walk of matinsref15.In: who leads to a unit by a relation, rising, each once. (bel2) -/
namespace Go.Proofs.YtbllehjhmfehbaaGreat
open Go.RowKit Go.Sort
set_option linter.unusedSimpArgs false

namespace Od
def inQ (u : Str) (rel : Int) (e : Ed) : Bool := e.2.1 == u && e.2.2 == rel
def inRaw (es : List Ed) (u : Str) (rel : Int) : List Str := (es.filter (inQ u rel)).map (fun e => e.1)
def inR (es : List Ed) (u : Str) (rel : Int) : List Str := canon ltS (inRaw es u rel)
theorem inRaw_succ {es : List Ed} {u : Str} {rel : Int} {k : Nat} (h : k < es.length) : inRaw (es.take (k + 1)) u rel = inRaw (es.take k) u rel ++ (if (es[k].2.1 == u && es[k].2.2 == rel) = true then [es[k].1] else []) := by
  unfold inRaw
  rw [List.take_succ_eq_append_getElem h, List.filter_append, List.map_append]
  congr 1
  rw [List.filter_cons, List.filter_nil]
  show List.map _ (if inQ u rel es[k] = true then _ else _) = _
  unfold inQ
  split <;> simp
theorem inR_put {l : List Str} {s : Str} : canon ltS (l ++ [s]) = insL ltS s (canon ltS l) := by unfold canon; rw [List.foldl_append]; rfl
theorem inR_len (es : List Ed) (u : Str) (rel : Int) (k : Nat) : (canon ltS (inRaw (es.take k) u rel)).length ≤ es.length := by
  refine Nat.le_trans (canon_len _) ?_
  unfold inRaw
  rw [List.length_map]
  refine Nat.le_trans (List.length_filter_le _ _) ?_
  rw [List.length_take]; omega
theorem inR_nil {es : List Ed} {u : Str} {rel : Int} (h : (inR es u rel).length = 0) (a : Str) : hasE es a u rel = false := by
  cases hh : hasE es a u rel
  · rfl
  · exfalso
    have h1 := List.length_eq_zero_iff.1 h
    have h2 : a ∈ inR es u rel := (mem_canon toS).2 (List.mem_map.2 ⟨(a, u, rel), List.mem_filter.2 ⟨hasE_iff.1 hh, by unfold inQ; simp⟩, rfl⟩)
    rw [h1] at h2; cases h2
set_option maxRecDepth 100000 in
set_option maxHeartbeats 4000000 in
theorem In15_any (An Ae : Option Addr) (nn cn ce : Nat) (es : List Ed) (u : Str) (rel : Int) (w : World) (hr : Rd w w.heap.size 3 Ae es.length (edsC es)) (hl : es.length ≤ 1000000) :
    Calls Tryz.prog 97 #[gV An nn cn Ae es.length ce, sv u, .int .i64 rel] w (RdIs 1 (inR es u rel).length (svs (inR es u rel)) w) := by
  have Hr := Lib.hid hr
  clear hr
  go_enter Tryz.func97, Tryz.ntmps97
  go_wp2_with fail
  first | (refine wp_named ?_; intro W1 hW) | (refine calls_named ?_; intro W1 hW)
  have B1 : Below w.heap.size w W1 := by rw [hW]; exact (by repeat (first | exact Below.refl _ _ | assumption | refine Below.alloc ?_ (by first | omega | (simp <;> omega)) _ | refine Below.setCell ?_ (by first | omega | (simp <;> omega)) _ | refine Below.drew ?_))
  replace Hr := Lib.hid (Hr.out.at B1)
  have n1 : w.heap.size < W1.heap.size := by rw [hW]; simp <;> omega
  have g0 : W1.cell? ⟨w.heap.size, 0, none⟩ = some (.slice An nn cn) := by rw [hW]; go_simp
  have g1 : W1.cell? ⟨w.heap.size, 1, none⟩ = some (.slice Ae es.length ce) := by rw [hW]; go_simp
  clear hW
  have HB1 := Lib.hid B1
  clear B1
  go_wp2_with fail
  go_loopw [7, 13] (fun v i wr => ∃ (k : Nat) (A9 : Option Addr) (c9 : Nat), k ≤ es.length ∧ i = .int .i64 k ∧ v = .slice A9 (canon ltS (inRaw (es.take k) u rel)).length c9 ∧ (canon ltS (inRaw (es.take k) u rel)).length ≤ c9 ∧ Hid (Rd wr wr.heap.size 1 A9 (canon ltS (inRaw (es.take k) u rel)).length (svs (canon ltS (inRaw (es.take k) u rel)))) ∧ Below W1.heap.size W1 wr) (fun _ i _ => es.length - (intOf i).toNat)
  case atStart => exact ⟨0, none, 0, Nat.zero_le _, rfl, rfl, Nat.le_refl _, Rd.none_, Below.refl _ _⟩
  case round =>
    obtain ⟨k, A9, c9, hk, rfl, rfl, hc9, HR, hb⟩ := hrel
    have HBl := Lib.hid hb
    replace g0 := cellAt g0 hb (by omega)
    replace g1 := cellAt g1 hb (by omega)
    replace Hr := Lib.hid (Hr.out.at hb)
    replace n1 : w.heap.size < wr.heap.size := ltAt n1 hb
    clear hb
    by_cases hlt : k < es.length
    · obtain ⟨b2, o2, hA, hB2, x0, x1, x2⟩ := Hr.out.edge hlt
      have hsu := inRaw_succ (u := u) (rel := rel) hlt
      have hll := inR_len es u rel k
      subst hA
      generalize es[k] = e at x0 x1 x2 hsu
      obtain ⟨s, d, r⟩ := e
      simp only at x0 x1 x2 hsu
      generalize inRaw (es.take k) u rel = L at HR hsu hll hc9 ⊢
      have HSu := Lib.hid hsu
      have m1 : (0 : Int) ≤ (k : Int) := by omega
      have m2 : (k : Int) < (es.length : Int) := by omega
      clear hsu
      cases e1 : (d == u)
      · have HS2 := Lib.hid (show inRaw (es.take (k + 1)) u rel = L by rw [HSu.out, e1]; simp)
        go_wp2_with fail
        go_roundw
        case rel => exact ⟨k + 1, A9, c9, by omega, by go_num, by rw [HS2.out], by rw [HS2.out]; exact hc9, by rw [HS2.out]; exact HR.out.at ((Below.refl _ _).alloc (Nat.le_refl _) _), HBl.out.alloc (by have := HBl.out.size; omega) _⟩
        case measure => simp [intOf]; omega
      · cases e2 : (r == rel)
        · have HS2 := Lib.hid (show inRaw (es.take (k + 1)) u rel = L by rw [HSu.out, e1, e2]; simp)
          go_wp2_with fail
          go_roundw
          case rel => exact ⟨k + 1, A9, c9, by omega, by go_num, by rw [HS2.out], by rw [HS2.out]; exact hc9, by rw [HS2.out]; exact HR.out.at ((Below.refl _ _).alloc (Nat.le_refl _) _), HBl.out.alloc (by have := HBl.out.size; omega) _⟩
          case measure => simp [intOf]; omega
        · have HS2 := Lib.hid (show inRaw (es.take (k + 1)) u rel = L ++ [s] by rw [HSu.out, e1, e2]; rfl)
          go_wp2_with fail
          first | (refine wp_named ?_; intro W4 hW) | (refine calls_named ?_; intro W4 hW)
          have B4 : Below wr.heap.size wr W4 := by rw [hW]; exact (by repeat (first | exact Below.refl _ _ | assumption | refine Below.alloc ?_ (by first | omega | (simp <;> omega)) _ | refine Below.setCell ?_ (by first | omega | (simp <;> omega)) _ | refine Below.drew ?_))
          replace g0 := cellAt g0 B4 (by omega)
          replace g1 := cellAt g1 B4 (by omega)
          replace Hr := Lib.hid (Hr.out.at B4)
          replace n1 : w.heap.size < W4.heap.size := ltAt n1 B4
          replace HBl := Lib.hid (lift HBl.out B4)
          replace HR := Lib.hid (HR.out.at B4)
          clear hW
          clear B4 x0 x1 x2
          refine (put15_any A9 c9 (canon ltS L) s W4 HR.out hc9 (by omega)).mono ?_
          rintro e v3 ⟨A8, c8, rfl, hc8, hr8, hb⟩
          have HR8 := Lib.hid hr8
          replace g0 := cellAt g0 hb (by omega)
          replace g1 := cellAt g1 hb (by omega)
          replace Hr := Lib.hid (Hr.out.at hb)
          replace n1 : w.heap.size < v3.heap.size := ltAt n1 hb
          replace HBl := Lib.hid (lift HBl.out hb)
          replace HR := Lib.hid (HR.out.at hb)
          clear hb hr8
          go_wp2_with fail
          go_roundw
          case rel =>
            refine ⟨k + 1, A8, c8, by omega, by go_num, ?_, ?_, ?_, HBl.out⟩
            · rw [HS2.out, inR_put]
            · rw [HS2.out, inR_put]; exact hc8
            · rw [HS2.out, inR_put]; exact HR8
          case measure => simp [intOf]; omega
    · have htk : es.take k = es := List.take_of_length_le (by omega)
      rw [htk] at HR hc9 ⊢
      have HB := Lib.hid (lift HB1.out HBl.out)
      go_wp2_with fail
      go_ret
      exact ⟨A9, c9, rfl, hc9, HR.out, HB.out⟩
end Od
end Go.Proofs.YtbllehjhmfehbaaGreat
end

section
/- An append to a full row makes a row of the call's own; matinsref15.put and In so. (bel2) -/
namespace Go.Proofs.YtbllehjhmfehbaaGreat
open Go.RowKit Go.Sort
set_option linter.unusedSimpArgs false
section
variable {P : Program}
theorem run_append_fullo (w : World) (t ty e : TypeId) (i : TypeInfo) (z : Value) (size bytes : Nat) (ht : P.underlying t = some (.slice e)) (hi : P.info? e = some i) (hz : i.zero = some z)
    (hsize : i.size = size) (hby : i.bytes = bytes) (hzs : z.cells.size = size) (B : Nat) (A : Option Addr) (n : Nat) (xs : List Value) (hr : Rd w B size A n xs)
    (B2 : Nat) (A2 : Option Addr) (m c : Nat) (news : List Value) (hr2 : Rd w B2 size A2 m news) (h1 : ∀ u ∈ news, u.oneCell' = true) (hm0 : 0 < m) (h63 : n + m ≤ maxLen) (hbytes : (n + m) * bytes ≤ 140737488355328) :
    ∃ A' c' w', (Builtin.append_ #[t, t] ty #[.slice A n n, .slice A2 m c]).run P w = .ok (.slice A' (n + m) c') w' ∧ w'.ownsRow w.heap.size e size (.slice A' (n + m) c') (n + m) (xs ++ news) ∧ Below w.heap.size w w' := by
  subst hsize
  subst hby
  have hs : Src P i.size t (.slice A2 m c) m news w := src_rd ht hr2 h1 fun e => by
    obtain ⟨ad, h, _⟩ := hr2.2 hm0; rw [e] at h; cases h
  have hnl := hs.newsLen
  have hlen : (xs ++ news).length = (n + m) * i.size := by rw [List.length_append, hr.1, hnl, Nat.add_mul]
  have hold : (Builtin.firstCells i.size n (.slice A n n)).run P w.drew = .ok xs.toArray w.drew := by
    cases A with
    | none =>
      have hn : n = 0 := by
        rcases Nat.eq_zero_or_pos n with h | h
        · exact h
        · obtain ⟨ad, h, _⟩ := hr.2 h; cases h
      subst hn
      have hx : xs = [] := List.eq_nil_of_length_eq_zero (by simpa using hr.1)
      subst hx
      exact run_firstCells_none w.drew i.size 0 0 0
    | some ad =>
      refine run_firstCells_some w.drew i.size n ad n n xs hr.1 (fun j u hu => ?_)
      have hj : j < n * i.size := by
        have := (List.getElem?_eq_some_iff.1 hu).1
        rw [hr.1] at this
        exact this
      have hn0 : 0 < n := by
        rcases Nat.eq_zero_or_pos n with h | h
        · rw [h, Nat.zero_mul] at hj; omega
        · exact h
      obtain ⟨ad', he, _, hsp, hc⟩ := hr.2 hn0
      injection he with he
      subst he
      have hadd : ad.add j = ⟨ad.block, ad.off + j, none⟩ := by
        unfold Addr.add
        split
        · rename_i h0; subst h0; cases ad; simp_all
        · rfl
      rw [hadd]
      exact (hc j hj).trans hu
  have hm2 : n + m ≤ 9223372036854775807 := by simp only [maxLen] at h63; omega
  have hg : n < n + m := by omega
  have hrun := run_append_grow_src (P := P) w t t ty e i z ht hi hz A n n xs hold (.slice A2 m c) m news hs hg (by omega) (growslice_fits hg hbytes)
  have hge := grownCap_ge w (n + m) n e
  have hcm := grownCap_le_maxLen w (n + m) n e h63
  refine ⟨_, _, _, hrun, ⟨hlen, .inr ⟨w.heap.size, grownCap w (n + m) n e, (xs ++ news).toArray ++ Builtin.zeroCells z.cells (grownCap w (n + m) n e - (n + m)), rfl, Nat.le_refl _, ?_, hge, hcm, ?_, ?_⟩⟩, ⟨rfl, rfl, rfl, by simp, fun k hk => Below.heap_alloc w.drew _ k hk⟩⟩
  · show (w.heap.push _)[w.heap.size]? = _
    exact Array.getElem?_push_size
  · rw [Array.size_append, size_zeroCells, List.size_toArray, hlen, hzs, ← Nat.add_mul]
    congr 1
    omega
  · rw [Array.toList_append, List.take_append_of_le_length (by simp only [List.toList_toArray]; omega), List.toList_toArray, List.take_of_length_le (by omega)]
theorem step_append_fullo {w : World} {ops : Array Oper} {o : Oper} {a : Act} {K : Act → World → Prop} {Q : Exit → Act → World → Prop} {E : Prop} (hw : Region.wanted o (yielded ops a.tmps) = true) (s x : Operand) (t : TypeId)
    (ho : o.op = .call { callee := .builtin .append, args := #[s, x], argTypes := #[t, t] })
    (e : TypeId) (i : TypeInfo) (z : Value) (size bytes : Nat) (ht : P.underlying t = some (.slice e)) (hi : P.info? e = some i) (hz : i.zero = some z)
    (hsize : i.size = size) (hby : i.bytes = bytes) (hzs : z.cells.size = size) (B : Nat) (A : Option Addr) (n : Nat) (xs : List Value) (hs : a.eval s = .slice A n n) (hr : Rd w B size A n xs) (_hB : B ≤ w.heap.size)
    (B2 : Nat) (A2 : Option Addr) (m c : Nat) (news : List Value) (hx : a.eval x = .slice A2 m c) (hr2 : Rd w B2 size A2 m news) (h1 : ∀ u ∈ news, u.oneCell' = true) (hm0 : 0 < m) (h63 : n + m ≤ maxLen) (hbytes : (n + m) * bytes ≤ 140737488355328)
    (h : ∀ A' c' w', w'.ownsRow w.heap.size e size (.slice A' (n + m) c') (n + m) (xs ++ news) → Below w.heap.size w w' → K (a.put o.dst (.slice A' (n + m) c')) w') :
    if Region.wanted o (yielded ops a.tmps) = true then Oper.wp P o a w K Q else E := by
  rw [if_pos hw]
  obtain ⟨A', c', w', hrun, h2, h3⟩ := run_append_fullo (P := P) w t o.type e i z size bytes ht hi hz hsize hby hzs B A n xs hr B2 A2 m c news hr2 h1 hm0 h63 hbytes
  unfold Oper.wp execOp
  simp only [ho, resolve, invoke, builtin, Sem.run_bind, Sem.run_pure, Result.andThen_ok, List.map_toArray, List.map_cons, List.map_nil, hs, hx, hrun]
  exact h A' c' w' h2 h3
end
namespace Od
/-- The row as it was, or a new one. -/
def PutO (A : Option Addr) (c : Nat) (ss rs : List Str) (w : World) (e : Ending) (w' : World) : Prop := ∃ A' c', e = .returned (.slice A' rs.length c') ∧ ((A' = A ∧ c' = c ∧ rs = ss) ∨ w'.ownsRow w.heap.size 9 1 (.slice A' rs.length c') rs.length (svs rs)) ∧ Below w.heap.size w w'
set_option maxRecDepth 100000 in
set_option maxHeartbeats 1000000 in
theorem put15o_any (A : Option Addr) (c : Nat) (ss : List Str) (s : Str) (w : World) (hr : Rd w w.heap.size 1 A ss.length (svs ss)) (hc : ss.length ≤ c) (hl : ss.length ≤ 1000000) :
    Calls Tryz.prog 137 #[.slice A ss.length c, sv s] w (PutO A c ss (insL ltS s ss) w) := by
  obtain ⟨i0, hi, hz0, hz1, hz2⟩ := info_parts inS
  have Hr := Lib.hid hr
  clear hr
  go_enter Tryz.func137, Tryz.ntmps137
  go_wp2_with fail
  go_loop [5] (fun i => ∃ k : Nat, k ≤ ss.length ∧ i = .int .i64 k ∧ Hid (∀ y ∈ ss.take k, ltS y s = true)) (fun i => ss.length - (intOf i).toNat)
  case atStart => exact ⟨0, Nat.zero_le _, rfl, by simp [Hid]⟩
  case round =>
    obtain ⟨k, hk, rfl, hall⟩ := hrel
    by_cases hlt : k < ss.length
    · obtain ⟨b, o, rfl, hB, hc0⟩ := Hr.out.str hlt
      generalize hx : ss[k] = x at hc0
      have Hx := Lib.hid hx
      clear hx
      cases hlx : Op.bytesLess x s
      · have hge : ∀ h : k < ss.length, ltS ss[k] s = false := fun _ => by rw [Hx.out]; exact hlx
        have Hge := Lib.hid hge
        clear hge
        cases hxs : (x == s)
        · go_wp2_with fail
          have hge := Hge.out
          have hne : ¬ ss[k]? = some s := by rw [List.getElem?_eq_getElem hlt, Hx.out]; intro e; injection e with e; rw [e] at hxs; simp at hxs
          clear hlx hxs
          have hins : insL ltS s ss = ss.take k ++ s :: ss.drop k := by rw [insL_cut ss k hk hall hge, if_neg hne]
          have HI := Lib.hid hins
          have HR1 := Lib.hid (Hr.out.takeA hk)
          have HR2 := Lib.hid (Hr.out.dropA hk hc)
          have hs1 := run_slice_full (P := Tryz.prog) Tryz.underlying26 hi (some ⟨b, o, none⟩) ss.length c k (Nat.le_trans hk hc)
          have hs2 := run_slice_tail (P := Tryz.prog) Tryz.underlying26 hi (some ⟨b, o, none⟩) ss.length c k hk
          rw [hz1] at hs1 hs2
          clear hins hne hge
          have hlk : (ss.drop k).length = ss.length - k := List.length_drop
          have HLk := Lib.hid hlk
          clear hlk
          try go_wp2_with fail
          refine wp_region_held_drew (S := fun w' => Below w.heap.size w w') (by kernel_rfl) (Below.drew (Below.refl _ _)) (fun hHeld => ?_)
          refine tY (i := 0) (v := ?_) rfl ?_ hHeld ?_; rotate_left 1; focus (intro w' hSw; clear hSw; go_simp; try with_reducible rfl)
          (try simp only [Act.put, zn1, zn2, zn3])
          refine tY (i := 1) (v := ?_) rfl ?_ hHeld ?_; rotate_left 1; focus (intro w' hSw; clear hSw; go_simp; try with_reducible rfl)
          (try simp only [Act.put, zn1, zn2, zn3])
          refine tY (i := 2) (v := ?_) rfl ?_ hHeld ?_; rotate_left 1; focus (intro w' hSw; clear hSw; go_simp; try with_reducible rfl)
          (try simp only [Act.put, zn1, zn2, zn3])
          refine tY (i := 3) (v := ?_) rfl ?_ hHeld ?_; rotate_left 1; focus (intro w' hSw; clear hSw; go_simp; try with_reducible rfl)
          (try simp only [Act.put, zn1, zn2, zn3])
          refine tY (i := 4) (v := ?_) rfl ?_ hHeld ?_; rotate_left 1; focus (intro w' hSw; clear hSw; go_simp; try with_reducible rfl)
          (try simp only [Act.put, zn1, zn2, zn3])
          refine tY (i := 6) (v := ?_) rfl ?_ hHeld ?_; rotate_left 1; focus (intro w' hSw; clear hSw; go_simp; try with_reducible rfl)
          (try simp only [Act.put, zn1, zn2, zn3])
          refine tY (i := 7) (v := ?_) rfl ?_ hHeld ?_; rotate_left 1; focus (intro w' hSw; clear hSw; go_simp; try with_reducible rfl)
          (try simp only [Act.put, zn1, zn2, zn3])
          refine tY (i := 8) (v := ?_) rfl ?_ hHeld ?_; rotate_left 1; focus (intro w' hSw; clear hSw; go_simp; try with_reducible rfl)
          (try simp only [Act.put, zn1, zn2, zn3])
          refine ready_one (i := 5) rfl (by kernel_rfl) (fun K hK => ?_)
          go_simp
          refine hK.out _ _ ?_ (fun hHeld2 => ?_)
          · (try dsimp only); first | exact hHeld | exact (by repeat (first | exact Below.refl _ _ | assumption | refine Below.alloc ?_ (by first | omega | (simp <;> omega)) _ | refine Below.setCell ?_ (by first | omega | (simp <;> omega)) _ | refine Below.drew ?_))
          clear hK K hHeld; have hHeld := hHeld2; clear hHeld2; (try simp only [Act.put, zn1, zn2, zn3])
          refine ready_one (i := 9) rfl (by kernel_rfl) (fun K hK => ?_)
          refine step_append_full (by rfl) (.tmp 38) (.tmp 41) 26 (by rfl) 9 i0 (.string ⟨#[]⟩) 1 16 Tryz.underlying26 hi hz0 hz1 hz2 rfl _ (some ⟨w.heap.size, 0, none⟩) 1 [sv s] (by rfl) (Rd.lit w.drew [sv s] 9 1 1 rfl) (Nat.le_refl _) _ _ (ss.length - k) (c - k) _ (by rfl) (HR2.out.at' (Nat.le_refl _) hHeld) (one_drop (one_svs ss) _) (by unfold maxLen; omega) (by omega) ?_
          intro A2 c2 v2 hc2 hr2 hb
          have HR3 := Lib.hid hr2
          clear hr2
          refine hK.out _ _ ?_ (fun hHeld2 => ?_)
          · (try dsimp only); first | exact Below.trans hHeld (Below.mono hb hHeld.size) | exact hHeld | exact Below.drew hHeld | exact (by repeat (first | exact Below.refl _ _ | assumption | refine Below.alloc ?_ (by first | omega | (simp <;> omega)) _ | refine Below.setCell ?_ (by first | omega | (simp <;> omega)) _ | refine Below.drew ?_))
          clear hK K hHeld; have hHeld := hHeld2; clear hHeld2; (try simp only [Act.put, zn1, zn2, zn3])
          refine ready_one (i := 10) rfl (by kernel_rfl) (fun K hK => ?_)
          refine step_append_fullo (by rfl) (.tmp 36) (.tmp 42) 26 (by rfl) 9 i0 (.string ⟨#[]⟩) 1 16 Tryz.underlying26 hi hz0 hz1 hz2 rfl _ _ k _ (by rfl) (HR1.out.at' (Nat.le_refl _) hHeld) (Nat.le_refl _) _ A2 (1 + (ss.length - k)) c2 _ (by rfl) HR3.out (one_app (one_sv s) (one_drop (one_svs ss) _)) (by omega) (by unfold maxLen; omega) (by omega) ?_
          intro A3 c3 v3 hr3 hb
          have HR4 := Lib.hid (own_base hr3 hHeld.size)
          clear hr3
          refine hK.out _ _ ?_ (fun hHeld2 => ?_)
          · (try dsimp only); first | exact Below.trans hHeld (Below.mono hb hHeld.size) | exact hHeld | exact Below.drew hHeld | exact (by repeat (first | exact Below.refl _ _ | assumption | refine Below.alloc ?_ (by first | omega | (simp <;> omega)) _ | refine Below.setCell ?_ (by first | omega | (simp <;> omega)) _ | refine Below.drew ?_))
          clear hK K hHeld; have hHeld := hHeld2; clear hHeld2; (try simp only [Act.put, zn1, zn2, zn3])
          refine tY (i := 11) (v := ?_) rfl ?_ hHeld ?_; rotate_left 1; focus (intro w' hSw; clear hSw; go_simp; try with_reducible rfl)
          (try simp only [Act.put, zn1, zn2, zn3])
          refine wpAnyH_done (by kernel_rfl) ?_ _
          go_wp2_with fail
          go_ret
          have hl9 : k + (1 + (ss.length - k)) = (insL ltS s ss).length := by rw [HI.out, List.length_append, List.length_cons, List.length_take, HLk.out]; omega
          have ho9 := HR4.out
          rw [show (svs ss).take (k * 1) ++ ([sv s] ++ (svs ss).drop (k * 1)) = svs (insL ltS s ss) by rw [HI.out]; simp [svs, List.map_take, List.map_drop], hl9] at ho9
          rw [hl9]
          exact ⟨A3, c3, rfl, .inr ho9, hHeld⟩
        · go_wp2_with fail
          go_ret
          have hins : insL ltS s ss = ss := by rw [insL_cut ss k hk hall Hge.out, if_pos]; rw [List.getElem?_eq_getElem hlt, Hx.out]; simpa using hxs
          exact ⟨_, c, by rw [hins]; rfl, .inl ⟨rfl, rfl, hins⟩, Below.refl _ _⟩
      · go_wp2_with fail
        go_round
        case rel =>
          refine ⟨k + 1, by omega, by go_num, fun y hy => ?_⟩
          rw [List.take_succ_eq_append_getElem hlt, List.mem_append, List.mem_singleton] at hy
          rcases hy with h | h
          · exact hall y h
          · rw [h, Hx.out]; exact hlx
        case measure => simp [intOf]; omega
    · have hge : ∀ h : k < ss.length, ltS ss[k] s = false := fun h => absurd h hlt
      have hne : ¬ ss[k]? = some s := by rw [List.getElem?_eq_none (by omega)]; simp
      go_wp2_with fail
      have hins : insL ltS s ss = ss.take k ++ s :: ss.drop k := by rw [insL_cut ss k hk hall hge, if_neg hne]
      have HI := Lib.hid hins
      have HR1 := Lib.hid (Hr.out.takeA hk)
      have HR2 := Lib.hid (Hr.out.dropA hk hc)
      have hs1 := run_slice_full (P := Tryz.prog) Tryz.underlying26 hi A ss.length c k (Nat.le_trans hk hc)
      have hs2 := run_slice_tail (P := Tryz.prog) Tryz.underlying26 hi A ss.length c k hk
      rw [hz1] at hs1 hs2
      clear hins hne hge
      have hlk : (ss.drop k).length = ss.length - k := List.length_drop
      have HLk := Lib.hid hlk
      clear hlk
      try go_wp2_with fail
      refine wp_region_held_drew (S := fun w' => Below w.heap.size w w') (by kernel_rfl) (Below.drew (Below.refl _ _)) (fun hHeld => ?_)
      refine tY (i := 0) (v := ?_) rfl ?_ hHeld ?_; rotate_left 1; focus (intro w' hSw; clear hSw; go_simp; try with_reducible rfl)
      (try simp only [Act.put, zn1, zn2, zn3])
      refine tY (i := 1) (v := ?_) rfl ?_ hHeld ?_; rotate_left 1; focus (intro w' hSw; clear hSw; go_simp; try with_reducible rfl)
      (try simp only [Act.put, zn1, zn2, zn3])
      refine tY (i := 2) (v := ?_) rfl ?_ hHeld ?_; rotate_left 1; focus (intro w' hSw; clear hSw; go_simp; try with_reducible rfl)
      (try simp only [Act.put, zn1, zn2, zn3])
      refine tY (i := 3) (v := ?_) rfl ?_ hHeld ?_; rotate_left 1; focus (intro w' hSw; clear hSw; go_simp; try with_reducible rfl)
      (try simp only [Act.put, zn1, zn2, zn3])
      refine tY (i := 4) (v := ?_) rfl ?_ hHeld ?_; rotate_left 1; focus (intro w' hSw; clear hSw; go_simp; try with_reducible rfl)
      (try simp only [Act.put, zn1, zn2, zn3])
      refine tY (i := 6) (v := ?_) rfl ?_ hHeld ?_; rotate_left 1; focus (intro w' hSw; clear hSw; go_simp; try with_reducible rfl)
      (try simp only [Act.put, zn1, zn2, zn3])
      refine tY (i := 7) (v := ?_) rfl ?_ hHeld ?_; rotate_left 1; focus (intro w' hSw; clear hSw; go_simp; try with_reducible rfl)
      (try simp only [Act.put, zn1, zn2, zn3])
      refine tY (i := 8) (v := ?_) rfl ?_ hHeld ?_; rotate_left 1; focus (intro w' hSw; clear hSw; go_simp; try with_reducible rfl)
      (try simp only [Act.put, zn1, zn2, zn3])
      refine ready_one (i := 5) rfl (by kernel_rfl) (fun K hK => ?_)
      go_simp
      refine hK.out _ _ ?_ (fun hHeld2 => ?_)
      · (try dsimp only); first | exact hHeld | exact (by repeat (first | exact Below.refl _ _ | assumption | refine Below.alloc ?_ (by first | omega | (simp <;> omega)) _ | refine Below.setCell ?_ (by first | omega | (simp <;> omega)) _ | refine Below.drew ?_))
      clear hK K hHeld; have hHeld := hHeld2; clear hHeld2; (try simp only [Act.put, zn1, zn2, zn3])
      refine ready_one (i := 9) rfl (by kernel_rfl) (fun K hK => ?_)
      refine step_append_full (by rfl) (.tmp 38) (.tmp 41) 26 (by rfl) 9 i0 (.string ⟨#[]⟩) 1 16 Tryz.underlying26 hi hz0 hz1 hz2 rfl _ (some ⟨w.heap.size, 0, none⟩) 1 [sv s] (by rfl) (Rd.lit w.drew [sv s] 9 1 1 rfl) (Nat.le_refl _) _ _ (ss.length - k) (c - k) _ (by rfl) (HR2.out.at' (Nat.le_refl _) hHeld) (one_drop (one_svs ss) _) (by unfold maxLen; omega) (by omega) ?_
      intro A2 c2 v2 hc2 hr2 hb
      have HR3 := Lib.hid hr2
      clear hr2
      refine hK.out _ _ ?_ (fun hHeld2 => ?_)
      · (try dsimp only); first | exact Below.trans hHeld (Below.mono hb hHeld.size) | exact hHeld | exact Below.drew hHeld | exact (by repeat (first | exact Below.refl _ _ | assumption | refine Below.alloc ?_ (by first | omega | (simp <;> omega)) _ | refine Below.setCell ?_ (by first | omega | (simp <;> omega)) _ | refine Below.drew ?_))
      clear hK K hHeld; have hHeld := hHeld2; clear hHeld2; (try simp only [Act.put, zn1, zn2, zn3])
      refine ready_one (i := 10) rfl (by kernel_rfl) (fun K hK => ?_)
      refine step_append_fullo (by rfl) (.tmp 36) (.tmp 42) 26 (by rfl) 9 i0 (.string ⟨#[]⟩) 1 16 Tryz.underlying26 hi hz0 hz1 hz2 rfl _ _ k _ (by rfl) (HR1.out.at' (Nat.le_refl _) hHeld) (Nat.le_refl _) _ A2 (1 + (ss.length - k)) c2 _ (by rfl) HR3.out (one_app (one_sv s) (one_drop (one_svs ss) _)) (by omega) (by unfold maxLen; omega) (by omega) ?_
      intro A3 c3 v3 hr3 hb
      have HR4 := Lib.hid (own_base hr3 hHeld.size)
      clear hr3
      refine hK.out _ _ ?_ (fun hHeld2 => ?_)
      · (try dsimp only); first | exact Below.trans hHeld (Below.mono hb hHeld.size) | exact hHeld | exact Below.drew hHeld | exact (by repeat (first | exact Below.refl _ _ | assumption | refine Below.alloc ?_ (by first | omega | (simp <;> omega)) _ | refine Below.setCell ?_ (by first | omega | (simp <;> omega)) _ | refine Below.drew ?_))
      clear hK K hHeld; have hHeld := hHeld2; clear hHeld2; (try simp only [Act.put, zn1, zn2, zn3])
      refine tY (i := 11) (v := ?_) rfl ?_ hHeld ?_; rotate_left 1; focus (intro w' hSw; clear hSw; go_simp; try with_reducible rfl)
      (try simp only [Act.put, zn1, zn2, zn3])
      refine wpAnyH_done (by kernel_rfl) ?_ _
      go_wp2_with fail
      go_ret
      have hl9 : k + (1 + (ss.length - k)) = (insL ltS s ss).length := by rw [HI.out, List.length_append, List.length_cons, List.length_take, HLk.out]; omega
      have ho9 := HR4.out
      rw [show (svs ss).take (k * 1) ++ ([sv s] ++ (svs ss).drop (k * 1)) = svs (insL ltS s ss) by rw [HI.out]; simp [svs, List.map_take, List.map_drop], hl9] at ho9
      rw [hl9]
      exact ⟨A3, c3, rfl, .inr ho9, hHeld⟩
set_option maxRecDepth 100000 in
set_option maxHeartbeats 4000000 in
theorem In15o_any (An Ae : Option Addr) (nn cn ce : Nat) (es : List Ed) (u : Str) (rel : Int) (w : World) (hr : Rd w w.heap.size 3 Ae es.length (edsC es)) (hl : es.length ≤ 1000000) :
    Calls Tryz.prog 97 #[gV An nn cn Ae es.length ce, sv u, .int .i64 rel] w (OwnS (inR es u rel) w) := by
  have Hr := Lib.hid hr
  clear hr
  go_enter Tryz.func97, Tryz.ntmps97
  go_wp2_with fail
  first | (refine wp_named ?_; intro W1 hW) | (refine calls_named ?_; intro W1 hW)
  have B1 : Below w.heap.size w W1 := by rw [hW]; exact (by repeat (first | exact Below.refl _ _ | assumption | refine Below.alloc ?_ (by first | omega | (simp <;> omega)) _ | refine Below.setCell ?_ (by first | omega | (simp <;> omega)) _ | refine Below.drew ?_))
  replace Hr := Lib.hid (Hr.out.at B1)
  have n1 : w.heap.size < W1.heap.size := by rw [hW]; simp <;> omega
  have g0 : W1.cell? ⟨w.heap.size, 0, none⟩ = some (.slice An nn cn) := by rw [hW]; go_simp
  have g1 : W1.cell? ⟨w.heap.size, 1, none⟩ = some (.slice Ae es.length ce) := by rw [hW]; go_simp
  clear hW
  have HB1 := Lib.hid B1
  clear B1
  go_wp2_with fail
  go_loopw [7, 13] (fun v i wr => ∃ (k : Nat) (A9 : Option Addr) (c9 : Nat), k ≤ es.length ∧ i = .int .i64 k ∧ v = .slice A9 (canon ltS (inRaw (es.take k) u rel)).length c9 ∧ Hid (wr.ownsRow W1.heap.size 9 1 (.slice A9 (canon ltS (inRaw (es.take k) u rel)).length c9) (canon ltS (inRaw (es.take k) u rel)).length (svs (canon ltS (inRaw (es.take k) u rel)))) ∧ Below W1.heap.size W1 wr) (fun _ i _ => es.length - (intOf i).toNat)
  case atStart => exact ⟨0, none, 0, Nat.zero_le _, rfl, rfl, World.ownsRow_nil _ _ _ _, Below.refl _ _⟩
  case round =>
    obtain ⟨k, A9, c9, hk, rfl, rfl, HR, hb⟩ := hrel
    have HBl := Lib.hid hb
    replace g0 := cellAt g0 hb (by omega)
    replace g1 := cellAt g1 hb (by omega)
    replace Hr := Lib.hid (Hr.out.at hb)
    replace n1 : w.heap.size < wr.heap.size := ltAt n1 hb
    clear hb
    by_cases hlt : k < es.length
    · obtain ⟨b2, o2, hA, hB2, x0, x1, x2⟩ := Hr.out.edge hlt
      have hsu := inRaw_succ (u := u) (rel := rel) hlt
      have hll := inR_len es u rel k
      subst hA
      generalize es[k] = e at x0 x1 x2 hsu
      obtain ⟨s, d, r⟩ := e
      simp only at x0 x1 x2 hsu
      generalize inRaw (es.take k) u rel = L at HR hsu hll ⊢
      have HSu := Lib.hid hsu
      have m1 : (0 : Int) ≤ (k : Int) := by omega
      have m2 : (k : Int) < (es.length : Int) := by omega
      clear hsu
      cases e1 : (d == u)
      · have HS2 := Lib.hid (show inRaw (es.take (k + 1)) u rel = L by rw [HSu.out, e1]; simp)
        go_wp2_with fail
        go_roundw
        case rel => exact ⟨k + 1, A9, c9, by omega, by go_num, by rw [HS2.out], by rw [HS2.out]; exact own_on HR.out ((Below.refl _ _).alloc (Nat.le_refl _) _), HBl.out.alloc (by have := HBl.out.size; omega) _⟩
        case measure => simp [intOf]; omega
      · cases e2 : (r == rel)
        · have HS2 := Lib.hid (show inRaw (es.take (k + 1)) u rel = L by rw [HSu.out, e1, e2]; simp)
          go_wp2_with fail
          go_roundw
          case rel => exact ⟨k + 1, A9, c9, by omega, by go_num, by rw [HS2.out], by rw [HS2.out]; exact own_on HR.out ((Below.refl _ _).alloc (Nat.le_refl _) _), HBl.out.alloc (by have := HBl.out.size; omega) _⟩
          case measure => simp [intOf]; omega
        · have HS2 := Lib.hid (show inRaw (es.take (k + 1)) u rel = L ++ [s] by rw [HSu.out, e1, e2]; rfl)
          go_wp2_with fail
          first | (refine wp_named ?_; intro W4 hW) | (refine calls_named ?_; intro W4 hW)
          have B4 : Below wr.heap.size wr W4 := by rw [hW]; exact (by repeat (first | exact Below.refl _ _ | assumption | refine Below.alloc ?_ (by first | omega | (simp <;> omega)) _ | refine Below.setCell ?_ (by first | omega | (simp <;> omega)) _ | refine Below.drew ?_))
          replace g0 := cellAt g0 B4 (by omega)
          replace g1 := cellAt g1 B4 (by omega)
          replace Hr := Lib.hid (Hr.out.at B4)
          replace n1 : w.heap.size < W4.heap.size := ltAt n1 B4
          replace HBl := Lib.hid (lift HBl.out B4)
          replace HR := Lib.hid (own_on HR.out B4)
          clear hW
          clear B4 x0 x1 x2
          have hcap := (own_cap HR.out).1
          refine (put15o_any A9 c9 (canon ltS L) s W4 (own_rd' HR.out) hcap (by omega)).mono ?_
          rintro e v3 ⟨A8, c8, rfl, hc8, hb⟩
          have hr8 : v3.ownsRow W1.heap.size 9 1 (.slice A8 (insL ltS s (canon ltS L)).length c8) (insL ltS s (canon ltS L)).length (svs (insL ltS s (canon ltS L))) := by
            rcases hc8 with ⟨rfl, rfl, he⟩ | h
            · rw [he]; exact own_on HR.out hb
            · exact own_base h HBl.out.size
          have HR8 := Lib.hid hr8
          replace g0 := cellAt g0 hb (by omega)
          replace g1 := cellAt g1 hb (by omega)
          replace Hr := Lib.hid (Hr.out.at hb)
          replace n1 : w.heap.size < v3.heap.size := ltAt n1 hb
          replace HBl := Lib.hid (lift HBl.out hb)
          replace HR := Lib.hid (own_on HR.out hb)
          clear hb hr8 hc8 hcap
          go_wp2_with fail
          go_roundw
          case rel =>
            refine ⟨k + 1, A8, c8, by omega, by go_num, ?_, ?_, HBl.out⟩
            · rw [HS2.out, inR_put]
            · rw [HS2.out, inR_put]; exact HR8
          case measure => simp [intOf]; omega
    · have htk : es.take k = es := List.take_of_length_le (by omega)
      rw [htk] at HR ⊢
      have HB := Lib.hid (lift HB1.out HBl.out)
      go_wp2_with fail
      go_ret
      exact ⟨A9, c9, rfl, own_base HR.out HB1.out.size, HB.out⟩
end Od
end Go.Proofs.YtbllehjhmfehbaaGreat
end

section
/- What the reference of layer 17 does, as lists: what a job brings, who is needed. No program. -/
namespace Go.Proofs.YtbllehjhmfehbaaGreat
set_option linter.unusedSimpArgs false
namespace Od
theorem back_each (es : List Ed) (up half : List Str) (u : Str) (t : Int) : backB es up half u t = eachB (((inwS es u 1 ++ inwS es u 4) ++ inwS es u 5).filter (upB up half)) t true := by
  unfold backB backA eachB
  rw [List.append_assoc, ← List.map_append, ← List.map_append, List.filter_map]
  rfl
/-- Who is needed so far. -/
structure NdR (E : Jp → List Bg) (out : Jp → Bool) (first : Jp) (N : List Jp) : Prop where
  nd : N.Nodup
  fst : first ∈ N
  all : ∀ j ∈ N, Rj (needJ E) out first j
theorem NdR.zero {E : Jp → List Bg} {out : Jp → Bool} {first : Jp} : NdR E out first [first] := ⟨by simp, by simp, fun j hj => by rw [List.mem_singleton.1 hj]; exact .one⟩
/-- All that j needs of those that come along is there. -/
def CloAt (E : Jp → List Bg) (far N : List Jp) (j : Jp) : Prop := ∀ b ∈ E j, b.2 = true → b.1 ∈ far → b.1 ∈ N
theorem needJ_Rj {E : Jp → List Bg} {out : Jp → Bool} {first k : Jp} (h : Rj (needJ E) out first k) : Rj E out first k := by
  induction h with
  | one => exact .one
  | more _ hb ho ih => exact .more ih (List.mem_filter.1 hb).1 ho
theorem NdR.iff {E : Jp → List Bg} {out : Jp → Bool} {first : Jp} {m : Ms} {N : List Jp} (hl : Lay E out first m []) (h : NdR E out first N) (hc : ∀ j ∈ keysP m, j ∈ N → CloAt E (keysP m) N j) (k : Jp) : k ∈ N ↔ Rj (needJ E) out first k :=
  clo_iff h.fst h.all (fun j hj b hb ho => by
    obtain ⟨hb1, hb2⟩ := List.mem_filter.1 hb
    have hjm : j ∈ keysP m := (hl.iff j).2 (needJ_Rj (h.all j hj))
    exact hc j hjm hj b hb1 hb2 (hl.clo j hjm (by simp) b hb1 ho)) k
theorem NdR.push {E : Jp → List Bg} {out : Jp → Bool} {first : Jp} {m : Ms} {N : List Jp} {j : Jp} {b : Bg} (hl : Lay E out first m []) (h : NdR E out first N) (hj : j ∈ N) (hb : b ∈ E j) (hn : b.2 = true) (hf : b.1 ∈ keysP m) (hnew : b.1 ∉ N) : NdR E out first (N ++ [b.1]) := by
  refine ⟨?_, List.mem_append_left _ h.fst, fun i hi => ?_⟩
  · rw [List.nodup_append]
    refine ⟨h.nd, by simp, fun a ha c hc e => ?_⟩
    rw [List.mem_singleton] at hc
    exact hnew (by rw [← hc, ← e]; exact ha)
  · rcases List.mem_append.1 hi with hi | hi
    · exact h.all i hi
    · rw [List.mem_singleton.1 hi]
      refine .more (h.all j hj) (List.mem_filter.2 ⟨hb, hn⟩) ?_
      obtain ⟨p, hp, e⟩ := List.mem_map.1 hf
      rcases hl.by_ p hp with e2 | ⟨ho, _⟩
      · exfalso
        apply hnew
        rw [← e, e2]; exact h.fst
      · rw [← e]; exact ho
theorem NdR.len {E : Jp → List Bg} {out : Jp → Bool} {first : Jp} {N cand : List Jp} (h : NdR E out first N) (hc : ∀ j b, b ∈ E j → b.1 ∈ cand) : N.length ≤ cand.length + 1 := by
  have := nodup_len (cand := first :: cand) h.nd fun k hk => by
    cases h.all k hk with
    | one => exact .head _
    | more _ hb _ => exact .tail _ (hc _ _ (List.mem_filter.1 hb).1)
  simpa using this
/-- In a round: g: something came; V: who was asked. -/
structure RndR (E : Jp → List Bg) (far N0 N : List Jp) (g : Bool) (V : Jp → Prop) : Prop where
  le : N0.length ≤ N.length
  gt : g = true → N0.length < N.length
  clo : g = false → ∀ j, V j → j ∈ N → CloAt E far N j
theorem known_need {es : List Ed} {up half : List Str} {first : Jp} {wo : List Pl} {N : List Jp} (h : ∀ k, k ∈ N ↔ Rj (needJ (bringB es up half)) (outB wo) first k) (k : Jp) : N.contains k = knownP (needM es up half first wo) k := by
  rw [Bool.eq_iff_iff, List.contains_iff_mem, knownP_iff, mem_needM, h]
/-- The row of all, whatever the order in which they came. -/
theorem canon_perm {L M : List Jp} (h : ∀ k, k ∈ L ↔ k ∈ M) : canon ltJ L = canon ltJ M := SS.eq_canon toJ (canon_ss toJ L) fun k => by rw [mem_canon toJ]; exact h k
theorem insL_canon {l : List Jp} {j : Jp} : insL ltJ j (canon ltJ l) = canon ltJ (l ++ [j]) := by unfold canon; rw [List.foldl_append]; rfl
end Od
end Go.Proofs.YtbllehjhmfehbaaGreat
end

section
/- The small words of matinsref17: each, there, along, out. (bel2) -/
namespace Go.Proofs.YtbllehjhmfehbaaGreat
open Go.RowKit Go.Sort
set_option linter.unusedSimpArgs false
namespace Od
theorem infoBr17 : (Tryz.prog.info? 93).map (fun i => (i.zero, i.size, i.bytes)) = some (some (.agg #[.string ⟨#[]⟩, .int .i64 0, .bool false]), 3, 32) := by kernel_rfl
theorem infoStr : (Tryz.prog.info? 9).map (fun i => (i.zero, i.size, i.bytes)) = some (some (.string ⟨#[]⟩), 1, 16) := by kernel_rfl
def OwnR (l : List Bg) (w : World) (e : Ending) (w' : World) : Prop := ∃ A c, e = .returned (.slice A l.length c) ∧ w'.ownsRow w.heap.size 93 3 (.slice A l.length c) l.length (brsC l) ∧ Below w.heap.size w w'
theorem inR_eq (es : List Ed) (u : Str) (rel : Int) : inwS es u rel = inR es u rel := onceS_canon _
set_option maxRecDepth 100000 in
set_option maxHeartbeats 1000000 in
theorem each17_any (A : Option Addr) (c : Nat) (us : List Str) (t : Int) (n : Bool) (w : World) (hr : Rd w w.heap.size 1 A us.length (svs us)) (hl : us.length ≤ 1000000) :
    Calls Tryz.prog 95 #[.slice A us.length c, .int .i64 t, .bool n] w (OwnR (eachB us t n) w) := by
  obtain ⟨i0, hi, hz0, hz1, hz2⟩ := info_parts infoBr17
  have Hr := Lib.hid hr
  clear hr
  go_enter Tryz.func95, Tryz.ntmps95
  go_wp2_with fail
  go_loopw [7, 12] (fun v i wr => ∃ k : Nat, k ≤ us.length ∧ i = .int .i64 k ∧ wr.ownsRow w.heap.size 93 3 v k (brsC (eachB (us.take k) t n)) ∧ Below w.heap.size w wr) (fun _ i _ => us.length - (intOf i).toNat)
  case atStart => exact ⟨0, Nat.zero_le _, rfl, World.ownsRow_nil _ _ _ _, Below.refl _ _⟩
  case round =>
    obtain ⟨k, hk, rfl, hown, hbel⟩ := hrel
    by_cases hlt : k < us.length
    · obtain ⟨bb, o, rfl, hB, hc0⟩ := (Hr.out.on (Nat.le_refl _) hbel).str hlt
      have hz := hbel.size
      have n1 : bb < wr.heap.size := by omega
      have h63 : k + 1 ≤ maxLen := by unfold maxLen; omega
      have hby : (k + 1) * 32 ≤ 140737488355328 := by omega
      have hft := eachB_take (t := t) (n := n) hlt
      generalize hx : us[k] = x at hc0 hft
      clear hx
      have Hbel := Lib.hid hbel
      have Hown := Lib.hid hown
      have Hft := Lib.hid hft
      clear hbel hown hft
      go_wp2_with (first | (at_builtin; refine wpList_pushm w wr (by rfl) _ _ 90 (by rfl) w.heap.size 93 i0 _ 3 32 Tryz.underlying90 hi hz0 hz1 hz2 rfl (by decide) _ _ _ (by rfl) Hown.out [sv x, .int .i64 t, .bool n] (wr.heap.size) (by simp) (by rfl) rfl (by simp [Value.oneCell']) h63 hby hz Hbel.out ?_; intro A1 c1 w1 hown1 hbel1 hg1 hat1) | fail)
      go_roundw
      case rel => exact ⟨k + 1, by omega, by go_num, by rw [Hft.out, brsC_app, brsC_one]; exact hown1, hbel1⟩
      case measure => simp [intOf]; omega
    · have hkl : k = us.length := by omega
      subst hkl
      rw [List.take_length] at hown
      obtain ⟨A1, c1, rfl, _⟩ := own_rd hown
      have Hown := Lib.hid hown
      have Hbel := Lib.hid hbel
      clear hown hbel
      go_wp2_with fail
      go_ret
      exact ⟨A1, c1, by rw [eachB_len]; rfl, by rw [eachB_len]; exact Hown.out, Hbel.out⟩
theorem filter_upto {up half : List Str} {l : List Str} {k : Nat} (h : k < l.length) : (l.take (k + 1)).filter (upB up half) = (l.take k).filter (upB up half) ++ (if upB up half l[k] = true then [l[k]] else []) := by
  rw [List.take_succ_eq_append_getElem h, List.filter_append, List.filter_cons, List.filter_nil]
set_option maxRecDepth 100000 in
set_option maxHeartbeats 4000000 in
theorem there17_any (A Au Ah : Option Addr) (c cu ch : Nat) (l up half : List Str) (w : World) (hr : Rd w w.heap.size 1 A l.length (svs l)) (hl : l.length ≤ 1000000) (hn : SIn w Au up) (hh : SIn w Ah half) :
    Calls Tryz.prog 98 #[.slice A l.length c, nowV Au up.length cu Ah half.length ch] w (OwnS (l.filter (upB up half)) w) := by
  obtain ⟨i0, hi, hz0, hz1, hz2⟩ := info_parts infoStr
  have Hr := Lib.hid hr
  have Hu := Lib.hid hn
  have Hh := Lib.hid hh
  clear hr hn hh
  go_enter Tryz.func98, Tryz.ntmps98
  go_wp2_with fail
  first | (refine wp_named ?_; intro W1 hW) | (refine calls_named ?_; intro W1 hW)
  have B1 : Below w.heap.size w W1 := by rw [hW]; exact (by repeat (first | exact Below.refl _ _ | assumption | refine Below.alloc ?_ (by first | omega | (simp <;> omega)) _ | refine Below.setCell ?_ (by first | omega | (simp <;> omega)) _ | refine Below.drew ?_))
  replace Hr := Lib.hid (Hr.out.at B1)
  replace Hu := Lib.hid (Hu.out.at B1)
  replace Hh := Lib.hid (Hh.out.at B1)
  have n1 : w.heap.size < W1.heap.size := by rw [hW]; simp <;> omega
  have g0 : W1.cell? ⟨w.heap.size, 0, none⟩ = some (.slice Au up.length cu) := by rw [hW]; go_simp
  have g1 : W1.cell? ⟨w.heap.size, 1, none⟩ = some (.slice Ah half.length ch) := by rw [hW]; go_simp
  clear hW
  have HB1 := Lib.hid B1
  clear B1
  go_loopw [5, 10] (fun v i wr => ∃ k : Nat, k ≤ l.length ∧ i = .int .i64 k ∧ Hid (wr.ownsRow W1.heap.size 9 1 v ((l.take k).filter (upB up half)).length (svs ((l.take k).filter (upB up half)))) ∧ Hid (Below W1.heap.size W1 wr)) (fun _ i _ => l.length - (intOf i).toNat)
  case atStart => exact ⟨0, Nat.zero_le _, rfl, World.ownsRow_nil _ _ _ _, Below.refl _ _⟩
  case round =>
    obtain ⟨k, hk, rfl, HO, HB⟩ := hrel
    have hz := HB.out.size
    have hfl := List.length_filter_le (upB up half) (l.take k)
    have htl := List.length_take_le k l
    by_cases hlt : k < l.length
    · obtain ⟨b, o, hA, hB, x0⟩ := (Hr.out.at HB.out).str hlt
      subst hA
      have hft := filter_upto (up := up) (half := half) hlt
      have h63 := Lib.hid (show ((l.take k).filter (upB up half)).length + 1 ≤ maxLen by unfold maxLen; omega)
      have hby := Lib.hid (show (((l.take k).filter (upB up half)).length + 1) * 16 ≤ 140737488355328 by omega)
      generalize l[k] = x at x0 hft
      have HFt0 := Lib.hid hft
      have HUp := Lib.hid (show upB up half x = (hasB up x || hasB half x) from rfl)
      have k0 := cellAt g0 HB.out n1
      have k1 := cellAt g1 HB.out n1
      have hnr := ltAt n1 HB.out
      have Hu2 := Lib.hid (Hu.out.at HB.out)
      have Hh2 := Lib.hid (Hh.out.at HB.out)
      have i1 : (0 : Int) ≤ (k : Int) := by omega
      have i2 : (k : Int) < (l.length : Int) := by omega
      clear hft hfl htl
      generalize (l.take k).filter (upB up half) = F at *
      go_wp2_with fail
      refine (HasS_any Au cu up x wr Hu2.out.rd Hu2.out.len).mono ?_
      rintro e z1 ⟨rfl, rfl⟩
      cases h1 : hasB up x
      · go_wp2_with fail
        refine (HasS_any Ah ch half x wr Hh2.out.rd Hh2.out.len).mono ?_
        rintro e z1 ⟨rfl, rfl⟩
        cases h2 : hasB half x
        · have HFt := Lib.hid (show (l.take (k + 1)).filter (upB up half) = F by rw [HFt0.out, HUp.out, h1, h2]; simp)
          go_wp2_with fail
          go_roundw
          case rel => exact ⟨k + 1, by omega, by go_num, by show World.ownsRow _ _ _ _ _ _ _; rw [HFt.out]; exact HO.out, HB.out⟩
          case measure => simp [intOf]; omega
        · have HFt := Lib.hid (show (l.take (k + 1)).filter (upB up half) = F ++ [x] by rw [HFt0.out, HUp.out, h1, h2]; rfl)
          go_wp2_with (first | (at_builtin; refine wpList_pushm W1 wr (by rfl) (.tmp 24) (.tmp 26) 26 (by rfl) W1.heap.size 9 i0 _ 1 16 Tryz.underlying26 hi hz0 hz1 hz2 rfl (by decide) _ _ _ (by rfl) HO.out [sv x] (wr.heap.size) rfl (by rfl) rfl (by simp [Value.oneCell']) h63.out hby.out hz HB.out ?_; intro A8 c8 w8 hown8 hbel8 hg8 hat8) | fail)
          go_roundw
          case rel => exact ⟨k + 1, by omega, by go_num, by show World.ownsRow _ _ _ _ _ _ _; rw [HFt.out, List.length_append, svs_app]; exact hown8, hbel8⟩
          case measure => simp [intOf]; omega
      · have HFt := Lib.hid (show (l.take (k + 1)).filter (upB up half) = F ++ [x] by rw [HFt0.out, HUp.out, h1]; rfl)
        go_wp2_with (first | (at_builtin; refine wpList_pushm W1 wr (by rfl) (.tmp 24) (.tmp 26) 26 (by rfl) W1.heap.size 9 i0 _ 1 16 Tryz.underlying26 hi hz0 hz1 hz2 rfl (by decide) _ _ _ (by rfl) HO.out [sv x] (wr.heap.size) rfl (by rfl) rfl (by simp [Value.oneCell']) h63.out hby.out hz HB.out ?_; intro A8 c8 w8 hown8 hbel8 hg8 hat8) | fail)
        go_roundw
        case rel => exact ⟨k + 1, by omega, by go_num, by show World.ownsRow _ _ _ _ _ _ _; rw [HFt.out, List.length_append, svs_app]; exact hown8, hbel8⟩
        case measure => simp [intOf]; omega
    · obtain rfl : k = l.length := by omega
      rw [List.take_length] at HO
      obtain ⟨A1, c1, rfl, _⟩ := own_rd HO.out
      go_wp2_with fail
      go_ret
      exact ⟨A1, c1, rfl, own_base HO.out HB1.out.size, lift HB1.out HB.out⟩
theorem inwS_le (es : List Ed) (u : Str) (rel : Int) : (inwS es u rel).length ≤ es.length := Nat.le_trans (onceS_len _) (inwRaw_len _ _ _)
set_option maxRecDepth 100000 in
set_option maxHeartbeats 4000000 in
theorem along17_any (An Ae : Option Addr) (nn cn ce : Nat) (es : List Ed) (u : Str) (w : World) (hr : Rd w w.heap.size 3 Ae es.length (edsC es)) (hl : es.length ≤ 10000) :
    Calls Tryz.prog 99 #[gV An nn cn Ae es.length ce, sv u] w (OwnS ((inwS es u 1 ++ inwS es u 4) ++ inwS es u 5) w) := by
  obtain ⟨i0, hi, hz0, hz1, hz2⟩ := info_parts infoStr
  have Hr := Lib.hid hr
  have HE := Lib.hid (And.intro (inR_eq es u 1) (And.intro (inR_eq es u 4) (inR_eq es u 5)))
  have hl1 := inwS_le es u 1
  have hl4 := inwS_le es u 4
  have hl5 := inwS_le es u 5
  rw [inR_eq es u 1] at hl1
  rw [inR_eq es u 4] at hl4
  rw [inR_eq es u 5] at hl5
  clear hr
  go_enter Tryz.func99, Tryz.ntmps99
  go_wp2_with fail
  first | (refine wp_named ?_; intro W1 hW) | (refine calls_named ?_; intro W1 hW)
  have B1 : Below w.heap.size w W1 := by rw [hW]; exact (by repeat (first | exact Below.refl _ _ | assumption | refine Below.alloc ?_ (by first | omega | (simp <;> omega)) _ | refine Below.setCell ?_ (by first | omega | (simp <;> omega)) _ | refine Below.drew ?_))
  replace Hr := Lib.hid (Hr.out.at B1)
  have n1 : w.heap.size < W1.heap.size := by rw [hW]; simp <;> omega
  have g0 : W1.cell? ⟨w.heap.size, 0, none⟩ = some (.slice An nn cn) := by rw [hW]; go_simp
  have g1 : W1.cell? ⟨w.heap.size, 1, none⟩ = some (.slice Ae es.length ce) := by rw [hW]; go_simp
  clear hW
  have HB1 := Lib.hid B1
  clear B1
  have h63 := Lib.hid (show (inR es u 1).length + (inR es u 4).length ≤ maxLen by unfold maxLen; omega)
  have hby := Lib.hid (show ((inR es u 1).length + (inR es u 4).length) * 16 ≤ 140737488355328 by omega)
  try go_wp2_with fail
  refine wp_region_held_drew (S := fun w' => Below W1.heap.size W1 w') (by kernel_rfl) (Below.drew (Below.refl _ _)) (fun hHeld => ?_)
  refine tY (i := 0) (v := ?_) rfl ?_ hHeld ?_; rotate_left 1; focus (intro w' hSw; have hCell := fun (b o : Nat) (h : b < W1.heap.size) => hSw.cell (p := ⟨b, o, none⟩) h; clear hSw; go_simp; try with_reducible rfl)
  (try simp only [Act.put, zn1, zn2, zn3])
  refine tY (i := 1) (v := ?_) rfl ?_ hHeld ?_; rotate_left 1; focus (intro w' hSw; clear hSw; go_simp; try with_reducible rfl)
  (try simp only [Act.put, zn1, zn2, zn3])
  refine tY (i := 3) (v := ?_) rfl ?_ hHeld ?_; rotate_left 1; focus (intro w' hSw; have hCell := fun (b o : Nat) (h : b < W1.heap.size) => hSw.cell (p := ⟨b, o, none⟩) h; clear hSw; go_simp; try with_reducible rfl)
  (try simp only [Act.put, zn1, zn2, zn3])
  refine tY (i := 4) (v := ?_) rfl ?_ hHeld ?_; rotate_left 1; focus (intro w' hSw; clear hSw; go_simp; try with_reducible rfl)
  (try simp only [Act.put, zn1, zn2, zn3])
  refine ready_one (i := 2) rfl (by kernel_rfl) (fun K hK => ?_)
  go_simp
  refine (In15o_any An Ae nn cn ce es u 1 _ (Hr.out.at hHeld) (by omega)).mono ?_
  rintro e y1 ⟨A1, c1, rfl, ho1, hb⟩
  have HO1 := Lib.hid (own_base ho1 hHeld.size)
  clear ho1
  refine hK.out _ _ ?_ (fun hHeld2 => ?_)
  · (try dsimp only); first | exact Below.trans hHeld (Below.mono hb hHeld.size) | exact hHeld | exact Below.drew hHeld | exact (by repeat (first | exact Below.refl _ _ | assumption | refine Below.alloc ?_ (by first | omega | (simp <;> omega)) _ | refine Below.setCell ?_ (by first | omega | (simp <;> omega)) _ | refine Below.drew ?_))
  clear hK K hHeld; have hHeld := hHeld2; clear hHeld2; (try simp only [Act.put, zn1, zn2, zn3])
  refine ready_one (i := 5) rfl (by kernel_rfl) (fun K hK => ?_)
  go_simp
  refine (In15o_any An Ae nn cn ce es u 4 _ (Hr.out.at hHeld) (by omega)).mono ?_
  rintro e y2 ⟨A2, c2, rfl, ho2, hb⟩
  have HO2 := Lib.hid (own_on HO1.out hb)
  have HS2 := Lib.hid (own_rd' ho2)
  clear ho2
  refine hK.out _ _ ?_ (fun hHeld2 => ?_)
  · (try dsimp only); first | exact Below.trans hHeld (Below.mono hb hHeld.size) | exact hHeld | exact Below.drew hHeld | exact (by repeat (first | exact Below.refl _ _ | assumption | refine Below.alloc ?_ (by first | omega | (simp <;> omega)) _ | refine Below.setCell ?_ (by first | omega | (simp <;> omega)) _ | refine Below.drew ?_))
  clear hK K hHeld; have hHeld := hHeld2; clear hHeld2; (try simp only [Act.put, zn1, zn2, zn3])
  refine ready_one (i := 6) rfl (by kernel_rfl) (fun K hK => ?_)
  refine step_append_rd _ (by rfl) (.tmp 8) (.tmp 11) 26 (by rfl) W1.heap.size 9 i0 _ 1 16 Tryz.underlying26 hi hz0 hz1 hz2 rfl (by decide) _ (inR es u 1).length (svs (inR es u 1)) (by rfl) HO2.out _ A2 (inR es u 4).length c2 (svs (inR es u 4)) (by rfl) HS2.out (one_svs _) h63.out hby.out hHeld.size ?_
  intro A7 c7 w7 ho7 hg7 hat7
  replace hHeld := hHeld.grown hg7 hHeld.size (fun j hj => (HO2.out.lt j hj).1)
  have HO7 := Lib.hid ho7
  clear ho7 hg7 hat7
  refine hK.out _ _ ?_ (fun hHeld2 => ?_)
  · (try dsimp only); first | exact Below.trans hHeld (Below.mono hb hHeld.size) | exact hHeld | exact Below.drew hHeld | exact (by repeat (first | exact Below.refl _ _ | assumption | refine Below.alloc ?_ (by first | omega | (simp <;> omega)) _ | refine Below.setCell ?_ (by first | omega | (simp <;> omega)) _ | refine Below.drew ?_))
  clear hK K hHeld; have hHeld := hHeld2; clear hHeld2; (try simp only [Act.put, zn1, zn2, zn3])
  refine tY (i := 7) (v := ?_) rfl ?_ hHeld ?_; rotate_left 1; focus (intro w' hSw; clear hSw; go_simp; try with_reducible rfl)
  (try simp only [Act.put, zn1, zn2, zn3])
  refine wpAnyH_done (by kernel_rfl) ?_ _
  have HB7 := Lib.hid hHeld
  have h63b := Lib.hid (show (inR es u 1).length + (inR es u 4).length + (inR es u 5).length ≤ maxLen by unfold maxLen; omega)
  have hbyb := Lib.hid (show ((inR es u 1).length + (inR es u 4).length + (inR es u 5).length) * 16 ≤ 140737488355328 by omega)
  replace g0 := cellAt g0 hHeld (by omega)
  replace g1 := cellAt g1 hHeld (by omega)
  replace Hr := Lib.hid (Hr.out.at hHeld)
  replace n1 : w.heap.size < w7.heap.size := ltAt n1 hHeld
  clear hHeld
  go_wp2_with fail
  refine (In15o_any An Ae nn cn ce es u 5 w7 Hr.out (by omega)).mono ?_
  rintro e w8 ⟨A8, c8, rfl, ho8, hb⟩
  have HO8 := Lib.hid (own_on HO7.out hb)
  have HS8 := Lib.hid (own_rd' ho8)
  have HB8 := Lib.hid (lift HB7.out hb)
  have hz8 := HB8.out.size
  clear ho8 hb
  go_wp2_with (first
    | (at_builtin; refine wpList_append_rd _ (by rfl) (.tmp 13) (.tmp 16) 26 (by rfl) W1.heap.size 9 i0 _ 1 16 Tryz.underlying26 hi hz0 hz1 hz2 rfl (by decide) _ ((inR es u 1).length + (inR es u 4).length) (svs (inR es u 1) ++ svs (inR es u 4)) (by rfl) HO8.out _ A8 (inR es u 5).length c8 (svs (inR es u 5)) (by rfl) HS8.out (one_svs _) h63b.out hbyb.out hz8 ?_; intro A9 c9 w9 ho9 hg9 hat9)
    | fail)
  go_ret
  unfold OwnS
  rw [HE.out.1, HE.out.2.1, HE.out.2.2]
  refine ⟨A9, c9, by rw [List.length_append, List.length_append]; rfl, ?_, ?_⟩
  · rw [List.length_append, List.length_append, svs_app, svs_app]
    exact own_base ho9 HB1.out.size
  · exact lift HB1.out (HB8.out.grown hg9 hz8 (fun j hj => (HO8.out.lt j hj).1))
set_option maxRecDepth 100000 in
set_option maxHeartbeats 2000000 in
theorem out17_any (A : Option Addr) (c : Nat) (wo : List Pl) (s : Str) (t : Int) (w : World) (hr : Rd w w.heap.size 4 A wo.length (plsC wo)) (hl : wo.length ≤ 1000000) :
    Calls Tryz.prog 51 #[.slice A wo.length c, .agg #[sv s, .int .i64 t]] w fun e w' => e = .returned (.bool (outB wo (s, t))) ∧ Below w.heap.size w w' := by
  have Hr := Lib.hid hr
  clear hr
  go_enter Tryz.func51, Tryz.ntmps51
  go_wp2_with fail
  first | (refine wp_named ?_; intro W1 hW) | (refine calls_named ?_; intro W1 hW)
  have B1 : Below w.heap.size w W1 := by rw [hW]; exact (by repeat (first | exact Below.refl _ _ | assumption | refine Below.alloc ?_ (by first | omega | (simp <;> omega)) _ | refine Below.setCell ?_ (by first | omega | (simp <;> omega)) _ | refine Below.drew ?_))
  replace Hr := Lib.hid (Hr.out.at B1)
  have n1 : w.heap.size < W1.heap.size := by rw [hW]; simp <;> omega
  have g0 : W1.cell? ⟨w.heap.size, 0, none⟩ = some (sv s) := by rw [hW]; go_simp
  have g1 : W1.cell? ⟨w.heap.size, 1, none⟩ = some (.int .i64 t) := by rw [hW]; go_simp
  clear hW
  have HB1 := Lib.hid B1
  clear B1
  go_loopw [9] (fun i wr => ∃ k : Nat, k ≤ wo.length ∧ i = .int .i64 k ∧ Hid (outB (wo.take k) (s, t) = false) ∧ Hid (Below W1.heap.size W1 wr)) (fun i _ => wo.length - (intOf i).toNat)
  case atStart => exact ⟨0, Nat.zero_le _, rfl, rfl, Below.refl _ _⟩
  case round =>
    obtain ⟨k, hk, rfl, HK, HB⟩ := hrel
    have hz := HB.out.size
    by_cases hlt : k < wo.length
    · obtain ⟨b, o, hA, hB, x0, x1, x2, x3⟩ := (Hr.out.at HB.out).pl hlt
      subst hA
      have hst : outB (wo.take (k + 1)) (s, t) = (wo[k].1 == s && wo[k].2.1 == t) := by
        have h1 := HK.out
        unfold outB at h1 ⊢
        rw [any_take_succ hlt, h1]; rfl
      have hhit : (wo[k].1 == s && wo[k].2.1 == t) = true → outB wo (s, t) = true := fun h => List.any_eq_true.2 ⟨wo[k], List.getElem_mem hlt, h⟩
      generalize wo[k] = p at x0 x1 x2 x3 hst hhit
      obtain ⟨sp, tp, np, bp⟩ := p
      simp only at x0 x1 x2 x3 hst hhit
      have HSt := Lib.hid hst
      have HHit := Lib.hid hhit
      have k0 := cellAt g0 HB.out n1
      have k1 := cellAt g1 HB.out n1
      have hnr := ltAt n1 HB.out
      have i1 : (0 : Int) ≤ (k : Int) := by omega
      have i2 : (k : Int) < (wo.length : Int) := by omega
      clear hst hhit
      cases e1 : (sp == s)
      · skip
        go_wp2_with fail
        go_roundw
        case rel => exact ⟨k + 1, by omega, by go_num, by show _ = false; rw [HSt.out]; simp [e1], HB.out.alloc hz _⟩
        case measure => simp [intOf]; omega
      · cases e2 : (tp == t)
        · skip
          go_wp2_with fail
          go_roundw
          case rel => exact ⟨k + 1, by omega, by go_num, by show _ = false; rw [HSt.out]; simp [e2], HB.out.alloc hz _⟩
          case measure => simp [intOf]; omega
        · have HO := Lib.hid (HHit.out (by rw [e1, e2]; rfl))
          have HB9 := Lib.hid (lift HB1.out (HB.out.alloc hz (.cells #[sv sp, .int .i64 tp, .bool np, sv bp] 37)))
          go_wp2_with fail
          go_ret
          exact ⟨by rw [HO.out]; rfl, HB9.out⟩
    · obtain rfl : k = wo.length := by omega
      have hf := HK.out
      rw [List.take_length] at hf
      have HF := Lib.hid hf
      clear hf
      go_wp2_with fail
      go_ret
      exact ⟨by rw [HF.out]; rfl, lift HB1.out HB.out⟩
end Od
end Go.Proofs.YtbllehjhmfehbaaGreat
end

section
/- The walk of matinsref15.Out: to whom a unit leads by a relation, rising, each once. (bel2) -/
namespace Go.Proofs.YtbllehjhmfehbaaGreat
open Go.RowKit Go.Sort
set_option linter.unusedSimpArgs false

namespace Od
def outR (es : List Ed) (u : Str) (rel : Int) : List Str := canon ltS (outRaw es u rel)
theorem outR_eq (es : List Ed) (u : Str) (rel : Int) : outS es u rel = outR es u rel := onceS_canon _
theorem outRaw_succ {es : List Ed} {u : Str} {rel : Int} {k : Nat} (h : k < es.length) : outRaw (es.take (k + 1)) u rel = outRaw (es.take k) u rel ++ (if (es[k].1 == u && es[k].2.2 == rel) = true then [es[k].2.1] else []) := by
  unfold outRaw
  rw [List.take_succ_eq_append_getElem h, List.filter_append, List.map_append]
  congr 1
  rw [List.filter_cons, List.filter_nil]
  show List.map _ (if outP u rel es[k] = true then _ else _) = _
  unfold outP
  split <;> simp
theorem outR_len (es : List Ed) (u : Str) (rel : Int) (k : Nat) : (canon ltS (outRaw (es.take k) u rel)).length ≤ es.length := by
  refine Nat.le_trans (canon_len _) ?_
  unfold outRaw
  rw [List.length_map]
  refine Nat.le_trans (List.length_filter_le _ _) ?_
  rw [List.length_take]; omega
set_option maxRecDepth 100000 in
set_option maxHeartbeats 4000000 in
theorem Out15_any (An Ae : Option Addr) (nn cn ce : Nat) (es : List Ed) (u : Str) (rel : Int) (w : World) (hr : Rd w w.heap.size 3 Ae es.length (edsC es)) (hl : es.length ≤ 1000000) :
    Calls Tryz.prog 96 #[gV An nn cn Ae es.length ce, sv u, .int .i64 rel] w (RdIs 1 (outR es u rel).length (svs (outR es u rel)) w) := by
  have Hr := Lib.hid hr
  clear hr
  go_enter Tryz.func96, Tryz.ntmps96
  go_wp2_with fail
  first | (refine wp_named ?_; intro W1 hW) | (refine calls_named ?_; intro W1 hW)
  have B1 : Below w.heap.size w W1 := by rw [hW]; exact (by repeat (first | exact Below.refl _ _ | assumption | refine Below.alloc ?_ (by first | omega | (simp <;> omega)) _ | refine Below.setCell ?_ (by first | omega | (simp <;> omega)) _ | refine Below.drew ?_))
  replace Hr := Lib.hid (Hr.out.at B1)
  have n1 : w.heap.size < W1.heap.size := by rw [hW]; simp <;> omega
  have g0 : W1.cell? ⟨w.heap.size, 0, none⟩ = some (.slice An nn cn) := by rw [hW]; go_simp
  have g1 : W1.cell? ⟨w.heap.size, 1, none⟩ = some (.slice Ae es.length ce) := by rw [hW]; go_simp
  clear hW
  have HB1 := Lib.hid B1
  clear B1
  go_wp2_with fail
  go_loopw [7, 13] (fun v i wr => ∃ (k : Nat) (A9 : Option Addr) (c9 : Nat), k ≤ es.length ∧ i = .int .i64 k ∧ v = .slice A9 (canon ltS (outRaw (es.take k) u rel)).length c9 ∧ (canon ltS (outRaw (es.take k) u rel)).length ≤ c9 ∧ Hid (Rd wr wr.heap.size 1 A9 (canon ltS (outRaw (es.take k) u rel)).length (svs (canon ltS (outRaw (es.take k) u rel)))) ∧ Below W1.heap.size W1 wr) (fun _ i _ => es.length - (intOf i).toNat)
  case atStart => exact ⟨0, none, 0, Nat.zero_le _, rfl, rfl, Nat.le_refl _, Rd.none_, Below.refl _ _⟩
  case round =>
    obtain ⟨k, A9, c9, hk, rfl, rfl, hc9, HR, hb⟩ := hrel
    have HBl := Lib.hid hb
    replace g0 := cellAt g0 hb (by omega)
    replace g1 := cellAt g1 hb (by omega)
    replace Hr := Lib.hid (Hr.out.at hb)
    replace n1 : w.heap.size < wr.heap.size := ltAt n1 hb
    clear hb
    by_cases hlt : k < es.length
    · obtain ⟨b2, o2, hA, hB2, x0, x1, x2⟩ := Hr.out.edge hlt
      have hsu := outRaw_succ (u := u) (rel := rel) hlt
      have hll := outR_len es u rel k
      subst hA
      generalize es[k] = e at x0 x1 x2 hsu
      obtain ⟨s, d, r⟩ := e
      simp only at x0 x1 x2 hsu
      generalize outRaw (es.take k) u rel = L at HR hsu hll hc9 ⊢
      have HSu := Lib.hid hsu
      have m1 : (0 : Int) ≤ (k : Int) := by omega
      have m2 : (k : Int) < (es.length : Int) := by omega
      clear hsu
      cases e1 : (s == u)
      · have HS2 := Lib.hid (show outRaw (es.take (k + 1)) u rel = L by rw [HSu.out, e1]; simp)
        go_wp2_with fail
        go_roundw
        case rel => exact ⟨k + 1, A9, c9, by omega, by go_num, by rw [HS2.out], by rw [HS2.out]; exact hc9, by rw [HS2.out]; exact HR.out.at ((Below.refl _ _).alloc (Nat.le_refl _) _), HBl.out.alloc (by have := HBl.out.size; omega) _⟩
        case measure => simp [intOf]; omega
      · cases e2 : (r == rel)
        · have HS2 := Lib.hid (show outRaw (es.take (k + 1)) u rel = L by rw [HSu.out, e1, e2]; simp)
          go_wp2_with fail
          go_roundw
          case rel => exact ⟨k + 1, A9, c9, by omega, by go_num, by rw [HS2.out], by rw [HS2.out]; exact hc9, by rw [HS2.out]; exact HR.out.at ((Below.refl _ _).alloc (Nat.le_refl _) _), HBl.out.alloc (by have := HBl.out.size; omega) _⟩
          case measure => simp [intOf]; omega
        · have HS2 := Lib.hid (show outRaw (es.take (k + 1)) u rel = L ++ [d] by rw [HSu.out, e1, e2]; rfl)
          go_wp2_with fail
          first | (refine wp_named ?_; intro W4 hW) | (refine calls_named ?_; intro W4 hW)
          have B4 : Below wr.heap.size wr W4 := by rw [hW]; exact (by repeat (first | exact Below.refl _ _ | assumption | refine Below.alloc ?_ (by first | omega | (simp <;> omega)) _ | refine Below.setCell ?_ (by first | omega | (simp <;> omega)) _ | refine Below.drew ?_))
          replace g0 := cellAt g0 B4 (by omega)
          replace g1 := cellAt g1 B4 (by omega)
          replace Hr := Lib.hid (Hr.out.at B4)
          replace n1 : w.heap.size < W4.heap.size := ltAt n1 B4
          replace HBl := Lib.hid (lift HBl.out B4)
          replace HR := Lib.hid (HR.out.at B4)
          clear hW
          clear B4 x0 x1 x2
          refine (put15_any A9 c9 (canon ltS L) d W4 HR.out hc9 (by omega)).mono ?_
          rintro e v3 ⟨A8, c8, rfl, hc8, hr8, hb⟩
          have HR8 := Lib.hid hr8
          replace g0 := cellAt g0 hb (by omega)
          replace g1 := cellAt g1 hb (by omega)
          replace Hr := Lib.hid (Hr.out.at hb)
          replace n1 : w.heap.size < v3.heap.size := ltAt n1 hb
          replace HBl := Lib.hid (lift HBl.out hb)
          replace HR := Lib.hid (HR.out.at hb)
          clear hb hr8
          go_wp2_with fail
          go_roundw
          case rel =>
            refine ⟨k + 1, A8, c8, by omega, by go_num, ?_, ?_, ?_, HBl.out⟩
            · rw [HS2.out, inR_put]
            · rw [HS2.out, inR_put]; exact hc8
            · rw [HS2.out, inR_put]; exact HR8
          case measure => simp [intOf]; omega
    · have htk : es.take k = es := List.take_of_length_le (by omega)
      rw [htk] at HR hc9 ⊢
      have HB := Lib.hid (lift HB1.out HBl.out)
      go_wp2_with fail
      go_ret
      exact ⟨A9, c9, rfl, hc9, HR.out, HB.out⟩
end Od
end Go.Proofs.YtbllehjhmfehbaaGreat
end

section
/- matinsref17.brings: what a job brings. (bel2) -/
namespace Go.Proofs.YtbllehjhmfehbaaGreat
open Go.RowKit Go.Sort
set_option linter.unusedSimpArgs false
namespace Od
theorem outR_le (es : List Ed) (u : Str) (rel : Int) : (outR es u rel).length ≤ es.length := by rw [← outR_eq]; exact outS_len es u rel
theorem inR_le (es : List Ed) (u : Str) (rel : Int) : (inR es u rel).length ≤ es.length := by rw [← inR_eq]; exact inwS_le es u rel
theorem bring_start {es : List Ed} {up half : List Str} {u : Str} : bringB es up half (u, 1) = eachB (outR es u 1) 1 true ++ (eachB (outR es u 4) 1 true ++ (eachB (outR es u 2) 1 false ++ (eachB (outR es u 6) 2 true ++ eachB (inR es u 6) 2 true))) := by
  rw [← outR_eq, ← outR_eq, ← outR_eq, ← outR_eq, ← inR_eq]; rfl
theorem bring_stop {es : List Ed} {up half : List Str} {u : Str} : bringB es up half (u, 2) = eachB (((inwS es u 1 ++ inwS es u 4) ++ inwS es u 5).filter (upB up half)) 2 true := by
  rw [← back_each]; rfl
theorem bring_again {es : List Ed} {up half : List Str} {u : Str} : bringB es up half (u, 3) = (eachB (outR es u 1) 1 true ++ (eachB (outR es u 4) 1 true ++ (eachB (outR es u 2) 1 false ++ (eachB (outR es u 6) 2 true ++ eachB (inR es u 6) 2 true)))) ++ eachB (((inwS es u 1 ++ inwS es u 4) ++ inwS es u 5).filter (upB up half)) 3 true := by
  rw [← back_each, ← outR_eq, ← outR_eq, ← outR_eq, ← outR_eq, ← inR_eq]; rfl
theorem bring_no {es : List Ed} {up half : List Str} {u : Str} {t : Int} (h1 : ¬ t = 1) (h2 : ¬ t = 2) (h3 : ¬ t = 3) : bringB es up half (u, t) = [] := by
  unfold bringB; rw [if_neg h1, if_neg h2, if_neg h3]
set_option maxRecDepth 100000 in
set_option maxHeartbeats 16000000 in
theorem brings17_any (An Ae Au Ah : Option Addr) (nn cn ce cu ch : Nat) (es : List Ed) (up half : List Str) (u : Str) (t : Int) (w : World) (hr : Rd w w.heap.size 3 Ae es.length (edsC es)) (hl : es.length ≤ 10000) (hu : SIn w Au up) (hh : SIn w Ah half) :
    Calls Tryz.prog 50 #[gV An nn cn Ae es.length ce, nowV Au up.length cu Ah half.length ch, .agg #[sv u, .int .i64 t]] w (OwnR (bringB es up half (u, t)) w) := by
  obtain ⟨i0, hi, hz0, hz1, hz2⟩ := info_parts infoBr17
  have Hr := Lib.hid hr
  have Hu := Lib.hid hu
  have Hh := Lib.hid hh
  have q1 := outR_le es u 1
  have q2 := outR_le es u 4
  have q3 := outR_le es u 2
  have q4 := outR_le es u 6
  have q5 := inR_le es u 6
  clear hr hu hh
  go_enter Tryz.func50, Tryz.ntmps50
  by_cases h1 : t = 1
  · subst h1
    have HF := Lib.hid (bring_start (es := es) (up := up) (half := half) (u := u))
    go_wp2_with fail
    first | (refine wp_named ?_; intro W1 hW) | (refine calls_named ?_; intro W1 hW)
    have B1 : Below w.heap.size w W1 := by rw [hW]; exact (by repeat (first | exact Below.refl _ _ | assumption | refine Below.alloc ?_ (by first | omega | (simp <;> omega)) _ | refine Below.setCell ?_ (by first | omega | (simp <;> omega)) _ | refine Below.drew ?_))
    replace Hr := Lib.hid (Hr.out.at B1)
    replace Hu := Lib.hid (Hu.out.at B1)
    replace Hh := Lib.hid (Hh.out.at B1)
    have n1 : w.heap.size < W1.heap.size := by rw [hW]; simp <;> omega
    have n2 : (w.heap.size + 1) < W1.heap.size := by rw [hW]; simp <;> omega
    have n3 : (w.heap.size + 1 + 1) < W1.heap.size := by rw [hW]; simp <;> omega
    have g0 : W1.cell? ⟨w.heap.size, 0, none⟩ = some (.slice An nn cn) := by rw [hW]; go_simp
    have g1 : W1.cell? ⟨w.heap.size, 1, none⟩ = some (.slice Ae es.length ce) := by rw [hW]; go_simp
    have h0 : W1.cell? ⟨(w.heap.size + 1), 0, none⟩ = some (.slice Au up.length cu) := by rw [hW]; go_simp
    have h1 : W1.cell? ⟨(w.heap.size + 1), 1, none⟩ = some (.slice Ah half.length ch) := by rw [hW]; go_simp
    have j0 : W1.cell? ⟨(w.heap.size + 1 + 1), 0, none⟩ = some (sv u) := by rw [hW]; go_simp
    have j1 : W1.cell? ⟨(w.heap.size + 1 + 1), 1, none⟩ = some (.int .i64 1) := by rw [hW]; go_simp
    clear hW
    have HB1 := Lib.hid B1
    clear B1
    have HW1 := Lib.hid (Below.refl W1.heap.size W1)
    have HO0 := Lib.hid (show W1.ownsRow W1.heap.size 93 3 (.slice none 0 0) 0 [] from World.ownsRow_nil _ _ _ _)
    have p0 := cellAt g0 HW1.out n1; have p1 := cellAt g1 HW1.out n1; have p2 := cellAt h0 HW1.out n2; have p3 := cellAt h1 HW1.out n2; have p4 := cellAt j0 HW1.out n3; have p5 := cellAt j1 HW1.out n3; have pl1 := ltAt n1 HW1.out; have pl2 := ltAt n2 HW1.out; have pl3 := ltAt n3 HW1.out
    go_wp2_with fail
    refine (Out15_any An Ae nn cn ce es u 1 W1 (Hr.out.at HW1.out) (by omega)).mono ?_
    rintro e ya ⟨A1, c1, rfl, hc1, hr1, hb⟩
    have HSa := Lib.hid (hr1)
    have HOa := Lib.hid (own_on HO0.out hb)
    have HXa := Lib.hid (lift HW1.out hb)
    clear p0 p1 p2 p3 p4 p5 pl1 pl2 pl3 hb hc1 hr1
    go_wp2_with fail
    refine (each17_any A1 c1 (outR es u 1) 1 true ya HSa.out (by omega)).mono ?_
    have hel : (eachB (outR es u 1) 1 true).length ≤ es.length := by rw [eachB_len]; omega
    generalize eachB (outR es u 1) 1 true = E1 at *
    rintro e yb ⟨A2, c2, rfl, ho2, hb⟩
    have HS2 := Lib.hid (own_rd' ho2)
    have HOb := Lib.hid (own_on HOa.out hb)
    have HXb := Lib.hid (lift HXa.out hb)
    have hzb := HXb.out.size
    have h63 : 0 + E1.length ≤ maxLen := by unfold maxLen; omega
    have hby : (0 + E1.length) * 32 ≤ 140737488355328 := by omega
    have hm1 : 0 + E1.length ≤ 1 * es.length := by omega
    have H63 := Lib.hid (And.intro h63 hby)
    clear ho2 hb h63 hby HSa HOa HXa
    go_wp2_with (first
      | (at_builtin; refine wpList_append_rd _ (by rfl) (.tmp 16) (.tmp 21) 90 (by rfl) W1.heap.size 93 i0 _ 3 32 Tryz.underlying90 hi hz0 hz1 hz2 rfl (by decide) _ (0) (([] : List Value)) (by rfl) HOb.out _ A2 E1.length c2 (brsC E1) (by rfl) HS2.out (one_brsC _) H63.out.1 H63.out.2 hzb ?_; intro A7 c7 X1 ho7 hg7 hat7; have HX1 := Lib.hid (HXb.out.grown hg7 hzb (fun g hg => (HOb.out.lt g hg).1)); generalize hq7 : 0 + E1.length = m1 at *; have HM1 := Lib.hid hq7; have HO1 := Lib.hid ho7; clear ho7 hg7 hat7 hzb hq7 HOb HXb HS2 H63 hel; have p0 := cellAt g0 HX1.out n1; have p1 := cellAt g1 HX1.out n1; have p2 := cellAt h0 HX1.out n2; have p3 := cellAt h1 HX1.out n2; have p4 := cellAt j0 HX1.out n3; have p5 := cellAt j1 HX1.out n3; have pl1 := ltAt n1 HX1.out; have pl2 := ltAt n2 HX1.out; have pl3 := ltAt n3 HX1.out)
      | fail)
    go_wp2_with fail
    refine (Out15_any An Ae nn cn ce es u 4 X1 (Hr.out.at HX1.out) (by omega)).mono ?_
    rintro e ya ⟨A1, c1, rfl, hc1, hr1, hb⟩
    have HSa := Lib.hid (hr1)
    have HOa := Lib.hid (own_on HO1.out hb)
    have HXa := Lib.hid (lift HX1.out hb)
    clear p0 p1 p2 p3 p4 p5 pl1 pl2 pl3 hb hc1 hr1
    go_wp2_with fail
    refine (each17_any A1 c1 (outR es u 4) 1 true ya HSa.out (by omega)).mono ?_
    have hel : (eachB (outR es u 4) 1 true).length ≤ es.length := by rw [eachB_len]; omega
    generalize eachB (outR es u 4) 1 true = E2 at *
    rintro e yb ⟨A2, c2, rfl, ho2, hb⟩
    have HS2 := Lib.hid (own_rd' ho2)
    have HOb := Lib.hid (own_on HOa.out hb)
    have HXb := Lib.hid (lift HXa.out hb)
    have hzb := HXb.out.size
    have h63 : m1 + E2.length ≤ maxLen := by unfold maxLen; omega
    have hby : (m1 + E2.length) * 32 ≤ 140737488355328 := by omega
    have hm2 : m1 + E2.length ≤ 2 * es.length := by omega
    have H63 := Lib.hid (And.intro h63 hby)
    clear ho2 hb h63 hby HSa HOa HXa
    go_wp2_with (first
      | (at_builtin; refine wpList_append_rd _ (by rfl) (.tmp 23) (.tmp 28) 90 (by rfl) W1.heap.size 93 i0 _ 3 32 Tryz.underlying90 hi hz0 hz1 hz2 rfl (by decide) _ (m1) ((([] : List Value) ++ brsC E1)) (by rfl) HOb.out _ A2 E2.length c2 (brsC E2) (by rfl) HS2.out (one_brsC _) H63.out.1 H63.out.2 hzb ?_; intro A7 c7 X2 ho7 hg7 hat7; have HX2 := Lib.hid (HXb.out.grown hg7 hzb (fun g hg => (HOb.out.lt g hg).1)); generalize hq7 : m1 + E2.length = m2 at *; have HM2 := Lib.hid hq7; have HO2 := Lib.hid ho7; clear ho7 hg7 hat7 hzb hq7 HOb HXb HS2 H63 hel; have p0 := cellAt g0 HX2.out n1; have p1 := cellAt g1 HX2.out n1; have p2 := cellAt h0 HX2.out n2; have p3 := cellAt h1 HX2.out n2; have p4 := cellAt j0 HX2.out n3; have p5 := cellAt j1 HX2.out n3; have pl1 := ltAt n1 HX2.out; have pl2 := ltAt n2 HX2.out; have pl3 := ltAt n3 HX2.out)
      | fail)
    go_wp2_with fail
    refine (Out15_any An Ae nn cn ce es u 2 X2 (Hr.out.at HX2.out) (by omega)).mono ?_
    rintro e ya ⟨A1, c1, rfl, hc1, hr1, hb⟩
    have HSa := Lib.hid (hr1)
    have HOa := Lib.hid (own_on HO2.out hb)
    have HXa := Lib.hid (lift HX2.out hb)
    clear p0 p1 p2 p3 p4 p5 pl1 pl2 pl3 hb hc1 hr1
    go_wp2_with fail
    refine (each17_any A1 c1 (outR es u 2) 1 false ya HSa.out (by omega)).mono ?_
    have hel : (eachB (outR es u 2) 1 false).length ≤ es.length := by rw [eachB_len]; omega
    generalize eachB (outR es u 2) 1 false = E3 at *
    rintro e yb ⟨A2, c2, rfl, ho2, hb⟩
    have HS2 := Lib.hid (own_rd' ho2)
    have HOb := Lib.hid (own_on HOa.out hb)
    have HXb := Lib.hid (lift HXa.out hb)
    have hzb := HXb.out.size
    have h63 : m2 + E3.length ≤ maxLen := by unfold maxLen; omega
    have hby : (m2 + E3.length) * 32 ≤ 140737488355328 := by omega
    have hm3 : m2 + E3.length ≤ 3 * es.length := by omega
    have H63 := Lib.hid (And.intro h63 hby)
    clear ho2 hb h63 hby HSa HOa HXa
    go_wp2_with (first
      | (at_builtin; refine wpList_append_rd _ (by rfl) (.tmp 30) (.tmp 35) 90 (by rfl) W1.heap.size 93 i0 _ 3 32 Tryz.underlying90 hi hz0 hz1 hz2 rfl (by decide) _ (m2) (((([] : List Value) ++ brsC E1) ++ brsC E2)) (by rfl) HOb.out _ A2 E3.length c2 (brsC E3) (by rfl) HS2.out (one_brsC _) H63.out.1 H63.out.2 hzb ?_; intro A7 c7 X3 ho7 hg7 hat7; have HX3 := Lib.hid (HXb.out.grown hg7 hzb (fun g hg => (HOb.out.lt g hg).1)); generalize hq7 : m2 + E3.length = m3 at *; have HM3 := Lib.hid hq7; have HO3 := Lib.hid ho7; clear ho7 hg7 hat7 hzb hq7 HOb HXb HS2 H63 hel; have p0 := cellAt g0 HX3.out n1; have p1 := cellAt g1 HX3.out n1; have p2 := cellAt h0 HX3.out n2; have p3 := cellAt h1 HX3.out n2; have p4 := cellAt j0 HX3.out n3; have p5 := cellAt j1 HX3.out n3; have pl1 := ltAt n1 HX3.out; have pl2 := ltAt n2 HX3.out; have pl3 := ltAt n3 HX3.out)
      | fail)
    go_wp2_with fail
    refine (Out15_any An Ae nn cn ce es u 6 X3 (Hr.out.at HX3.out) (by omega)).mono ?_
    rintro e ya ⟨A1, c1, rfl, hc1, hr1, hb⟩
    have HSa := Lib.hid (hr1)
    have HOa := Lib.hid (own_on HO3.out hb)
    have HXa := Lib.hid (lift HX3.out hb)
    clear p0 p1 p2 p3 p4 p5 pl1 pl2 pl3 hb hc1 hr1
    go_wp2_with fail
    refine (each17_any A1 c1 (outR es u 6) 2 true ya HSa.out (by omega)).mono ?_
    have hel : (eachB (outR es u 6) 2 true).length ≤ es.length := by rw [eachB_len]; omega
    generalize eachB (outR es u 6) 2 true = E4 at *
    rintro e yb ⟨A2, c2, rfl, ho2, hb⟩
    have HS2 := Lib.hid (own_rd' ho2)
    have HOb := Lib.hid (own_on HOa.out hb)
    have HXb := Lib.hid (lift HXa.out hb)
    have hzb := HXb.out.size
    have h63 : m3 + E4.length ≤ maxLen := by unfold maxLen; omega
    have hby : (m3 + E4.length) * 32 ≤ 140737488355328 := by omega
    have hm4 : m3 + E4.length ≤ 4 * es.length := by omega
    have H63 := Lib.hid (And.intro h63 hby)
    clear ho2 hb h63 hby HSa HOa HXa
    go_wp2_with (first
      | (at_builtin; refine wpList_append_rd _ (by rfl) (.tmp 37) (.tmp 42) 90 (by rfl) W1.heap.size 93 i0 _ 3 32 Tryz.underlying90 hi hz0 hz1 hz2 rfl (by decide) _ (m3) ((((([] : List Value) ++ brsC E1) ++ brsC E2) ++ brsC E3)) (by rfl) HOb.out _ A2 E4.length c2 (brsC E4) (by rfl) HS2.out (one_brsC _) H63.out.1 H63.out.2 hzb ?_; intro A7 c7 X4 ho7 hg7 hat7; have HX4 := Lib.hid (HXb.out.grown hg7 hzb (fun g hg => (HOb.out.lt g hg).1)); generalize hq7 : m3 + E4.length = m4 at *; have HM4 := Lib.hid hq7; have HO4 := Lib.hid ho7; clear ho7 hg7 hat7 hzb hq7 HOb HXb HS2 H63 hel; have p0 := cellAt g0 HX4.out n1; have p1 := cellAt g1 HX4.out n1; have p2 := cellAt h0 HX4.out n2; have p3 := cellAt h1 HX4.out n2; have p4 := cellAt j0 HX4.out n3; have p5 := cellAt j1 HX4.out n3; have pl1 := ltAt n1 HX4.out; have pl2 := ltAt n2 HX4.out; have pl3 := ltAt n3 HX4.out)
      | fail)
    go_wp2_with fail
    refine (In15o_any An Ae nn cn ce es u 6 X4 (Hr.out.at HX4.out) (by omega)).mono ?_
    rintro e ya ⟨A1, c1, rfl, ho1, hb⟩
    have HSa := Lib.hid (own_rd' ho1)
    have HOa := Lib.hid (own_on HO4.out hb)
    have HXa := Lib.hid (lift HX4.out hb)
    clear p0 p1 p2 p3 p4 p5 pl1 pl2 pl3 hb ho1
    go_wp2_with fail
    refine (each17_any A1 c1 (inR es u 6) 2 true ya HSa.out (by omega)).mono ?_
    have hel : (eachB (inR es u 6) 2 true).length ≤ es.length := by rw [eachB_len]; omega
    generalize eachB (inR es u 6) 2 true = E5 at *
    rintro e yb ⟨A2, c2, rfl, ho2, hb⟩
    have HS2 := Lib.hid (own_rd' ho2)
    have HOb := Lib.hid (own_on HOa.out hb)
    have HXb := Lib.hid (lift HXa.out hb)
    have hzb := HXb.out.size
    have h63 : m4 + E5.length ≤ maxLen := by unfold maxLen; omega
    have hby : (m4 + E5.length) * 32 ≤ 140737488355328 := by omega
    have hm5 : m4 + E5.length ≤ 5 * es.length := by omega
    have H63 := Lib.hid (And.intro h63 hby)
    clear ho2 hb h63 hby HSa HOa HXa
    go_wp2_with (first
      | (at_builtin; refine wpList_append_rd _ (by rfl) (.tmp 44) (.tmp 49) 90 (by rfl) W1.heap.size 93 i0 _ 3 32 Tryz.underlying90 hi hz0 hz1 hz2 rfl (by decide) _ (m4) (((((([] : List Value) ++ brsC E1) ++ brsC E2) ++ brsC E3) ++ brsC E4)) (by rfl) HOb.out _ A2 E5.length c2 (brsC E5) (by rfl) HS2.out (one_brsC _) H63.out.1 H63.out.2 hzb ?_; intro A7 c7 X5 ho7 hg7 hat7; have HX5 := Lib.hid (HXb.out.grown hg7 hzb (fun g hg => (HOb.out.lt g hg).1)); generalize hq7 : m4 + E5.length = m5 at *; have HM5 := Lib.hid hq7; have HO5 := Lib.hid ho7; clear ho7 hg7 hat7 hzb hq7 HOb HXb HS2 H63 hel; have p0 := cellAt g0 HX5.out n1; have p1 := cellAt g1 HX5.out n1; have p2 := cellAt h0 HX5.out n2; have p3 := cellAt h1 HX5.out n2; have p4 := cellAt j0 HX5.out n3; have p5 := cellAt j1 HX5.out n3; have pl1 := ltAt n1 HX5.out; have pl2 := ltAt n2 HX5.out; have pl3 := ltAt n3 HX5.out)
      | fail)
    go_wp2_with fail
    go_ret
    unfold OwnR
    rw [HF.out]
    have hn5 : (E1 ++ (E2 ++ (E3 ++ (E4 ++ E5)))).length = m5 := by simp only [List.length_append]; have := HM1.out; have := HM2.out; have := HM3.out; have := HM4.out; have := HM5.out; omega
    have h5 := own_base HO5.out HB1.out.size
    rw [show (((([] ++ brsC E1) ++ brsC E2) ++ brsC E3) ++ brsC E4) ++ brsC E5 = brsC (E1 ++ (E2 ++ (E3 ++ (E4 ++ E5)))) by simp only [brsC_app, List.nil_append, List.append_assoc]] at h5
    rw [hn5]
    exact ⟨A7, c7, rfl, h5, lift HB1.out HX5.out⟩
  by_cases h2 : t = 2
  · subst h2
    have HF := Lib.hid (bring_stop (es := es) (up := up) (half := half) (u := u))
    go_wp2_with fail
    first | (refine wp_named ?_; intro W1 hW) | (refine calls_named ?_; intro W1 hW)
    have B1 : Below w.heap.size w W1 := by rw [hW]; exact (by repeat (first | exact Below.refl _ _ | assumption | refine Below.alloc ?_ (by first | omega | (simp <;> omega)) _ | refine Below.setCell ?_ (by first | omega | (simp <;> omega)) _ | refine Below.drew ?_))
    replace Hr := Lib.hid (Hr.out.at B1)
    replace Hu := Lib.hid (Hu.out.at B1)
    replace Hh := Lib.hid (Hh.out.at B1)
    have n1 : w.heap.size < W1.heap.size := by rw [hW]; simp <;> omega
    have n2 : (w.heap.size + 1) < W1.heap.size := by rw [hW]; simp <;> omega
    have n3 : (w.heap.size + 1 + 1) < W1.heap.size := by rw [hW]; simp <;> omega
    have g0 : W1.cell? ⟨w.heap.size, 0, none⟩ = some (.slice An nn cn) := by rw [hW]; go_simp
    have g1 : W1.cell? ⟨w.heap.size, 1, none⟩ = some (.slice Ae es.length ce) := by rw [hW]; go_simp
    have h0 : W1.cell? ⟨(w.heap.size + 1), 0, none⟩ = some (.slice Au up.length cu) := by rw [hW]; go_simp
    have h1 : W1.cell? ⟨(w.heap.size + 1), 1, none⟩ = some (.slice Ah half.length ch) := by rw [hW]; go_simp
    have j0 : W1.cell? ⟨(w.heap.size + 1 + 1), 0, none⟩ = some (sv u) := by rw [hW]; go_simp
    have j1 : W1.cell? ⟨(w.heap.size + 1 + 1), 1, none⟩ = some (.int .i64 2) := by rw [hW]; go_simp
    clear hW
    have HB1 := Lib.hid B1
    clear B1
    have HW1 := Lib.hid (Below.refl W1.heap.size W1)
    have HO0 := Lib.hid (show W1.ownsRow W1.heap.size 93 3 (.slice none 0 0) 0 [] from World.ownsRow_nil _ _ _ _)
    have p0 := g0
    have p1 := g1
    have p2 := h0
    have p3 := h1
    have p4 := j0
    have p5 := j1
    have pl1 := n1
    have pl2 := n2
    have pl3 := n3
    go_wp2_with fail
    obtain ⟨ovr, hovr⟩ : ∃ v, v = (.slice none 0 0 : Value) := ⟨_, rfl⟩
    have hrb : ∀ b, ovr.ownBlock = some b → W1.heap.size ≤ b ∧ b < W1.heap.size := fun b hb => by rw [hovr] at hb; exact HO0.out.lt b hb
    have HT := Lib.hid (fun y (hk : Keeps (OffB W1 ovr) W1 y) => (HW1.out.trans (hk.below (B := W1.heap.size) (fun j hj => ⟨by have := HW1.out.size; omega, fun e => by have := (hrb _ e).1; omega⟩))))
    have o1 : ¬ ovr.ownBlock = some w.heap.size := fun e => by have := (hrb _ e).1; omega
    have o2 : ¬ ovr.ownBlock = some (w.heap.size + 1) := fun e => by have := (hrb _ e).1; omega
    have o3 : ¬ ovr.ownBlock = some (w.heap.size + 1 + 1) := fun e => by have := (hrb _ e).1; omega
    have HOv := Lib.hid hovr
    have hal : ((inwS es u 1 ++ inwS es u 4) ++ inwS es u 5).length ≤ 3 * es.length := by rw [List.length_append, List.length_append]; have := inwS_le es u 1; have := inwS_le es u 4; have := inwS_le es u 5; omega
    have HAl := Lib.hid (fun W hr => along17_any An Ae nn cn ce es u W hr hl)
    generalize ((inwS es u 1 ++ inwS es u 4) ++ inwS es u 5) = FF at *
    have hfl := List.length_filter_le (upB up half) FF
    have HTh := Lib.hid (fun A c W hr hu hh => there17_any A Au Ah c cu ch FF up half W hr (by omega) hu hh)
    generalize FF.filter (upB up half) = GG at *
    have hel : (eachB GG 2 true).length ≤ 3 * es.length := by rw [eachB_len]; omega
    have HEc := Lib.hid (fun A c W hr => each17_any A c GG 2 true W hr (by omega))
    generalize eachB GG 2 true = E6 at *
    have h63 : 0 + E6.length ≤ maxLen := by unfold maxLen; omega
    have hby : (0 + E6.length) * 32 ≤ 140737488355328 := by omega
    have H63 := Lib.hid (And.intro h63 hby)
    clear h63 hby hovr hrb hal hfl
    try go_wp2_with fail
    refine wp_region_held_drew (S := fun w' => Keeps (OffB W1 ovr) W1 w') (by kernel_rfl) (OffB.below (Below.drew (Below.refl _ _))) (fun hHeld => ?_)
    refine tY (i := 0) (v := ?_) rfl ?_ hHeld ?_; rotate_left 1; focus (intro w' hSw; clear hSw; go_simp; try with_reducible rfl)
    (try simp only [Act.put, zn1, zn2, zn3])
    refine tY (i := 1) (v := ?_) rfl ?_ hHeld ?_; rotate_left 1; focus (intro w' hSw; have hCell := fun (b o : Nat) (h : b < W1.heap.size) (h2 : ¬ ovr.ownBlock = some b) => World.cell?_of_block (a := ⟨b, o, none⟩) (hSw.block b ⟨h, h2⟩); clear hSw; go_simp; try with_reducible rfl)
    (try simp only [Act.put, zn1, zn2, zn3])
    refine tY (i := 2) (v := ?_) rfl ?_ hHeld ?_; rotate_left 1; focus (intro w' hSw; clear hSw; go_simp; try with_reducible rfl)
    (try simp only [Act.put, zn1, zn2, zn3])
    refine tY (i := 3) (v := ?_) rfl ?_ hHeld ?_; rotate_left 1; focus (intro w' hSw; have hCell := fun (b o : Nat) (h : b < W1.heap.size) (h2 : ¬ ovr.ownBlock = some b) => World.cell?_of_block (a := ⟨b, o, none⟩) (hSw.block b ⟨h, h2⟩); clear hSw; go_simp; try with_reducible rfl)
    (try simp only [Act.put, zn1, zn2, zn3])
    refine tY (i := 5) (v := ?_) rfl ?_ hHeld ?_; rotate_left 1; focus (intro w' hSw; have hCell := fun (b o : Nat) (h : b < W1.heap.size) (h2 : ¬ ovr.ownBlock = some b) => World.cell?_of_block (a := ⟨b, o, none⟩) (hSw.block b ⟨h, h2⟩); clear hSw; go_simp; try with_reducible rfl)
    (try simp only [Act.put, zn1, zn2, zn3])
    refine tY (i := 7) (v := ?_) rfl ?_ hHeld ?_; rotate_left 1; focus (intro w' hSw; clear hSw; go_simp; try with_reducible rfl)
    (try simp only [Act.put, zn1, zn2, zn3])
    refine tY (i := 8) (v := ?_) rfl ?_ hHeld ?_; rotate_left 1; focus (intro w' hSw; have hCell := fun (b o : Nat) (h : b < W1.heap.size) (h2 : ¬ ovr.ownBlock = some b) => World.cell?_of_block (a := ⟨b, o, none⟩) (hSw.block b ⟨h, h2⟩); clear hSw; go_simp; try with_reducible rfl)
    (try simp only [Act.put, zn1, zn2, zn3])
    refine ready_one (i := 4) rfl (by kernel_rfl) (fun K hK => ?_)
    go_simp
    refine (HAl.out _ (Hr.out.at (HT.out _ hHeld))).mono ?_
    rintro e y1 ⟨A1, c1, rfl, ho1, hb⟩
    have HS1 := Lib.hid (own_rd' ho1)
    have HP1 := Lib.hid (own_on (w := W1.drew) HO0.out hb)
    have hS := hHeld.then (fun _ hj => hj.1) hb
    clear ho1 hb
    refine hK.out _ _ ?_ (fun hHeld2 => ?_)
    · (try dsimp only); exact hS
    clear hK K hHeld; have hHeld := hHeld2; clear hHeld2; (try simp only [Act.put, zn1, zn2, zn3])
    refine ready_one (i := 6) rfl (by kernel_rfl) (fun K hK => ?_)
    go_simp
    refine (HTh.out A1 c1 _ HS1.out (Hu.out.at (HT.out _ hHeld)) (Hh.out.at (HT.out _ hHeld))).mono ?_
    rintro e y2 ⟨A2, c2, rfl, ho2, hb⟩
    have HS2 := Lib.hid (own_rd' ho2)
    have HP2 := Lib.hid (own_on HP1.out hb)
    have hS := hHeld.then (fun _ hj => hj.1) hb
    clear ho2 hb
    refine hK.out _ _ ?_ (fun hHeld2 => ?_)
    · (try dsimp only); exact hS
    clear hK K hHeld; have hHeld := hHeld2; clear hHeld2; (try simp only [Act.put, zn1, zn2, zn3])
    refine ready_one (i := 9) rfl (by kernel_rfl) (fun K hK => ?_)
    go_simp
    refine (HEc.out A2 c2 _ HS2.out).mono ?_
    rintro e y3 ⟨A3, c3, rfl, ho3, hb⟩
    have HS3 := Lib.hid (own_rd' ho3)
    have HP3 := Lib.hid (own_on HP2.out hb)
    have hS := hHeld.then (fun _ hj => hj.1) hb
    have hz3 := Nat.le_trans (HT.out _ hS).size (Nat.le_refl _)
    clear ho3 hb
    refine hK.out _ _ ?_ (fun hHeld2 => ?_)
    · (try dsimp only); exact hS
    clear hK K hHeld; have hHeld := hHeld2; clear hHeld2; (try simp only [Act.put, zn1, zn2, zn3])
    refine ready_one (i := 10) rfl (by kernel_rfl) (fun K hK => ?_)
    refine step_append_rd _ (by rfl) (.tmp 59) (.tmp 68) 90 (by rfl) W1.heap.size 93 i0 _ 3 32 Tryz.underlying90 hi hz0 hz1 hz2 rfl (by decide) _ (0) (([] : List Value)) (by rfl) HP3.out _ A3 E6.length c3 (brsC E6) (by rfl) HS3.out (one_brsC _) H63.out.1 H63.out.2 hz3 ?_
    intro A9 c9 w9 ho9 hg9 hat9
    rw [← HOv.out] at hg9
    have hS := OffB.grown hHeld hg9
    have HO9 := Lib.hid ho9
    clear ho9 hg9 hat9
    refine hK.out _ _ ?_ (fun hHeld2 => ?_)
    · (try dsimp only); exact hS
    clear hK K hHeld; have hHeld := hHeld2; clear hHeld2; (try simp only [Act.put, zn1, zn2, zn3])
    refine tY (i := 11) (v := ?_) rfl ?_ hHeld ?_; rotate_left 1; focus (intro w' hSw; clear hSw; go_simp; try with_reducible rfl)
    (try simp only [Act.put, zn1, zn2, zn3])
    refine wpAnyH_done (by kernel_rfl) ?_ _
    have HB9 := Lib.hid (lift HB1.out (HT.out _ hHeld))
    go_wp2_with fail
    go_ret
    unfold OwnR
    rw [HF.out]
    have h5 := own_base HO9.out HB1.out.size
    rw [Nat.zero_add, List.nil_append] at h5
    exact ⟨A9, c9, rfl, h5, HB9.out⟩
  by_cases h3 : t = 3
  · subst h3
    have HF := Lib.hid (bring_again (es := es) (up := up) (half := half) (u := u))
    go_wp2_with fail
    first | (refine wp_named ?_; intro W1 hW) | (refine calls_named ?_; intro W1 hW)
    have B1 : Below w.heap.size w W1 := by rw [hW]; exact (by repeat (first | exact Below.refl _ _ | assumption | refine Below.alloc ?_ (by first | omega | (simp <;> omega)) _ | refine Below.setCell ?_ (by first | omega | (simp <;> omega)) _ | refine Below.drew ?_))
    replace Hr := Lib.hid (Hr.out.at B1)
    replace Hu := Lib.hid (Hu.out.at B1)
    replace Hh := Lib.hid (Hh.out.at B1)
    have n1 : w.heap.size < W1.heap.size := by rw [hW]; simp <;> omega
    have n2 : (w.heap.size + 1) < W1.heap.size := by rw [hW]; simp <;> omega
    have n3 : (w.heap.size + 1 + 1) < W1.heap.size := by rw [hW]; simp <;> omega
    have g0 : W1.cell? ⟨w.heap.size, 0, none⟩ = some (.slice An nn cn) := by rw [hW]; go_simp
    have g1 : W1.cell? ⟨w.heap.size, 1, none⟩ = some (.slice Ae es.length ce) := by rw [hW]; go_simp
    have h0 : W1.cell? ⟨(w.heap.size + 1), 0, none⟩ = some (.slice Au up.length cu) := by rw [hW]; go_simp
    have h1 : W1.cell? ⟨(w.heap.size + 1), 1, none⟩ = some (.slice Ah half.length ch) := by rw [hW]; go_simp
    have j0 : W1.cell? ⟨(w.heap.size + 1 + 1), 0, none⟩ = some (sv u) := by rw [hW]; go_simp
    have j1 : W1.cell? ⟨(w.heap.size + 1 + 1), 1, none⟩ = some (.int .i64 3) := by rw [hW]; go_simp
    clear hW
    have HB1 := Lib.hid B1
    clear B1
    have HW1 := Lib.hid (Below.refl W1.heap.size W1)
    have HO0 := Lib.hid (show W1.ownsRow W1.heap.size 93 3 (.slice none 0 0) 0 [] from World.ownsRow_nil _ _ _ _)
    have p0 := cellAt g0 HW1.out n1; have p1 := cellAt g1 HW1.out n1; have p2 := cellAt h0 HW1.out n2; have p3 := cellAt h1 HW1.out n2; have p4 := cellAt j0 HW1.out n3; have p5 := cellAt j1 HW1.out n3; have pl1 := ltAt n1 HW1.out; have pl2 := ltAt n2 HW1.out; have pl3 := ltAt n3 HW1.out
    go_wp2_with fail
    refine (Out15_any An Ae nn cn ce es u 1 W1 (Hr.out.at HW1.out) (by omega)).mono ?_
    rintro e ya ⟨A1, c1, rfl, hc1, hr1, hb⟩
    have HSa := Lib.hid (hr1)
    have HOa := Lib.hid (own_on HO0.out hb)
    have HXa := Lib.hid (lift HW1.out hb)
    clear p0 p1 p2 p3 p4 p5 pl1 pl2 pl3 hb hc1 hr1
    go_wp2_with fail
    refine (each17_any A1 c1 (outR es u 1) 1 true ya HSa.out (by omega)).mono ?_
    have hel : (eachB (outR es u 1) 1 true).length ≤ es.length := by rw [eachB_len]; omega
    generalize eachB (outR es u 1) 1 true = E1 at *
    rintro e yb ⟨A2, c2, rfl, ho2, hb⟩
    have HS2 := Lib.hid (own_rd' ho2)
    have HOb := Lib.hid (own_on HOa.out hb)
    have HXb := Lib.hid (lift HXa.out hb)
    have hzb := HXb.out.size
    have h63 : 0 + E1.length ≤ maxLen := by unfold maxLen; omega
    have hby : (0 + E1.length) * 32 ≤ 140737488355328 := by omega
    have hm1 : 0 + E1.length ≤ 1 * es.length := by omega
    have H63 := Lib.hid (And.intro h63 hby)
    clear ho2 hb h63 hby HSa HOa HXa
    go_wp2_with (first
      | (at_builtin; refine wpList_append_rd _ (by rfl) (.tmp 16) (.tmp 21) 90 (by rfl) W1.heap.size 93 i0 _ 3 32 Tryz.underlying90 hi hz0 hz1 hz2 rfl (by decide) _ (0) (([] : List Value)) (by rfl) HOb.out _ A2 E1.length c2 (brsC E1) (by rfl) HS2.out (one_brsC _) H63.out.1 H63.out.2 hzb ?_; intro A7 c7 X1 ho7 hg7 hat7; have HX1 := Lib.hid (HXb.out.grown hg7 hzb (fun g hg => (HOb.out.lt g hg).1)); generalize hq7 : 0 + E1.length = m1 at *; have HM1 := Lib.hid hq7; have HO1 := Lib.hid ho7; clear ho7 hg7 hat7 hzb hq7 HOb HXb HS2 H63 hel; have p0 := cellAt g0 HX1.out n1; have p1 := cellAt g1 HX1.out n1; have p2 := cellAt h0 HX1.out n2; have p3 := cellAt h1 HX1.out n2; have p4 := cellAt j0 HX1.out n3; have p5 := cellAt j1 HX1.out n3; have pl1 := ltAt n1 HX1.out; have pl2 := ltAt n2 HX1.out; have pl3 := ltAt n3 HX1.out)
      | fail)
    go_wp2_with fail
    refine (Out15_any An Ae nn cn ce es u 4 X1 (Hr.out.at HX1.out) (by omega)).mono ?_
    rintro e ya ⟨A1, c1, rfl, hc1, hr1, hb⟩
    have HSa := Lib.hid (hr1)
    have HOa := Lib.hid (own_on HO1.out hb)
    have HXa := Lib.hid (lift HX1.out hb)
    clear p0 p1 p2 p3 p4 p5 pl1 pl2 pl3 hb hc1 hr1
    go_wp2_with fail
    refine (each17_any A1 c1 (outR es u 4) 1 true ya HSa.out (by omega)).mono ?_
    have hel : (eachB (outR es u 4) 1 true).length ≤ es.length := by rw [eachB_len]; omega
    generalize eachB (outR es u 4) 1 true = E2 at *
    rintro e yb ⟨A2, c2, rfl, ho2, hb⟩
    have HS2 := Lib.hid (own_rd' ho2)
    have HOb := Lib.hid (own_on HOa.out hb)
    have HXb := Lib.hid (lift HXa.out hb)
    have hzb := HXb.out.size
    have h63 : m1 + E2.length ≤ maxLen := by unfold maxLen; omega
    have hby : (m1 + E2.length) * 32 ≤ 140737488355328 := by omega
    have hm2 : m1 + E2.length ≤ 2 * es.length := by omega
    have H63 := Lib.hid (And.intro h63 hby)
    clear ho2 hb h63 hby HSa HOa HXa
    go_wp2_with (first
      | (at_builtin; refine wpList_append_rd _ (by rfl) (.tmp 23) (.tmp 28) 90 (by rfl) W1.heap.size 93 i0 _ 3 32 Tryz.underlying90 hi hz0 hz1 hz2 rfl (by decide) _ (m1) ((([] : List Value) ++ brsC E1)) (by rfl) HOb.out _ A2 E2.length c2 (brsC E2) (by rfl) HS2.out (one_brsC _) H63.out.1 H63.out.2 hzb ?_; intro A7 c7 X2 ho7 hg7 hat7; have HX2 := Lib.hid (HXb.out.grown hg7 hzb (fun g hg => (HOb.out.lt g hg).1)); generalize hq7 : m1 + E2.length = m2 at *; have HM2 := Lib.hid hq7; have HO2 := Lib.hid ho7; clear ho7 hg7 hat7 hzb hq7 HOb HXb HS2 H63 hel; have p0 := cellAt g0 HX2.out n1; have p1 := cellAt g1 HX2.out n1; have p2 := cellAt h0 HX2.out n2; have p3 := cellAt h1 HX2.out n2; have p4 := cellAt j0 HX2.out n3; have p5 := cellAt j1 HX2.out n3; have pl1 := ltAt n1 HX2.out; have pl2 := ltAt n2 HX2.out; have pl3 := ltAt n3 HX2.out)
      | fail)
    go_wp2_with fail
    refine (Out15_any An Ae nn cn ce es u 2 X2 (Hr.out.at HX2.out) (by omega)).mono ?_
    rintro e ya ⟨A1, c1, rfl, hc1, hr1, hb⟩
    have HSa := Lib.hid (hr1)
    have HOa := Lib.hid (own_on HO2.out hb)
    have HXa := Lib.hid (lift HX2.out hb)
    clear p0 p1 p2 p3 p4 p5 pl1 pl2 pl3 hb hc1 hr1
    go_wp2_with fail
    refine (each17_any A1 c1 (outR es u 2) 1 false ya HSa.out (by omega)).mono ?_
    have hel : (eachB (outR es u 2) 1 false).length ≤ es.length := by rw [eachB_len]; omega
    generalize eachB (outR es u 2) 1 false = E3 at *
    rintro e yb ⟨A2, c2, rfl, ho2, hb⟩
    have HS2 := Lib.hid (own_rd' ho2)
    have HOb := Lib.hid (own_on HOa.out hb)
    have HXb := Lib.hid (lift HXa.out hb)
    have hzb := HXb.out.size
    have h63 : m2 + E3.length ≤ maxLen := by unfold maxLen; omega
    have hby : (m2 + E3.length) * 32 ≤ 140737488355328 := by omega
    have hm3 : m2 + E3.length ≤ 3 * es.length := by omega
    have H63 := Lib.hid (And.intro h63 hby)
    clear ho2 hb h63 hby HSa HOa HXa
    go_wp2_with (first
      | (at_builtin; refine wpList_append_rd _ (by rfl) (.tmp 30) (.tmp 35) 90 (by rfl) W1.heap.size 93 i0 _ 3 32 Tryz.underlying90 hi hz0 hz1 hz2 rfl (by decide) _ (m2) (((([] : List Value) ++ brsC E1) ++ brsC E2)) (by rfl) HOb.out _ A2 E3.length c2 (brsC E3) (by rfl) HS2.out (one_brsC _) H63.out.1 H63.out.2 hzb ?_; intro A7 c7 X3 ho7 hg7 hat7; have HX3 := Lib.hid (HXb.out.grown hg7 hzb (fun g hg => (HOb.out.lt g hg).1)); generalize hq7 : m2 + E3.length = m3 at *; have HM3 := Lib.hid hq7; have HO3 := Lib.hid ho7; clear ho7 hg7 hat7 hzb hq7 HOb HXb HS2 H63 hel; have p0 := cellAt g0 HX3.out n1; have p1 := cellAt g1 HX3.out n1; have p2 := cellAt h0 HX3.out n2; have p3 := cellAt h1 HX3.out n2; have p4 := cellAt j0 HX3.out n3; have p5 := cellAt j1 HX3.out n3; have pl1 := ltAt n1 HX3.out; have pl2 := ltAt n2 HX3.out; have pl3 := ltAt n3 HX3.out)
      | fail)
    go_wp2_with fail
    refine (Out15_any An Ae nn cn ce es u 6 X3 (Hr.out.at HX3.out) (by omega)).mono ?_
    rintro e ya ⟨A1, c1, rfl, hc1, hr1, hb⟩
    have HSa := Lib.hid (hr1)
    have HOa := Lib.hid (own_on HO3.out hb)
    have HXa := Lib.hid (lift HX3.out hb)
    clear p0 p1 p2 p3 p4 p5 pl1 pl2 pl3 hb hc1 hr1
    go_wp2_with fail
    refine (each17_any A1 c1 (outR es u 6) 2 true ya HSa.out (by omega)).mono ?_
    have hel : (eachB (outR es u 6) 2 true).length ≤ es.length := by rw [eachB_len]; omega
    generalize eachB (outR es u 6) 2 true = E4 at *
    rintro e yb ⟨A2, c2, rfl, ho2, hb⟩
    have HS2 := Lib.hid (own_rd' ho2)
    have HOb := Lib.hid (own_on HOa.out hb)
    have HXb := Lib.hid (lift HXa.out hb)
    have hzb := HXb.out.size
    have h63 : m3 + E4.length ≤ maxLen := by unfold maxLen; omega
    have hby : (m3 + E4.length) * 32 ≤ 140737488355328 := by omega
    have hm4 : m3 + E4.length ≤ 4 * es.length := by omega
    have H63 := Lib.hid (And.intro h63 hby)
    clear ho2 hb h63 hby HSa HOa HXa
    go_wp2_with (first
      | (at_builtin; refine wpList_append_rd _ (by rfl) (.tmp 37) (.tmp 42) 90 (by rfl) W1.heap.size 93 i0 _ 3 32 Tryz.underlying90 hi hz0 hz1 hz2 rfl (by decide) _ (m3) ((((([] : List Value) ++ brsC E1) ++ brsC E2) ++ brsC E3)) (by rfl) HOb.out _ A2 E4.length c2 (brsC E4) (by rfl) HS2.out (one_brsC _) H63.out.1 H63.out.2 hzb ?_; intro A7 c7 X4 ho7 hg7 hat7; have HX4 := Lib.hid (HXb.out.grown hg7 hzb (fun g hg => (HOb.out.lt g hg).1)); generalize hq7 : m3 + E4.length = m4 at *; have HM4 := Lib.hid hq7; have HO4 := Lib.hid ho7; clear ho7 hg7 hat7 hzb hq7 HOb HXb HS2 H63 hel; have p0 := cellAt g0 HX4.out n1; have p1 := cellAt g1 HX4.out n1; have p2 := cellAt h0 HX4.out n2; have p3 := cellAt h1 HX4.out n2; have p4 := cellAt j0 HX4.out n3; have p5 := cellAt j1 HX4.out n3; have pl1 := ltAt n1 HX4.out; have pl2 := ltAt n2 HX4.out; have pl3 := ltAt n3 HX4.out)
      | fail)
    go_wp2_with fail
    refine (In15o_any An Ae nn cn ce es u 6 X4 (Hr.out.at HX4.out) (by omega)).mono ?_
    rintro e ya ⟨A1, c1, rfl, ho1, hb⟩
    have HSa := Lib.hid (own_rd' ho1)
    have HOa := Lib.hid (own_on HO4.out hb)
    have HXa := Lib.hid (lift HX4.out hb)
    clear p0 p1 p2 p3 p4 p5 pl1 pl2 pl3 hb ho1
    go_wp2_with fail
    refine (each17_any A1 c1 (inR es u 6) 2 true ya HSa.out (by omega)).mono ?_
    have hel : (eachB (inR es u 6) 2 true).length ≤ es.length := by rw [eachB_len]; omega
    generalize eachB (inR es u 6) 2 true = E5 at *
    rintro e yb ⟨A2, c2, rfl, ho2, hb⟩
    have HS2 := Lib.hid (own_rd' ho2)
    have HOb := Lib.hid (own_on HOa.out hb)
    have HXb := Lib.hid (lift HXa.out hb)
    have hzb := HXb.out.size
    have h63 : m4 + E5.length ≤ maxLen := by unfold maxLen; omega
    have hby : (m4 + E5.length) * 32 ≤ 140737488355328 := by omega
    have hm5 : m4 + E5.length ≤ 5 * es.length := by omega
    have H63 := Lib.hid (And.intro h63 hby)
    clear ho2 hb h63 hby HSa HOa HXa
    go_wp2_with (first
      | (at_builtin; refine wpList_append_rd _ (by rfl) (.tmp 44) (.tmp 49) 90 (by rfl) W1.heap.size 93 i0 _ 3 32 Tryz.underlying90 hi hz0 hz1 hz2 rfl (by decide) _ (m4) (((((([] : List Value) ++ brsC E1) ++ brsC E2) ++ brsC E3) ++ brsC E4)) (by rfl) HOb.out _ A2 E5.length c2 (brsC E5) (by rfl) HS2.out (one_brsC _) H63.out.1 H63.out.2 hzb ?_; intro A7 c7 X5 ho7 hg7 hat7; have HX5 := Lib.hid (HXb.out.grown hg7 hzb (fun g hg => (HOb.out.lt g hg).1)); generalize hq7 : m4 + E5.length = m5 at *; have HM5 := Lib.hid hq7; have HO5 := Lib.hid ho7; clear ho7 hg7 hat7 hzb hq7 HOb HXb HS2 H63 hel; have p0 := cellAt g0 HX5.out n1; have p1 := cellAt g1 HX5.out n1; have p2 := cellAt h0 HX5.out n2; have p3 := cellAt h1 HX5.out n2; have p4 := cellAt j0 HX5.out n3; have p5 := cellAt j1 HX5.out n3; have pl1 := ltAt n1 HX5.out; have pl2 := ltAt n2 HX5.out; have pl3 := ltAt n3 HX5.out)
      | fail)
    go_wp2_with fail
    obtain ⟨ovr, hovr⟩ : ∃ v, v = (Value.slice A7 m5 c7) := ⟨_, rfl⟩
    have hrb : ∀ b, ovr.ownBlock = some b → W1.heap.size ≤ b ∧ b < X5.heap.size := fun b hb => by rw [hovr] at hb; exact HO5.out.lt b hb
    have HT := Lib.hid (fun y (hk : Keeps (OffB X5 ovr) X5 y) => (HX5.out.trans (hk.below (B := W1.heap.size) (fun j hj => ⟨by have := HX5.out.size; omega, fun e => by have := (hrb _ e).1; omega⟩))))
    have o1 : ¬ ovr.ownBlock = some w.heap.size := fun e => by have := (hrb _ e).1; omega
    have o2 : ¬ ovr.ownBlock = some (w.heap.size + 1) := fun e => by have := (hrb _ e).1; omega
    have o3 : ¬ ovr.ownBlock = some (w.heap.size + 1 + 1) := fun e => by have := (hrb _ e).1; omega
    have HOv := Lib.hid hovr
    have hal : ((inwS es u 1 ++ inwS es u 4) ++ inwS es u 5).length ≤ 3 * es.length := by rw [List.length_append, List.length_append]; have := inwS_le es u 1; have := inwS_le es u 4; have := inwS_le es u 5; omega
    have HAl := Lib.hid (fun W hr => along17_any An Ae nn cn ce es u W hr hl)
    generalize ((inwS es u 1 ++ inwS es u 4) ++ inwS es u 5) = FF at *
    have hfl := List.length_filter_le (upB up half) FF
    have HTh := Lib.hid (fun A c W hr hu hh => there17_any A Au Ah c cu ch FF up half W hr (by omega) hu hh)
    generalize FF.filter (upB up half) = GG at *
    have hel : (eachB GG 3 true).length ≤ 3 * es.length := by rw [eachB_len]; omega
    have HEc := Lib.hid (fun A c W hr => each17_any A c GG 3 true W hr (by omega))
    generalize eachB GG 3 true = E6 at *
    have h63 : m5 + E6.length ≤ maxLen := by unfold maxLen; omega
    have hby : (m5 + E6.length) * 32 ≤ 140737488355328 := by omega
    have H63 := Lib.hid (And.intro h63 hby)
    clear h63 hby hovr hrb hal hfl
    try go_wp2_with fail
    refine wp_region_held_drew (S := fun w' => Keeps (OffB X5 ovr) X5 w') (by kernel_rfl) (OffB.below (Below.drew (Below.refl _ _))) (fun hHeld => ?_)
    refine tY (i := 0) (v := ?_) rfl ?_ hHeld ?_; rotate_left 1; focus (intro w' hSw; clear hSw; go_simp; try with_reducible rfl)
    (try simp only [Act.put, zn1, zn2, zn3])
    refine tY (i := 1) (v := ?_) rfl ?_ hHeld ?_; rotate_left 1; focus (intro w' hSw; have hCell := fun (b o : Nat) (h : b < X5.heap.size) (h2 : ¬ ovr.ownBlock = some b) => World.cell?_of_block (a := ⟨b, o, none⟩) (hSw.block b ⟨h, h2⟩); clear hSw; go_simp; try with_reducible rfl)
    (try simp only [Act.put, zn1, zn2, zn3])
    refine tY (i := 2) (v := ?_) rfl ?_ hHeld ?_; rotate_left 1; focus (intro w' hSw; clear hSw; go_simp; try with_reducible rfl)
    (try simp only [Act.put, zn1, zn2, zn3])
    refine tY (i := 3) (v := ?_) rfl ?_ hHeld ?_; rotate_left 1; focus (intro w' hSw; have hCell := fun (b o : Nat) (h : b < X5.heap.size) (h2 : ¬ ovr.ownBlock = some b) => World.cell?_of_block (a := ⟨b, o, none⟩) (hSw.block b ⟨h, h2⟩); clear hSw; go_simp; try with_reducible rfl)
    (try simp only [Act.put, zn1, zn2, zn3])
    refine tY (i := 5) (v := ?_) rfl ?_ hHeld ?_; rotate_left 1; focus (intro w' hSw; have hCell := fun (b o : Nat) (h : b < X5.heap.size) (h2 : ¬ ovr.ownBlock = some b) => World.cell?_of_block (a := ⟨b, o, none⟩) (hSw.block b ⟨h, h2⟩); clear hSw; go_simp; try with_reducible rfl)
    (try simp only [Act.put, zn1, zn2, zn3])
    refine tY (i := 7) (v := ?_) rfl ?_ hHeld ?_; rotate_left 1; focus (intro w' hSw; clear hSw; go_simp; try with_reducible rfl)
    (try simp only [Act.put, zn1, zn2, zn3])
    refine tY (i := 8) (v := ?_) rfl ?_ hHeld ?_; rotate_left 1; focus (intro w' hSw; have hCell := fun (b o : Nat) (h : b < X5.heap.size) (h2 : ¬ ovr.ownBlock = some b) => World.cell?_of_block (a := ⟨b, o, none⟩) (hSw.block b ⟨h, h2⟩); clear hSw; go_simp; try with_reducible rfl)
    (try simp only [Act.put, zn1, zn2, zn3])
    refine ready_one (i := 4) rfl (by kernel_rfl) (fun K hK => ?_)
    go_simp
    refine (HAl.out _ (Hr.out.at (HT.out _ hHeld))).mono ?_
    rintro e y1 ⟨A1, c1, rfl, ho1, hb⟩
    have HS1 := Lib.hid (own_rd' ho1)
    have HP1 := Lib.hid (own_on (w := X5.drew) HO5.out hb)
    have hS := hHeld.then (fun _ hj => hj.1) hb
    clear ho1 hb
    refine hK.out _ _ ?_ (fun hHeld2 => ?_)
    · (try dsimp only); exact hS
    clear hK K hHeld; have hHeld := hHeld2; clear hHeld2; (try simp only [Act.put, zn1, zn2, zn3])
    refine ready_one (i := 6) rfl (by kernel_rfl) (fun K hK => ?_)
    go_simp
    refine (HTh.out A1 c1 _ HS1.out (Hu.out.at (HT.out _ hHeld)) (Hh.out.at (HT.out _ hHeld))).mono ?_
    rintro e y2 ⟨A2, c2, rfl, ho2, hb⟩
    have HS2 := Lib.hid (own_rd' ho2)
    have HP2 := Lib.hid (own_on HP1.out hb)
    have hS := hHeld.then (fun _ hj => hj.1) hb
    clear ho2 hb
    refine hK.out _ _ ?_ (fun hHeld2 => ?_)
    · (try dsimp only); exact hS
    clear hK K hHeld; have hHeld := hHeld2; clear hHeld2; (try simp only [Act.put, zn1, zn2, zn3])
    refine ready_one (i := 9) rfl (by kernel_rfl) (fun K hK => ?_)
    go_simp
    refine (HEc.out A2 c2 _ HS2.out).mono ?_
    rintro e y3 ⟨A3, c3, rfl, ho3, hb⟩
    have HS3 := Lib.hid (own_rd' ho3)
    have HP3 := Lib.hid (own_on HP2.out hb)
    have hS := hHeld.then (fun _ hj => hj.1) hb
    have hz3 := Nat.le_trans (HT.out _ hS).size (Nat.le_refl _)
    clear ho3 hb
    refine hK.out _ _ ?_ (fun hHeld2 => ?_)
    · (try dsimp only); exact hS
    clear hK K hHeld; have hHeld := hHeld2; clear hHeld2; (try simp only [Act.put, zn1, zn2, zn3])
    refine ready_one (i := 10) rfl (by kernel_rfl) (fun K hK => ?_)
    refine step_append_rd _ (by rfl) (.tmp 59) (.tmp 68) 90 (by rfl) W1.heap.size 93 i0 _ 3 32 Tryz.underlying90 hi hz0 hz1 hz2 rfl (by decide) _ (m5) ((((((([] : List Value) ++ brsC E1) ++ brsC E2) ++ brsC E3) ++ brsC E4) ++ brsC E5)) (by rfl) HP3.out _ A3 E6.length c3 (brsC E6) (by rfl) HS3.out (one_brsC _) H63.out.1 H63.out.2 hz3 ?_
    intro A9 c9 w9 ho9 hg9 hat9
    rw [← HOv.out] at hg9
    have hS := OffB.grown hHeld hg9
    have HO9 := Lib.hid ho9
    clear ho9 hg9 hat9
    refine hK.out _ _ ?_ (fun hHeld2 => ?_)
    · (try dsimp only); exact hS
    clear hK K hHeld; have hHeld := hHeld2; clear hHeld2; (try simp only [Act.put, zn1, zn2, zn3])
    refine tY (i := 11) (v := ?_) rfl ?_ hHeld ?_; rotate_left 1; focus (intro w' hSw; clear hSw; go_simp; try with_reducible rfl)
    (try simp only [Act.put, zn1, zn2, zn3])
    refine wpAnyH_done (by kernel_rfl) ?_ _
    have HB9 := Lib.hid (lift HB1.out (HT.out _ hHeld))
    go_wp2_with fail
    go_ret
    unfold OwnR
    rw [HF.out]
    have hn5 : ((E1 ++ (E2 ++ (E3 ++ (E4 ++ E5)))) ++ E6).length = m5 + E6.length := by simp only [List.length_append]; have := HM1.out; have := HM2.out; have := HM3.out; have := HM4.out; have := HM5.out; omega
    have h5 := own_base HO9.out HB1.out.size
    rw [show ((((([] ++ brsC E1) ++ brsC E2) ++ brsC E3) ++ brsC E4) ++ brsC E5) ++ brsC E6 = brsC ((E1 ++ (E2 ++ (E3 ++ (E4 ++ E5)))) ++ E6) by simp only [brsC_app, List.nil_append, List.append_assoc]] at h5
    rw [hn5]
    exact ⟨A9, c9, rfl, h5, HB9.out⟩
  · have HF := Lib.hid (bring_no (es := es) (up := up) (half := half) (u := u) h1 h2 h3)
    have b1 : (t == 1) = false := by simpa using h1
    have b2 : (t == 2) = false := by simpa using h2
    have b3 : (t == 3) = false := by simpa using h3
    clear h1 h2 h3
    go_wp2_with fail
    go_ret
    unfold OwnR
    rw [HF.out]
    exact ⟨none, 0, rfl, World.ownsRow_nil _ _ _ _, (by repeat (first | exact Below.refl _ _ | assumption | refine Below.alloc ?_ (by first | omega | (simp <;> omega)) _ | refine Below.setCell ?_ (by first | omega | (simp <;> omega)) _ | refine Below.drew ?_))⟩
end Od
end Go.Proofs.YtbllehjhmfehbaaGreat
end

section
/- Two operations of a region that draws its order may come up. No program. -/
namespace Go.Proofs.YtbllehjhmfehbaaGreat
open Go.RowKit
section
variable {P : Program} {ops : Array Oper} {Q : Exit → Act → World → Prop} {md : Region.Mode} {S : World → Prop}
variable {i j : Nat} {dst dst2 : Option Tmp} {op op2 : Op} {ty ty2 : TypeId} {pos pos2 : String} {aft aft2 : Array Edge} {grd grd2 : Option (Nat × Bool)} {fuel : Nat} {listed : Array Bool} {a : Act} {w : World}
/-- Two may come up. -/
theorem ready_twoT (hi : ops[i]? = some ⟨dst, op, ty, pos, aft, grd⟩) (hj : ops[j]? = some ⟨dst2, op2, ty2, pos2, aft2, grd2⟩) (hr : Region.ready md ops listed = [i, j])
    (h : ∀ K' : Act → World → Prop, Shut (∀ a w, S w → (S w → wpAnyH P md ops Q S fuel (listed.setIfInBounds i true) a w) → K' a w) → if Region.wanted ⟨dst, op, ty, pos, aft, grd⟩ (yielded ops a.tmps) = true then Oper.wp P ⟨dst, op, ty, pos, aft, grd⟩ a w K' Q else K' (a.put dst undef) w)
    (h2 : ∀ K' : Act → World → Prop, Shut (∀ a w, S w → (S w → wpAnyH P md ops Q S fuel (listed.setIfInBounds j true) a w) → K' a w) → if Region.wanted ⟨dst2, op2, ty2, pos2, aft2, grd2⟩ (yielded ops a.tmps) = true then Oper.wp P ⟨dst2, op2, ty2, pos2, aft2, grd2⟩ a w K' Q else K' (a.put dst2 undef) w) :
    wpAnyH P md ops Q S (fuel + 1) listed a w :=
  wpAnyH_ready hr (by simp) (AllReadyH.cons hi h (AllReadyH.cons hj h2 AllReadyH.nil))
end
theorem exit_namedT {Q : Exit → Act → World → Prop} {e : Exit} {a : Act} {w : World} (h : ∀ W, W = w → Q e a W) : Q e a w := h w rfl
end Go.Proofs.YtbllehjhmfehbaaGreat
end

section
/- matinsref17.put: a job into a rising row, once. (bel2) -/
namespace Go.Proofs.YtbllehjhmfehbaaGreat
open Go.RowKit Go.Sort
set_option linter.unusedSimpArgs false
namespace Od
theorem infoJr : (Tryz.prog.info? 86).map (fun i => (i.zero, i.size, i.bytes)) = some (some (.agg #[.string ⟨#[]⟩, .int .i64 0]), 2, 24) := by kernel_rfl
set_option maxRecDepth 100000 in
theorem jr_eq (s s' : Str) (t t' : Int) (w : World) : (Op.equalIn 10000 86 (.agg #[sv s, .int .i64 t]) (.agg #[sv s', .int .i64 t'])).run Tryz.prog w = .ok (s == s' && t == t') w := by
  show (Op.equalIn (9999 + 1) _ _ _).run _ w = _
  go_simp
  by_cases h1 : s = s' <;> by_cases h2 : t = t' <;> simp [h1, h2]
theorem jr_eql (s s' : Str) (t t' : Int) (w : World) : (binOp .eql 86 (.agg #[sv s, .int .i64 t]) (.agg #[sv s', .int .i64 t'])).run Tryz.prog w = .ok (.bool (s == s' && t == t')) w := by
  rw [run_eql_struct, jr_eq]; rfl
theorem ltJ_s {a b : Str} {x y : Int} (h : Op.bytesLess a b = true) : ltJ (a, x) (b, y) = true := by
  unfold ltJ; rw [show ltS a b = true from h]; rfl
theorem ltJ_t {a b : Str} {x y : Int} (h : (a == b) = true) (h2 : x < y) : ltJ (a, x) (b, y) = true := by
  unfold ltJ; simp [h, h2]
theorem ltJ_n {a b : Str} {x y : Int} (h : Op.bytesLess a b = false) (h2 : (a == b) = false) : ltJ (a, x) (b, y) = false := by
  unfold ltJ; rw [show ltS a b = false from h, h2]; rfl
theorem ltJ_m {a b : Str} {x y : Int} (h : Op.bytesLess a b = false) (h2 : ¬ x < y) : ltJ (a, x) (b, y) = false := by
  unfold ltJ; rw [show ltS a b = false from h]; simp [h2]
/-- The row as it was, or a new one. -/
def PutJ (A : Option Addr) (c : Nat) (l rs : List Jp) (w : World) (e : Ending) (w' : World) : Prop := ∃ A' c', e = .returned (.slice A' rs.length c') ∧ ((A' = A ∧ c' = c ∧ rs = l) ∨ w'.ownsRow w.heap.size 86 2 (.slice A' rs.length c') rs.length (jpsC rs)) ∧ Below w.heap.size w w'
def condJ (l : List Jp) (j : Jp) (k : Nat) : Bool := match l[k]? with | some x => ltJ x j | none => false
theorem condJ_lt {l : List Jp} {j : Jp} {k : Nat} (h : k < l.length) : condJ l j k = ltJ l[k] j := by unfold condJ; rw [List.getElem?_eq_getElem h]
theorem condJ_ge {l : List Jp} {j : Jp} {k : Nat} (h : ¬ k < l.length) : condJ l j k = false := by unfold condJ; rw [List.getElem?_eq_none (by omega)]
set_option maxRecDepth 100000 in
set_option maxHeartbeats 8000000 in
theorem put17_any (A : Option Addr) (c : Nat) (l : List Jp) (s : Str) (t : Int) (w : World) (hr : Rd w w.heap.size 2 A l.length (jpsC l)) (hc : l.length ≤ c) (hl : l.length ≤ 1000000) :
    Calls Tryz.prog 52 #[.slice A l.length c, .agg #[sv s, .int .i64 t]] w (PutJ A c l (insL ltJ (s, t) l) w) := by
  obtain ⟨i0, hi, hz0, hz1, hz2⟩ := info_parts infoJr
  have hq := jr_eql
  have Hr := Lib.hid hr
  clear hr
  go_enter Tryz.func52, Tryz.ntmps52
  go_wp2_with fail
  first | (refine wp_named ?_; intro W1 hW) | (refine calls_named ?_; intro W1 hW)
  have B1 : Below w.heap.size w W1 := by rw [hW]; exact (by repeat (first | exact Below.refl _ _ | assumption | refine Below.alloc ?_ (by first | omega | (simp <;> omega)) _ | refine Below.setCell ?_ (by first | omega | (simp <;> omega)) _ | refine Below.drew ?_))
  replace Hr := Lib.hid (Hr.out.at B1)
  have n1 : w.heap.size < W1.heap.size := by rw [hW]; simp <;> omega
  have j0 : W1.cell? ⟨w.heap.size, 0, none⟩ = some (sv s) := by rw [hW]; go_simp
  have j1 : W1.cell? ⟨w.heap.size, 1, none⟩ = some (.int .i64 t) := by rw [hW]; go_simp
  clear hW
  have HB1 := Lib.hid B1
  clear B1
  go_loopw [5] (fun i wr => ∃ k : Nat, k ≤ l.length ∧ i = .int .i64 k ∧ Hid (∀ y ∈ l.take k, ltJ y (s, t) = true) ∧ Hid (Below W1.heap.size W1 wr)) (fun i _ => l.length - (intOf i).toNat)
  case atStart => exact ⟨0, Nat.zero_le _, rfl, by simp [Hid], Below.refl _ _⟩
  case round =>
    obtain ⟨k, hk, rfl, HAll, HBr⟩ := hrel
    obtain ⟨w2, rfl⟩ : ∃ wo : World, wo = wr := ⟨_, rfl⟩
    have hbr := HBr.out
    replace j0 := cellAt j0 hbr (by omega)
    replace j1 := cellAt j1 hbr (by omega)
    replace Hr := Lib.hid (Hr.out.at hbr)
    replace n1 : w.heap.size < w2.heap.size := ltAt n1 hbr
    clear hbr
    go_upto_region 2 with fail
    go_cut [39] (fun v wx => v = .bool (condJ l (s, t) k) ∧ Below w2.heap.size w2 wx)
    case first =>
      by_cases hlt : k < l.length
      · obtain ⟨b, o, hA, hB, x0, x1⟩ := Hr.out.jp hlt
        have hcl := condJ_lt (j := (s, t)) hlt
        subst hA
        generalize l[k] = x at x0 x1 hcl
        obtain ⟨sx, tx⟩ := x
        simp only at x0 x1
        have i1 : (0 : Int) ≤ (k : Int) := by omega
        have i2 : (k : Int) < (l.length : Int) := by omega
        have d1 : decide (k < l.length) = true := by simpa using hlt
        cases h1 : Op.bytesLess sx s
        · cases h2 : (sx == s)
          · have HC := Lib.hid (show condJ l (s, t) k = false from hcl.trans (ltJ_n h1 h2))
            clear hcl
            try go_wp2_with fail
            refine wp_region_held_drew (S := fun w' => Below w2.heap.size w2 w') (by kernel_rfl) (Below.drew (Below.refl _ _)) (fun hHeld => ?_)
            refine tY (i := 0) (v := ?_) rfl ?_ hHeld ?_; rotate_left 1; focus (intro w' hSw; clear hSw; go_simp; try with_reducible rfl)
            (try simp only [Act.put, zn1, zn2, zn3])
            refine tY (i := 1) (v := ?_) rfl ?_ hHeld ?_; rotate_left 1; focus (intro w' hSw; clear hSw; go_simp; try with_reducible rfl)
            (try simp only [Act.put, zn1, zn2, zn3])
            refine tY (i := 2) (v := ?_) rfl ?_ hHeld ?_; rotate_left 1; focus (intro w' hSw; clear hSw; go_simp; try with_reducible rfl)
            (try simp only [Act.put, zn1, zn2, zn3])
            refine tY (i := 3) (v := ?_) rfl ?_ hHeld ?_; rotate_left 1; focus (intro w' hSw; clear hSw; go_simp; try with_reducible rfl)
            (try simp only [Act.put, zn1, zn2, zn3])
            refine tY (i := 4) (v := ?_) rfl ?_ hHeld ?_; rotate_left 1; focus (intro w' hSw; clear hSw; go_simp; try with_reducible rfl)
            (try simp only [Act.put, zn1, zn2, zn3])
            refine tY (i := 5) (v := ?_) rfl ?_ hHeld ?_; rotate_left 1; focus (intro w' hSw; clear hSw; go_simp; try with_reducible rfl)
            (try simp only [Act.put, zn1, zn2, zn3])
            refine tY (i := 6) (v := ?_) rfl ?_ hHeld ?_; rotate_left 1; focus (intro w' hSw; clear hSw; go_simp; try with_reducible rfl)
            (try simp only [Act.put, zn1, zn2, zn3])
            refine tY (i := 7) (v := ?_) rfl ?_ hHeld ?_; rotate_left 1; focus (intro w' hSw; clear hSw; go_simp; try with_reducible rfl)
            (try simp only [Act.put, zn1, zn2, zn3])
            refine tY (i := 8) (v := ?_) rfl ?_ hHeld ?_; rotate_left 1; focus (intro w' hSw; clear hSw; go_simp; try with_reducible rfl)
            (try simp only [Act.put, zn1, zn2, zn3])
            refine tY (i := 9) (v := ?_) rfl ?_ hHeld ?_; rotate_left 1; focus (intro w' hSw; have hCell := fun (b o : Nat) (h : b < w2.heap.size) => hSw.cell (p := ⟨b, o, none⟩) h; clear hSw; go_simp; try with_reducible rfl)
            (try simp only [Act.put, zn1, zn2, zn3])
            refine tY (i := 10) (v := ?_) rfl ?_ hHeld ?_; rotate_left 1; focus (intro w' hSw; clear hSw; go_simp; try with_reducible rfl)
            (try simp only [Act.put, zn1, zn2, zn3])
            refine tY (i := 11) (v := ?_) rfl ?_ hHeld ?_; rotate_left 1; focus (intro w' hSw; have hCell := fun (b o : Nat) (h : b < w2.heap.size) => hSw.cell (p := ⟨b, o, none⟩) h; clear hSw; go_simp; try with_reducible rfl)
            (try simp only [Act.put, zn1, zn2, zn3])
            refine tY (i := 12) (v := ?_) rfl ?_ hHeld ?_; rotate_left 1; focus (intro w' hSw; clear hSw; go_simp; try with_reducible rfl)
            (try simp only [Act.put, zn1, zn2, zn3])
            refine tY (i := 13) (v := ?_) rfl ?_ hHeld ?_; rotate_left 1; focus (intro w' hSw; clear hSw; go_simp; try with_reducible rfl)
            (try simp only [Act.put, zn1, zn2, zn3])
            refine tY (i := 14) (v := ?_) rfl ?_ hHeld ?_; rotate_left 1; focus (intro w' hSw; clear hSw; go_simp; try with_reducible rfl)
            (try simp only [Act.put, zn1, zn2, zn3])
            refine tY (i := 15) (v := ?_) rfl ?_ hHeld ?_; rotate_left 1; focus (intro w' hSw; clear hSw; go_simp; try with_reducible rfl)
            (try simp only [Act.put, zn1, zn2, zn3])
            refine tY (i := 16) (v := ?_) rfl ?_ hHeld ?_; rotate_left 1; focus (intro w' hSw; clear hSw; go_simp; try with_reducible rfl)
            (try simp only [Act.put, zn1, zn2, zn3])
            refine tY (i := 17) (v := ?_) rfl ?_ hHeld ?_; rotate_left 1; focus (intro w' hSw; clear hSw; go_simp; try with_reducible rfl)
            (try simp only [Act.put, zn1, zn2, zn3])
            refine tY (i := 18) (v := ?_) rfl ?_ hHeld ?_; rotate_left 1; focus (intro w' hSw; have hCell := fun (b o : Nat) (h : b < w2.heap.size) => hSw.cell (p := ⟨b, o, none⟩) h; clear hSw; go_simp; try with_reducible rfl)
            (try simp only [Act.put, zn1, zn2, zn3])
            refine tY (i := 19) (v := ?_) rfl ?_ hHeld ?_; rotate_left 1; focus (intro w' hSw; clear hSw; go_simp; try with_reducible rfl)
            (try simp only [Act.put, zn1, zn2, zn3])
            refine tY (i := 20) (v := ?_) rfl ?_ hHeld ?_; rotate_left 1; focus (intro w' hSw; have hCell := fun (b o : Nat) (h : b < w2.heap.size) => hSw.cell (p := ⟨b, o, none⟩) h; clear hSw; go_simp; try with_reducible rfl)
            (try simp only [Act.put, zn1, zn2, zn3])
            refine tY (i := 21) (v := ?_) rfl ?_ hHeld ?_; rotate_left 1; focus (intro w' hSw; clear hSw; go_simp; try with_reducible rfl)
            (try simp only [Act.put, zn1, zn2, zn3])
            refine tY (i := 22) (v := ?_) rfl ?_ hHeld ?_; rotate_left 1; focus (intro w' hSw; clear hSw; go_simp; try with_reducible rfl)
            (try simp only [Act.put, zn1, zn2, zn3])
            refine tS (i := 23) rfl hHeld ?_; (try simp only [Act.put, zn1, zn2, zn3])
            refine tS (i := 24) rfl hHeld ?_; (try simp only [Act.put, zn1, zn2, zn3])
            refine tS (i := 25) rfl hHeld ?_; (try simp only [Act.put, zn1, zn2, zn3])
            refine tS (i := 26) rfl hHeld ?_; (try simp only [Act.put, zn1, zn2, zn3])
            refine tS (i := 27) rfl hHeld ?_; (try simp only [Act.put, zn1, zn2, zn3])
            refine tS (i := 28) rfl hHeld ?_; (try simp only [Act.put, zn1, zn2, zn3])
            refine tS (i := 29) rfl hHeld ?_; (try simp only [Act.put, zn1, zn2, zn3])
            refine tS (i := 30) rfl hHeld ?_; (try simp only [Act.put, zn1, zn2, zn3])
            refine tY (i := 31) (v := ?_) rfl ?_ hHeld ?_; rotate_left 1; focus (intro w' hSw; clear hSw; go_simp; try with_reducible rfl)
            (try simp only [Act.put, zn1, zn2, zn3])
            refine tY (i := 32) (v := ?_) rfl ?_ hHeld ?_; rotate_left 1; focus (intro w' hSw; clear hSw; go_simp; try with_reducible rfl)
            (try simp only [Act.put, zn1, zn2, zn3])
            refine tY (i := 33) (v := ?_) rfl ?_ hHeld ?_; rotate_left 1; focus (intro w' hSw; clear hSw; go_simp; try with_reducible rfl)
            (try simp only [Act.put, zn1, zn2, zn3])
            refine wpAnyH_done (by kernel_rfl) ?_ _
            go_wp2_with fail
            go_meet
            exact ⟨by rw [HC.out], hHeld⟩
          · by_cases h3 : tx < t
            · have HC := Lib.hid (show condJ l (s, t) k = true from hcl.trans (ltJ_t h2 h3))
              have d3 : decide (tx < t) = true := by simpa using h3
              clear hcl h3
              try go_wp2_with fail
              refine wp_region_held_drew (S := fun w' => Below w2.heap.size w2 w') (by kernel_rfl) (Below.drew (Below.refl _ _)) (fun hHeld => ?_)
              refine tY (i := 0) (v := ?_) rfl ?_ hHeld ?_; rotate_left 1; focus (intro w' hSw; clear hSw; go_simp; try with_reducible rfl)
              (try simp only [Act.put, zn1, zn2, zn3])
              refine tY (i := 1) (v := ?_) rfl ?_ hHeld ?_; rotate_left 1; focus (intro w' hSw; clear hSw; go_simp; try with_reducible rfl)
              (try simp only [Act.put, zn1, zn2, zn3])
              refine tY (i := 2) (v := ?_) rfl ?_ hHeld ?_; rotate_left 1; focus (intro w' hSw; clear hSw; go_simp; try with_reducible rfl)
              (try simp only [Act.put, zn1, zn2, zn3])
              refine tY (i := 3) (v := ?_) rfl ?_ hHeld ?_; rotate_left 1; focus (intro w' hSw; clear hSw; go_simp; try with_reducible rfl)
              (try simp only [Act.put, zn1, zn2, zn3])
              refine tY (i := 4) (v := ?_) rfl ?_ hHeld ?_; rotate_left 1; focus (intro w' hSw; clear hSw; go_simp; try with_reducible rfl)
              (try simp only [Act.put, zn1, zn2, zn3])
              refine tY (i := 5) (v := ?_) rfl ?_ hHeld ?_; rotate_left 1; focus (intro w' hSw; clear hSw; go_simp; try with_reducible rfl)
              (try simp only [Act.put, zn1, zn2, zn3])
              refine tY (i := 6) (v := ?_) rfl ?_ hHeld ?_; rotate_left 1; focus (intro w' hSw; clear hSw; go_simp; try with_reducible rfl)
              (try simp only [Act.put, zn1, zn2, zn3])
              refine tY (i := 7) (v := ?_) rfl ?_ hHeld ?_; rotate_left 1; focus (intro w' hSw; clear hSw; go_simp; try with_reducible rfl)
              (try simp only [Act.put, zn1, zn2, zn3])
              refine tY (i := 8) (v := ?_) rfl ?_ hHeld ?_; rotate_left 1; focus (intro w' hSw; clear hSw; go_simp; try with_reducible rfl)
              (try simp only [Act.put, zn1, zn2, zn3])
              refine tY (i := 9) (v := ?_) rfl ?_ hHeld ?_; rotate_left 1; focus (intro w' hSw; have hCell := fun (b o : Nat) (h : b < w2.heap.size) => hSw.cell (p := ⟨b, o, none⟩) h; clear hSw; go_simp; try with_reducible rfl)
              (try simp only [Act.put, zn1, zn2, zn3])
              refine tY (i := 10) (v := ?_) rfl ?_ hHeld ?_; rotate_left 1; focus (intro w' hSw; clear hSw; go_simp; try with_reducible rfl)
              (try simp only [Act.put, zn1, zn2, zn3])
              refine tY (i := 11) (v := ?_) rfl ?_ hHeld ?_; rotate_left 1; focus (intro w' hSw; have hCell := fun (b o : Nat) (h : b < w2.heap.size) => hSw.cell (p := ⟨b, o, none⟩) h; clear hSw; go_simp; try with_reducible rfl)
              (try simp only [Act.put, zn1, zn2, zn3])
              refine tY (i := 12) (v := ?_) rfl ?_ hHeld ?_; rotate_left 1; focus (intro w' hSw; clear hSw; go_simp; try with_reducible rfl)
              (try simp only [Act.put, zn1, zn2, zn3])
              refine tY (i := 13) (v := ?_) rfl ?_ hHeld ?_; rotate_left 1; focus (intro w' hSw; clear hSw; go_simp; try with_reducible rfl)
              (try simp only [Act.put, zn1, zn2, zn3])
              refine tY (i := 14) (v := ?_) rfl ?_ hHeld ?_; rotate_left 1; focus (intro w' hSw; clear hSw; go_simp; try with_reducible rfl)
              (try simp only [Act.put, zn1, zn2, zn3])
              refine tY (i := 15) (v := ?_) rfl ?_ hHeld ?_; rotate_left 1; focus (intro w' hSw; clear hSw; go_simp; try with_reducible rfl)
              (try simp only [Act.put, zn1, zn2, zn3])
              refine tY (i := 16) (v := ?_) rfl ?_ hHeld ?_; rotate_left 1; focus (intro w' hSw; clear hSw; go_simp; try with_reducible rfl)
              (try simp only [Act.put, zn1, zn2, zn3])
              refine tY (i := 17) (v := ?_) rfl ?_ hHeld ?_; rotate_left 1; focus (intro w' hSw; clear hSw; go_simp; try with_reducible rfl)
              (try simp only [Act.put, zn1, zn2, zn3])
              refine tY (i := 18) (v := ?_) rfl ?_ hHeld ?_; rotate_left 1; focus (intro w' hSw; have hCell := fun (b o : Nat) (h : b < w2.heap.size) => hSw.cell (p := ⟨b, o, none⟩) h; clear hSw; go_simp; try with_reducible rfl)
              (try simp only [Act.put, zn1, zn2, zn3])
              refine tY (i := 19) (v := ?_) rfl ?_ hHeld ?_; rotate_left 1; focus (intro w' hSw; clear hSw; go_simp; try with_reducible rfl)
              (try simp only [Act.put, zn1, zn2, zn3])
              refine tY (i := 20) (v := ?_) rfl ?_ hHeld ?_; rotate_left 1; focus (intro w' hSw; have hCell := fun (b o : Nat) (h : b < w2.heap.size) => hSw.cell (p := ⟨b, o, none⟩) h; clear hSw; go_simp; try with_reducible rfl)
              (try simp only [Act.put, zn1, zn2, zn3])
              refine tY (i := 21) (v := ?_) rfl ?_ hHeld ?_; rotate_left 1; focus (intro w' hSw; clear hSw; go_simp; try with_reducible rfl)
              (try simp only [Act.put, zn1, zn2, zn3])
              refine tY (i := 22) (v := ?_) rfl ?_ hHeld ?_; rotate_left 1; focus (intro w' hSw; clear hSw; go_simp; try with_reducible rfl)
              (try simp only [Act.put, zn1, zn2, zn3])
              refine tY (i := 23) (v := ?_) rfl ?_ hHeld ?_; rotate_left 1; focus (intro w' hSw; clear hSw; go_simp; try with_reducible rfl)
              (try simp only [Act.put, zn1, zn2, zn3])
              refine tY (i := 24) (v := ?_) rfl ?_ hHeld ?_; rotate_left 1; focus (intro w' hSw; clear hSw; go_simp; try with_reducible rfl)
              (try simp only [Act.put, zn1, zn2, zn3])
              refine tY (i := 25) (v := ?_) rfl ?_ hHeld ?_; rotate_left 1; focus (intro w' hSw; clear hSw; go_simp; try with_reducible rfl)
              (try simp only [Act.put, zn1, zn2, zn3])
              refine tY (i := 26) (v := ?_) rfl ?_ hHeld ?_; rotate_left 1; focus (intro w' hSw; clear hSw; go_simp; try with_reducible rfl)
              (try simp only [Act.put, zn1, zn2, zn3])
              refine tY (i := 27) (v := ?_) rfl ?_ hHeld ?_; rotate_left 1; focus (intro w' hSw; have hCell := fun (b o : Nat) (h : b < w2.heap.size) => hSw.cell (p := ⟨b, o, none⟩) h; clear hSw; go_simp; try with_reducible rfl)
              (try simp only [Act.put, zn1, zn2, zn3])
              refine tY (i := 28) (v := ?_) rfl ?_ hHeld ?_; rotate_left 1; focus (intro w' hSw; clear hSw; go_simp; try with_reducible rfl)
              (try simp only [Act.put, zn1, zn2, zn3])
              refine tY (i := 29) (v := ?_) rfl ?_ hHeld ?_; rotate_left 1; focus (intro w' hSw; have hCell := fun (b o : Nat) (h : b < w2.heap.size) => hSw.cell (p := ⟨b, o, none⟩) h; clear hSw; go_simp; try with_reducible rfl)
              (try simp only [Act.put, zn1, zn2, zn3])
              refine tY (i := 30) (v := ?_) rfl ?_ hHeld ?_; rotate_left 1; focus (intro w' hSw; clear hSw; go_simp; try with_reducible rfl)
              (try simp only [Act.put, zn1, zn2, zn3])
              refine tY (i := 31) (v := ?_) rfl ?_ hHeld ?_; rotate_left 1; focus (intro w' hSw; clear hSw; go_simp; try with_reducible rfl)
              (try simp only [Act.put, zn1, zn2, zn3])
              refine tY (i := 32) (v := ?_) rfl ?_ hHeld ?_; rotate_left 1; focus (intro w' hSw; clear hSw; go_simp; try with_reducible rfl)
              (try simp only [Act.put, zn1, zn2, zn3])
              refine tY (i := 33) (v := ?_) rfl ?_ hHeld ?_; rotate_left 1; focus (intro w' hSw; clear hSw; go_simp; try with_reducible rfl)
              (try simp only [Act.put, zn1, zn2, zn3])
              refine wpAnyH_done (by kernel_rfl) ?_ _
              go_wp2_with fail
              go_meet
              exact ⟨by rw [HC.out], hHeld⟩
            · have HC := Lib.hid (show condJ l (s, t) k = false from hcl.trans (ltJ_m h1 h3))
              have d3 : decide (tx < t) = false := by simpa using h3
              clear hcl h3
              try go_wp2_with fail
              refine wp_region_held_drew (S := fun w' => Below w2.heap.size w2 w') (by kernel_rfl) (Below.drew (Below.refl _ _)) (fun hHeld => ?_)
              refine tY (i := 0) (v := ?_) rfl ?_ hHeld ?_; rotate_left 1; focus (intro w' hSw; clear hSw; go_simp; try with_reducible rfl)
              (try simp only [Act.put, zn1, zn2, zn3])
              refine tY (i := 1) (v := ?_) rfl ?_ hHeld ?_; rotate_left 1; focus (intro w' hSw; clear hSw; go_simp; try with_reducible rfl)
              (try simp only [Act.put, zn1, zn2, zn3])
              refine tY (i := 2) (v := ?_) rfl ?_ hHeld ?_; rotate_left 1; focus (intro w' hSw; clear hSw; go_simp; try with_reducible rfl)
              (try simp only [Act.put, zn1, zn2, zn3])
              refine tY (i := 3) (v := ?_) rfl ?_ hHeld ?_; rotate_left 1; focus (intro w' hSw; clear hSw; go_simp; try with_reducible rfl)
              (try simp only [Act.put, zn1, zn2, zn3])
              refine tY (i := 4) (v := ?_) rfl ?_ hHeld ?_; rotate_left 1; focus (intro w' hSw; clear hSw; go_simp; try with_reducible rfl)
              (try simp only [Act.put, zn1, zn2, zn3])
              refine tY (i := 5) (v := ?_) rfl ?_ hHeld ?_; rotate_left 1; focus (intro w' hSw; clear hSw; go_simp; try with_reducible rfl)
              (try simp only [Act.put, zn1, zn2, zn3])
              refine tY (i := 6) (v := ?_) rfl ?_ hHeld ?_; rotate_left 1; focus (intro w' hSw; clear hSw; go_simp; try with_reducible rfl)
              (try simp only [Act.put, zn1, zn2, zn3])
              refine tY (i := 7) (v := ?_) rfl ?_ hHeld ?_; rotate_left 1; focus (intro w' hSw; clear hSw; go_simp; try with_reducible rfl)
              (try simp only [Act.put, zn1, zn2, zn3])
              refine tY (i := 8) (v := ?_) rfl ?_ hHeld ?_; rotate_left 1; focus (intro w' hSw; clear hSw; go_simp; try with_reducible rfl)
              (try simp only [Act.put, zn1, zn2, zn3])
              refine tY (i := 9) (v := ?_) rfl ?_ hHeld ?_; rotate_left 1; focus (intro w' hSw; have hCell := fun (b o : Nat) (h : b < w2.heap.size) => hSw.cell (p := ⟨b, o, none⟩) h; clear hSw; go_simp; try with_reducible rfl)
              (try simp only [Act.put, zn1, zn2, zn3])
              refine tY (i := 10) (v := ?_) rfl ?_ hHeld ?_; rotate_left 1; focus (intro w' hSw; clear hSw; go_simp; try with_reducible rfl)
              (try simp only [Act.put, zn1, zn2, zn3])
              refine tY (i := 11) (v := ?_) rfl ?_ hHeld ?_; rotate_left 1; focus (intro w' hSw; have hCell := fun (b o : Nat) (h : b < w2.heap.size) => hSw.cell (p := ⟨b, o, none⟩) h; clear hSw; go_simp; try with_reducible rfl)
              (try simp only [Act.put, zn1, zn2, zn3])
              refine tY (i := 12) (v := ?_) rfl ?_ hHeld ?_; rotate_left 1; focus (intro w' hSw; clear hSw; go_simp; try with_reducible rfl)
              (try simp only [Act.put, zn1, zn2, zn3])
              refine tY (i := 13) (v := ?_) rfl ?_ hHeld ?_; rotate_left 1; focus (intro w' hSw; clear hSw; go_simp; try with_reducible rfl)
              (try simp only [Act.put, zn1, zn2, zn3])
              refine tY (i := 14) (v := ?_) rfl ?_ hHeld ?_; rotate_left 1; focus (intro w' hSw; clear hSw; go_simp; try with_reducible rfl)
              (try simp only [Act.put, zn1, zn2, zn3])
              refine tY (i := 15) (v := ?_) rfl ?_ hHeld ?_; rotate_left 1; focus (intro w' hSw; clear hSw; go_simp; try with_reducible rfl)
              (try simp only [Act.put, zn1, zn2, zn3])
              refine tY (i := 16) (v := ?_) rfl ?_ hHeld ?_; rotate_left 1; focus (intro w' hSw; clear hSw; go_simp; try with_reducible rfl)
              (try simp only [Act.put, zn1, zn2, zn3])
              refine tY (i := 17) (v := ?_) rfl ?_ hHeld ?_; rotate_left 1; focus (intro w' hSw; clear hSw; go_simp; try with_reducible rfl)
              (try simp only [Act.put, zn1, zn2, zn3])
              refine tY (i := 18) (v := ?_) rfl ?_ hHeld ?_; rotate_left 1; focus (intro w' hSw; have hCell := fun (b o : Nat) (h : b < w2.heap.size) => hSw.cell (p := ⟨b, o, none⟩) h; clear hSw; go_simp; try with_reducible rfl)
              (try simp only [Act.put, zn1, zn2, zn3])
              refine tY (i := 19) (v := ?_) rfl ?_ hHeld ?_; rotate_left 1; focus (intro w' hSw; clear hSw; go_simp; try with_reducible rfl)
              (try simp only [Act.put, zn1, zn2, zn3])
              refine tY (i := 20) (v := ?_) rfl ?_ hHeld ?_; rotate_left 1; focus (intro w' hSw; have hCell := fun (b o : Nat) (h : b < w2.heap.size) => hSw.cell (p := ⟨b, o, none⟩) h; clear hSw; go_simp; try with_reducible rfl)
              (try simp only [Act.put, zn1, zn2, zn3])
              refine tY (i := 21) (v := ?_) rfl ?_ hHeld ?_; rotate_left 1; focus (intro w' hSw; clear hSw; go_simp; try with_reducible rfl)
              (try simp only [Act.put, zn1, zn2, zn3])
              refine tY (i := 22) (v := ?_) rfl ?_ hHeld ?_; rotate_left 1; focus (intro w' hSw; clear hSw; go_simp; try with_reducible rfl)
              (try simp only [Act.put, zn1, zn2, zn3])
              refine tY (i := 23) (v := ?_) rfl ?_ hHeld ?_; rotate_left 1; focus (intro w' hSw; clear hSw; go_simp; try with_reducible rfl)
              (try simp only [Act.put, zn1, zn2, zn3])
              refine tY (i := 24) (v := ?_) rfl ?_ hHeld ?_; rotate_left 1; focus (intro w' hSw; clear hSw; go_simp; try with_reducible rfl)
              (try simp only [Act.put, zn1, zn2, zn3])
              refine tY (i := 25) (v := ?_) rfl ?_ hHeld ?_; rotate_left 1; focus (intro w' hSw; clear hSw; go_simp; try with_reducible rfl)
              (try simp only [Act.put, zn1, zn2, zn3])
              refine tY (i := 26) (v := ?_) rfl ?_ hHeld ?_; rotate_left 1; focus (intro w' hSw; clear hSw; go_simp; try with_reducible rfl)
              (try simp only [Act.put, zn1, zn2, zn3])
              refine tY (i := 27) (v := ?_) rfl ?_ hHeld ?_; rotate_left 1; focus (intro w' hSw; have hCell := fun (b o : Nat) (h : b < w2.heap.size) => hSw.cell (p := ⟨b, o, none⟩) h; clear hSw; go_simp; try with_reducible rfl)
              (try simp only [Act.put, zn1, zn2, zn3])
              refine tY (i := 28) (v := ?_) rfl ?_ hHeld ?_; rotate_left 1; focus (intro w' hSw; clear hSw; go_simp; try with_reducible rfl)
              (try simp only [Act.put, zn1, zn2, zn3])
              refine tY (i := 29) (v := ?_) rfl ?_ hHeld ?_; rotate_left 1; focus (intro w' hSw; have hCell := fun (b o : Nat) (h : b < w2.heap.size) => hSw.cell (p := ⟨b, o, none⟩) h; clear hSw; go_simp; try with_reducible rfl)
              (try simp only [Act.put, zn1, zn2, zn3])
              refine tY (i := 30) (v := ?_) rfl ?_ hHeld ?_; rotate_left 1; focus (intro w' hSw; clear hSw; go_simp; try with_reducible rfl)
              (try simp only [Act.put, zn1, zn2, zn3])
              refine tY (i := 31) (v := ?_) rfl ?_ hHeld ?_; rotate_left 1; focus (intro w' hSw; clear hSw; go_simp; try with_reducible rfl)
              (try simp only [Act.put, zn1, zn2, zn3])
              refine tY (i := 32) (v := ?_) rfl ?_ hHeld ?_; rotate_left 1; focus (intro w' hSw; clear hSw; go_simp; try with_reducible rfl)
              (try simp only [Act.put, zn1, zn2, zn3])
              refine tY (i := 33) (v := ?_) rfl ?_ hHeld ?_; rotate_left 1; focus (intro w' hSw; clear hSw; go_simp; try with_reducible rfl)
              (try simp only [Act.put, zn1, zn2, zn3])
              refine wpAnyH_done (by kernel_rfl) ?_ _
              go_wp2_with fail
              go_meet
              exact ⟨by rw [HC.out], hHeld⟩
        · have HC := Lib.hid (show condJ l (s, t) k = true from hcl.trans (ltJ_s h1))
          clear hcl
          try go_wp2_with fail
          refine wp_region_held_drew (S := fun w' => Below w2.heap.size w2 w') (by kernel_rfl) (Below.drew (Below.refl _ _)) (fun hHeld => ?_)
          refine tY (i := 0) (v := ?_) rfl ?_ hHeld ?_; rotate_left 1; focus (intro w' hSw; clear hSw; go_simp; try with_reducible rfl)
          (try simp only [Act.put, zn1, zn2, zn3])
          refine tY (i := 1) (v := ?_) rfl ?_ hHeld ?_; rotate_left 1; focus (intro w' hSw; clear hSw; go_simp; try with_reducible rfl)
          (try simp only [Act.put, zn1, zn2, zn3])
          refine tY (i := 2) (v := ?_) rfl ?_ hHeld ?_; rotate_left 1; focus (intro w' hSw; clear hSw; go_simp; try with_reducible rfl)
          (try simp only [Act.put, zn1, zn2, zn3])
          refine tY (i := 3) (v := ?_) rfl ?_ hHeld ?_; rotate_left 1; focus (intro w' hSw; clear hSw; go_simp; try with_reducible rfl)
          (try simp only [Act.put, zn1, zn2, zn3])
          refine tY (i := 4) (v := ?_) rfl ?_ hHeld ?_; rotate_left 1; focus (intro w' hSw; clear hSw; go_simp; try with_reducible rfl)
          (try simp only [Act.put, zn1, zn2, zn3])
          refine tY (i := 5) (v := ?_) rfl ?_ hHeld ?_; rotate_left 1; focus (intro w' hSw; clear hSw; go_simp; try with_reducible rfl)
          (try simp only [Act.put, zn1, zn2, zn3])
          refine tY (i := 6) (v := ?_) rfl ?_ hHeld ?_; rotate_left 1; focus (intro w' hSw; clear hSw; go_simp; try with_reducible rfl)
          (try simp only [Act.put, zn1, zn2, zn3])
          refine tY (i := 7) (v := ?_) rfl ?_ hHeld ?_; rotate_left 1; focus (intro w' hSw; clear hSw; go_simp; try with_reducible rfl)
          (try simp only [Act.put, zn1, zn2, zn3])
          refine tY (i := 8) (v := ?_) rfl ?_ hHeld ?_; rotate_left 1; focus (intro w' hSw; clear hSw; go_simp; try with_reducible rfl)
          (try simp only [Act.put, zn1, zn2, zn3])
          refine tY (i := 9) (v := ?_) rfl ?_ hHeld ?_; rotate_left 1; focus (intro w' hSw; have hCell := fun (b o : Nat) (h : b < w2.heap.size) => hSw.cell (p := ⟨b, o, none⟩) h; clear hSw; go_simp; try with_reducible rfl)
          (try simp only [Act.put, zn1, zn2, zn3])
          refine tY (i := 10) (v := ?_) rfl ?_ hHeld ?_; rotate_left 1; focus (intro w' hSw; clear hSw; go_simp; try with_reducible rfl)
          (try simp only [Act.put, zn1, zn2, zn3])
          refine tY (i := 11) (v := ?_) rfl ?_ hHeld ?_; rotate_left 1; focus (intro w' hSw; have hCell := fun (b o : Nat) (h : b < w2.heap.size) => hSw.cell (p := ⟨b, o, none⟩) h; clear hSw; go_simp; try with_reducible rfl)
          (try simp only [Act.put, zn1, zn2, zn3])
          refine tY (i := 12) (v := ?_) rfl ?_ hHeld ?_; rotate_left 1; focus (intro w' hSw; clear hSw; go_simp; try with_reducible rfl)
          (try simp only [Act.put, zn1, zn2, zn3])
          refine tY (i := 13) (v := ?_) rfl ?_ hHeld ?_; rotate_left 1; focus (intro w' hSw; clear hSw; go_simp; try with_reducible rfl)
          (try simp only [Act.put, zn1, zn2, zn3])
          refine tS (i := 14) rfl hHeld ?_; (try simp only [Act.put, zn1, zn2, zn3])
          refine tS (i := 15) rfl hHeld ?_; (try simp only [Act.put, zn1, zn2, zn3])
          refine tS (i := 16) rfl hHeld ?_; (try simp only [Act.put, zn1, zn2, zn3])
          refine tS (i := 17) rfl hHeld ?_; (try simp only [Act.put, zn1, zn2, zn3])
          refine tS (i := 18) rfl hHeld ?_; (try simp only [Act.put, zn1, zn2, zn3])
          refine tS (i := 19) rfl hHeld ?_; (try simp only [Act.put, zn1, zn2, zn3])
          refine tS (i := 20) rfl hHeld ?_; (try simp only [Act.put, zn1, zn2, zn3])
          refine tS (i := 21) rfl hHeld ?_; (try simp only [Act.put, zn1, zn2, zn3])
          refine tS (i := 22) rfl hHeld ?_; (try simp only [Act.put, zn1, zn2, zn3])
          refine tS (i := 23) rfl hHeld ?_; (try simp only [Act.put, zn1, zn2, zn3])
          refine tS (i := 24) rfl hHeld ?_; (try simp only [Act.put, zn1, zn2, zn3])
          refine tS (i := 25) rfl hHeld ?_; (try simp only [Act.put, zn1, zn2, zn3])
          refine tS (i := 26) rfl hHeld ?_; (try simp only [Act.put, zn1, zn2, zn3])
          refine tS (i := 27) rfl hHeld ?_; (try simp only [Act.put, zn1, zn2, zn3])
          refine tS (i := 28) rfl hHeld ?_; (try simp only [Act.put, zn1, zn2, zn3])
          refine tS (i := 29) rfl hHeld ?_; (try simp only [Act.put, zn1, zn2, zn3])
          refine tS (i := 30) rfl hHeld ?_; (try simp only [Act.put, zn1, zn2, zn3])
          refine tS (i := 31) rfl hHeld ?_; (try simp only [Act.put, zn1, zn2, zn3])
          refine tY (i := 32) (v := ?_) rfl ?_ hHeld ?_; rotate_left 1; focus (intro w' hSw; clear hSw; go_simp; try with_reducible rfl)
          (try simp only [Act.put, zn1, zn2, zn3])
          refine tY (i := 33) (v := ?_) rfl ?_ hHeld ?_; rotate_left 1; focus (intro w' hSw; clear hSw; go_simp; try with_reducible rfl)
          (try simp only [Act.put, zn1, zn2, zn3])
          refine wpAnyH_done (by kernel_rfl) ?_ _
          go_wp2_with fail
          go_meet
          exact ⟨by rw [HC.out], hHeld⟩
      · have HC := Lib.hid (condJ_ge (j := (s, t)) hlt)
        have d1 : decide (k < l.length) = false := by simpa using hlt
        try go_wp2_with fail
        refine wp_region_held_drew (S := fun w' => Below w2.heap.size w2 w') (by kernel_rfl) (Below.drew (Below.refl _ _)) (fun hHeld => ?_)
        refine tY (i := 0) (v := ?_) rfl ?_ hHeld ?_; rotate_left 1; focus (intro w' hSw; clear hSw; go_simp; try with_reducible rfl)
        (try simp only [Act.put, zn1, zn2, zn3])
        refine tY (i := 1) (v := ?_) rfl ?_ hHeld ?_; rotate_left 1; focus (intro w' hSw; clear hSw; go_simp; try with_reducible rfl)
        (try simp only [Act.put, zn1, zn2, zn3])
        refine tY (i := 2) (v := ?_) rfl ?_ hHeld ?_; rotate_left 1; focus (intro w' hSw; clear hSw; go_simp; try with_reducible rfl)
        (try simp only [Act.put, zn1, zn2, zn3])
        refine tY (i := 3) (v := ?_) rfl ?_ hHeld ?_; rotate_left 1; focus (intro w' hSw; clear hSw; go_simp; try with_reducible rfl)
        (try simp only [Act.put, zn1, zn2, zn3])
        refine tY (i := 4) (v := ?_) rfl ?_ hHeld ?_; rotate_left 1; focus (intro w' hSw; clear hSw; go_simp; try with_reducible rfl)
        (try simp only [Act.put, zn1, zn2, zn3])
        refine tS (i := 5) rfl hHeld ?_; (try simp only [Act.put, zn1, zn2, zn3])
        refine tS (i := 6) rfl hHeld ?_; (try simp only [Act.put, zn1, zn2, zn3])
        refine tS (i := 7) rfl hHeld ?_; (try simp only [Act.put, zn1, zn2, zn3])
        refine tS (i := 8) rfl hHeld ?_; (try simp only [Act.put, zn1, zn2, zn3])
        refine tS (i := 9) rfl hHeld ?_; (try simp only [Act.put, zn1, zn2, zn3])
        refine tS (i := 10) rfl hHeld ?_; (try simp only [Act.put, zn1, zn2, zn3])
        refine tS (i := 11) rfl hHeld ?_; (try simp only [Act.put, zn1, zn2, zn3])
        refine tS (i := 12) rfl hHeld ?_; (try simp only [Act.put, zn1, zn2, zn3])
        refine tS (i := 13) rfl hHeld ?_; (try simp only [Act.put, zn1, zn2, zn3])
        refine tS (i := 14) rfl hHeld ?_; (try simp only [Act.put, zn1, zn2, zn3])
        refine tS (i := 15) rfl hHeld ?_; (try simp only [Act.put, zn1, zn2, zn3])
        refine tS (i := 16) rfl hHeld ?_; (try simp only [Act.put, zn1, zn2, zn3])
        refine tS (i := 17) rfl hHeld ?_; (try simp only [Act.put, zn1, zn2, zn3])
        refine tS (i := 18) rfl hHeld ?_; (try simp only [Act.put, zn1, zn2, zn3])
        refine tS (i := 19) rfl hHeld ?_; (try simp only [Act.put, zn1, zn2, zn3])
        refine tS (i := 20) rfl hHeld ?_; (try simp only [Act.put, zn1, zn2, zn3])
        refine tS (i := 21) rfl hHeld ?_; (try simp only [Act.put, zn1, zn2, zn3])
        refine tS (i := 22) rfl hHeld ?_; (try simp only [Act.put, zn1, zn2, zn3])
        refine tS (i := 23) rfl hHeld ?_; (try simp only [Act.put, zn1, zn2, zn3])
        refine tS (i := 24) rfl hHeld ?_; (try simp only [Act.put, zn1, zn2, zn3])
        refine tS (i := 25) rfl hHeld ?_; (try simp only [Act.put, zn1, zn2, zn3])
        refine tS (i := 26) rfl hHeld ?_; (try simp only [Act.put, zn1, zn2, zn3])
        refine tS (i := 27) rfl hHeld ?_; (try simp only [Act.put, zn1, zn2, zn3])
        refine tS (i := 28) rfl hHeld ?_; (try simp only [Act.put, zn1, zn2, zn3])
        refine tS (i := 29) rfl hHeld ?_; (try simp only [Act.put, zn1, zn2, zn3])
        refine tS (i := 30) rfl hHeld ?_; (try simp only [Act.put, zn1, zn2, zn3])
        refine tS (i := 31) rfl hHeld ?_; (try simp only [Act.put, zn1, zn2, zn3])
        refine tS (i := 32) rfl hHeld ?_; (try simp only [Act.put, zn1, zn2, zn3])
        refine tY (i := 33) (v := ?_) rfl ?_ hHeld ?_; rotate_left 1; focus (intro w' hSw; clear hSw; go_simp; try with_reducible rfl)
        (try simp only [Act.put, zn1, zn2, zn3])
        refine wpAnyH_done (by kernel_rfl) ?_ _
        go_wp2_with fail
        go_meet
        exact ⟨by rw [HC.out], hHeld⟩
    case rest =>
      obtain ⟨rfl, hb⟩ := hcut
      have HB2 := Lib.hid (lift HBr.out hb)
      replace j0 := cellAt j0 hb (by omega)
      replace j1 := cellAt j1 hb (by omega)
      replace Hr := Lib.hid (Hr.out.at hb)
      replace n1 : w.heap.size < wc.heap.size := ltAt n1 hb
      clear hb
      cases hcd : condJ l (s, t) k
      · have HGe := Lib.hid (show ∀ h : k < l.length, ltJ l[k] (s, t) = false from fun h => by rw [← condJ_lt h]; exact hcd)
        clear hcd
        have HB4 := Lib.hid (lift HB1.out HB2.out)
        go_wp2_with fail
        by_cases hlt : k < l.length
        · obtain ⟨b, o, hA, hB, x0, x1⟩ := Hr.out.jp hlt
          have hlk : l[k]? = some l[k] := List.getElem?_eq_getElem hlt
          subst hA
          generalize l[k] = x at x0 x1 hlk
          obtain ⟨sx, tx⟩ := x
          simp only at x0 x1
          have i1 : (0 : Int) ≤ (k : Int) := by omega
          have i2 : (k : Int) < (l.length : Int) := by omega
          have d1 : decide (k < l.length) = true := by simpa using hlt
          have HLk0 := Lib.hid hlk
          clear hlk
          cases he : (sx == s && tx == t)
          · have HNe := Lib.hid (show ¬ l[k]? = some (s, t) by rw [HLk0.out]; intro e; injection e with e; injection e with e1 e2; rw [e1, e2] at he; simp at he)
            try go_wp2_with fail
            refine wp_region_held_drew (S := fun w' => Below wc.heap.size wc w') (by kernel_rfl) (Below.drew (Below.refl _ _)) (fun hHeld => ?_)
            refine tY (i := 0) (v := ?_) rfl ?_ hHeld ?_; rotate_left 1; focus (intro w' hSw; clear hSw; go_simp; try with_reducible rfl)
            (try simp only [Act.put, zn1, zn2, zn3])
            refine tY (i := 1) (v := ?_) rfl ?_ hHeld ?_; rotate_left 1; focus (intro w' hSw; clear hSw; go_simp; try with_reducible rfl)
            (try simp only [Act.put, zn1, zn2, zn3])
            refine tY (i := 2) (v := ?_) rfl ?_ hHeld ?_; rotate_left 1; focus (intro w' hSw; clear hSw; go_simp; try with_reducible rfl)
            (try simp only [Act.put, zn1, zn2, zn3])
            refine tY (i := 3) (v := ?_) rfl ?_ hHeld ?_; rotate_left 1; focus (intro w' hSw; clear hSw; go_simp; try with_reducible rfl)
            (try simp only [Act.put, zn1, zn2, zn3])
            refine tY (i := 4) (v := ?_) rfl ?_ hHeld ?_; rotate_left 1; focus (intro w' hSw; clear hSw; go_simp; try with_reducible rfl)
            (try simp only [Act.put, zn1, zn2, zn3])
            refine tY (i := 5) (v := ?_) rfl ?_ hHeld ?_; rotate_left 1; focus (intro w' hSw; clear hSw; go_simp; try with_reducible rfl)
            (try simp only [Act.put, zn1, zn2, zn3])
            refine tY (i := 6) (v := ?_) rfl ?_ hHeld ?_; rotate_left 1; focus (intro w' hSw; clear hSw; go_simp; try with_reducible rfl)
            (try simp only [Act.put, zn1, zn2, zn3])
            refine tY (i := 7) (v := ?_) rfl ?_ hHeld ?_; rotate_left 1; focus (intro w' hSw; clear hSw; go_simp; try with_reducible rfl)
            (try simp only [Act.put, zn1, zn2, zn3])
            refine tY (i := 8) (v := ?_) rfl ?_ hHeld ?_; rotate_left 1; focus (intro w' hSw; have hCell := fun (b o : Nat) (h : b < wc.heap.size) => hSw.cell (p := ⟨b, o, none⟩) h; clear hSw; go_simp; try with_reducible rfl)
            (try simp only [Act.put, zn1, zn2, zn3])
            refine tY (i := 9) (v := ?_) rfl ?_ hHeld ?_; rotate_left 1; focus (intro w' hSw; have hCell := fun (b o : Nat) (h : b < wc.heap.size) => hSw.cell (p := ⟨b, o, none⟩) h; clear hSw; go_simp; try with_reducible rfl)
            (try simp only [Act.put, zn1, zn2, zn3])
            refine tY (i := 10) (v := ?_) rfl ?_ hHeld ?_; rotate_left 1; focus (intro w' hSw; clear hSw; go_simp; try with_reducible rfl)
            (try simp only [Act.put, zn1, zn2, zn3])
            refine tY (i := 11) (v := ?_) rfl ?_ hHeld ?_; rotate_left 1; focus (intro w' hSw; clear hSw; go_simp; try with_reducible rfl)
            (try simp only [Act.put, zn1, zn2, zn3])
            refine wpAnyH_done (by kernel_rfl) ?_ _
            clear hHeld x0 x1
            go_upto_region 6 with fail
            first | (refine wp_named ?_; intro W3 hW) | (refine calls_named ?_; intro W3 hW)
            have B3 : Below wc.heap.size wc W3 := by rw [hW]; exact (by repeat (first | exact Below.refl _ _ | assumption | refine Below.alloc ?_ (by first | omega | (simp <;> omega)) _ | refine Below.setCell ?_ (by first | omega | (simp <;> omega)) _ | refine Below.drew ?_))
            replace j0 := cellAt j0 B3 (by omega)
            replace j1 := cellAt j1 B3 (by omega)
            replace Hr := Lib.hid (Hr.out.at B3)
            replace n1 : w.heap.size < W3.heap.size := ltAt n1 B3
            clear hW
            have HB3 := Lib.hid (lift HB4.out B3)
            clear B3
            have hins : insL ltJ (s, t) l = l.take k ++ (s, t) :: l.drop k := by rw [insL_cut l k hk HAll.out HGe.out, if_neg HNe.out]
            have HI := Lib.hid hins
            have HR1 := Lib.hid (Hr.out.takeA hk)
            have HR2 := Lib.hid (Hr.out.dropA hk hc)
            have hs1 := run_slice_full (P := Tryz.prog) Tryz.underlying89 hi (some ⟨b, o, none⟩) l.length c k (Nat.le_trans hk hc)
            have hs2 := run_slice_tail (P := Tryz.prog) Tryz.underlying89 hi (some ⟨b, o, none⟩) l.length c k hk
            rw [hz1] at hs1 hs2
            have HLk := Lib.hid (show (l.drop k).length = l.length - k from List.length_drop)
            clear hins
            try go_wp2_with fail
            refine wp_region_held_drew (S := fun w' => Below W3.heap.size W3 w') (by kernel_rfl) (Below.drew (Below.refl _ _)) (fun hHeld => ?_)
            refine tY (i := 0) (v := ?_) rfl ?_ hHeld ?_; rotate_left 1; focus (intro w' hSw; clear hSw; go_simp; try with_reducible rfl)
            (try simp only [Act.put, zn1, zn2, zn3])
            refine tY (i := 1) (v := ?_) rfl ?_ hHeld ?_; rotate_left 1; focus (intro w' hSw; clear hSw; go_simp; try with_reducible rfl)
            (try simp only [Act.put, zn1, zn2, zn3])
            refine tY (i := 2) (v := ?_) rfl ?_ hHeld ?_; rotate_left 1; focus (intro w' hSw; clear hSw; go_simp; try with_reducible rfl)
            (try simp only [Act.put, zn1, zn2, zn3])
            refine tY (i := 3) (v := ?_) rfl ?_ hHeld ?_; rotate_left 1; focus (intro w' hSw; clear hSw; go_simp; try with_reducible rfl)
            (try simp only [Act.put, zn1, zn2, zn3])
            refine tY (i := 4) (v := ?_) rfl ?_ hHeld ?_; rotate_left 1; focus (intro w' hSw; have hCell := fun (b o : Nat) (h : b < W3.heap.size) => hSw.cell (p := ⟨b, o, none⟩) h; clear hSw; go_simp; try with_reducible rfl)
            (try simp only [Act.put, zn1, zn2, zn3])
            refine tY (i := 6) (v := ?_) rfl ?_ hHeld ?_; rotate_left 1; focus (intro w' hSw; clear hSw; go_simp; try with_reducible rfl)
            (try simp only [Act.put, zn1, zn2, zn3])
            refine tY (i := 7) (v := ?_) rfl ?_ hHeld ?_; rotate_left 1; focus (intro w' hSw; clear hSw; go_simp; try with_reducible rfl)
            (try simp only [Act.put, zn1, zn2, zn3])
            refine tY (i := 8) (v := ?_) rfl ?_ hHeld ?_; rotate_left 1; focus (intro w' hSw; clear hSw; go_simp; try with_reducible rfl)
            (try simp only [Act.put, zn1, zn2, zn3])
            refine ready_one (i := 5) rfl (by kernel_rfl) (fun K hK => ?_)
            go_simp
            refine hK.out _ _ ?_ (fun hHeld2 => ?_)
            · (try dsimp only); first | exact hHeld | exact (by repeat (first | exact Below.refl _ _ | assumption | refine Below.alloc ?_ (by first | omega | (simp <;> omega)) _ | refine Below.setCell ?_ (by first | omega | (simp <;> omega)) _ | refine Below.drew ?_))
            clear hK K hHeld; have hHeld := hHeld2; clear hHeld2; (try simp only [Act.put, zn1, zn2, zn3])
            refine ready_one (i := 9) rfl (by kernel_rfl) (fun K hK => ?_)
            refine step_append_full (by rfl) (.tmp 60) (.tmp 63) 89 (by rfl) 86 i0 _ 2 24 Tryz.underlying89 hi hz0 hz1 hz2 rfl _ (some ⟨W3.heap.size, 0, none⟩) 1 (jpC (s, t)) (by rfl) (Rd.lit W3.drew (jpC (s, t)) 86 2 1 rfl) (Nat.le_refl _) _ _ (l.length - k) (c - k) _ (by rfl) (HR2.out.at' (Nat.le_refl _) hHeld) (one_drop (one_jpsC l) _) (by unfold maxLen; omega) (by omega) ?_
            intro A2 c2 v2 hc2 hr2 hb
            have HR3 := Lib.hid hr2
            clear hr2
            refine hK.out _ _ ?_ (fun hHeld2 => ?_)
            · (try dsimp only); first | exact Below.trans hHeld (Below.mono hb hHeld.size) | exact hHeld | exact Below.drew hHeld | exact (by repeat (first | exact Below.refl _ _ | assumption | refine Below.alloc ?_ (by first | omega | (simp <;> omega)) _ | refine Below.setCell ?_ (by first | omega | (simp <;> omega)) _ | refine Below.drew ?_))
            clear hK K hHeld; have hHeld := hHeld2; clear hHeld2; (try simp only [Act.put, zn1, zn2, zn3])
            refine ready_one (i := 10) rfl (by kernel_rfl) (fun K hK => ?_)
            refine step_append_fullo (by rfl) (.tmp 58) (.tmp 64) 89 (by rfl) 86 i0 _ 2 24 Tryz.underlying89 hi hz0 hz1 hz2 rfl _ _ k _ (by rfl) (HR1.out.at' (Nat.le_refl _) hHeld) (Nat.le_refl _) _ A2 (1 + (l.length - k)) c2 _ (by rfl) HR3.out (one_app (one_jpC (s, t)) (one_drop (one_jpsC l) _)) (by omega) (by unfold maxLen; omega) (by omega) ?_
            intro A3 c3 v3 hr3 hb
            have HR4 := Lib.hid (own_base hr3 hHeld.size)
            clear hr3
            refine hK.out _ _ ?_ (fun hHeld2 => ?_)
            · (try dsimp only); first | exact Below.trans hHeld (Below.mono hb hHeld.size) | exact hHeld | exact Below.drew hHeld | exact (by repeat (first | exact Below.refl _ _ | assumption | refine Below.alloc ?_ (by first | omega | (simp <;> omega)) _ | refine Below.setCell ?_ (by first | omega | (simp <;> omega)) _ | refine Below.drew ?_))
            clear hK K hHeld; have hHeld := hHeld2; clear hHeld2; (try simp only [Act.put, zn1, zn2, zn3])
            refine tY (i := 11) (v := ?_) rfl ?_ hHeld ?_; rotate_left 1; focus (intro w' hSw; clear hSw; go_simp; try with_reducible rfl)
            (try simp only [Act.put, zn1, zn2, zn3])
            refine wpAnyH_done (by kernel_rfl) ?_ _
            go_wp2_with fail
            go_ret
            have hl9 : k + (1 + (l.length - k)) = (insL ltJ (s, t) l).length := by rw [HI.out, List.length_append, List.length_cons, List.length_take, HLk.out]; omega
            have ho9 := own_base HR4.out HB3.out.size
            rw [show (jpsC l).take (k * 2) ++ (jpC (s, t) ++ (jpsC l).drop (k * 2)) = jpsC (insL ltJ (s, t) l) by rw [HI.out, jpsC_app, show jpsC ((s, t) :: l.drop k) = jpC (s, t) ++ jpsC (l.drop k) from by simp [jpsC], show jpsC (l.take k) = (jpsC l).take (k * 2) from flat_take jpC 2 jpC_len l k, show jpsC (l.drop k) = (jpsC l).drop (k * 2) from flat_drop jpC 2 jpC_len l k], hl9] at ho9
            rw [hl9]
            exact ⟨A3, c3, rfl, .inr ho9, lift HB3.out hHeld⟩
          · have hpos : l[k]? = some (s, t) := by
              rw [HLk0.out]
              rw [Bool.and_eq_true, beq_iff_eq, beq_iff_eq] at he
              rw [he.1, he.2]
            have HI := Lib.hid (show insL ltJ (s, t) l = l by rw [insL_cut l k hk HAll.out HGe.out, if_pos hpos])
            clear hpos
            try go_wp2_with fail
            refine wp_region_held_drew (S := fun w' => Below wc.heap.size wc w') (by kernel_rfl) (Below.drew (Below.refl _ _)) (fun hHeld => ?_)
            refine tY (i := 0) (v := ?_) rfl ?_ hHeld ?_; rotate_left 1; focus (intro w' hSw; clear hSw; go_simp; try with_reducible rfl)
            (try simp only [Act.put, zn1, zn2, zn3])
            refine tY (i := 1) (v := ?_) rfl ?_ hHeld ?_; rotate_left 1; focus (intro w' hSw; clear hSw; go_simp; try with_reducible rfl)
            (try simp only [Act.put, zn1, zn2, zn3])
            refine tY (i := 2) (v := ?_) rfl ?_ hHeld ?_; rotate_left 1; focus (intro w' hSw; clear hSw; go_simp; try with_reducible rfl)
            (try simp only [Act.put, zn1, zn2, zn3])
            refine tY (i := 3) (v := ?_) rfl ?_ hHeld ?_; rotate_left 1; focus (intro w' hSw; clear hSw; go_simp; try with_reducible rfl)
            (try simp only [Act.put, zn1, zn2, zn3])
            refine tY (i := 4) (v := ?_) rfl ?_ hHeld ?_; rotate_left 1; focus (intro w' hSw; clear hSw; go_simp; try with_reducible rfl)
            (try simp only [Act.put, zn1, zn2, zn3])
            refine tY (i := 5) (v := ?_) rfl ?_ hHeld ?_; rotate_left 1; focus (intro w' hSw; clear hSw; go_simp; try with_reducible rfl)
            (try simp only [Act.put, zn1, zn2, zn3])
            refine tY (i := 6) (v := ?_) rfl ?_ hHeld ?_; rotate_left 1; focus (intro w' hSw; clear hSw; go_simp; try with_reducible rfl)
            (try simp only [Act.put, zn1, zn2, zn3])
            refine tY (i := 7) (v := ?_) rfl ?_ hHeld ?_; rotate_left 1; focus (intro w' hSw; clear hSw; go_simp; try with_reducible rfl)
            (try simp only [Act.put, zn1, zn2, zn3])
            refine tY (i := 8) (v := ?_) rfl ?_ hHeld ?_; rotate_left 1; focus (intro w' hSw; have hCell := fun (b o : Nat) (h : b < wc.heap.size) => hSw.cell (p := ⟨b, o, none⟩) h; clear hSw; go_simp; try with_reducible rfl)
            (try simp only [Act.put, zn1, zn2, zn3])
            refine tY (i := 9) (v := ?_) rfl ?_ hHeld ?_; rotate_left 1; focus (intro w' hSw; have hCell := fun (b o : Nat) (h : b < wc.heap.size) => hSw.cell (p := ⟨b, o, none⟩) h; clear hSw; go_simp; try with_reducible rfl)
            (try simp only [Act.put, zn1, zn2, zn3])
            refine tY (i := 10) (v := ?_) rfl ?_ hHeld ?_; rotate_left 1; focus (intro w' hSw; clear hSw; go_simp; try with_reducible rfl)
            (try simp only [Act.put, zn1, zn2, zn3])
            refine tY (i := 11) (v := ?_) rfl ?_ hHeld ?_; rotate_left 1; focus (intro w' hSw; clear hSw; go_simp; try with_reducible rfl)
            (try simp only [Act.put, zn1, zn2, zn3])
            refine wpAnyH_done (by kernel_rfl) ?_ _
            have HB4 := Lib.hid (lift HB4.out hHeld)
            clear hHeld
            go_wp2_with fail
            go_ret
            exact ⟨_, c, by rw [HI.out]; rfl, .inl ⟨rfl, rfl, HI.out⟩, HB4.out⟩
        · have HNe := Lib.hid (show ¬ l[k]? = some (s, t) by rw [List.getElem?_eq_none (by omega)]; simp)
          have d1 : decide (k < l.length) = false := by simpa using hlt
          try go_wp2_with fail
          refine wp_region_held_drew (S := fun w' => Below wc.heap.size wc w') (by kernel_rfl) (Below.drew (Below.refl _ _)) (fun hHeld => ?_)
          refine tY (i := 0) (v := ?_) rfl ?_ hHeld ?_; rotate_left 1; focus (intro w' hSw; clear hSw; go_simp; try with_reducible rfl)
          (try simp only [Act.put, zn1, zn2, zn3])
          refine tY (i := 1) (v := ?_) rfl ?_ hHeld ?_; rotate_left 1; focus (intro w' hSw; clear hSw; go_simp; try with_reducible rfl)
          (try simp only [Act.put, zn1, zn2, zn3])
          refine tY (i := 2) (v := ?_) rfl ?_ hHeld ?_; rotate_left 1; focus (intro w' hSw; clear hSw; go_simp; try with_reducible rfl)
          (try simp only [Act.put, zn1, zn2, zn3])
          refine tY (i := 3) (v := ?_) rfl ?_ hHeld ?_; rotate_left 1; focus (intro w' hSw; clear hSw; go_simp; try with_reducible rfl)
          (try simp only [Act.put, zn1, zn2, zn3])
          refine tY (i := 4) (v := ?_) rfl ?_ hHeld ?_; rotate_left 1; focus (intro w' hSw; clear hSw; go_simp; try with_reducible rfl)
          (try simp only [Act.put, zn1, zn2, zn3])
          refine tS (i := 5) rfl hHeld ?_; (try simp only [Act.put, zn1, zn2, zn3])
          refine tS (i := 6) rfl hHeld ?_; (try simp only [Act.put, zn1, zn2, zn3])
          refine tS (i := 7) rfl hHeld ?_; (try simp only [Act.put, zn1, zn2, zn3])
          refine tS (i := 8) rfl hHeld ?_; (try simp only [Act.put, zn1, zn2, zn3])
          refine tS (i := 9) rfl hHeld ?_; (try simp only [Act.put, zn1, zn2, zn3])
          refine tS (i := 10) rfl hHeld ?_; (try simp only [Act.put, zn1, zn2, zn3])
          refine tY (i := 11) (v := ?_) rfl ?_ hHeld ?_; rotate_left 1; focus (intro w' hSw; clear hSw; go_simp; try with_reducible rfl)
          (try simp only [Act.put, zn1, zn2, zn3])
          refine wpAnyH_done (by kernel_rfl) ?_ _
          clear hHeld
          go_upto_region 6 with fail
          first | (refine wp_named ?_; intro W3 hW) | (refine calls_named ?_; intro W3 hW)
          have B3 : Below wc.heap.size wc W3 := by rw [hW]; exact (by repeat (first | exact Below.refl _ _ | assumption | refine Below.alloc ?_ (by first | omega | (simp <;> omega)) _ | refine Below.setCell ?_ (by first | omega | (simp <;> omega)) _ | refine Below.drew ?_))
          replace j0 := cellAt j0 B3 (by omega)
          replace j1 := cellAt j1 B3 (by omega)
          replace Hr := Lib.hid (Hr.out.at B3)
          replace n1 : w.heap.size < W3.heap.size := ltAt n1 B3
          clear hW
          have HB3 := Lib.hid (lift HB4.out B3)
          clear B3
          have hins : insL ltJ (s, t) l = l.take k ++ (s, t) :: l.drop k := by rw [insL_cut l k hk HAll.out HGe.out, if_neg HNe.out]
          have HI := Lib.hid hins
          have HR1 := Lib.hid (Hr.out.takeA hk)
          have HR2 := Lib.hid (Hr.out.dropA hk hc)
          have hs1 := run_slice_full (P := Tryz.prog) Tryz.underlying89 hi A l.length c k (Nat.le_trans hk hc)
          have hs2 := run_slice_tail (P := Tryz.prog) Tryz.underlying89 hi A l.length c k hk
          rw [hz1] at hs1 hs2
          have HLk := Lib.hid (show (l.drop k).length = l.length - k from List.length_drop)
          clear hins
          try go_wp2_with fail
          refine wp_region_held_drew (S := fun w' => Below W3.heap.size W3 w') (by kernel_rfl) (Below.drew (Below.refl _ _)) (fun hHeld => ?_)
          refine tY (i := 0) (v := ?_) rfl ?_ hHeld ?_; rotate_left 1; focus (intro w' hSw; clear hSw; go_simp; try with_reducible rfl)
          (try simp only [Act.put, zn1, zn2, zn3])
          refine tY (i := 1) (v := ?_) rfl ?_ hHeld ?_; rotate_left 1; focus (intro w' hSw; clear hSw; go_simp; try with_reducible rfl)
          (try simp only [Act.put, zn1, zn2, zn3])
          refine tY (i := 2) (v := ?_) rfl ?_ hHeld ?_; rotate_left 1; focus (intro w' hSw; clear hSw; go_simp; try with_reducible rfl)
          (try simp only [Act.put, zn1, zn2, zn3])
          refine tY (i := 3) (v := ?_) rfl ?_ hHeld ?_; rotate_left 1; focus (intro w' hSw; clear hSw; go_simp; try with_reducible rfl)
          (try simp only [Act.put, zn1, zn2, zn3])
          refine tY (i := 4) (v := ?_) rfl ?_ hHeld ?_; rotate_left 1; focus (intro w' hSw; have hCell := fun (b o : Nat) (h : b < W3.heap.size) => hSw.cell (p := ⟨b, o, none⟩) h; clear hSw; go_simp; try with_reducible rfl)
          (try simp only [Act.put, zn1, zn2, zn3])
          refine tY (i := 6) (v := ?_) rfl ?_ hHeld ?_; rotate_left 1; focus (intro w' hSw; clear hSw; go_simp; try with_reducible rfl)
          (try simp only [Act.put, zn1, zn2, zn3])
          refine tY (i := 7) (v := ?_) rfl ?_ hHeld ?_; rotate_left 1; focus (intro w' hSw; clear hSw; go_simp; try with_reducible rfl)
          (try simp only [Act.put, zn1, zn2, zn3])
          refine tY (i := 8) (v := ?_) rfl ?_ hHeld ?_; rotate_left 1; focus (intro w' hSw; clear hSw; go_simp; try with_reducible rfl)
          (try simp only [Act.put, zn1, zn2, zn3])
          refine ready_one (i := 5) rfl (by kernel_rfl) (fun K hK => ?_)
          go_simp
          refine hK.out _ _ ?_ (fun hHeld2 => ?_)
          · (try dsimp only); first | exact hHeld | exact (by repeat (first | exact Below.refl _ _ | assumption | refine Below.alloc ?_ (by first | omega | (simp <;> omega)) _ | refine Below.setCell ?_ (by first | omega | (simp <;> omega)) _ | refine Below.drew ?_))
          clear hK K hHeld; have hHeld := hHeld2; clear hHeld2; (try simp only [Act.put, zn1, zn2, zn3])
          refine ready_one (i := 9) rfl (by kernel_rfl) (fun K hK => ?_)
          refine step_append_full (by rfl) (.tmp 60) (.tmp 63) 89 (by rfl) 86 i0 _ 2 24 Tryz.underlying89 hi hz0 hz1 hz2 rfl _ (some ⟨W3.heap.size, 0, none⟩) 1 (jpC (s, t)) (by rfl) (Rd.lit W3.drew (jpC (s, t)) 86 2 1 rfl) (Nat.le_refl _) _ _ (l.length - k) (c - k) _ (by rfl) (HR2.out.at' (Nat.le_refl _) hHeld) (one_drop (one_jpsC l) _) (by unfold maxLen; omega) (by omega) ?_
          intro A2 c2 v2 hc2 hr2 hb
          have HR3 := Lib.hid hr2
          clear hr2
          refine hK.out _ _ ?_ (fun hHeld2 => ?_)
          · (try dsimp only); first | exact Below.trans hHeld (Below.mono hb hHeld.size) | exact hHeld | exact Below.drew hHeld | exact (by repeat (first | exact Below.refl _ _ | assumption | refine Below.alloc ?_ (by first | omega | (simp <;> omega)) _ | refine Below.setCell ?_ (by first | omega | (simp <;> omega)) _ | refine Below.drew ?_))
          clear hK K hHeld; have hHeld := hHeld2; clear hHeld2; (try simp only [Act.put, zn1, zn2, zn3])
          refine ready_one (i := 10) rfl (by kernel_rfl) (fun K hK => ?_)
          refine step_append_fullo (by rfl) (.tmp 58) (.tmp 64) 89 (by rfl) 86 i0 _ 2 24 Tryz.underlying89 hi hz0 hz1 hz2 rfl _ _ k _ (by rfl) (HR1.out.at' (Nat.le_refl _) hHeld) (Nat.le_refl _) _ A2 (1 + (l.length - k)) c2 _ (by rfl) HR3.out (one_app (one_jpC (s, t)) (one_drop (one_jpsC l) _)) (by omega) (by unfold maxLen; omega) (by omega) ?_
          intro A3 c3 v3 hr3 hb
          have HR4 := Lib.hid (own_base hr3 hHeld.size)
          clear hr3
          refine hK.out _ _ ?_ (fun hHeld2 => ?_)
          · (try dsimp only); first | exact Below.trans hHeld (Below.mono hb hHeld.size) | exact hHeld | exact Below.drew hHeld | exact (by repeat (first | exact Below.refl _ _ | assumption | refine Below.alloc ?_ (by first | omega | (simp <;> omega)) _ | refine Below.setCell ?_ (by first | omega | (simp <;> omega)) _ | refine Below.drew ?_))
          clear hK K hHeld; have hHeld := hHeld2; clear hHeld2; (try simp only [Act.put, zn1, zn2, zn3])
          refine tY (i := 11) (v := ?_) rfl ?_ hHeld ?_; rotate_left 1; focus (intro w' hSw; clear hSw; go_simp; try with_reducible rfl)
          (try simp only [Act.put, zn1, zn2, zn3])
          refine wpAnyH_done (by kernel_rfl) ?_ _
          go_wp2_with fail
          go_ret
          have hl9 : k + (1 + (l.length - k)) = (insL ltJ (s, t) l).length := by rw [HI.out, List.length_append, List.length_cons, List.length_take, HLk.out]; omega
          have ho9 := own_base HR4.out HB3.out.size
          rw [show (jpsC l).take (k * 2) ++ (jpC (s, t) ++ (jpsC l).drop (k * 2)) = jpsC (insL ltJ (s, t) l) by rw [HI.out, jpsC_app, show jpsC ((s, t) :: l.drop k) = jpC (s, t) ++ jpsC (l.drop k) from by simp [jpsC], show jpsC (l.take k) = (jpsC l).take (k * 2) from flat_take jpC 2 jpC_len l k, show jpsC (l.drop k) = (jpsC l).drop (k * 2) from flat_drop jpC 2 jpC_len l k], hl9] at ho9
          rw [hl9]
          exact ⟨A3, c3, rfl, .inr ho9, lift HB3.out hHeld⟩
      · have hlt : k < l.length := by
          by_cases h : k < l.length
          · exact h
          · rw [condJ_ge h] at hcd; cases hcd
        have HL := Lib.hid ((condJ_lt hlt).symm.trans hcd)
        clear hcd
        go_wp2_with fail
        go_roundw
        case rel =>
          refine ⟨k + 1, by omega, by go_num, fun y hy => ?_, HB2⟩
          rw [List.take_succ_eq_append_getElem hlt, List.mem_append, List.mem_singleton] at hy
          rcases hy with h | h
          · exact HAll.out y h
          · rw [h]; exact HL.out
        case measure => simp [intOf]; omega
end Od
end Go.Proofs.YtbllehjhmfehbaaGreat
end

section
/- The walks of the reference's names: matinsref1.Letter, Digit, nameByte, Suffix, Of, May. (bel2) -/
namespace Go.Proofs.YtbllehjhmfehbaaGreat
open Go.RowKit
set_option linter.unusedSimpArgs false

namespace Od
set_option maxHeartbeats 1000000 in
theorem Letter1_any (c : Int) (w : World) : Calls Tryz.prog 138 #[.int .u8 c] w fun e w' => e = .returned (.bool (letterB c)) ∧ w = w' := by
  by_cases h1 : (97 : Int) ≤ c
  · have d1 : decide ((97 : Int) ≤ c) = true := by simpa using h1
    have e3 : decide ((65 : Int) ≤ c) = true := by simp; omega
    by_cases h2 : c ≤ (122 : Int)
    · have d2 : decide (c ≤ (122 : Int)) = true := by simpa using h2
      go_enter Tryz.func138, Tryz.ntmps138
      go_wp2
      go_ret
      exact ⟨ret_bool (by simp [letterB, d1, d2]), rfl⟩
    · have d2 : decide (c ≤ (122 : Int)) = false := by simpa using h2
      have d4 : decide (c ≤ (90 : Int)) = false := by simp; omega
      go_enter Tryz.func138, Tryz.ntmps138
      go_wp2
      go_ret
      exact ⟨ret_bool (by simp [letterB, d1, d2, e3, d4]), rfl⟩
  · have d1 : decide ((97 : Int) ≤ c) = false := by simpa using h1
    by_cases h3 : (65 : Int) ≤ c
    · have d3 : decide ((65 : Int) ≤ c) = true := by simpa using h3
      go_enter Tryz.func138, Tryz.ntmps138
      go_wp2
      go_ret
      exact ⟨ret_bool (by simp [letterB, d1, d3]), rfl⟩
    · have d3 : decide ((65 : Int) ≤ c) = false := by simpa using h3
      go_enter Tryz.func138, Tryz.ntmps138
      go_wp2
      go_ret
      exact ⟨ret_bool (by simp [letterB, d1, d3]), rfl⟩
set_option maxHeartbeats 1000000 in
theorem Digit1_any (c : Int) (w : World) : Calls Tryz.prog 139 #[.int .u8 c] w fun e w' => e = .returned (.bool (digitB c)) ∧ w = w' := by
  by_cases h1 : (48 : Int) ≤ c
  · have d1 : decide ((48 : Int) ≤ c) = true := by simpa using h1
    go_enter Tryz.func139, Tryz.ntmps139
    go_wp2
    go_ret
    exact ⟨ret_bool (by simp [digitB, d1]), rfl⟩
  · have d1 : decide ((48 : Int) ≤ c) = false := by simpa using h1
    go_enter Tryz.func139, Tryz.ntmps139
    go_wp2
    go_ret
    exact ⟨ret_bool (by simp [digitB, d1]), rfl⟩
def nameB (c : Int) : Bool := letterB c || (digitB c || (c == 58 || (c == 45 || (c == 95 || (c == 46 || c == 92)))))
theorem nameB_ok : ∀ n : Nat, n < 256 → nameB (n : Int) = okB (n : Int) := by decide +kernel
set_option maxHeartbeats 2000000 in
theorem nameByte_any (c : Int) (w : World) : Calls Tryz.prog 101 #[.int .u8 c] w fun e w' => e = .returned (.bool (nameB c)) ∧ w = w' := by
  have HM := Lib.hid (show nameB c = (letterB c || (digitB c || (c == 58 || (c == 45 || (c == 95 || (c == 46 || c == 92)))))) from rfl)
  cases h1 : letterB c
  · cases h2 : digitB c
    · cases h3 : (c == 58)
      · cases h4 : (c == 45)
        · cases h5 : (c == 95)
          · cases h6 : (c == 46)
            · cases h7 : (c == 92)
              · go_enter Tryz.func101, Tryz.ntmps101
                go_wp2_with fail
                refine (Letter1_any c w).mono ?_
                rintro e w1 ⟨rfl, rfl⟩
                go_wp2_with fail
                refine (Digit1_any c w).mono ?_
                rintro e w1 ⟨rfl, rfl⟩
                go_wp2_with fail
                go_ret
                exact ⟨ret_bool (by rw [HM.out]; simp [*]), rfl⟩
              · go_enter Tryz.func101, Tryz.ntmps101
                go_wp2_with fail
                refine (Letter1_any c w).mono ?_
                rintro e w1 ⟨rfl, rfl⟩
                go_wp2_with fail
                refine (Digit1_any c w).mono ?_
                rintro e w1 ⟨rfl, rfl⟩
                go_wp2_with fail
                go_ret
                exact ⟨ret_bool (by rw [HM.out]; simp [*]), rfl⟩
            · go_enter Tryz.func101, Tryz.ntmps101
              go_wp2_with fail
              refine (Letter1_any c w).mono ?_
              rintro e w1 ⟨rfl, rfl⟩
              go_wp2_with fail
              refine (Digit1_any c w).mono ?_
              rintro e w1 ⟨rfl, rfl⟩
              go_wp2_with fail
              go_ret
              exact ⟨ret_bool (by rw [HM.out]; simp [*]), rfl⟩
          · go_enter Tryz.func101, Tryz.ntmps101
            go_wp2_with fail
            refine (Letter1_any c w).mono ?_
            rintro e w1 ⟨rfl, rfl⟩
            go_wp2_with fail
            refine (Digit1_any c w).mono ?_
            rintro e w1 ⟨rfl, rfl⟩
            go_wp2_with fail
            go_ret
            exact ⟨ret_bool (by rw [HM.out]; simp [*]), rfl⟩
        · go_enter Tryz.func101, Tryz.ntmps101
          go_wp2_with fail
          refine (Letter1_any c w).mono ?_
          rintro e w1 ⟨rfl, rfl⟩
          go_wp2_with fail
          refine (Digit1_any c w).mono ?_
          rintro e w1 ⟨rfl, rfl⟩
          go_wp2_with fail
          go_ret
          exact ⟨ret_bool (by rw [HM.out]; simp [*]), rfl⟩
      · go_enter Tryz.func101, Tryz.ntmps101
        go_wp2_with fail
        refine (Letter1_any c w).mono ?_
        rintro e w1 ⟨rfl, rfl⟩
        go_wp2_with fail
        refine (Digit1_any c w).mono ?_
        rintro e w1 ⟨rfl, rfl⟩
        go_wp2_with fail
        go_ret
        exact ⟨ret_bool (by rw [HM.out]; simp [*]), rfl⟩
    · go_enter Tryz.func101, Tryz.ntmps101
      go_wp2_with fail
      refine (Letter1_any c w).mono ?_
      rintro e w1 ⟨rfl, rfl⟩
      go_wp2_with fail
      refine (Digit1_any c w).mono ?_
      rintro e w1 ⟨rfl, rfl⟩
      go_wp2_with fail
      go_ret
      exact ⟨ret_bool (by rw [HM.out]; simp [*]), rfl⟩
  · go_enter Tryz.func101, Tryz.ntmps101
    go_wp2_with fail
    refine (Letter1_any c w).mono ?_
    rintro e w1 ⟨rfl, rfl⟩
    go_wp2_with fail
    go_ret
    exact ⟨ret_bool (by rw [HM.out]; simp [*]), rfl⟩
theorem sufS_neg {k : Int} (h1 : ¬ k = 1) (h2 : ¬ k = 2) (h3 : ¬ k = 3) (h4 : ¬ k = 4) : sufS k = [] := by simp [sufS, h1, h2, h3, h4]
set_option maxHeartbeats 1000000 in
theorem Suffix1_any (k : Int) (w : World) (h1 : 1 ≤ k) (h4 : k ≤ 4) : Calls Tryz.prog 100 #[.int .i64 k] w fun e w' => e = .returned (sv (sufS k)) ∧ w = w' := by
  rcases (show k = 1 ∨ k = 2 ∨ k = 3 ∨ k = 4 by omega) with rfl | rfl | rfl | rfl
  · go_enter Tryz.func100, Tryz.ntmps100
    go_wp2
    go_ret
    exact ⟨rfl, rfl⟩
  · go_enter Tryz.func100, Tryz.ntmps100
    go_wp2
    go_ret
    exact ⟨rfl, rfl⟩
  · go_enter Tryz.func100, Tryz.ntmps100
    go_wp2
    go_ret
    exact ⟨rfl, rfl⟩
  · go_enter Tryz.func100, Tryz.ntmps100
    go_wp2
    go_ret
    exact ⟨rfl, rfl⟩
/-! A name's pieces -/
def endS (k : Nat) : Str := 46 :: sufS k
def fitsB (s : Str) (k : Nat) : Bool := decide ((endS k).length < s.length) && s.drop (s.length - (endS k).length) == endS k
def pk (s : Str) : Nat → Int × Str
  | 0 => (0, [])
  | k + 1 => if fitsB s (k + 1) = true then ((k + 1 : Nat), s.take (s.length - (endS (k + 1)).length)) else pk s k
end Od
end Go.Proofs.YtbllehjhmfehbaaGreat
end

section
/- Names as texts: the reference's pieces are the program's. No program. -/
namespace Go.Proofs.YtbllehjhmfehbaaGreat
set_option linter.unusedSimpArgs false
namespace Od
theorem last_split {a b t u : Str} (h : a ++ 46 :: t = b ++ 46 :: u) (ht : (46 : UInt8) ∉ t) (hu : (46 : UInt8) ∉ u) : a = b ∧ t = u := by
  rcases List.append_eq_append_iff.1 h with ⟨c, h1, h2⟩ | ⟨c, h1, h2⟩
  · cases c with
    | nil => simp at h1 h2; exact ⟨h1.symm, h2⟩
    | cons z c =>
      injection h2 with h3 h4
      exact absurd (by rw [h4]; simp) ht
  · cases c with
    | nil => simp at h1 h2; exact ⟨h1, h2.symm⟩
    | cons z c =>
      injection h2 with h3 h4
      exact absurd (by rw [h4]; simp) hu
theorem last_list (s : Str) : (Lib.lastIndexByte ⟨s.toArray⟩ 46 = -1 ∧ (46 : UInt8) ∉ s) ∨ ∃ i, i < s.length ∧ Lib.lastIndexByte ⟨s.toArray⟩ 46 = (i : Nat) ∧ s = s.take i ++ 46 :: s.drop (i + 1) ∧ (46 : UInt8) ∉ s.drop (i + 1) := by
  have hb : ∀ {j : Nat} (hj : j < s.length), (((⟨s.toArray⟩ : ByteArray).data[j]!).toNat : Int) = (s[j].toNat : Int) := by
    intro j hj; simp [hj]
  have h46 : ∀ b : UInt8, ((b.toNat : Int) = 46) ↔ b = 46 := by
    intro b
    constructor
    · intro h
      have : b.toNat = (46 : UInt8).toNat := by simp; omega
      exact UInt8.toNat_inj.1 this
    · intro h; subst h; rfl
  rcases Lib.lastIndexByte_spec ⟨s.toArray⟩ 46 with ⟨h1, h2⟩ | ⟨i, hi, h1, h2, h3⟩
  · refine .inl ⟨h1, fun hm => ?_⟩
    obtain ⟨j, hj, e⟩ := List.mem_iff_getElem.1 hm
    refine h2 j (by simpa [ByteArray.size] using hj) ?_
    rw [hb hj, e]; rfl
  · have hi' : i < s.length := by simpa [ByteArray.size] using hi
    rw [hb hi', h46] at h2
    refine .inr ⟨i, hi', h1, ?_, fun hm => ?_⟩
    · rw [← h2, List.getElem_cons_drop, List.take_append_drop]
    · obtain ⟨j, hj, e⟩ := List.mem_iff_getElem.1 hm
      rw [List.getElem_drop] at e
      have hj' : i + 1 + j < s.length := by rw [List.length_drop] at hj; omega
      refine h3 (i + 1 + j) (by omega) (by simpa [ByteArray.size] using hj') ?_
      rw [hb hj', e]; rfl
theorem sufS_no {k : Nat} (h1 : 1 ≤ k) (h4 : k ≤ 4) : (46 : UInt8) ∉ sufS k := by
  rcases (show k = 1 ∨ k = 2 ∨ k = 3 ∨ k = 4 by omega) with rfl | rfl | rfl | rfl <;> decide
theorem fits_split {s : Str} {k : Nat} (h : fitsB s k = true) : (endS k).length < s.length ∧ s = s.take (s.length - (endS k).length) ++ 46 :: sufS k := by
  unfold fitsB at h
  rw [Bool.and_eq_true, decide_eq_true_eq, beq_iff_eq] at h
  refine ⟨h.1, ?_⟩
  have h2 : s.drop (s.length - (endS k).length) = 46 :: sufS k := h.2
  rw [← h2, List.take_append_drop]
theorem fits_none {s : Str} {k : Nat} (h : (46 : UInt8) ∉ s) : fitsB s k = false := by
  cases hf : fitsB s k
  · rfl
  · exact absurd (by rw [(fits_split hf).2]; simp) h
theorem fits_at {s : Str} {i k : Nat} (h1 : 1 ≤ k) (h4 : k ≤ 4) (hi : i < s.length) (hs : s = s.take i ++ 46 :: s.drop (i + 1)) (hn : (46 : UInt8) ∉ s.drop (i + 1)) : fitsB s k = (decide (0 < i) && decide (sufS k = s.drop (i + 1))) := by
  rw [Bool.eq_iff_iff, Bool.and_eq_true, decide_eq_true_eq, decide_eq_true_eq]
  constructor
  · intro hf
    obtain ⟨h5, h6⟩ := fits_split hf
    obtain ⟨h7, h8⟩ := last_split (hs.symm.trans h6) hn (sufS_no h1 h4)
    refine ⟨?_, h8.symm⟩
    have := congrArg List.length h7
    rw [List.length_take, List.length_take] at this
    omega
  · rintro ⟨h5, h6⟩
    have hl : (endS k).length = s.length - i := by
      show (46 :: sufS k).length = _
      rw [List.length_cons, h6, List.length_drop]; omega
    unfold fitsB
    rw [Bool.and_eq_true, decide_eq_true_eq, beq_iff_eq, hl]
    refine ⟨by omega, ?_⟩
    rw [show s.length - (s.length - i) = i by omega]
    show _ = 46 :: sufS k
    rw [h6]
    have h9 : s[i]'hi = 46 := by
      have h10 : s[i]'hi = (s.take i ++ 46 :: s.drop (i + 1))[i]'(by rw [← hs]; exact hi) := by congr 1
      rw [h10, List.getElem_append_right (by rw [List.length_take]; omega)]
      simp [List.length_take, Nat.min_eq_left (Nat.le_of_lt hi)]
    rw [← h9, List.getElem_cons_drop]
theorem pk_cases (s : Str) : (pk s 4 = (0, []) ∧ ((nameCut s).1 = [] ∨ sufK (nameCut s).2 = 0)) ∨ (pk s 4 = (sufK (nameCut s).2, (nameCut s).1) ∧ sufK (nameCut s).2 ≠ 0) := by
  rcases last_list s with ⟨h1, h2⟩ | ⟨i, hi, h1, h2, h3⟩
  · refine .inl ⟨?_, .inl ?_⟩
    · simp [pk, fits_none h2]
    · unfold nameCut; rw [h1]; rfl
  · have hc : nameCut s = (s.take i, s.drop (i + 1)) := by
      unfold nameCut; rw [h1, if_neg (by omega)]; simp
    have hf : ∀ k, 1 ≤ k → k ≤ 4 → fitsB s k = (decide (0 < i) && decide (sufS k = s.drop (i + 1))) := fun k a b => fits_at a b hi h2 h3
    rw [hc]
    simp only
    have hlen : ∀ k : Nat, sufS k = s.drop (i + 1) → s.take (s.length - (endS k).length) = s.take i := by
      intro k hk
      have hl : (endS k).length = s.length - i := by
        show (46 :: sufS k).length = _
        rw [List.length_cons, hk, List.length_drop]; omega
      rw [hl, show s.length - (s.length - i) = i by omega]
    by_cases h0 : 0 < i
    · have hf' : ∀ k, 1 ≤ k → k ≤ 4 → fitsB s k = decide (sufS k = s.drop (i + 1)) := fun k a b => by rw [hf k a b]; simp [h0]
      have e1 := hf' 1 (by omega) (by omega)
      have e2 := hf' 2 (by omega) (by omega)
      have e3 := hf' 3 (by omega) (by omega)
      have e4 := hf' 4 (by omega) (by omega)
      have l1 := hlen 1
      have l2 := hlen 2
      have l3 := hlen 3
      have l4 := hlen 4
      generalize s.drop (i + 1) = t at *
      unfold sufK
      simp only [pk, Nat.zero_add, Nat.reduceAdd, e1, e2, e3, e4, decide_eq_true_eq]
      by_cases t1 : sufS 1 = t
      · subst t1
        exact .inr ⟨by simp [sufS] at l1 ⊢; exact l1, by simp⟩
      · by_cases t2 : sufS 2 = t
        · subst t2
          exact .inr ⟨by simp [sufS] at l2 ⊢; exact l2, by simp [sufS]⟩
        · by_cases t3 : sufS 3 = t
          · subst t3
            exact .inr ⟨by simp [sufS] at l3 ⊢; exact l3, by simp [sufS]⟩
          · by_cases t4 : sufS 4 = t
            · subst t4
              exact .inr ⟨by simp [sufS] at l4 ⊢; exact l4, by simp [sufS]⟩
            · have u1 : ¬ sufS (1 : Nat) = t := t1
              have u2 : ¬ sufS (2 : Nat) = t := t2
              have u3 : ¬ sufS (3 : Nat) = t := t3
              have u4 : ¬ sufS (4 : Nat) = t := t4
              exact .inl ⟨by rw [if_neg u4, if_neg u3, if_neg u2, if_neg u1], .inr (by rw [if_neg t1, if_neg t2, if_neg t3, if_neg t4])⟩
    · have hf' : ∀ k, 1 ≤ k → k ≤ 4 → fitsB s k = false := fun k a b => by rw [hf k a b]; simp [h0]
      refine .inl ⟨?_, .inl ?_⟩
      · simp [pk, hf' 1, hf' 2, hf' 3, hf' 4]
      · have : i = 0 := by omega
        rw [this]; rfl
/-- A name's pieces: its kind (0: it may not be), its prefix, its instance, whether there is an at. -/
def ofS (s : Str) : Int × Str × Str × Bool :=
  if 60 < s.length ∨ (pk s 4).1 = 0 ∨ (atCut (pk s 4).2).1 = [] ∨ allB nameB ((atCut (pk s 4).2).1 ++ (atCut (pk s 4).2).2) = false then (0, [], [], false)
  else ((pk s 4).1, (atCut (pk s 4).2).1, (atCut (pk s 4).2).2, decide (0 ≤ Lib.indexByte (pk s 4).2 64))
theorem allB_name (s : Str) : allB nameB s = allB okB s := by
  unfold allB
  refine Bool.eq_iff_iff.2 ?_
  rw [List.all_eq_true, List.all_eq_true]
  have h : ∀ c : UInt8, nameB (c.toNat : Int) = okB (c.toNat : Int) := fun c => nameB_ok _ c.toNat_lt
  simp only [h]
theorem allB_app (p : Int → Bool) (a b : Str) : allB p (a ++ b) = (allB p a && allB p b) := by unfold allB; rw [List.all_append]
theorem ofS_kind (s : Str) : (ofS s).1 = kindS s := by
  unfold ofS kindS badName
  rw [allB_name, allB_app]
  rcases pk_cases s with ⟨h1, h2⟩ | ⟨h1, h2⟩
  · rw [h1, if_pos (.inr (.inl rfl))]
    rcases h2 with h2 | h2
    · rw [h2]; simp [atCut, Lib.indexByte]
    · rw [h2]; simp
  · rw [h1]
    simp only
    by_cases c1 : 60 < s.length
    · rw [if_pos (.inl c1), if_pos (by simp; omega)]
    · by_cases c2 : (atCut (nameCut s).1).1 = []
      · rw [if_pos (.inr (.inr (.inl c2))), if_pos (by simp [c2])]
      · cases c3 : allB okB (atCut (nameCut s).1).1
        · rw [if_pos (by simp), if_pos (by simp)]
        · cases c4 : allB okB (atCut (nameCut s).1).2
          · rw [if_pos (by simp), if_pos (by simp)]
          · rw [if_neg (by simp [c2, h2]; omega), if_neg (by simp [c2]; omega)]
end Od
end Go.Proofs.YtbllehjhmfehbaaGreat
end

section
/- The walk of matinsref1.Of. (bel2) -/
namespace Go.Proofs.YtbllehjhmfehbaaGreat
open Go.RowKit
set_option linter.unusedSimpArgs false

namespace Od
abbrev cutC (r : Int × Str × Str × Bool) : Value := .agg #[.int .i64 r.1, sv r.2.1, sv r.2.2.1, .bool r.2.2.2]
theorem end_add (k : Nat) : ((⟨#[46]⟩ : ByteArray) ++ ⟨(sufS k).toArray⟩) = ⟨(endS k).toArray⟩ := by
  apply ByteArray.ext
  simp [endS]
theorem str_add (a b : Str) : ((⟨a.toArray⟩ : ByteArray) ++ ⟨b.toArray⟩) = ⟨(a ++ b).toArray⟩ := by
  apply ByteArray.ext
  simp
/-- The cells of what Of makes. -/
structure OfAt (w0 w : World) (k : Int) (p i : Str) (a : Bool) : Prop where
  lt : w0.heap.size + 1 < w.heap.size
  c0 : w.cell? ⟨w0.heap.size + 1, 0, none⟩ = some (.int .i64 k)
  c1 : w.cell? ⟨w0.heap.size + 1, 1, none⟩ = some (sv p)
  c2 : w.cell? ⟨w0.heap.size + 1, 2, none⟩ = some (sv i)
  c3 : w.cell? ⟨w0.heap.size + 1, 3, none⟩ = some (.bool a)
  r0 : w.cell? ⟨w0.heap.size, 0, none⟩ = some (.int .i64 0)
  r1 : w.cell? ⟨w0.heap.size, 1, none⟩ = some (sv [])
  r2 : w.cell? ⟨w0.heap.size, 2, none⟩ = some (sv [])
  r3 : w.cell? ⟨w0.heap.size, 3, none⟩ = some (.bool false)
  f0 : w.frozen? ⟨w0.heap.size + 1, 0, none⟩ = false
  f1 : w.frozen? ⟨w0.heap.size + 1, 1, none⟩ = false
  f2 : w.frozen? ⟨w0.heap.size + 1, 2, none⟩ = false
  f3 : w.frozen? ⟨w0.heap.size + 1, 3, none⟩ = false
  g0 : w.frozen? ⟨w0.heap.size, 0, none⟩ = false
  g1 : w.frozen? ⟨w0.heap.size, 1, none⟩ = false
  g2 : w.frozen? ⟨w0.heap.size, 2, none⟩ = false
  g3 : w.frozen? ⟨w0.heap.size, 3, none⟩ = false
  bel : Below w0.heap.size w0 w
theorem OfAt.set0 {w0 w : World} {k : Int} {p i : Str} {a : Bool} (h : OfAt w0 w k p i a) (k' : Int) : OfAt w0 (w.setCell ⟨w0.heap.size + 1, 0, none⟩ (.int .i64 k')) k' p i a where
  lt := by rw [World.size_setCell]; exact h.lt
  c0 := World.cell?_setCell_same _ _ _ h.c0
  c1 := (World.cell?_setCell_other _ _ _ _ (by simp)).trans h.c1
  c2 := (World.cell?_setCell_other _ _ _ _ (by simp)).trans h.c2
  c3 := (World.cell?_setCell_other _ _ _ _ (by simp)).trans h.c3
  r0 := (World.cell?_setCell_other _ _ _ _ (by simp)).trans h.r0
  r1 := (World.cell?_setCell_other _ _ _ _ (by simp)).trans h.r1
  r2 := (World.cell?_setCell_other _ _ _ _ (by simp)).trans h.r2
  r3 := (World.cell?_setCell_other _ _ _ _ (by simp)).trans h.r3
  f0 := by rw [World.frozen?_setCell]; exact h.f0
  f1 := by rw [World.frozen?_setCell]; exact h.f1
  f2 := by rw [World.frozen?_setCell]; exact h.f2
  f3 := by rw [World.frozen?_setCell]; exact h.f3
  g0 := by rw [World.frozen?_setCell]; exact h.g0
  g1 := by rw [World.frozen?_setCell]; exact h.g1
  g2 := by rw [World.frozen?_setCell]; exact h.g2
  g3 := by rw [World.frozen?_setCell]; exact h.g3
  bel := h.bel.setCell (by simp) _
theorem OfAt.set1 {w0 w : World} {k : Int} {p i : Str} {a : Bool} (h : OfAt w0 w k p i a) (p' : Str) : OfAt w0 (w.setCell ⟨w0.heap.size + 1, 1, none⟩ (sv p')) k p' i a where
  lt := by rw [World.size_setCell]; exact h.lt
  c0 := (World.cell?_setCell_other _ _ _ _ (by simp)).trans h.c0
  c1 := World.cell?_setCell_same _ _ _ h.c1
  c2 := (World.cell?_setCell_other _ _ _ _ (by simp)).trans h.c2
  c3 := (World.cell?_setCell_other _ _ _ _ (by simp)).trans h.c3
  r0 := (World.cell?_setCell_other _ _ _ _ (by simp)).trans h.r0
  r1 := (World.cell?_setCell_other _ _ _ _ (by simp)).trans h.r1
  r2 := (World.cell?_setCell_other _ _ _ _ (by simp)).trans h.r2
  r3 := (World.cell?_setCell_other _ _ _ _ (by simp)).trans h.r3
  f0 := by rw [World.frozen?_setCell]; exact h.f0
  f1 := by rw [World.frozen?_setCell]; exact h.f1
  f2 := by rw [World.frozen?_setCell]; exact h.f2
  f3 := by rw [World.frozen?_setCell]; exact h.f3
  g0 := by rw [World.frozen?_setCell]; exact h.g0
  g1 := by rw [World.frozen?_setCell]; exact h.g1
  g2 := by rw [World.frozen?_setCell]; exact h.g2
  g3 := by rw [World.frozen?_setCell]; exact h.g3
  bel := h.bel.setCell (by simp) _
theorem OfAt.set2 {w0 w : World} {k : Int} {p i : Str} {a : Bool} (h : OfAt w0 w k p i a) (i' : Str) : OfAt w0 (w.setCell ⟨w0.heap.size + 1, 2, none⟩ (sv i')) k p i' a where
  lt := by rw [World.size_setCell]; exact h.lt
  c0 := (World.cell?_setCell_other _ _ _ _ (by simp)).trans h.c0
  c1 := (World.cell?_setCell_other _ _ _ _ (by simp)).trans h.c1
  c2 := World.cell?_setCell_same _ _ _ h.c2
  c3 := (World.cell?_setCell_other _ _ _ _ (by simp)).trans h.c3
  r0 := (World.cell?_setCell_other _ _ _ _ (by simp)).trans h.r0
  r1 := (World.cell?_setCell_other _ _ _ _ (by simp)).trans h.r1
  r2 := (World.cell?_setCell_other _ _ _ _ (by simp)).trans h.r2
  r3 := (World.cell?_setCell_other _ _ _ _ (by simp)).trans h.r3
  f0 := by rw [World.frozen?_setCell]; exact h.f0
  f1 := by rw [World.frozen?_setCell]; exact h.f1
  f2 := by rw [World.frozen?_setCell]; exact h.f2
  f3 := by rw [World.frozen?_setCell]; exact h.f3
  g0 := by rw [World.frozen?_setCell]; exact h.g0
  g1 := by rw [World.frozen?_setCell]; exact h.g1
  g2 := by rw [World.frozen?_setCell]; exact h.g2
  g3 := by rw [World.frozen?_setCell]; exact h.g3
  bel := h.bel.setCell (by simp) _
theorem OfAt.set3 {w0 w : World} {k : Int} {p i : Str} {a : Bool} (h : OfAt w0 w k p i a) (a' : Bool) : OfAt w0 (w.setCell ⟨w0.heap.size + 1, 3, none⟩ (.bool a')) k p i a' where
  lt := by rw [World.size_setCell]; exact h.lt
  c0 := (World.cell?_setCell_other _ _ _ _ (by simp)).trans h.c0
  c1 := (World.cell?_setCell_other _ _ _ _ (by simp)).trans h.c1
  c2 := (World.cell?_setCell_other _ _ _ _ (by simp)).trans h.c2
  c3 := World.cell?_setCell_same _ _ _ h.c3
  r0 := (World.cell?_setCell_other _ _ _ _ (by simp)).trans h.r0
  r1 := (World.cell?_setCell_other _ _ _ _ (by simp)).trans h.r1
  r2 := (World.cell?_setCell_other _ _ _ _ (by simp)).trans h.r2
  r3 := (World.cell?_setCell_other _ _ _ _ (by simp)).trans h.r3
  f0 := by rw [World.frozen?_setCell]; exact h.f0
  f1 := by rw [World.frozen?_setCell]; exact h.f1
  f2 := by rw [World.frozen?_setCell]; exact h.f2
  f3 := by rw [World.frozen?_setCell]; exact h.f3
  g0 := by rw [World.frozen?_setCell]; exact h.g0
  g1 := by rw [World.frozen?_setCell]; exact h.g1
  g2 := by rw [World.frozen?_setCell]; exact h.g2
  g3 := by rw [World.frozen?_setCell]; exact h.g3
  bel := h.bel.setCell (by simp) _
theorem OfAt.drew {w0 w : World} {k : Int} {p i : Str} {a : Bool} (h : OfAt w0 w k p i a) : OfAt w0 w.drew k p i a := ⟨h.lt, h.c0, h.c1, h.c2, h.c3, h.r0, h.r1, h.r2, h.r3, h.f0, h.f1, h.f2, h.f3, h.g0, h.g1, h.g2, h.g3, h.bel.drew⟩
theorem atCut_none {s : Str} (h : ∀ j (hj : j < s.length), s[j] ≠ 64) : Lib.indexByte s 64 = -1 := by
  rcases (show Lib.indexByte s 64 < 0 ∨ 0 ≤ Lib.indexByte s 64 by omega) with h1 | h1
  · have := Lib.indexByte_ge s 64; omega
  · obtain ⟨i, hi⟩ : ∃ i : Nat, Lib.indexByte s 64 = i := ⟨(Lib.indexByte s 64).toNat, by omega⟩
    have h2 := (Lib.indexByte_some hi).1
    obtain ⟨h3, h4⟩ := List.getElem?_eq_some_iff.1 h2
    exact absurd h4 (h i h3)
theorem atCut_first {s : Str} {i : Nat} (hi : i < s.length) (h0 : s[i] = 64) (h : ∀ j (hj : j < s.length), j < i → s[j] ≠ 64) : Lib.indexByte s 64 = i := by
  have hge := Lib.indexByte_ge s 64
  rcases (show Lib.indexByte s 64 < 0 ∨ 0 ≤ Lib.indexByte s 64 by omega) with h1 | h1
  · have h2 : Lib.indexByte s 64 = -1 := by omega
    exact absurd (by rw [List.getElem?_eq_getElem hi, h0]) (Lib.indexByte_none h2 i)
  · obtain ⟨m, hm⟩ : ∃ m : Nat, Lib.indexByte s 64 = m := ⟨(Lib.indexByte s 64).toNat, by omega⟩
    obtain ⟨h2, h3⟩ := Lib.indexByte_some hm
    obtain ⟨h4, h5⟩ := List.getElem?_eq_some_iff.1 h2
    rcases Nat.lt_trichotomy m i with h6 | h6 | h6
    · exact absurd h5 (h m h4 h6)
    · rw [hm, h6]
    · exact absurd (by rw [List.getElem?_eq_getElem hi, h0]) (h3 i h6)
theorem pk_len (s : Str) : ∀ k, (pk s k).2.length ≤ s.length
  | 0 => by simp [pk]
  | k + 1 => by
    unfold pk
    split
    · simp
    · exact pk_len s k
theorem endS_len (k : Nat) : (endS k).length ≤ 8 := by
  unfold endS sufS
  split
  · decide
  · split
    · decide
    · split
      · decide
      · split <;> decide
end Od
end Go.Proofs.YtbllehjhmfehbaaGreat
end

section
/- The walk of matinsref1.Of. (bel2) -/
namespace Go.Proofs.YtbllehjhmfehbaaGreat
open Go.RowKit
set_option linter.unusedSimpArgs false

namespace Od
theorem exit_named {Q : Exit → Act → World → Prop} {e : Exit} {a : Act} {w : World} (h : ∀ W, W = w → Q e a W) : Q e a w := h w rfl
set_option maxRecDepth 100000 in
set_option maxHeartbeats 16000000 in
theorem Of_any (s : Str) (w : World) (hl : s.length ≤ 140737488355328) : Calls Tryz.prog 55 #[sv s] w fun e w' => e = .returned (cutC (ofS s)) ∧ Below w.heap.size w w' := by
  by_cases h60 : (60 : Int) < (s.length : Int)
  · have d60 : decide ((60 : Int) < (s.length : Int)) = true := by simpa using h60
    have HO := Lib.hid (show ofS s = (0, [], [], false) by unfold ofS; rw [if_pos (.inl (by omega))])
    go_enter Tryz.func55, Tryz.ntmps55
    go_wp2_with fail
    refine bodyPost_ret (v := cutC (0, [], [], false)) (by simp only [results, Tryz.results55]; go_simp) rfl ⟨by rw [HO.out], (by repeat (first | exact Below.refl _ _ | assumption | refine Below.alloc ?_ (by first | omega | (simp <;> omega)) _ | refine Below.setCell ?_ (by first | omega | (simp <;> omega)) _ | refine Below.drew ?_))⟩
  · have d60 : decide ((60 : Int) < (s.length : Int)) = false := by simpa using h60
    have H60 := Lib.hid h60
    clear h60
    go_enter Tryz.func55, Tryz.ntmps55
    go_wp2_with fail
    go_loopw [5, 4] (fun i rst wr => ∃ k : Nat, k ≤ 4 ∧ i = .int .i64 ((k : Int) + 1) ∧ rst = sv (pk s k).2 ∧ OfAt w wr (pk s k).1 [] [] false) (fun i _ _ => 5 - (intOf i).toNat)
    case atStart => exact ⟨0, by omega, rfl, rfl, show OfAt w _ 0 [] [] false from ⟨by simp, by go_simp, by go_simp, by go_simp, by go_simp, by go_simp, by go_simp, by go_simp, by go_simp, by go_simp, by go_simp, by go_simp, by go_simp, by go_simp, by go_simp, by go_simp, by go_simp, (by repeat (first | exact Below.refl _ _ | assumption | refine Below.alloc ?_ (by first | omega | (simp <;> omega)) _ | refine Below.setCell ?_ (by first | omega | (simp <;> omega)) _ | refine Below.drew ?_))⟩⟩
    case round =>
      obtain ⟨k, hk, rfl, rfl, ho⟩ := hrel
      have HA := Lib.hid ho
      clear ho
      by_cases hlt : k < 4
      · have dk : decide ((k : Int) + 1 ≤ 4) = true := by simp; omega
        have he := end_add (k + 1)
        have hek : ((k + 1 : Nat) : Int) = (k : Int) + 1 := by omega
        rw [hek] at he
        have hel := endS_len (k + 1)
        have hsl : (endS (k + 1)).length = 1 + (sufS ((k : Int) + 1)).length := by rw [← hek]; simp [endS]; omega
        have hns : ¬ 9223372036854775807 < 1 + (sufS ((k : Int) + 1)).length := by omega
        have hpk : pk s (k + 1) = if fitsB s (k + 1) = true then (((k + 1 : Nat) : Int), s.take (s.length - (endS (k + 1)).length)) else pk s k := rfl
        have hex := extract_str s (s.length - (endS (k + 1)).length) s.length
        rw [List.take_length] at hex
        clear hsl
        have hfit : fitsB s (k + 1) = (decide ((endS (k + 1)).length < s.length) && s.drop (s.length - (endS (k + 1)).length) == endS (k + 1)) := rfl
        by_cases hle : (endS (k + 1)).length < s.length
        · cases hse : (s.drop (s.length - (endS (k + 1)).length) == endS (k + 1))
          · have HPK := Lib.hid (hpk.trans (if_neg (by rw [hfit]; simp [hse])))
            clear hpk hfit
            obtain ⟨lt, c0, c1, c2, c3, r0, r1, r2, r3, f0, f1, f2, f3, g0, g1, g2, g3, bel⟩ := HA.out
            go_wp2_with fail
            refine (Suffix1_any ((k : Int) + 1) wr (by omega) (by omega)).mono ?_
            rintro e w5 ⟨rfl, rfl⟩
            go_wp2_with fail
            go_roundw
            case rel => exact ⟨k + 1, by omega, by go_num, by rw [HPK.out], by rw [HPK.out]; exact HA.out⟩
            case measure => simp [intOf]; omega
          · have HPK := Lib.hid (hpk.trans (if_pos (by rw [hfit]; simp [hse, hle])))
            have hex2 := extract_str s 0 (s.length - (endS (k + 1)).length)
            rw [List.drop_zero] at hex2
            clear hpk hfit
            obtain ⟨lt, c0, c1, c2, c3, r0, r1, r2, r3, f0, f1, f2, f3, g0, g1, g2, g3, bel⟩ := HA.out
            go_wp2_with fail
            refine (Suffix1_any ((k : Int) + 1) wr (by omega) (by omega)).mono ?_
            rintro e w5 ⟨rfl, rfl⟩
            go_wp2_with fail
            go_region
            go_wp2_with fail
            go_roundw
            case rel => exact ⟨k + 1, by omega, by go_num, by rw [HPK.out], by rw [HPK.out]; exact (HA.out.set0 _).drew⟩
            case measure => simp [intOf]; omega
        · have HPK := Lib.hid (hpk.trans (if_neg (by rw [hfit]; simp [hle])))
          clear hpk hfit
          obtain ⟨lt, c0, c1, c2, c3, r0, r1, r2, r3, f0, f1, f2, f3, g0, g1, g2, g3, bel⟩ := HA.out
          go_wp2_with fail
          refine (Suffix1_any ((k : Int) + 1) wr (by omega) (by omega)).mono ?_
          rintro e w5 ⟨rfl, rfl⟩
          go_wp2_with fail
          go_roundw
          case rel => exact ⟨k + 1, by omega, by go_num, by rw [HPK.out], by rw [HPK.out]; exact HA.out⟩
          case measure => simp [intOf]; omega
      · have hk4 : k = 4 := by omega
        subst hk4
        have hpl := pk_len s 4
        have hof : (pk s 4).1 = 0 → ofS s = (0, [], [], false) := fun h => by unfold ofS; rw [if_pos (.inr (.inl h))]
        have hof2 : (pk s 4).1 ≠ 0 → ∀ pre ins at_, Lib.indexByte (pk s 4).2 64 = at_ → atCut (pk s 4).2 = (pre, ins) → (pre = [] → ofS s = (0, [], [], false)) ∧ (allB nameB (pre ++ ins) = false → ofS s = (0, [], [], false)) ∧ (pre ≠ [] → allB nameB (pre ++ ins) = true → ofS s = ((pk s 4).1, pre, ins, decide (0 ≤ at_))) := by
          intro h0 pre ins at_ hi hc
          have h60 := H60.out
          refine ⟨fun h => ?_, fun h => ?_, fun h h' => ?_⟩
          · unfold ofS; rw [if_pos (.inr (.inr (.inl (by rw [hc]; exact h))))]
          · unfold ofS; rw [if_pos (.inr (.inr (.inr (by rw [hc]; exact h))))]
          · unfold ofS; rw [hc, hi, if_neg]
            rintro (g | g | g | g)
            · omega
            · exact h0 g
            · exact h g
            · rw [h'] at g; cases g
        generalize hq : pk s 4 = q at *
        obtain ⟨kd, rest⟩ := q
        simp only at hof hof2 hpl HA
        clear hq
        by_cases hkd : kd = 0
        · have HO := Lib.hid (hof hkd)
          clear hof hof2
          obtain ⟨lt, c0, c1, c2, c3, r0, r1, r2, r3, f0, f1, f2, f3, g0, g1, g2, g3, bel⟩ := HA.out
          go_wp2_with fail
          refine bodyPost_ret (v := cutC (0, [], [], false)) (by simp only [results, Tryz.results55]; go_simp) rfl ⟨by rw [HO.out], (by repeat (first | exact Below.refl _ _ | assumption | refine Below.alloc ?_ (by first | omega | (simp <;> omega)) _ | refine Below.setCell ?_ (by first | omega | (simp <;> omega)) _ | refine Below.drew ?_))⟩
        · have HF2 := Lib.hid (hof2 hkd)
          clear hof hof2
          obtain ⟨lt, c0, c1, c2, c3, r0, r1, r2, r3, f0, f1, f2, f3, g0, g1, g2, g3, bel⟩ := HA.out
          go_wp2_with fail
          obtain ⟨w9, hw9⟩ : ∃ w9, w9 = wr.setCell ⟨w.heap.size + 1, 1, none⟩ (sv rest) := ⟨_, rfl⟩
          have ha9 := HA.out.set1 rest
          rw [← hw9] at ha9
          rw [← hw9]
          clear lt c0 c1 c2 c3 r0 r1 r2 r3 f0 f1 f2 f3 g0 g1 g2 g3 bel
          have HA9 := Lib.hid ha9
          clear ha9 hw9 HA
          go_loop [7] (fun i => ∃ k : Nat, k ≤ rest.length ∧ i = .int .i64 k ∧ Hid (∀ j (hj : j < rest.length), j < k → rest[j] ≠ 64)) (fun i => rest.length - (intOf i).toNat)
          case atStart => exact ⟨0, Nat.zero_le _, rfl, fun j _ h => absurd h (by omega)⟩
          case round =>
            obtain ⟨k2, hk2, rfl, hall2⟩ := hrel
            by_cases hlt2 : k2 < rest.length
            · have hex := extract_str rest 0 k2
              have hex2 := extract_str rest (k2 + 1) rest.length
              rw [List.drop_zero] at hex
              rw [List.take_length] at hex2
              by_cases h64 : rest[k2] = 64
              · have hidx := atCut_first hlt2 h64 hall2.out
                have hcut : atCut rest = (rest.take k2, rest.drop (k2 + 1)) := by
                  unfold atCut; rw [hidx, if_pos (by omega)]; simp
                have hof := HF2.out _ _ _ hidx hcut
                rw [show decide ((0 : Int) ≤ (k2 : Int)) = true from by simp] at hof
                have hpl : (rest.take k2).length + (rest.drop (k2 + 1)).length ≤ 140737488355328 := by simp; omega
                have hlt2' := hlt2
                generalize rest.take k2 = pre at *
                generalize rest.drop (k2 + 1) = ins at *
                have hb : ((((({ data := rest.toArray } : ByteArray)[k2]'hlt2).toNat : Nat) : Int) == 64) = true := by show ((rest[k2].toNat : Int) == 64) = true; rw [h64]; rfl
                obtain ⟨lt, c0, c1, c2, c3, r0, r1, r2, r3, f0, f1, f2, f3, g0, g1, g2, g3, bel⟩ := HA9.out
                go_wp2_with fail
                go_region
                refine exit_named ?_
                intro W hW
                have HA := Lib.hid (show OfAt w W kd pre ins true by rw [hW]; exact (((HA9.out.set3 true).set1 pre).set2 ins).drew)
                clear lt c0 c1 c2 c3 r0 r1 r2 r3 f0 f1 f2 f3 g0 g1 g2 g3 bel
                clear hW
                obtain ⟨L, hL⟩ : ∃ L, L = pre ++ ins := ⟨_, rfl⟩
                have hsum := str_add pre ins
                rw [← hL] at hof hsum
                have hLn : L.length = pre.length + ins.length := by rw [hL]; simp
                clear hL
                have HF := Lib.hid hof
                have HP := Lib.hid hpl
                clear hof
                cases hp0 : (pre == ([] : Str))
                · have hpp : ¬ pre = [] := by simpa using hp0
                  have HP0 := Lib.hid hpp
                  have he0 : (pre).isEmpty = false := by simp [hpp]
                  have hnb : ¬ 9223372036854775807 < pre.length + ins.length := by omega
                  clear hpp
                  obtain ⟨lt, c0, c1, c2, c3, r0, r1, r2, r3, f0, f1, f2, f3, g0, g1, g2, g3, bel⟩ := HA.out
                  go_wp2_with fail
                  go_loop [9] (fun i => ∃ k : Nat, k ≤ L.length ∧ i = .int .i64 k ∧ Hid (allB nameB (L.take k) = true)) (fun i => L.length - (intOf i).toNat)
                  case atStart => exact ⟨0, Nat.zero_le _, rfl, by simp [Hid, allB]⟩
                  case round =>
                    obtain ⟨k3, hk3, rfl, hall⟩ := hrel
                    by_cases hlt3 : k3 < L.length
                    · have h1 : allB nameB (L.take (k3 + 1)) = (allB nameB (L.take k3) && nameB (L[k3].toNat : Int)) := by
                        unfold allB; rw [List.take_succ_eq_append_getElem hlt3, List.all_append]; simp
                      have h2 : nameB (L[k3].toNat : Int) = false → allB nameB L = false := fun h => by
                        unfold allB; rw [List.all_eq_false]; exact ⟨L[k3], List.getElem_mem hlt3, by simp [h]⟩
                      have H1 := Lib.hid h1
                      have H2 := Lib.hid h2
                      clear h1 h2
                      go_wp2_with fail
                      refine (nameByte_any (L[k3].toNat : Int) _).mono ?_
                      rintro e v ⟨rfl, rfl⟩
                      cases hpc : nameB (L[k3].toNat : Int)
                      · have H3 := Lib.hid (H2.out hpc)
                        go_wp2_with fail
                        refine bodyPost_ret (v := cutC (0, [], [], false)) (by simp only [results, Tryz.results55]; go_simp) rfl ⟨by rw [HF.out.2.1 H3.out], (by repeat (first | exact Below.refl _ _ | assumption | refine Below.alloc ?_ (by first | omega | (simp <;> omega)) _ | refine Below.setCell ?_ (by first | omega | (simp <;> omega)) _ | refine Below.drew ?_))⟩
                      · have H3 := Lib.hid hpc
                        go_wp2_with fail
                        go_round
                        case rel => exact ⟨k3 + 1, by omega, by go_num, by show _ = true; rw [H1.out, hall.out, H3.out]; rfl⟩
                        case measure => simp [intOf]; omega
                    · have hkn : k3 = L.length := by omega
                      subst hkn
                      have h := hall.out
                      rw [List.take_length] at h
                      have H4 := Lib.hid h
                      clear h
                      go_wp2_with fail
                      refine bodyPost_ret (v := cutC (kd, pre, ins, true)) (by simp only [results, Tryz.results55]; go_simp) rfl ⟨by rw [HF.out.2.2 HP0.out H4.out], (by repeat (first | exact Below.refl _ _ | assumption | refine Below.alloc ?_ (by first | omega | (simp <;> omega)) _ | refine Below.setCell ?_ (by first | omega | (simp <;> omega)) _ | refine Below.drew ?_))⟩
                · have hpp : pre = [] := by simpa using hp0
                  have HP0 := Lib.hid hpp
                  have he0 : (pre).isEmpty = true := by simp [hpp]
                  clear hpp
                  obtain ⟨lt, c0, c1, c2, c3, r0, r1, r2, r3, f0, f1, f2, f3, g0, g1, g2, g3, bel⟩ := HA.out
                  go_wp2_with fail
                  refine bodyPost_ret (v := cutC (0, [], [], false)) (by simp only [results, Tryz.results55]; go_simp) rfl ⟨by rw [HF.out.1 HP0.out], (by repeat (first | exact Below.refl _ _ | assumption | refine Below.alloc ?_ (by first | omega | (simp <;> omega)) _ | refine Below.setCell ?_ (by first | omega | (simp <;> omega)) _ | refine Below.drew ?_))⟩
              · have hb : ((((({ data := rest.toArray } : ByteArray)[k2]'hlt2).toNat : Nat) : Int) == 64) = false := by
                  show ((rest[k2].toNat : Int) == 64) = false
                  rw [beq_eq_false_iff_ne]; intro h; exact h64 (UInt8.toNat_inj.1 (by simp; omega))
                have H64 := Lib.hid h64
                clear h64
                go_wp2_with fail
                go_round
                case rel =>
                  refine ⟨k2 + 1, by omega, by go_num, fun j h1 h2 => ?_⟩
                  by_cases e : j = k2
                  · subst e; exact H64.out
                  · exact hall2.out j h1 (by omega)
                case measure => simp [intOf]; omega
            · have hcut : atCut rest = (rest, []) := by
                unfold atCut; rw [atCut_none (fun j hj => hall2.out j hj (by omega)), if_neg (by omega)]
              have hof := HF2.out rest [] _ (atCut_none (fun j hj => hall2.out j hj (by omega))) hcut
              have HA := HA9
              rw [List.append_nil] at hof
              have hpl : rest.length ≤ 140737488355328 := by omega
              have HF := Lib.hid hof
              have HP := Lib.hid hpl
              clear hof
              cases hp0 : (rest == ([] : Str))
              · have hpp : ¬ rest = [] := by simpa using hp0
                have HP0 := Lib.hid hpp
                have he0 : (rest).isEmpty = false := by simp [hpp]
                have hnb : ¬ 9223372036854775807 < rest.length := by omega
                clear hpp
                obtain ⟨lt, c0, c1, c2, c3, r0, r1, r2, r3, f0, f1, f2, f3, g0, g1, g2, g3, bel⟩ := HA.out
                go_wp2_with fail
                go_loop [9] (fun i => ∃ k : Nat, k ≤ rest.length ∧ i = .int .i64 k ∧ Hid (allB nameB (rest.take k) = true)) (fun i => rest.length - (intOf i).toNat)
                case atStart => exact ⟨0, Nat.zero_le _, rfl, by simp [Hid, allB]⟩
                case round =>
                  obtain ⟨k3, hk3, rfl, hall⟩ := hrel
                  by_cases hlt3 : k3 < rest.length
                  · have h1 : allB nameB (rest.take (k3 + 1)) = (allB nameB (rest.take k3) && nameB (rest[k3].toNat : Int)) := by
                      unfold allB; rw [List.take_succ_eq_append_getElem hlt3, List.all_append]; simp
                    have h2 : nameB (rest[k3].toNat : Int) = false → allB nameB rest = false := fun h => by
                      unfold allB; rw [List.all_eq_false]; exact ⟨rest[k3], List.getElem_mem hlt3, by simp [h]⟩
                    have H1 := Lib.hid h1
                    have H2 := Lib.hid h2
                    clear h1 h2
                    go_wp2_with fail
                    refine (nameByte_any (rest[k3].toNat : Int) _).mono ?_
                    rintro e v ⟨rfl, rfl⟩
                    cases hpc : nameB (rest[k3].toNat : Int)
                    · have H3 := Lib.hid (H2.out hpc)
                      go_wp2_with fail
                      refine bodyPost_ret (v := cutC (0, [], [], false)) (by simp only [results, Tryz.results55]; go_simp) rfl ⟨by rw [HF.out.2.1 H3.out], (by repeat (first | exact Below.refl _ _ | assumption | refine Below.alloc ?_ (by first | omega | (simp <;> omega)) _ | refine Below.setCell ?_ (by first | omega | (simp <;> omega)) _ | refine Below.drew ?_))⟩
                    · have H3 := Lib.hid hpc
                      go_wp2_with fail
                      go_round
                      case rel => exact ⟨k3 + 1, by omega, by go_num, by show _ = true; rw [H1.out, hall.out, H3.out]; rfl⟩
                      case measure => simp [intOf]; omega
                  · have hkn : k3 = rest.length := by omega
                    subst hkn
                    have h := hall.out
                    rw [List.take_length] at h
                    have H4 := Lib.hid h
                    clear h
                    go_wp2_with fail
                    refine bodyPost_ret (v := cutC (kd, rest, [], (decide ((0 : Int) ≤ -1)))) (by simp only [results, Tryz.results55]; go_simp) rfl ⟨by rw [HF.out.2.2 HP0.out H4.out], (by repeat (first | exact Below.refl _ _ | assumption | refine Below.alloc ?_ (by first | omega | (simp <;> omega)) _ | refine Below.setCell ?_ (by first | omega | (simp <;> omega)) _ | refine Below.drew ?_))⟩
              · have hpp : rest = [] := by simpa using hp0
                have HP0 := Lib.hid hpp
                have he0 : (rest).isEmpty = true := by simp [hpp]
                clear hpp
                obtain ⟨lt, c0, c1, c2, c3, r0, r1, r2, r3, f0, f1, f2, f3, g0, g1, g2, g3, bel⟩ := HA.out
                go_wp2_with fail
                refine bodyPost_ret (v := cutC (0, [], [], false)) (by simp only [results, Tryz.results55]; go_simp) rfl ⟨by rw [HF.out.1 HP0.out], (by repeat (first | exact Below.refl _ _ | assumption | refine Below.alloc ?_ (by first | omega | (simp <;> omega)) _ | refine Below.setCell ?_ (by first | omega | (simp <;> omega)) _ | refine Below.drew ?_))⟩
end Od
end Go.Proofs.YtbllehjhmfehbaaGreat
end

section
/- The walks of matinsref15.less and matinsref15.Node; matinsref1.Of by its kind alone. (bel2) -/
namespace Go.Proofs.YtbllehjhmfehbaaGreat
open Go.RowKit
set_option linter.unusedSimpArgs false

namespace Od
def OfK (s : Str) (w : World) (e : Ending) (w' : World) : Prop := ∃ p i a, e = .returned (cutC (kindS s, p, i, a)) ∧ Below w.heap.size w w'
theorem OfK_any (s : Str) (w : World) (hl : s.length ≤ 140737488355328) : Calls Tryz.prog 55 #[sv s] w (OfK s w) :=
  (Of_any s w hl).mono fun e w' ⟨h, hb⟩ => ⟨(ofS s).2.1, (ofS s).2.2.1, (ofS s).2.2.2, by rw [h, ← ofS_kind], hb⟩
set_option maxRecDepth 100000 in
theorem field_kind : ∀ (k : Int) (p i : Str) (a : Bool) (v : World), (Instr.field 100 (cutC (k, p, i, a)) 0).run Tryz.prog v = .ok (.int .i64 k) v := fun _ _ _ _ _ => by kernel_rfl
set_option maxRecDepth 100000 in
set_option maxHeartbeats 4000000 in
theorem less15_any (a b a' b' : Str) (x y : Int) (w : World) :
    Calls Tryz.prog 56 #[.agg #[sv a, sv b, .int .i64 x], .agg #[sv a', sv b', .int .i64 y]] w fun e w' => e = .returned (.bool (ltE (a, b, x) (a', b', y))) ∧ Below w.heap.size w w' := by
  have HM := Lib.hid (show ltE (a, b, x) (a', b', y) = (ltS a a' || (a == a' && (ltS b b' || (b == b' && decide (x < y))))) from rfl)
  cases h1 : (a == a')
  · cases h2 : Op.bytesLess a a'
    · go_enter Tryz.func56, Tryz.ntmps56
      go_wp2_with fail
      go_ret
      exact ⟨ret_bool (by rw [HM.out]; simp [ltS, h1, h2]), (by repeat (first | exact Below.refl _ _ | assumption | refine Below.alloc ?_ (by first | omega | (simp <;> omega)) _ | refine Below.setCell ?_ (by first | omega | (simp <;> omega)) _ | refine Below.drew ?_))⟩
    · go_enter Tryz.func56, Tryz.ntmps56
      go_wp2_with fail
      go_ret
      exact ⟨ret_bool (by rw [HM.out]; simp [ltS, h1, h2]), (by repeat (first | exact Below.refl _ _ | assumption | refine Below.alloc ?_ (by first | omega | (simp <;> omega)) _ | refine Below.setCell ?_ (by first | omega | (simp <;> omega)) _ | refine Below.drew ?_))⟩
  · have e1 : a = a' := by simpa using h1
    subst e1
    have h2 : Op.bytesLess a a = false := toS.irrefl a
    cases h3 : (b == b')
    · cases h4 : Op.bytesLess b b'
      · go_enter Tryz.func56, Tryz.ntmps56
        go_wp2_with fail
        go_ret
        exact ⟨ret_bool (by rw [HM.out]; simp [ltS, h2, h3, h4]), (by repeat (first | exact Below.refl _ _ | assumption | refine Below.alloc ?_ (by first | omega | (simp <;> omega)) _ | refine Below.setCell ?_ (by first | omega | (simp <;> omega)) _ | refine Below.drew ?_))⟩
      · go_enter Tryz.func56, Tryz.ntmps56
        go_wp2_with fail
        go_ret
        exact ⟨ret_bool (by rw [HM.out]; simp [ltS, h2, h3, h4]), (by repeat (first | exact Below.refl _ _ | assumption | refine Below.alloc ?_ (by first | omega | (simp <;> omega)) _ | refine Below.setCell ?_ (by first | omega | (simp <;> omega)) _ | refine Below.drew ?_))⟩
    · have e2 : b = b' := by simpa using h3
      subst e2
      have h4 : Op.bytesLess b b = false := toS.irrefl b
      go_enter Tryz.func56, Tryz.ntmps56
      go_wp2_with fail
      go_ret
      exact ⟨ret_bool (by rw [HM.out]; simp [ltS, h2, h4]), (by repeat (first | exact Below.refl _ _ | assumption | refine Below.alloc ?_ (by first | omega | (simp <;> omega)) _ | refine Below.setCell ?_ (by first | omega | (simp <;> omega)) _ | refine Below.drew ?_))⟩
theorem nodeOf_at {ns : List Nd} {s : Str} {k : Nat} (hk : k < ns.length) (h0 : (ns.take k).any (fun n => n.1 == s) = false) (h : (ns[k].1 == s) = true) : nodeOf ns s = some ns[k] := find_at hk h0 h
set_option maxRecDepth 100000 in
set_option maxHeartbeats 4000000 in
theorem Node15_any (An Ae : Option Addr) (ne cn ce : Nat) (ns : List Nd) (s : Str) (w : World) (hr : Rd w w.heap.size 3 An ns.length (ndsC ns)) (hl : ns.length ≤ 1000000) :
    Calls Tryz.prog 49 #[gV An ns.length cn Ae ne ce, sv s] w fun e w' => e = .returned (nodeV (nodeOf ns s)) ∧ Below w.heap.size w w' := by
  have Hr := Lib.hid hr
  clear hr
  go_enter Tryz.func49, Tryz.ntmps49
  go_wp2_with fail
  first | (refine wp_named ?_; intro W1 hW) | (refine calls_named ?_; intro W1 hW)
  have B1 : Below w.heap.size w W1 := by rw [hW]; exact (by repeat (first | exact Below.refl _ _ | assumption | refine Below.alloc ?_ (by first | omega | (simp <;> omega)) _ | refine Below.setCell ?_ (by first | omega | (simp <;> omega)) _ | refine Below.drew ?_))
  replace Hr := Lib.hid (Hr.out.at B1)
  have n1 : w.heap.size < W1.heap.size := by rw [hW]; simp <;> omega
  have n2 : w.heap.size + 1 < W1.heap.size := by rw [hW]; simp <;> omega
  have g0 : W1.cell? ⟨w.heap.size, 0, none⟩ = some (.slice An ns.length cn) := by rw [hW]; go_simp
  have g1 : W1.cell? ⟨w.heap.size, 1, none⟩ = some (.slice Ae ne ce) := by rw [hW]; go_simp
  have r0 : W1.cell? ⟨w.heap.size + 1, 0, none⟩ = some (sv []) := by rw [hW]; go_simp
  have r1 : W1.cell? ⟨w.heap.size + 1, 1, none⟩ = some (.int .i64 0) := by rw [hW]; go_simp
  have r2 : W1.cell? ⟨w.heap.size + 1, 2, none⟩ = some (.int .i64 0) := by rw [hW]; go_simp
  have f0 : W1.frozen? ⟨w.heap.size + 1, 0, none⟩ = false := by rw [hW]; go_simp
  have f1 : W1.frozen? ⟨w.heap.size + 1, 1, none⟩ = false := by rw [hW]; go_simp
  have f2 : W1.frozen? ⟨w.heap.size + 1, 2, none⟩ = false := by rw [hW]; go_simp
  clear hW
  have HB := Lib.hid B1
  clear B1
  go_loopw [11] (fun i wr => ∃ k : Nat, k ≤ ns.length ∧ i = .int .i64 k ∧ Hid ((ns.take k).any (fun n => n.1 == s) = false) ∧ Below W1.heap.size W1 wr) (fun i _ => ns.length - (intOf i).toNat)
  case atStart => exact ⟨0, Nat.zero_le _, rfl, by simp [Hid], Below.refl _ _⟩
  case round =>
    obtain ⟨k, hk, rfl, hall, hb⟩ := hrel
    have Hb := Lib.hid hb
    replace g0 := cellAt g0 hb (by omega)
    replace g1 := cellAt g1 hb (by omega)
    replace r0 := cellAt r0 hb (by omega)
    replace r1 := cellAt r1 hb (by omega)
    replace r2 := cellAt r2 hb (by omega)
    replace f0 := froAt f0 hb (by omega)
    replace f1 := froAt f1 hb (by omega)
    replace f2 := froAt f2 hb (by omega)
    replace Hr := Lib.hid (Hr.out.at hb)
    replace n1 : w.heap.size < wr.heap.size := ltAt n1 hb
    replace n2 : w.heap.size + 1 < wr.heap.size := ltAt n2 hb
    replace HB := Lib.hid (lift HB.out hb)
    clear hb
    have hzw : w.heap.size + 1 < wr.heap.size := n2
    by_cases hlt : k < ns.length
    · obtain ⟨b, o, rfl, hB, x0, x1, x2⟩ := Hr.out.node hlt
      have hnx := nodeOf_at (s := s) hlt hall.out
      have hany := any_take_succ (p := fun n : Nd => n.1 == s) hlt
      generalize ns[k] = z at x0 x1 x2 hnx hany
      obtain ⟨s', t', r'⟩ := z
      simp only at x0 x1 x2 hnx hany
      have HA := Lib.hid hany
      have HX := Lib.hid hnx
      clear hany hnx
      have k1 : (0 : Int) ≤ (k : Int) := by omega
      have k2 : (k : Int) < (ns.length : Int) := by omega
      cases hss : (s' == s)
      · have HA2 := Lib.hid (show (ns.take (k + 1)).any (fun n => n.1 == s) = false by rw [HA.out, hall.out, hss]; rfl)
        go_wp2_with fail
        go_roundw
        case rel => exact ⟨k + 1, by omega, by go_num, HA2.out, Hb.out.alloc Hb.out.size _⟩
        case measure => simp [intOf]; omega
      · have HX2 := Lib.hid (HX.out hss)
        have e1 : s' = s := by simpa using hss
        subst e1
        go_wp2_with fail
        have hB0 := HB.out
        refine bodyPost_ret (v := .tuple #[ndV (s', t', r'), .bool true]) (by simp only [results, Tryz.results49]; go_simp) rfl ⟨by rw [HX2.out]; rfl, (by repeat (first | exact Below.refl _ _ | assumption | refine Below.alloc ?_ (by first | omega | (simp <;> omega)) _ | refine Below.setCell ?_ (by first | omega | (simp <;> omega)) _ | refine Below.drew ?_))⟩
    · have HN := Lib.hid (show nodeOf ns s = none from find_none_take (by have := hall.out; rwa [List.take_of_length_le (by omega)] at this))
      go_wp2_with fail
      have hB0 := HB.out
      refine bodyPost_ret (v := .tuple #[ndV ([], 0, 0), .bool false]) (by simp only [results, Tryz.results49]; go_simp) rfl ⟨by rw [HN.out]; rfl, (by repeat (first | exact Below.refl _ _ | assumption | refine Below.alloc ?_ (by first | omega | (simp <;> omega)) _ | refine Below.setCell ?_ (by first | omega | (simp <;> omega)) _ | refine Below.drew ?_))⟩
end Od
end Go.Proofs.YtbllehjhmfehbaaGreat
end

section
/- The words of matinsref17.All: its maps, the middle of a layer, what a map literal puts in. (bel2) -/
namespace Go.Proofs.YtbllehjhmfehbaaGreat
open Go.RowKit Go.Sort Go.Maps
set_option linter.unusedSimpArgs false
section
variable {P : Program} {k : TypeId} {α : Type} {κ : KeyKind P k α} {ops : Array Oper} {rest : List Oper} {o : Oper} {a : Act} {Q : Exit → Act → World → Prop} (w : World)
open Classical in
theorem wpList_insert_is (hg : o.guard = none) (m x v : Operand) (t : TypeId) (hop : o.op = Op.insert t m x v) (e : TypeId) (ht : P.underlying t = some (.map k e))
    (b n : Nat) (f : α → Option Value) (hm : a.eval m = .map (some b)) (h : MapIs κ w b n f) (hn : n < maxLen) (key : α) (val : Value) (hx : a.eval x = κ.val key) (hv : a.eval v = val) (hk : κ.ok key)
    (hK : ∀ w', MapIs κ w' b (n + 1) (fun y => if y = key then some val else f y) → w.grownBy w' (some b) → wpList P ops Q rest (a.put o.dst undef) w') : wpList P ops Q (o :: rest) a w := by
  refine wpList_plain hg fun K' hK' => ?_
  obtain ⟨w', hrun, h1, h2⟩ := h.update ht hn hk val
  unfold Oper.wp
  simp [execOp, hop, hm, hx, hv, hrun, Result.andThen]
  exact hK' _ _ (hK w' h1 h2)
theorem wpList_wantT (hw : Region.wanted o (yielded ops a.tmps) = true) (h : ∀ K : Act → World → Prop, (∀ a w, wpList P ops Q rest a w → K a w) → o.wp P a w K Q) : wpList P ops Q (o :: rest) a w :=
  wpList_step fun K hK => by rw [if_pos hw]; exact h K hK
theorem wpList_lookup_wT (hw : Region.wanted o (yielded ops a.tmps) = true) (m x : Operand) (t : TypeId) (hop : o.op = Op.lookup t m x false) (e : TypeId) (ht : P.underlying t = some (.map k e)) (z : Value) (hz : (zeroValue e).run P w = .ok z w)
    (b n : Nat) (f : α → Option Value) (hm : a.eval m = .map (some b)) (h : MapIs κ w b n f) (key : α) (hx : a.eval x = κ.val key) (hk : κ.ok key)
    (hK : wpList P ops Q rest (a.put o.dst ((f key).getD z)) w) : wpList P ops Q (o :: rest) a w := by
  refine wpList_wantT w hw fun K' hK' => ?_
  have hrun := h.lookup ht hz hk
  unfold Oper.wp
  simp [execOp, hop, hm, hx, hrun, Result.andThen]
  exact hK' _ _ hK
theorem yield_lookup_is {ev : Operand → Value} (dst : Option Tmp) (ty : TypeId) (pos : String) (aft : Array Edge) (grd : Option (Nat × Bool)) (m x : Operand) (t e : TypeId) (ht : P.underlying t = some (.map k e)) (z : Value) (hz : (zeroValue e).run P w = .ok z w)
    (b n : Nat) (f : α → Option Value) (hm : ev m = .map (some b)) (h : MapIs κ w b n f) (key : α) (hx : ev x = κ.val key) (hk : κ.ok key) :
    (execOp ev ⟨dst, Op.lookup t m x false, ty, pos, aft, grd⟩).run P w = .ok (.value ((f key).getD z)) w := by
  have hrun := h.lookup ht hz hk
  show Sem.run P (Instr.lookup t (ev m) (ev x) false >>= fun r => pure (Next.value r)) w = _
  rw [hm, hx, Sem.run_bind, hrun]
  rfl
end
theorem own_map {w w' : World} {base e k n b : Nat} {v : Value} {xs : List Value} (h : w.ownsRow base e k v n xs) (hg : w.grownBy w' (some b)) (hb : b < base) : w'.ownsRow base e k v n xs :=
  h.kept hg (by
    cases hv : v.ownBlock with
    | none => exact .inl rfl
    | some g => exact .inr (fun e => by cases e; have := (h.lt _ hv).1; omega))
namespace Od
theorem MapIs.ifR {w : World} {b n : Nat} {k : Jp} {a : Option Value} {f : Jp → Option Value} (h : MapIs kindR w b n (fun y => @ite (Option Value) (y = k) (Classical.propDecidable _) a (f y))) : MapIs kindR w b n (fun y => if y = k then a else f y) := by
  have e : (fun y => @ite (Option Value) (y = k) (Classical.propDecidable _) a (f y)) = (fun y => if y = k then a else f y) := by
    funext y
    by_cases e : y = k <;> simp [e]
  rwa [e] at h
theorem zeroIr (w : World) : (zeroValue 3).run Tryz.prog w = .ok (.int .i64 0) w := Tryz.zeroValue3 w
/-- Who brought a job, but the first. -/
def byX (first : Jp) (m : Ms) (k : Jp) : Option Value := if k = first then none else byV m k
theorem byX_push {first : Jp} {m : Ms} {k : Jp} {s : Str} (h : knownP m k = false) (hf : k ≠ first) : (fun y => if y = k then some (sv s) else byX first m y) = byX first (m ++ [(k, s)]) := by
  have hp := byV_push (s := s) h
  funext y
  have hy : (if y = k then some (sv s) else byV m y) = byV (m ++ [(k, s)]) y := congrFun hp y
  unfold byX
  by_cases e : y = k
  · subst e
    rw [if_pos rfl] at hy ⊢
    rw [if_neg hf, ← hy]
  · rw [if_neg e] at hy ⊢
    by_cases e2 : y = first
    · rw [if_pos e2, if_pos e2]
    · rw [if_neg e2, if_neg e2, ← hy]
theorem byX_one (first : Jp) : (fun _ => none : Jp → Option Value) = byX first [(first, [])] := by
  funext y
  unfold byX
  by_cases e : y = first
  · rw [if_pos e]
  · rw [if_neg e]
    unfold byV byF
    have : (first == y) = false := by simpa using fun h => e h.symm
    simp [this]
theorem byX_get {first : Jp} {m : Ms} (hf : byOf m first = []) (k : Jp) : (byX first m k).getD (.string ⟨#[]⟩) = sv (byOf m k) := by
  unfold byX
  by_cases e : k = first
  · subst e; rw [if_pos rfl, hf]; rfl
  · rw [if_neg e, ← byF_getD]
    unfold byV
    cases byF m k <;> rfl
/-- The map of those that come along. -/
def FarS (w : World) (fB : Nat) (m : Ms) : Prop := ∃ f, MapIs kindR w fB m.length f ∧ ∀ k, (f k).isSome = knownP m k
theorem FarS.on {w w' : World} {fB : Nat} {m : Ms} (h : FarS w fB m) (hb : Below w.heap.size w w') : FarS w' fB m := by obtain ⟨f, h1, h2⟩ := h; exact ⟨f, h1.on hb, h2⟩
theorem FarS.kept {w w' : World} {fB b : Nat} {m : Ms} (h : FarS w fB m) (hg : w.grownBy w' (some b)) (hne : fB ≠ b) : FarS w' fB m := by obtain ⟨f, h1, h2⟩ := h; exact ⟨f, h1.kept hg (fun e => hne (by injection e)), h2⟩
theorem FarS.lt {w : World} {fB : Nat} {m : Ms} (h : FarS w fB m) : fB < w.heap.size := by obtain ⟨f, h1, _⟩ := h; exact h1.lt
theorem known_push (m : Ms) (k : Jp) (s : Str) (y : Jp) : knownP (m ++ [(k, s)]) y = (knownP m y || (k == y)) := by
  unfold knownP; rw [List.any_append]; simp
theorem FarS.one {w : World} {fB : Nat} {first : Jp} {v : Value} (h : MapIs kindR w fB 1 (fun y => if y = first then some v else none)) : FarS w fB [(first, [])] :=
  ⟨_, h, fun k => by
    unfold knownP
    by_cases e : k = first
    · subst e; simp
    · have : (first == k) = false := by simpa using fun h => e h.symm
      simp [e, this]⟩
theorem FarS.push {w' : World} {fB n : Nat} {m : Ms} {f : Jp → Option Value} {k : Jp} {s : Str} {v : Value} (hf : ∀ k, (f k).isSome = knownP m k) (hn : n = m.length) (h : MapIs kindR w' fB (n + 1) (fun y => if y = k then some v else f y)) : FarS w' fB (m ++ [(k, s)]) := by
  subst hn
  refine ⟨_, by rw [List.length_append]; exact h, fun y => ?_⟩
  rw [known_push]
  by_cases e : y = k
  · subst e; simp
  · have h2 : (k == y) = false := by simpa using fun h => e h.symm
    rw [if_neg e, hf, h2, Bool.or_false]
/-- In the middle of a layer: the maps, and the next layer's row. -/
structure LayS (w : World) (fB yB base : Nat) (first : Jp) (cand : List Jp) (s : Ms × List Jp) (A : Option Addr) (c : Nat) : Prop where
  nx : w.ownsRow base 86 2 (.slice A (canon ltJ s.2).length c) (canon ltJ s.2).length (jpsC (canon ltJ s.2))
  far : FarS w fB s.1
  by_ : MapIs kindR w yB s.1.length (byX first s.1)
  mid : Mid first cand s
  fst : first ∈ keysP s.1
theorem LayS.on {w w' : World} {fB yB base : Nat} {first : Jp} {cand : List Jp} {s : Ms × List Jp} {A : Option Addr} {c : Nat} (h : LayS w fB yB base first cand s A c) (hb : Below w.heap.size w w') : LayS w' fB yB base first cand s A c :=
  ⟨own_on h.nx hb, h.far.on hb, h.by_.on hb, h.mid, h.fst⟩
theorem midP_next {E : Jp → List Bg} {out : Jp → Bool} {m : Ms} {R : List Jp} {k : Nat} (h : k < R.length) : midP E out m R (k + 1) = (bysB R[k].1 (E R[k])).foldl (addP out) (midP E out m R k) := by
  rw [midP_succ h, bysB_filter, fold_no]
theorem bys_next {u : Str} {L : List Bg} {out : Jp → Bool} {s : Ms × List Jp} {i : Nat} (h : i < L.length) : (bysB u (L.take (i + 1))).foldl (addP out) s = addP out ((bysB u (L.take i)).foldl (addP out) s) (L[i].1, u) := by
  unfold bysB
  rw [List.take_succ_eq_append_getElem h, List.map_append, List.foldl_append]
  rfl
theorem addP_skip {out : Jp → Bool} {s : Ms × List Jp} {p : Jp × Str} (h : knownP s.1 p.1 = true ∨ out p.1 = true) : addP out s p = s := by
  unfold addP
  rw [if_pos]
  rcases h with h | h <;> rw [h] <;> simp
theorem addP_do {out : Jp → Bool} {s : Ms × List Jp} {p : Jp × Str} (h : knownP s.1 p.1 = false) (h2 : out p.1 = false) : addP out s p = (s.1 ++ [p], s.2 ++ [p.1]) := by
  unfold addP
  rw [if_neg (by rw [h, h2]; simp)]
/-- A job more. -/
theorem LayS.put {w w1 w2 w3 : World} {fB yB base : Nat} {first : Jp} {cand : List Jp} {s : Ms × List Jp} {A A' : Option Addr} {c c' : Nat} {k : Jp} {u : Str} {v : Value} {f : Jp → Option Value} {out : Jp → Bool}
    (h : LayS w fB yB base first cand s A c) (h1 : fB < base) (h2 : yB < base) (h3 : fB ≠ yB) (hbw : base ≤ w.heap.size) (hf : ∀ k, (f k).isSome = knownP s.1 k) (hk : knownP s.1 k = false) (ho : out k = false) (hc : k ∈ cand)
    (hm1 : MapIs kindR w1 fB (s.1.length + 1) (fun y => if y = k then some v else f y)) (hg1 : w.grownBy w1 (some fB))
    (hm2 : MapIs kindR w2 yB (s.1.length + 1) (fun y => if y = k then some (sv u) else byX first s.1 y)) (hg2 : w1.grownBy w2 (some yB))
    (hp : (A' = A ∧ c' = c ∧ insL ltJ k (canon ltJ s.2) = canon ltJ s.2) ∨ w3.ownsRow w2.heap.size 86 2 (.slice A' (insL ltJ k (canon ltJ s.2)).length c') (insL ltJ k (canon ltJ s.2)).length (jpsC (insL ltJ k (canon ltJ s.2)))) (hb : Below w2.heap.size w2 w3) :
    LayS w3 fB yB base first cand (addP out s (k, u)) A' c' := by
  have hadd := addP_do (out := out) (s := s) (p := (k, u)) hk ho
  have hs1 := hg1.size
  have hs2 := hg2.size
  have hrow : w3.ownsRow base 86 2 (.slice A' (canon ltJ (s.2 ++ [k])).length c') (canon ltJ (s.2 ++ [k])).length (jpsC (canon ltJ (s.2 ++ [k]))) := by
    rw [← insL_canon]
    rcases hp with ⟨rfl, rfl, he⟩ | hp
    · rw [he]; exact own_on (own_map (own_map h.nx hg1 h1) hg2 h2) hb
    · exact own_base hp (by omega)
  have hmid := h.mid.add (out := out) (p := (k, u)) hc
  rw [hadd] at hmid ⊢
  refine ⟨hrow, ((FarS.push (s := u) hf rfl hm1).kept hg2 h3).on hb, ?_, hmid, ?_⟩
  · rw [byX_push hk (fun e => by rw [e, knownP_iff.2 h.fst] at hk; cases hk)] at hm2
    simp only [List.length_append, List.length_cons, List.length_nil]
    exact hm2.on hb
  · have := h.fst
    unfold keysP at this ⊢
    rw [List.map_append]
    exact List.mem_append_left _ this
end Od
end Go.Proofs.YtbllehjhmfehbaaGreat
end
