/- My texts, joined for the claim: QLacksW QMovesW WStepsW SayI. -/
import Derived.Test.YtmlogmcnblgnbaaGreatZB0
import Derived.Test.YtmlogmcnblgnbaaGreatZB11
import Derived.Test.YtmlogmcnblgnbaaGreatZB9
import Derived.Test.YtmlogmcnblgnbaaGreatZB10
import Derived.Test.YtmlogmcnblgnbaaGreatZB4

section
/- The walks of queue.Needs and queue.lacks. (bel2) -/
namespace Go.Proofs.YtmlogmcnblgnbaaGreat
open Go.RowKit Go.Sort
set_option linter.unusedSimpArgs false

namespace Od
set_option maxHeartbeats 1000000 in
theorem Needs1_any (o u : Str) (pg pu : Nat) (An Ae : Option Addr) (nn cn ce : Nat) (es : List Ed) (w : World) (hg0 : w.cell? ⟨pg, 0, none⟩ = some (.slice An nn cn)) (hg1 : w.cell? ⟨pg, 1, none⟩ = some (.slice Ae es.length ce)) (hu : w.cell? ⟨pu, 0, none⟩ = some (sv u)) (hr : Rd w w.heap.size 3 Ae es.length (edsC es)) (hl : es.length ≤ 1000000) :
    Calls Tryz.prog 134 #[sv o, .pointer (some ⟨pg, 0, none⟩), .pointer (some ⟨pu, 0, none⟩)] w fun e w' => e = .returned (.bool (!Ah es o u)) ∧ Below w.heap.size w w' := by
  go_enter Tryz.func134, Tryz.ntmps134
  go_wp2_with fail
  refine (Ahead_any An Ae nn cn ce es o u w hr hl).mono ?_
  rintro e w2 ⟨rfl, hb⟩
  go_wp2_with fail
  go_ret
  exact ⟨rfl, hb⟩
theorem says_needs (u : Str) (pg pu B : Nat) (An Ae : Option Addr) (nn cn ce : Nat) (es : List Ed) (base : Nat) (w : World) (hg0 : w.cell? ⟨pg, 0, none⟩ = some (.slice An nn cn)) (hg1 : w.cell? ⟨pg, 1, none⟩ = some (.slice Ae es.length ce)) (hu : w.cell? ⟨pu, 0, none⟩ = some (sv u)) (hr : Rd w B 3 Ae es.length (edsC es)) (hl : es.length ≤ 1000000) (h1 : pg < base) (h2 : pu < base) (h3 : B ≤ base) (hz : base ≤ w.heap.size) :
    SaysB2 134 #[.pointer (some ⟨pg, 0, none⟩), .pointer (some ⟨pu, 0, none⟩)] (fun o => !Ah es o u) base w where
  enters := enters_of Tryz.func134 (by kernel_rfl) rfl
  says := fun W s h => Needs1_any s u pg pu An Ae nn cn ce es W ((h.cell (p := ⟨pg, 0, none⟩) h1).trans hg0) ((h.cell (p := ⟨pg, 1, none⟩) h1).trans hg1) ((h.cell (p := ⟨pu, 0, none⟩) h2).trans hu)
    ((hr.below (h.mono h3)).more (Nat.le_trans h3 (Nat.le_trans hz h.size))) hl
theorem outS_le (es : List Ed) (u : Str) (rel : Int) : (outS es u rel).length ≤ es.length := Nat.le_trans (onceS_len _) (outRaw_len es u rel)
set_option maxRecDepth 100000 in
set_option maxHeartbeats 2000000 in
theorem Needs_any (An Ae : Option Addr) (nn cn ce : Nat) (es : List Ed) (u : Str) (w : World) (hr : Rd w w.heap.size 3 Ae es.length (edsC es)) (hl : es.length ≤ 100000) :
    Calls Tryz.prog 100 #[gV An nn cn Ae es.length ce, sv u] w (OwnS (needsU es u) w) := by
  have Hr := Lib.hid hr
  clear hr
  have l1 := outS_le es u 1
  have l4 := outS_le es u 4
  obtain ⟨L, hL⟩ : ∃ L, L = outS es u 1 ++ outS es u 4 := ⟨_, rfl⟩
  have hLl : L.length ≤ 1000000 := by rw [hL, List.length_append]; omega
  have HU := Lib.hid (show L.filter (fun s => !(!Ah es s u)) = needsU es u by rw [hL]; unfold needsU; simp)
  have HLq := Lib.hid hL
  clear hL
  go_enter Tryz.func100, Tryz.ntmps100
  go_wp2_with fail
  first | (refine wp_named ?_; intro W1 hW) | (refine calls_named ?_; intro W1 hW)
  have B1 : Below w.heap.size w W1 := by rw [hW]; exact (by repeat (first | exact Below.refl _ _ | assumption | refine Below.alloc ?_ (by first | omega | (simp <;> omega)) _ | refine Below.setCell ?_ (by first | omega | (simp <;> omega)) _ | refine Below.drew ?_))
  replace Hr := Lib.hid (Hr.out.at B1)
  have n1 : w.heap.size < W1.heap.size := by rw [hW]; simp <;> omega
  have n2 : w.heap.size + 1 < W1.heap.size := by rw [hW]; simp <;> omega
  have g0 : W1.cell? ⟨w.heap.size, 0, none⟩ = some (.slice An nn cn) := by rw [hW]; go_simp
  have g1 : W1.cell? ⟨w.heap.size, 1, none⟩ = some (.slice Ae es.length ce) := by rw [hW]; go_simp
  have x0 : W1.cell? ⟨w.heap.size + 1, 0, none⟩ = some (sv u) := by rw [hW]; go_simp
  clear hW
  have HB := Lib.hid B1
  have HR0 := Hr
  have hn1 := n1
  have hn2 := n2
  clear B1
  try go_wp2_with fail
  refine wp_region_held_drew (S := fun w' => Below W1.heap.size W1 w') (by kernel_rfl) (Below.drew (Below.refl _ _)) (fun hHeld => ?_)
  refine tY (i := 0) (v := ?_) rfl ?_ hHeld ?_; rotate_left 1; focus (intro w' hSw; have hCell := fun (b o : Nat) (h : b < W1.heap.size) => hSw.cell (p := ⟨b, o, none⟩) h; clear hSw; go_simp; try with_reducible rfl)
  (try simp only [Act.put, zn1, zn2, zn3])
  refine tY (i := 1) (v := ?_) rfl ?_ hHeld ?_; rotate_left 1; focus (intro w' hSw; have hCell := fun (b o : Nat) (h : b < W1.heap.size) => hSw.cell (p := ⟨b, o, none⟩) h; clear hSw; go_simp; try with_reducible rfl)
  (try simp only [Act.put, zn1, zn2, zn3])
  refine tY (i := 3) (v := ?_) rfl ?_ hHeld ?_; rotate_left 1; focus (intro w' hSw; have hCell := fun (b o : Nat) (h : b < W1.heap.size) => hSw.cell (p := ⟨b, o, none⟩) h; clear hSw; go_simp; try with_reducible rfl)
  (try simp only [Act.put, zn1, zn2, zn3])
  refine tY (i := 4) (v := ?_) rfl ?_ hHeld ?_; rotate_left 1; focus (intro w' hSw; have hCell := fun (b o : Nat) (h : b < W1.heap.size) => hSw.cell (p := ⟨b, o, none⟩) h; clear hSw; go_simp; try with_reducible rfl)
  (try simp only [Act.put, zn1, zn2, zn3])
  refine ready_one (i := 2) rfl (by kernel_rfl) (fun K hK => ?_)
  go_simp
  refine (Out_any An Ae nn cn ce es u 1 _ (Hr.out.at hHeld) (by omega)).mono ?_
  rintro e v1 ⟨A1, c1, rfl, ho1, hb⟩
  have HR1 := Lib.hid (own_rd' ho1)
  clear ho1
  refine hK.out _ _ ?_ (fun hHeld2 => ?_)
  · (try dsimp only); first | exact Below.trans hHeld (Below.mono hb hHeld.size) | exact hHeld | exact Below.drew hHeld | exact (by repeat (first | exact Below.refl _ _ | assumption | refine Below.alloc ?_ (by first | omega | (simp <;> omega)) _ | refine Below.setCell ?_ (by first | omega | (simp <;> omega)) _ | refine Below.drew ?_))
  clear hK K hHeld; have hHeld := hHeld2; clear hHeld2; (try simp only [Act.put, zn1, zn2, zn3])
  refine ready_one (i := 5) rfl (by kernel_rfl) (fun K hK => ?_)
  go_simp
  refine (Out_any An Ae nn cn ce es u 4 _ (Hr.out.at hHeld) (by omega)).mono ?_
  rintro e v2 ⟨A2, c2, rfl, ho2, hb⟩
  have HR2 := Lib.hid (own_rd' ho2)
  have HR1b := Lib.hid (HR1.out.at hb)
  have hz21 := hHeld.size
  have hz22 := hb.size
  clear ho2
  refine hK.out _ _ ?_ (fun hHeld2 => ?_)
  · (try dsimp only); first | exact Below.trans hHeld (Below.mono hb hHeld.size) | exact hHeld | exact Below.drew hHeld | exact (by repeat (first | exact Below.refl _ _ | assumption | refine Below.alloc ?_ (by first | omega | (simp <;> omega)) _ | refine Below.setCell ?_ (by first | omega | (simp <;> omega)) _ | refine Below.drew ?_))
  clear hK K hHeld; have hHeld := hHeld2; clear hHeld2; (try simp only [Act.put, zn1, zn2, zn3])
  refine ready_one (i := 6) rfl (by kernel_rfl) (fun K hK => ?_)
  go_simp
  refine hK.out _ _ ?_ (fun hHeld2 => ?_)
  · (try dsimp only); first | exact hHeld | exact (by repeat (first | exact Below.refl _ _ | assumption | refine Below.alloc ?_ (by first | omega | (simp <;> omega)) _ | refine Below.setCell ?_ (by first | omega | (simp <;> omega)) _ | refine Below.drew ?_))
  clear hK K hHeld; have hHeld := hHeld2; clear hHeld2; (try simp only [Act.put, zn1, zn2, zn3])
  refine ready_one (i := 7) rfl (by kernel_rfl) (fun K hK => ?_)
  go_simp
  refine (Concat2_any v2.heap.size A1 A2 c1 c2 (outS es u 1) (outS es u 4) _ (by go_simp) (by go_simp) ((HR1b.out.alloc (Nat.le_refl _) _).more (by simp)) ((HR2.out.alloc (Nat.le_refl _) _).more (by simp)) (by omega) (by omega)).mono ?_
  rw [← HLq.out]
  rintro e v3 ⟨A3, c3, rfl, ho3, hb⟩
  have HO3 := Lib.hid ho3
  have hs23 : v2.heap.size + 1 ≤ v3.heap.size := by have := hb.size; simpa using this
  have hs12 := hHeld.size
  clear ho3
  refine hK.out _ _ ?_ (fun hHeld2 => ?_)
  · (try dsimp only); first | exact Below.trans hHeld (Below.mono hb hHeld.size) | exact hHeld | exact Below.drew hHeld | exact (by repeat (first | exact Below.refl _ _ | assumption | refine Below.alloc ?_ (by first | omega | (simp <;> omega)) _ | refine Below.setCell ?_ (by first | omega | (simp <;> omega)) _ | refine Below.drew ?_))
  clear hK K hHeld; have hHeld := hHeld2; clear hHeld2; (try simp only [Act.put, zn1, zn2, zn3])
  refine tY (i := 8) (v := ?_) rfl ?_ hHeld ?_; rotate_left 1; focus (intro w' hSw; clear hSw; go_simp; try with_reducible rfl)
  (try simp only [Act.put, zn1, zn2, zn3])
  refine wpAnyH_done (by kernel_rfl) ?_ _
  have HR3 := Lib.hid (HR0.out.below hHeld)
  replace g0 := cellAt g0 hHeld (by omega)
  replace g1 := cellAt g1 hHeld (by omega)
  replace x0 := cellAt x0 hHeld (by omega)
  replace Hr := Lib.hid (Hr.out.at hHeld)
  replace n1 : w.heap.size < v3.heap.size := ltAt n1 hHeld
  replace n2 : w.heap.size + 1 < v3.heap.size := ltAt n2 hHeld
  replace HB := Lib.hid (lift HB.out hHeld)
  clear hHeld
  simp only [World.size_alloc] at HO3 hs12
  go_wp2_with fail
  refine (DeleteFuncS_own (v2.heap.size + 1) c3 L.length A3 L _ _ (fun o => !Ah es o u) v3 v3 HO3.out rfl hLl
    (says_needs u w.heap.size (w.heap.size + 1) W1.heap.size An Ae nn cn ce es (v2.heap.size + 1) v3 g0 g1 x0 HR3.out (by omega) (by omega) (by omega) (by omega) hs23) (Below.refl _ _) hs23).mono ?_
  rintro e v4 ⟨A4, c4, rfl, ho4, hb⟩
  rw [HU.out] at ho4 ⊢
  have HO4 := Lib.hid ho4
  have HB4 := Lib.hid (HB.out.trans (hb.mono (show w.heap.size ≤ v2.heap.size + 1 by omega)))
  have hwz : w.heap.size ≤ v2.heap.size + 1 := by omega
  clear ho4 hb
  go_wp2_with fail
  go_ret
  exact ⟨A4, c4, rfl, own_base HO4.out hwz, HB4.out⟩
/-! What did not come -/
def lackV (j : Jb) : Bool := !openB j && (startsB j && j.2.2.2 != 1)
set_option maxRecDepth 100000 in
set_option maxHeartbeats 4000000 in
theorem lacks1_any (o : Str) (pq : Nat) (A : Option Addr) (c : Nat) (q : List Jb) (w : World) (hp : w.cell? ⟨pq, 0, none⟩ = some (.slice A q.length c)) (hr : Rd w w.heap.size 4 A q.length (jbsC q)) (hl : q.length ≤ 1000000) :
    Calls Tryz.prog 101 #[sv o, .pointer (some ⟨pq, 0, none⟩)] w fun e w' => e = .returned (.bool (lackJ q o)) ∧ Below w.heap.size w w' := by
  have Hq := Lib.hid hr
  have hpl := cell_blk hp
  simp only at hpl
  clear hr
  go_enter Tryz.func101, Tryz.ntmps101
  go_wp2_with fail
  refine (find_any A c q o w Hq.out hl).mono ?_
  rintro e w2 ⟨r, rfl, hcase, hb⟩
  have HC := Lib.hid hcase
  have HB := Lib.hid hb
  replace hp := cellAt hp hb (by omega)
  replace Hq := Lib.hid (Hq.out.at hb)
  replace hpl : pq < w2.heap.size := ltAt hpl hb
  clear hb hcase
  rcases HC.out with ⟨rfl, hnone⟩ | ⟨k, hk, rfl, hfind, _, _⟩
  · have HL := Lib.hid (show lackJ q o = false by unfold lackJ jobOf; rw [hnone])
    clear hnone
    go_wp2_with fail
    go_ret
    exact ⟨ret_bool (by rw [HL.out]), HB.out⟩
  · have hpos : decide ((0 : Int) ≤ (k : Int)) = true := by simp
    obtain ⟨b, o1, hA, hB, y0, y1, y2, y3⟩ := Hq.out.job hk
    subst hA
    have hlj : lackJ q o = lackV q[k] := by unfold lackJ jobOf; rw [hfind]; rfl
    generalize q[k] = x at y0 y1 y2 y3 hlj
    clear hfind
    obtain ⟨s, t, r, d⟩ := x
    simp only at y0 y1 y2 y3
    have HL := Lib.hid (hlj.trans (show lackV (s, t, r, d) = (!openB (s, t, r, d) && (startsB (s, t, r, d) && d != 1)) from rfl))
    clear hlj HC
    have k1 : (0 : Int) ≤ (k : Int) := by omega
    have k2 : (k : Int) < (q.length : Int) := by omega
    go_wp2_with fail
    refine (open_any s t r d w2).mono ?_
    rintro e w3 ⟨rfl, hb⟩
    replace hp := cellAt hp hb (by omega)
    replace y0 := cellAt y0 hb (by omega)
    replace y1 := cellAt y1 hb (by omega)
    replace y2 := cellAt y2 hb (by omega)
    replace y3 := cellAt y3 hb (by omega)
    replace Hq := Lib.hid (Hq.out.at hb)
    replace hpl : pq < w3.heap.size := ltAt hpl hb
    replace HB := Lib.hid (lift HB.out hb)
    replace hB : b < w3.heap.size := ltAt hB hb
    clear hb
    cases h1 : openB (s, t, r, d)
    · have H1 := Lib.hid h1
      go_wp2_with fail
      refine (Starts_any s t r d w3).mono ?_
      rintro e w4 ⟨rfl, hb⟩
      replace hp := cellAt hp hb (by omega)
      replace y0 := cellAt y0 hb (by omega)
      replace y1 := cellAt y1 hb (by omega)
      replace y2 := cellAt y2 hb (by omega)
      replace y3 := cellAt y3 hb (by omega)
      replace Hq := Lib.hid (Hq.out.at hb)
      replace hpl : pq < w4.heap.size := ltAt hpl hb
      replace HB := Lib.hid (lift HB.out hb)
      replace hB : b < w4.heap.size := ltAt hB hb
      clear hb
      cases h2 : startsB (s, t, r, d)
      · have H2 := Lib.hid h2
        go_wp2_with fail
        go_ret
        exact ⟨ret_bool (by rw [HL.out]; simp [H1.out, H2.out]), HB.out⟩
      · have H2 := Lib.hid h2
        cases h3 : (d != 1)
        · have H3 := Lib.hid h3
          go_wp2_with fail
          go_ret
          exact ⟨ret_bool (by rw [HL.out]; simp [H1.out, H2.out, H3.out]), HB.out⟩
        · have H3 := Lib.hid h3
          go_wp2_with fail
          go_ret
          exact ⟨ret_bool (by rw [HL.out]; simp [H1.out, H2.out, H3.out]), HB.out⟩
    · have H1 := Lib.hid h1
      go_wp2_with fail
      go_ret
      exact ⟨ret_bool (by rw [HL.out]; simp [H1.out]), HB.out⟩
theorem says_lacks (pq : Nat) (A : Option Addr) (c : Nat) (q : List Jb) (w : World) (hp : w.cell? ⟨pq, 0, none⟩ = some (.slice A q.length c)) (hr : Rd w w.heap.size 4 A q.length (jbsC q)) (hl : q.length ≤ 1000000) :
    SaysS 101 #[.pointer (some ⟨pq, 0, none⟩)] (lackJ q) w where
  enters := enters_of Tryz.func101 (by kernel_rfl) rfl
  says := fun W s h => lacks1_any s pq A c q W ((h.cell (p := ⟨pq, 0, none⟩) (cell_blk hp)).trans hp) (hr.at h) hl
set_option maxRecDepth 100000 in
set_option maxHeartbeats 4000000 in
theorem lacks_any (An Ae : Option Addr) (nn cn ce : Nat) (es : List Ed) (A : Option Addr) (c : Nat) (q : List Jb) (u : Str) (w : World) (hr : Rd w w.heap.size 3 Ae es.length (edsC es)) (hq : Rd w w.heap.size 4 A q.length (jbsC q)) (hl : es.length ≤ 100000) (hlq : q.length ≤ 1000000) :
    Calls Tryz.prog 72 #[gV An nn cn Ae es.length ce, .slice A q.length c, sv u] w fun e w' => e = .returned (.bool (lacksQ es q u)) ∧ Below w.heap.size w w' := by
  have Hr := Lib.hid hr
  have Hq := Lib.hid hq
  have hnl : (needsU es u).length ≤ 1000000 := by
    have l1 := outS_le es u 1
    have l4 := outS_le es u 4
    have := List.length_filter_le (fun o => Ah es o u) (outS es u 1 ++ outS es u 4)
    rw [List.length_append] at this
    show ((outS es u 1 ++ outS es u 4).filter (fun o => Ah es o u)).length ≤ 1000000
    omega
  clear hr hq
  go_enter Tryz.func72, Tryz.ntmps72
  go_wp2_with fail
  first | (refine wp_named ?_; intro W1 hW) | (refine calls_named ?_; intro W1 hW)
  have B1 : Below w.heap.size w W1 := by rw [hW]; exact (by repeat (first | exact Below.refl _ _ | assumption | refine Below.alloc ?_ (by first | omega | (simp <;> omega)) _ | refine Below.setCell ?_ (by first | omega | (simp <;> omega)) _ | refine Below.drew ?_))
  replace Hr := Lib.hid (Hr.out.at B1)
  replace Hq := Lib.hid (Hq.out.at B1)
  have n1 : w.heap.size < W1.heap.size := by rw [hW]; simp <;> omega
  have n2 : w.heap.size + 1 < W1.heap.size := by rw [hW]; simp <;> omega
  have g0 : W1.cell? ⟨w.heap.size, 0, none⟩ = some (.slice An nn cn) := by rw [hW]; go_simp
  have g1 : W1.cell? ⟨w.heap.size, 1, none⟩ = some (.slice Ae es.length ce) := by rw [hW]; go_simp
  have x0 : W1.cell? ⟨w.heap.size + 1, 0, none⟩ = some (.slice A q.length c) := by rw [hW]; go_simp
  clear hW
  have HB := Lib.hid B1
  clear B1
  refine (Needs_any An Ae nn cn ce es u W1 Hr.out hl).mono ?_
  rintro e w2 ⟨A2, c2, rfl, ho2, hb⟩
  have HR2 := Lib.hid (own_rd' ho2)
  replace g0 := cellAt g0 hb (by omega)
  replace g1 := cellAt g1 hb (by omega)
  replace x0 := cellAt x0 hb (by omega)
  replace Hr := Lib.hid (Hr.out.at hb)
  replace Hq := Lib.hid (Hq.out.at hb)
  replace n1 : w.heap.size < w2.heap.size := ltAt n1 hb
  replace n2 : w.heap.size + 1 < w2.heap.size := ltAt n2 hb
  replace HB := Lib.hid (lift HB.out hb)
  clear hb ho2
  go_wp2_with fail
  refine (ContainsFuncS A2 c2 (needsU es u) _ _ (lackJ q) w2 HR2.out hnl (says_lacks (w.heap.size + 1) A c q w2 x0 Hq.out hlq)).mono ?_
  rintro e w3 ⟨rfl, hb⟩
  replace g0 := cellAt g0 hb (by omega)
  replace g1 := cellAt g1 hb (by omega)
  replace x0 := cellAt x0 hb (by omega)
  replace Hr := Lib.hid (Hr.out.at hb)
  replace Hq := Lib.hid (Hq.out.at hb)
  replace n1 : w.heap.size < w3.heap.size := ltAt n1 hb
  replace n2 : w.heap.size + 1 < w3.heap.size := ltAt n2 hb
  replace HB := Lib.hid (lift HB.out hb)
  clear hb
  go_wp2_with fail
  go_ret
  exact ⟨rfl, HB.out⟩
end Od
end Go.Proofs.YtmlogmcnblgnbaaGreat
end

section
/- The walks of queue.Begin and queue.Finish. (bel2) -/
namespace Go.Proofs.YtmlogmcnblgnbaaGreat
open Go.RowKit Go.Sort
set_option linter.unusedSimpArgs false

namespace Od
section
variable {w : World} {base c : Nat} {q : List Jb} {g : Nat}
theorem ownJ_cells (h : w.ownsRow base 48 4 (.slice (some ⟨g, 0, none⟩) q.length c) q.length (jbsC q)) {i : Nat} (hi : i < q.length) :
    w.cell? ⟨g, i * 4, none⟩ = some (sv q[i].1) ∧ w.cell? ⟨g, i * 4 + 1, none⟩ = some (.int .i64 q[i].2.1) ∧ w.cell? ⟨g, i * 4 + 2, none⟩ = some (.int .i64 q[i].2.2.1) ∧ w.cell? ⟨g, i * 4 + 3, none⟩ = some (.int .i64 q[i].2.2.2) ∧ ∀ j, w.frozen? ⟨g, j, none⟩ = false := by
  obtain ⟨b, o, hA, _, h0, h1, h2, h3⟩ := (own_rd' h).job hi
  injection hA with hA
  injection hA with hA1 hA2
  subst hA1 hA2
  simp only [Nat.zero_add] at h0 h1 h2 h3
  exact ⟨h0, h1, h2, h3, fun j => own_fro h⟩
end
theorem set_updf {q : List Jb} (hd : DQ q) {k : Nat} (hk : k < q.length) {u : Str} (hu : q[k].1 = u) {f : Jb → Jb} {x : Jb} (hx : f q[k] = x) : q.set k x = updJ q u f := by
  rw [set_upd hd hk, hu]
  refine updJ_congr fun y hy ey => ?_
  rw [hd.eq hy (List.getElem_mem hk) (ey.trans hu.symm), hx]
/-- A call hands back jobs, and true; or nothing, and false. -/
def JobsRet (r : Option (List Jb)) (w : World) (e : Ending) (w' : World) : Prop := ∃ A c, e = .returned (.tuple #[.slice A (r.getD []).length c, .bool r.isSome]) ∧ (r.getD []).length ≤ c ∧ Rd w' w'.heap.size 4 A (r.getD []).length (jbsC (r.getD [])) ∧ Below w.heap.size w w'
theorem JobsRet.no {w w' : World} (hb : Below w.heap.size w w') : JobsRet none w (.returned (.tuple #[.slice none 0 0, .bool false])) w' := ⟨none, 0, rfl, Nat.le_refl _, Rd.none_, hb⟩
theorem JobsRet.yes {x : List Jb} {w w' : World} {base n c : Nat} {A : Option Addr} (hn : x.length = n) (h : w'.ownsRow base 48 4 (.slice A n c) n (jbsC x)) (hb : Below w.heap.size w w') : JobsRet (some x) w (.returned (.tuple #[.slice A n c, .bool true])) w' := by
  subst hn
  exact ⟨A, c, rfl, (own_cap h).1, own_rd' h, hb⟩
/-- The same, and the jobs are of the call's own making. -/
def JobsRetF (r : Option (List Jb)) (w : World) (e : Ending) (w' : World) : Prop := ∃ A c, e = .returned (.tuple #[.slice A (r.getD []).length c, .bool r.isSome]) ∧ (r.getD []).length ≤ c ∧ Rd w' w'.heap.size 4 A (r.getD []).length (jbsC (r.getD [])) ∧ FreshA w.heap.size A (r.getD []).length ∧ Below w.heap.size w w'
theorem JobsRetF.weak {r : Option (List Jb)} {w w' : World} {e : Ending} (h : JobsRetF r w e w') : JobsRet r w e w' := by obtain ⟨A, c, h1, h2, h3, _, h4⟩ := h; exact ⟨A, c, h1, h2, h3, h4⟩
theorem JobsRetF.no {w w' : World} (hb : Below w.heap.size w w') : JobsRetF none w (.returned (.tuple #[.slice none 0 0, .bool false])) w' := ⟨none, 0, rfl, Nat.le_refl _, Rd.none_, fun h => absurd h (Nat.lt_irrefl 0), hb⟩
theorem JobsRetF.yes {x : List Jb} {w w' : World} {base n c : Nat} {A : Option Addr} (hn : x.length = n) (h : w'.ownsRow base 48 4 (.slice A n c) n (jbsC x)) (hb : Below w.heap.size w w') (hz : w.heap.size ≤ base) : JobsRetF (some x) w (.returned (.tuple #[.slice A n c, .bool true])) w' := by
  subst hn
  exact ⟨A, c, rfl, (own_cap h).1, own_rd' h, (own_fresh h).low hz, hb⟩
set_option maxRecDepth 100000 in
set_option maxHeartbeats 8000000 in
theorem BeginQF_any (An Ae : Option Addr) (nn cn ce : Nat) (es : List Ed) (A : Option Addr) (c : Nat) (q : List Jb) (u : Str) (w : World) (hr : Rd w w.heap.size 3 Ae es.length (edsC es)) (hq : QIn w A c q) (hl : es.length ≤ 100000) (hlq : q.length ≤ 1000000) :
    Calls Tryz.prog 40 #[gV An nn cn Ae es.length ce, .slice A q.length c, sv u] w (JobsRetF (beginQ es q u) w) := by
  have Hr := Lib.hid hr
  have HQ := Lib.hid hq
  clear hr hq
  go_enter Tryz.func40, Tryz.ntmps40
  go_wp2_with fail
  first | (refine wp_named ?_; intro W1 hW) | (refine calls_named ?_; intro W1 hW)
  have B1 : Below w.heap.size w W1 := by rw [hW]; exact (by repeat (first | exact Below.refl _ _ | assumption | refine Below.alloc ?_ (by first | omega | (simp <;> omega)) _ | refine Below.setCell ?_ (by first | omega | (simp <;> omega)) _ | refine Below.drew ?_))
  replace Hr := Lib.hid (Hr.out.at B1)
  replace HQ := Lib.hid (HQ.out.at B1)
  have n1 : w.heap.size < W1.heap.size := by rw [hW]; simp <;> omega
  have g0 : W1.cell? ⟨w.heap.size, 0, none⟩ = some (.slice An nn cn) := by rw [hW]; go_simp
  have g1 : W1.cell? ⟨w.heap.size, 1, none⟩ = some (.slice Ae es.length ce) := by rw [hW]; go_simp
  clear hW
  have HB := Lib.hid B1
  clear B1
  refine (ReadyQ_any An Ae nn cn ce es A c q W1 Hr.out HQ.out.rq (by omega) (by omega) HQ.out.ok).mono ?_
  rintro e w2 ⟨A2, c2, rfl, ho2, hb⟩
  have HR2 := Lib.hid (own_rd' ho2)
  replace g0 := cellAt g0 hb (by omega)
  replace g1 := cellAt g1 hb (by omega)
  replace Hr := Lib.hid (Hr.out.at hb)
  replace HQ := Lib.hid (HQ.out.at hb)
  replace n1 : w.heap.size < w2.heap.size := ltAt n1 hb
  replace HB := Lib.hid (lift HB.out hb)
  clear hb ho2
  have hrl := readyQ_len es q
  go_wp2_with fail
  refine (containsS_rd A2 c2 (readyQ es q) u w2 HR2.out (by omega)).mono ?_
  rintro e w3 ⟨rfl, rfl⟩
  by_cases hu : u ∈ readyQ es q
  · have hm := readyQ_may hu
    obtain ⟨j0, hj0, hj1, hj2, _⟩ := (mem_readyQ hm).1 hu
    have hbq : beginQ es q u = some (updJ q u (begun es q)) := by unfold beginQ; rw [if_pos hu]
    have HBQ := Lib.hid hbq
    have HM := Lib.hid hm
    have hud : decide (u ∈ readyQ es q) = true := by simpa using hu
    have HJ0 := Lib.hid (And.intro hj0 hj1)
    clear hu hm hbq hj0 hj1 hj2
    rw [hud]
    go_wp2_with fail
    refine (cloneJ_own A c q w3 HQ.out.rq hlq).mono ?_
    rintro e w5 ⟨A5, c5, rfl, ho5, hb⟩
    have HO5 := Lib.hid ho5
    have hb35 := hb
    have Hr3 := Hr
    have HQ3 := HQ
    have g03 := g0
    have g13 := g1
    have hn13 := n1
    have HB3 := HB
    replace g0 := cellAt g0 hb (by omega)
    replace g1 := cellAt g1 hb (by omega)
    replace Hr := Lib.hid (Hr.out.at hb)
    replace HQ := Lib.hid (HQ.out.at hb)
    replace n1 : w.heap.size < w5.heap.size := ltAt n1 hb
    replace HB := Lib.hid (lift HB.out hb)
    clear hb ho5
    go_wp2_with fail
    refine (find_any A5 c5 q u w5 (own_rd' HO5.out) hlq).mono ?_
    rintro e w6 ⟨r, rfl, hcase, hb⟩
    have HO6 := Lib.hid (own_on HO5.out hb)
    have HB36 := Lib.hid (lift hb35 hb)
    replace g0 := cellAt g0 hb (by omega)
    replace g1 := cellAt g1 hb (by omega)
    replace Hr := Lib.hid (Hr.out.at hb)
    replace HQ := Lib.hid (HQ.out.at hb)
    replace n1 : w.heap.size < w6.heap.size := ltAt n1 hb
    replace HB := Lib.hid (lift HB.out hb)
    clear hb hb35
    rcases hcase with ⟨rfl, hnone⟩ | ⟨k, hk, rfl, hfind, hpk, _⟩
    · exact absurd (List.find?_eq_none.1 hnone _ HJ0.out.1) (by simp [HJ0.out.2])
    · obtain ⟨gb, rfl, hgb, hgl, hcap⟩ := own_open HO6.out (by omega)
      obtain ⟨y0, y1, y2, y3, yf⟩ := ownJ_cells HO6.out hk
      have hku : q[k].1 = u := by simpa using hpk
      have hsame : j0 = q[k] := (mayQ.dq HM.out).eq HJ0.out.1 (List.getElem_mem hk) (by rw [HJ0.out.2, hku])
      have hset : ∀ x : Jb, begun es q q[k] = x → q.set k x = updJ q u (begun es q) := fun x hx => set_updf (mayQ.dq HM.out) hk hku hx
      obtain ⟨s, t, r, d, hx⟩ : ∃ s t r d, q[k] = (s, t, r, d) := ⟨_, _, _, _, rfl⟩
      rw [hx] at y0 y1 y2 y3 hku hset
      simp only at y0 y1 y2 y3 hku
      subst hku
      have Hx := Lib.hid hx
      have HSet := Lib.hid hset
      have k1 : (0 : Int) ≤ (k : Int) := by omega
      have k2 : (k : Int) < (q.length : Int) := by omega
      have yf1 := yf (k * 4 + 1)
      have yf2 := yf (k * 4 + 2)
      have yf3 := yf (k * 4 + 3)
      have hne : ¬ gb = w.heap.size := by omega
      have hne' : ¬ w.heap.size = gb := by omega
      have ho7 := ownJ_set HO6.out hk 2 (by omega) (s, t, 2, d) (.int .i64 2) (by rw [hx]; rfl)
      have HO7 := Lib.hid ho7
      clear hx hset hfind hpk hsame yf ho7
      by_cases ht : t = 1
      · subst ht
        go_wp2_with fail
        refine calls_named ?_
        intro W7 hW7
        have hb7 : Below w3.heap.size w3 W7 := by rw [hW7]; exact HB36.out.setCell hgb _
        have ho7 := HO7.out
        rw [← hW7] at ho7
        clear hW7 y0 y1 y2 y3 yf1 yf2 yf3 g0 g1
        have g0 := cellAt g03 hb7 hn13
        have g1 := cellAt g13 hb7 hn13
        have HO8 := Lib.hid ho7
        have HB7 := Lib.hid hb7
        refine (lacks_any An Ae nn cn ce es A c q s W7 (Hr3.out.at hb7) (HQ3.out.at hb7).rq hl hlq).mono ?_
        rintro e w8 ⟨rfl, hb8⟩
        have HO9 := Lib.hid (own_on HO8.out hb8)
        have HB8 := Lib.hid (lift HB7.out hb8)
        clear hb7 ho7 hb8
        have hk' : k < (q.set k (s, 1, 2, d)).length := by simpa using hk
        obtain ⟨y0, y1, y2, y3, yf⟩ := ownJ_cells HO9.out hk'
        rw [List.getElem_set_self] at y0 y1 y2 y3
        simp only at y0 y1 y2 y3
        have yf2 := yf (k * 4 + 2)
        have yf3 := yf (k * 4 + 3)
        cases hlk : lacksQ es q s
        · have hfin := HSet.out (s, 1, 2, d) (by unfold begun; simp [hlk])
          have HFin := Lib.hid hfin
          clear hfin yf
          go_wp2_with fail
          go_ret2
          rw [HBQ.out, ← HFin.out]
          exact JobsRetF.yes (by simp) (by have h := HO9.out; simp only [List.length_set] at h; exact h) (lift HB3.out HB8.out) HB3.out.size
        · have hfin := HSet.out (s, 1, 3, 3) (by unfold begun; simp [hlk])
          have HFin := Lib.hid hfin
          have ho10 := ownJ_set HO9.out hk' 2 (by omega) (s, 1, 3, d) (.int .i64 3) (by rw [List.getElem_set_self]; rfl)
          have ho11 := ownJ_set ho10 (i := k) (by simpa using hk) 3 (by omega) (s, 1, 3, 3) (.int .i64 3) (by rw [List.getElem_set_self]; rfl)
          simp only [List.set_set] at ho11
          have HO11 := Lib.hid ho11
          clear hfin yf ho10 ho11
          go_wp2_with fail
          go_ret2
          rw [HBQ.out, ← HFin.out]
          have hgb3 : w3.heap.size ≤ gb := hgb
          exact JobsRetF.yes (by simp) (by have h := HO11.out; simp only [List.length_set] at h; exact h) (lift HB3.out ((HB8.out.setCell hgb3 _).setCell hgb3 _)) HB3.out.size
      · have htb : (t == 1) = false := by simpa using ht
        have hfin := HSet.out (s, t, 2, d) (by unfold begun; simp [htb])
        have HFin := Lib.hid hfin
        clear hfin
        go_wp2_with fail
        go_ret2
        rw [HBQ.out, ← HFin.out]
        exact JobsRetF.yes (by simp) (by have h := HO7.out; simp only [List.length_set] at h; exact h) (lift HB3.out (HB36.out.setCell hgb _)) HB3.out.size
  · have hud : decide (u ∈ readyQ es q) = false := by simpa using hu
    have HBQ := Lib.hid (show beginQ es q u = none by unfold beginQ; rw [if_neg hu])
    clear hu
    rw [hud]
    go_wp2_with fail
    go_ret2
    rw [HBQ.out]
    exact JobsRetF.no HB.out
theorem finish_no {q : List Jb} {u : Str} {e : Int} (h : ∀ j, jobOf q u = some j → (mayQ q && mayEnd e j) = false) : finishQ q u e = none := by
  unfold finishQ
  cases hj : jobOf q u with
  | none => rfl
  | some j => simp only; rw [if_neg (by rw [h j hj]; simp)]
theorem finish_yes {q : List Jb} {u : Str} {e : Int} {j : Jb} (h : jobOf q u = some j) (hm : mayQ q = true) (he : mayEnd e j = true) : finishQ q u e = some (updJ q u (ended e)) := by
  unfold finishQ
  rw [h]
  simp only
  rw [if_pos (by rw [hm, he]; rfl)]
theorem mayEnd_mk (e : Int) (s : Str) (t r d : Int) : mayEnd e (s, t, r, d) = (!decide (e < 1) && (!decide (4 < e) && (openB (s, t, r, d) && !(r == 1 && (e == 1 || e == 2))))) := rfl
set_option maxRecDepth 100000 in
set_option maxHeartbeats 8000000 in
theorem FinishQF_any (A : Option Addr) (c : Nat) (q : List Jb) (u : Str) (e0 : Int) (w : World) (hq : QIn w A c q) (hlq : q.length ≤ 1000000) :
    Calls Tryz.prog 43 #[.slice A q.length c, sv u, .int .i64 e0] w (JobsRetF (finishQ q u e0) w) := by
  have HQ := Lib.hid hq
  have hlq2 : q.length ≤ 140737488355328 := by omega
  clear hq
  go_enter Tryz.func43, Tryz.ntmps43
  go_wp2_with fail
  refine (find_any A c q u w HQ.out.rq hlq).mono ?_
  rintro e w2 ⟨r, rfl, hcase, hb⟩
  have HC := Lib.hid hcase
  have HB := Lib.hid hb
  replace HQ := Lib.hid (HQ.out.at hb)
  clear hb hcase
  go_wp2_with fail
  refine (MayQ_any A c q w2 HQ.out.rq hlq2 HQ.out.ok).mono ?_
  rintro e w3 ⟨rfl, hb⟩
  replace HQ := Lib.hid (HQ.out.at hb)
  replace HB := Lib.hid (lift HB.out hb)
  clear hb
  cases hm : mayQ q
  · have HF := Lib.hid (show finishQ q u e0 = none from finish_no (fun j hj => by simp [hm]))
    go_wp2_with fail
    go_ret2
    rw [HF.out]
    exact JobsRetF.no HB.out
  · have HM := Lib.hid hm
    by_cases e1 : e0 < 1
    · have eb1 : decide (e0 < 1) = true := by rw [decide_eq_true_eq]; exact e1
      have HF := Lib.hid (show finishQ q u e0 = none from finish_no (fun j hj => by (obtain ⟨s, t, r, d⟩ := j; rw [mayEnd_mk, eb1]; simp)))
      go_wp2_with fail
      go_ret2
      rw [HF.out]
      exact JobsRetF.no HB.out
    · have eb1 : decide (e0 < 1) = false := by rw [decide_eq_false_iff_not]; exact e1
      by_cases e4 : 4 < e0
      · have eb4 : decide (4 < e0) = true := by rw [decide_eq_true_eq]; exact e4
        have HF := Lib.hid (show finishQ q u e0 = none from finish_no (fun j hj => by (obtain ⟨s, t, r, d⟩ := j; rw [mayEnd_mk, eb4]; simp)))
        go_wp2_with fail
        go_ret2
        rw [HF.out]
        exact JobsRetF.no HB.out
      · have eb4 : decide (4 < e0) = false := by rw [decide_eq_false_iff_not]; exact e4
        rcases HC.out with ⟨rfl, hnone⟩ | ⟨k, hk, rfl, hfind, hpk, _⟩
        · have hj0 : jobOf q u = none := hnone
          have HF := Lib.hid (show finishQ q u e0 = none from finish_no (fun j hj => by (rw [hj0] at hj; cases hj)))
          go_wp2_with fail
          go_ret2
          rw [HF.out]
          exact JobsRetF.no HB.out
        · have hneg : decide ((k : Int) < 0) = false := by simp
          have hj0 : jobOf q u = some q[k] := hfind
          have hku : q[k].1 = u := by simpa using hpk
          have hset : ∀ x : Jb, ended e0 q[k] = x → q.set k x = updJ q u (ended e0) := fun x hx => set_updf (mayQ.dq HM.out) hk hku hx
          obtain ⟨b, o, hA, hB, y0, y1, y2, y3⟩ := HQ.out.rq.job hk
          subst hA
          generalize hx : q[k] = x at y0 y1 y2 y3 hj0 hku hset
          obtain ⟨s, t, r, d⟩ := x
          simp only at y0 y1 y2 y3 hku
          subst hku
          have HJ := Lib.hid hj0
          have HSet := Lib.hid hset
          have Hx := Lib.hid hx
          clear hfind hpk hx hset hj0 HC
          have k1 : (0 : Int) ≤ (k : Int) := by omega
          have k2 : (k : Int) < (q.length : Int) := by omega
          go_wp2_with fail
          refine (open_any s t r d w3).mono ?_
          rintro e w4 ⟨rfl, hb⟩
          replace y0 := cellAt y0 hb (by omega)
          replace y1 := cellAt y1 hb (by omega)
          replace y2 := cellAt y2 hb (by omega)
          replace y3 := cellAt y3 hb (by omega)
          replace HQ := Lib.hid (HQ.out.at hb)
          replace HB := Lib.hid (lift HB.out hb)
          replace hB : b < w4.heap.size := ltAt hB hb
          clear hb
          by_cases r3 : r = 3
          · have ho : openB (s, t, r, d) = false := by simp [openB, r3]
            rw [ho]
            have HO := Lib.hid ho
            clear ho
            have HF := Lib.hid (show finishQ q s e0 = none from finish_no (fun j hj => by (rw [HJ.out] at hj; injection hj with hj; subst hj; rw [mayEnd_mk, HO.out]; simp)))
            go_wp2_with fail
            go_ret2
            rw [HF.out]
            exact JobsRetF.no HB.out
          · have ho : openB (s, t, r, d) = true := by simp [openB, r3]
            rw [ho]
            have HO := Lib.hid ho
            clear ho
            by_cases hbad : r = 1 ∧ (e0 = 1 ∨ e0 = 2)
            · obtain ⟨r1, e12⟩ := hbad
              have rb : (r == 1) = true := by simpa using r1
              rcases e12 with e12 | e12
              · have eb : (e0 == 1) = true := by simpa using e12
                have HF := Lib.hid (show finishQ q s e0 = none from finish_no (fun j hj => by (rw [HJ.out] at hj; injection hj with hj; subst hj; rw [mayEnd_mk, rb, eb]; simp)))
                go_wp2_with fail
                go_ret2
                rw [HF.out]
                exact JobsRetF.no HB.out
              · have eb1' : (e0 == 1) = false := by rw [beq_eq_false_iff_ne]; omega
                have eb : (e0 == 2) = true := by simpa using e12
                have HF := Lib.hid (show finishQ q s e0 = none from finish_no (fun j hj => by (rw [HJ.out] at hj; injection hj with hj; subst hj; rw [mayEnd_mk, rb, eb]; simp)))
                go_wp2_with fail
                go_ret2
                rw [HF.out]
                exact JobsRetF.no HB.out
            · have hyes := finish_yes HJ.out HM.out (show mayEnd e0 (s, t, r, d) = true from mayEnd_iff.2 ⟨by omega, by omega, r3, hbad⟩)
              have HF := Lib.hid hyes
              clear hyes
              by_cases r1 : r = 1
              · have rb : (r == 1) = true := by simpa using r1
                have eb1' : (e0 == 1) = false := by rw [beq_eq_false_iff_ne]; intro h; exact hbad ⟨r1, .inl h⟩
                have eb2' : (e0 == 2) = false := by rw [beq_eq_false_iff_ne]; intro h; exact hbad ⟨r1, .inr h⟩
                clear hbad
                have hre : ¬ (t = 3 ∧ r = 2 ∧ e0 = 1) := by omega
                go_wp2_with fail
                refine (cloneJ_own _ c q w4 HQ.out.rq hlq).mono ?_
                rintro e w5 ⟨A5, c5, rfl, ho5, hb⟩
                have hb45 := Lib.hid (HB.out.trans (hb.mono HB.out.size))
                have hzw : w.heap.size ≤ w4.heap.size := HB.out.size
                obtain ⟨gb, rfl, hgb, hgl, hcap⟩ := own_open ho5 (by omega)
                obtain ⟨z0, z1, z2, z3, zf⟩ := ownJ_cells ho5 hk
                rw [Hx.out] at z0 z1 z2 z3
                simp only at z0 z1 z2 z3
                have zf1 := zf (k * 4 + 1)
                have zf2 := zf (k * 4 + 2)
                have zf3 := zf (k * 4 + 3)
                have hgw : w.heap.size ≤ gb := by omega
                have HO5 := Lib.hid ho5
                clear hb ho5 zf
                have hfin := HSet.out (s, t, 3, e0) (by unfold ended; rw [if_neg hre])
                have ho10 := ownJ_set HO5.out hk 2 (by omega) (s, t, 3, d) (.int .i64 3) (by rw [Hx.out]; rfl)
                have ho11 := ownJ_set ho10 (i := k) (by simpa using hk) 3 (by omega) (s, t, 3, e0) (.int .i64 e0) (by rw [List.getElem_set_self]; rfl)
                simp only [List.set_set] at ho11
                have HO11 := Lib.hid ho11
                have HFin := Lib.hid hfin
                clear hfin ho10 ho11
                have hcs : (t == 3) = false ∨ ((t == 3) = true ∧ (r == 2) = false) ∨ ((t == 3) = true ∧ (r == 2) = true ∧ (e0 == 1) = false) := by
                  by_cases a1 : t = 3
                  · by_cases a2 : r = 2
                    · exact .inr (.inr ⟨by simpa using a1, by simpa using a2, by rw [beq_eq_false_iff_ne]; intro h; exact hre ⟨a1, a2, h⟩⟩)
                    · exact .inr (.inl ⟨by simpa using a1, by simpa using a2⟩)
                  · exact .inl (by simpa using a1)
                clear hre
                rcases hcs with a1 | ⟨a1, a2⟩ | ⟨a1, a2, a3⟩
                all_goals
                  go_wp2_with fail
                  go_ret2
                  rw [HF.out, ← HFin.out]
                  exact JobsRetF.yes (by simp) (by have h := HO11.out; simp only [List.length_set] at h; exact h) ((hb45.out.setCell hgw _).setCell hgw _) hzw
              · have rb : (r == 1) = false := by simpa using r1
                clear hbad
                go_wp2_with fail
                refine (cloneJ_own _ c q w4 HQ.out.rq hlq).mono ?_
                rintro e w5 ⟨A5, c5, rfl, ho5, hb⟩
                have hb45 := Lib.hid (HB.out.trans (hb.mono HB.out.size))
                have hzw : w.heap.size ≤ w4.heap.size := HB.out.size
                obtain ⟨gb, rfl, hgb, hgl, hcap⟩ := own_open ho5 (by omega)
                obtain ⟨z0, z1, z2, z3, zf⟩ := ownJ_cells ho5 hk
                rw [Hx.out] at z0 z1 z2 z3
                simp only at z0 z1 z2 z3
                have zf1 := zf (k * 4 + 1)
                have zf2 := zf (k * 4 + 2)
                have zf3 := zf (k * 4 + 3)
                have hgw : w.heap.size ≤ gb := by omega
                have HO5 := Lib.hid ho5
                clear hb ho5 zf
                by_cases hre : t = 3 ∧ r = 2 ∧ e0 = 1
                · obtain ⟨t3, r2, e01⟩ := hre
                  subst t3 r2 e01
                  have hfin := HSet.out (s, 1, 1, d) (by unfold ended; rw [if_pos ⟨rfl, rfl, rfl⟩])
                  have ho10 := ownJ_set HO5.out hk 1 (by omega) (s, 1, 2, d) (.int .i64 1) (by rw [Hx.out]; rfl)
                  have ho11 := ownJ_set ho10 (i := k) (by simpa using hk) 2 (by omega) (s, 1, 1, d) (.int .i64 1) (by rw [List.getElem_set_self]; rfl)
                  simp only [List.set_set] at ho11
                  have HO11 := Lib.hid ho11
                  have HFin := Lib.hid hfin
                  clear hfin ho10 ho11
                  go_wp2_with fail
                  go_ret2
                  rw [HF.out, ← HFin.out]
                  exact JobsRetF.yes (by simp) (by have h := HO11.out; simp only [List.length_set] at h; exact h) ((hb45.out.setCell hgw _).setCell hgw _) hzw
                · have hfin := HSet.out (s, t, 3, e0) (by unfold ended; rw [if_neg hre])
                  have ho10 := ownJ_set HO5.out hk 2 (by omega) (s, t, 3, d) (.int .i64 3) (by rw [Hx.out]; rfl)
                  have ho11 := ownJ_set ho10 (i := k) (by simpa using hk) 3 (by omega) (s, t, 3, e0) (.int .i64 e0) (by rw [List.getElem_set_self]; rfl)
                  simp only [List.set_set] at ho11
                  have HO11 := Lib.hid ho11
                  have HFin := Lib.hid hfin
                  clear hfin ho10 ho11
                  have hcs : (t == 3) = false ∨ ((t == 3) = true ∧ (r == 2) = false) ∨ ((t == 3) = true ∧ (r == 2) = true ∧ (e0 == 1) = false) := by
                    by_cases a1 : t = 3
                    · by_cases a2 : r = 2
                      · exact .inr (.inr ⟨by simpa using a1, by simpa using a2, by rw [beq_eq_false_iff_ne]; intro h; exact hre ⟨a1, a2, h⟩⟩)
                      · exact .inr (.inl ⟨by simpa using a1, by simpa using a2⟩)
                    · exact .inl (by simpa using a1)
                  clear hre
                  rcases hcs with a1 | ⟨a1, a2⟩ | ⟨a1, a2, a3⟩
                  all_goals
                    go_wp2_with fail
                    go_ret2
                    rw [HF.out, ← HFin.out]
                    exact JobsRetF.yes (by simp) (by have h := HO11.out; simp only [List.length_set] at h; exact h) ((hb45.out.setCell hgw _).setCell hgw _) hzw
theorem BeginQ_any (An Ae : Option Addr) (nn cn ce : Nat) (es : List Ed) (A : Option Addr) (c : Nat) (q : List Jb) (u : Str) (w : World) (hr : Rd w w.heap.size 3 Ae es.length (edsC es)) (hq : QIn w A c q) (hl : es.length ≤ 100000) (hlq : q.length ≤ 1000000) :
    Calls Tryz.prog 40 #[gV An nn cn Ae es.length ce, .slice A q.length c, sv u] w (JobsRet (beginQ es q u) w) := (BeginQF_any An Ae nn cn ce es A c q u w hr hq hl hlq).mono fun _ _ h => h.weak
theorem FinishQ_any (A : Option Addr) (c : Nat) (q : List Jb) (u : Str) (e0 : Int) (w : World) (hq : QIn w A c q) (hlq : q.length ≤ 1000000) :
    Calls Tryz.prog 43 #[.slice A q.length c, sv u, .int .i64 e0] w (JobsRet (finishQ q u e0) w) := (FinishQF_any A c q u e0 w hq hlq).mono fun _ _ h => h.weak
end Od
end Go.Proofs.YtmlogmcnblgnbaaGreat
end

section
/- The walks of wave.runs and wave.Steps. (bel2) -/
namespace Go.Proofs.YtmlogmcnblgnbaaGreat
open Go.RowKit Go.Sort
set_option linter.unusedSimpArgs false

namespace Od
theorem steps_nodup (es : List Ed) {q : List Jb} (h : mayQ q = true) : (readyQ es q ++ runsU q).Nodup := by
  rw [List.nodup_append]
  refine ⟨SS.nodup toS readyQ_up, ?_, ?_⟩
  · unfold runsU
    rw [if_pos h]
    exact List.Nodup.sublist (List.filter_sublist.map _) (mayQ.dq h)
  · intro a ha b hb e
    subst e
    obtain ⟨j, hj, e1, h1, _⟩ := (mem_readyQ h).1 ha
    obtain ⟨k, hk, e2, h2⟩ := (mem_runsU h).1 hb
    have := (mayQ.dq h).eq hj hk (by rw [e1, e2])
    subst this
    omega
theorem sort_steps (es : List Ed) (q : List Jb) : sortS (readyQ es q ++ runsU q) = stepsQ es q := by
  cases h : mayQ q
  · rw [stepsQ_no h]
    unfold readyQ runsU
    rw [if_neg (by simp [h]), if_neg (by simp [h])]
    exact List.eq_nil_of_length_eq_zero (by rw [sortS_len]; rfl)
  · exact SS.eq_canon toS (sortS_ss (steps_nodup es h)) fun _ => mem_sortS
def runsK (q : List Jb) (m : Nat) : List Str := if mayQ q = true then ((q.take m).filter (fun j => j.2.2.1 == 2)).map (·.1) else []
theorem runsK_all (q : List Jb) : runsK q q.length = runsU q := by unfold runsK runsU; rw [List.take_length]
theorem runsK_zero (q : List Jb) : runsK q 0 = [] := by unfold runsK; simp
theorem runsK_no {q : List Jb} (h : mayQ q = false) (m : Nat) : runsK q m = [] := by unfold runsK; rw [if_neg (by simp [h])]
theorem runsK_succ {q : List Jb} (h : mayQ q = true) {i : Nat} (hi : i < q.length) : runsK q (i + 1) = runsK q i ++ (if (q[i].2.2.1 == 2) = true then [q[i].1] else []) := by
  unfold runsK
  rw [if_pos h, if_pos h, filter_take_succ hi, List.map_append]
  split <;> simp
theorem runsK_len (q : List Jb) (m : Nat) : (runsK q m).length ≤ q.length := by
  unfold runsK; split
  · rw [List.length_map]; exact filter_take_le
  · simp
theorem runsU_len (q : List Jb) : (runsU q).length ≤ q.length := by rw [← runsK_all]; exact runsK_len q _
set_option maxRecDepth 100000 in
set_option maxHeartbeats 16000000 in
theorem runsW_any (A : Option Addr) (c : Nat) (q : List Jb) (w : World) (hq : QIn w A c q) (hlq : q.length ≤ 1000000) :
    Calls Tryz.prog 39 #[.slice A q.length c] w (OwnS (runsU q) w) := by
  obtain ⟨i0, hi, hz0, hz1, hz2⟩ := info_parts infoS
  have HQ := Lib.hid hq
  clear hq
  go_enter Tryz.func39, Tryz.ntmps39
  go_wp2_with fail
  go_loopw [3, 8] (fun v i wr => ∃ m : Nat, m ≤ q.length ∧ i = .int .i64 m ∧ wr.ownsRow w.heap.size 9 1 v (runsK q m).length (svs (runsK q m)) ∧ Below w.heap.size w wr) (fun _ i _ => q.length - (intOf i).toNat)
  case atStart => exact ⟨0, Nat.zero_le _, rfl, by rw [runsK_zero]; exact World.ownsRow_nil _ _ _ _, Below.refl _ _⟩
  case round =>
    obtain ⟨m, hm, rfl, hown, hb⟩ := hrel
    have HOut := Lib.hid hown
    have Hb := Lib.hid hb
    clear hown
    replace HQ := Lib.hid (HQ.out.at hb)
    clear hb
    by_cases hlt : m < q.length
    · obtain ⟨b2, o2, hA, hB2, x0, x1, x2, x3⟩ := HQ.out.rq.job hlt
      subst hA
      have hsucc := fun h => runsK_succ (q := q) h hlt
      have hln := runsK_len q m
      generalize q[m] = x at x0 x1 x2 x3 hsucc
      obtain ⟨s, t, r, d⟩ := x
      simp only at x0 x1 x2 x3 hsucc
      have HSc := Lib.hid hsucc
      clear hsucc
      have m1 : (0 : Int) ≤ (m : Int) := by omega
      have m2 : (m : Int) < (q.length : Int) := by omega
      cases hm : mayQ q
      · have HS2 := Lib.hid (show runsK q (m + 1) = runsK q m by rw [runsK_no hm, runsK_no hm])
        go_wp2_with fail
        first | (refine wp_named ?_; intro W2 hW) | (refine calls_named ?_; intro W2 hW)
        have B2 : Below wr.heap.size wr W2 := by rw [hW]; exact (by repeat (first | exact Below.refl _ _ | assumption | refine Below.alloc ?_ (by first | omega | (simp <;> omega)) _ | refine Below.setCell ?_ (by first | omega | (simp <;> omega)) _ | refine Below.drew ?_))
        replace HQ := Lib.hid (HQ.out.at B2)
        replace HOut := Lib.hid (own_on HOut.out B2)
        replace Hb := Lib.hid (lift Hb.out B2)
        have p1 : wr.heap.size < W2.heap.size := by rw [hW]; simp <;> omega
        have e0 : W2.cell? ⟨wr.heap.size, 0, none⟩ = some (sv s) := by rw [hW]; go_simp
        have e2 : W2.cell? ⟨wr.heap.size, 2, none⟩ = some (.int .i64 r) := by rw [hW]; go_simp
        clear hW
        clear B2 x0 x1 x2 x3
        refine (MayQ_any _ c q W2 HQ.out.rq (by omega) HQ.out.ok).mono ?_
        rw [hm]
        rintro e v3 ⟨rfl, hb⟩
        replace e0 := cellAt e0 hb (by omega)
        replace e2 := cellAt e2 hb (by omega)
        replace HQ := Lib.hid (HQ.out.at hb)
        replace HOut := Lib.hid (own_on HOut.out hb)
        replace Hb := Lib.hid (lift Hb.out hb)
        replace p1 : wr.heap.size < v3.heap.size := ltAt p1 hb
        clear hb
        go_wp2_with fail
        go_roundw
        case rel => exact ⟨m + 1, by omega, by go_num, by rw [HS2.out]; first | exact HOut.out | exact HOut.out.alloc _, by have hbk := Hb.out; have hz := hbk.size; exact (by repeat (first | exact Below.refl _ _ | assumption | refine Below.alloc ?_ (by first | omega | (simp <;> omega)) _ | refine Below.setCell ?_ (by first | omega | (simp <;> omega)) _ | refine Below.drew ?_))⟩
        case measure => simp [intOf]; omega
      · by_cases r2 : r = 2
        · subst r2
          have HS2 := Lib.hid (show runsK q (m + 1) = runsK q m ++ [s] from HSc.out hm)
          go_wp2_with fail
          first | (refine wp_named ?_; intro W2 hW) | (refine calls_named ?_; intro W2 hW)
          have B2 : Below wr.heap.size wr W2 := by rw [hW]; exact (by repeat (first | exact Below.refl _ _ | assumption | refine Below.alloc ?_ (by first | omega | (simp <;> omega)) _ | refine Below.setCell ?_ (by first | omega | (simp <;> omega)) _ | refine Below.drew ?_))
          replace HQ := Lib.hid (HQ.out.at B2)
          replace HOut := Lib.hid (own_on HOut.out B2)
          replace Hb := Lib.hid (lift Hb.out B2)
          have p1 : wr.heap.size < W2.heap.size := by rw [hW]; simp <;> omega
          have e0 : W2.cell? ⟨wr.heap.size, 0, none⟩ = some (sv s) := by rw [hW]; go_simp
          have e2 : W2.cell? ⟨wr.heap.size, 2, none⟩ = some (.int .i64 2) := by rw [hW]; go_simp
          clear hW
          clear B2 x0 x1 x2 x3
          refine (MayQ_any _ c q W2 HQ.out.rq (by omega) HQ.out.ok).mono ?_
          rw [hm]
          rintro e v3 ⟨rfl, hb⟩
          replace e0 := cellAt e0 hb (by omega)
          replace e2 := cellAt e2 hb (by omega)
          replace HQ := Lib.hid (HQ.out.at hb)
          replace HOut := Lib.hid (own_on HOut.out hb)
          replace Hb := Lib.hid (lift Hb.out hb)
          replace p1 : wr.heap.size < v3.heap.size := ltAt p1 hb
          clear hb
          have hzb : w.heap.size ≤ v3.heap.size := Hb.out.size
          have h63 : (runsK q m).length + 1 ≤ maxLen := by unfold maxLen; omega
          have hby : ((runsK q m).length + 1) * 16 ≤ 140737488355328 := by omega
          obtain ⟨A9, c9, rfl, _⟩ := own_rd HOut.out
          go_wp2_with (first | (at_builtin; refine wpList_pushm w v3 (by rfl) (.tmp 19) (.tmp 22) 27 (by rfl) w.heap.size 9 i0 _ 1 16 Tryz.underlying27 hi hz0 hz1 hz2 rfl (by decide) _ _ _ (by rfl) HOut.out [sv s] v3.heap.size rfl (by rfl) rfl (one_sv s) h63 hby hzb Hb.out ?_; intro A8 c8 w4 hown4 hbel4 hg4 hat4) | fail)
          go_roundw
          case rel => exact ⟨m + 1, by omega, by go_num, by rw [HS2.out]; simpa [svs] using hown4, hbel4⟩
          case measure => simp [intOf]; omega
        · have rb : (r == 2) = false := by simpa using r2
          have HS2 := Lib.hid (show runsK q (m + 1) = runsK q m by rw [HSc.out hm, rb]; simp)
          go_wp2_with fail
          first | (refine wp_named ?_; intro W2 hW) | (refine calls_named ?_; intro W2 hW)
          have B2 : Below wr.heap.size wr W2 := by rw [hW]; exact (by repeat (first | exact Below.refl _ _ | assumption | refine Below.alloc ?_ (by first | omega | (simp <;> omega)) _ | refine Below.setCell ?_ (by first | omega | (simp <;> omega)) _ | refine Below.drew ?_))
          replace HQ := Lib.hid (HQ.out.at B2)
          replace HOut := Lib.hid (own_on HOut.out B2)
          replace Hb := Lib.hid (lift Hb.out B2)
          have p1 : wr.heap.size < W2.heap.size := by rw [hW]; simp <;> omega
          have e0 : W2.cell? ⟨wr.heap.size, 0, none⟩ = some (sv s) := by rw [hW]; go_simp
          have e2 : W2.cell? ⟨wr.heap.size, 2, none⟩ = some (.int .i64 r) := by rw [hW]; go_simp
          clear hW
          clear B2 x0 x1 x2 x3
          refine (MayQ_any _ c q W2 HQ.out.rq (by omega) HQ.out.ok).mono ?_
          rw [hm]
          rintro e v3 ⟨rfl, hb⟩
          replace e0 := cellAt e0 hb (by omega)
          replace e2 := cellAt e2 hb (by omega)
          replace HQ := Lib.hid (HQ.out.at hb)
          replace HOut := Lib.hid (own_on HOut.out hb)
          replace Hb := Lib.hid (lift Hb.out hb)
          replace p1 : wr.heap.size < v3.heap.size := ltAt p1 hb
          clear hb
          go_wp2_with fail
          go_roundw
          case rel => exact ⟨m + 1, by omega, by go_num, by rw [HS2.out]; first | exact HOut.out | exact HOut.out.alloc _, by have hbk := Hb.out; have hz := hbk.size; exact (by repeat (first | exact Below.refl _ _ | assumption | refine Below.alloc ?_ (by first | omega | (simp <;> omega)) _ | refine Below.setCell ?_ (by first | omega | (simp <;> omega)) _ | refine Below.drew ?_))⟩
          case measure => simp [intOf]; omega
    · obtain rfl : m = q.length := by omega
      have ho := HOut.out
      rw [runsK_all] at ho
      have HO2 := Lib.hid ho
      clear ho
      go_wp2_with fail
      go_ret
      exact OwnS.ofq HO2.out Hb.out
set_option maxRecDepth 100000 in
set_option maxHeartbeats 4000000 in
theorem StepsW_any (An Ae : Option Addr) (nn cn ce : Nat) (es : List Ed) (A : Option Addr) (c : Nat) (q : List Jb) (w : World) (hr : Rd w w.heap.size 3 Ae es.length (edsC es)) (hq : QIn w A c q) (hl : es.length ≤ 1000000) (hlq : q.length ≤ 100000) :
    Calls Tryz.prog 20 #[gV An nn cn Ae es.length ce, .slice A q.length c] w (OwnS (stepsQ es q) w) := by
  have Hr := Lib.hid hr
  have HQ := Lib.hid hq
  clear hr hq
  have hrl := readyQ_len es q
  have hul := runsU_len q
  go_enter Tryz.func20, Tryz.ntmps20
  go_wp2_with fail
  first | (refine wp_named ?_; intro W1 hW) | (refine calls_named ?_; intro W1 hW)
  have B1 : Below w.heap.size w W1 := by rw [hW]; exact (by repeat (first | exact Below.refl _ _ | assumption | refine Below.alloc ?_ (by first | omega | (simp <;> omega)) _ | refine Below.setCell ?_ (by first | omega | (simp <;> omega)) _ | refine Below.drew ?_))
  replace Hr := Lib.hid (Hr.out.at B1)
  replace HQ := Lib.hid (HQ.out.at B1)
  have n1 : w.heap.size < W1.heap.size := by rw [hW]; simp <;> omega
  have g0 : W1.cell? ⟨w.heap.size, 0, none⟩ = some (.slice An nn cn) := by rw [hW]; go_simp
  have g1 : W1.cell? ⟨w.heap.size, 1, none⟩ = some (.slice Ae es.length ce) := by rw [hW]; go_simp
  clear hW
  have HB := Lib.hid B1
  clear B1
  refine (ReadyQ_any An Ae nn cn ce es A c q W1 Hr.out HQ.out.rq (by omega) (by omega) HQ.out.ok).mono ?_
  rintro e w2 ⟨A2, c2, rfl, ho2, hb⟩
  have HR2 := Lib.hid (own_rd' ho2)
  replace g0 := cellAt g0 hb (by omega)
  replace g1 := cellAt g1 hb (by omega)
  replace Hr := Lib.hid (Hr.out.at hb)
  replace HQ := Lib.hid (HQ.out.at hb)
  replace n1 : w.heap.size < w2.heap.size := ltAt n1 hb
  replace HB := Lib.hid (lift HB.out hb)
  clear hb ho2
  go_wp2_with fail
  refine (runsW_any A c q w2 HQ.out (by omega)).mono ?_
  rintro e w3 ⟨A3, c3, rfl, ho3, hb⟩
  have HR3 := Lib.hid (own_rd' ho3)
  replace g0 := cellAt g0 hb (by omega)
  replace g1 := cellAt g1 hb (by omega)
  replace Hr := Lib.hid (Hr.out.at hb)
  replace HQ := Lib.hid (HQ.out.at hb)
  replace n1 : w.heap.size < w3.heap.size := ltAt n1 hb
  replace HB := Lib.hid (lift HB.out hb)
  replace HR2 := Lib.hid (HR2.out.at hb)
  clear hb ho3
  go_wp2_with fail
  first | (refine wp_named ?_; intro W4 hW) | (refine calls_named ?_; intro W4 hW)
  have B4 : Below w3.heap.size w3 W4 := by rw [hW]; exact (by repeat (first | exact Below.refl _ _ | assumption | refine Below.alloc ?_ (by first | omega | (simp <;> omega)) _ | refine Below.setCell ?_ (by first | omega | (simp <;> omega)) _ | refine Below.drew ?_))
  replace g0 := cellAt g0 B4 (by omega)
  replace g1 := cellAt g1 B4 (by omega)
  replace Hr := Lib.hid (Hr.out.at B4)
  replace HQ := Lib.hid (HQ.out.at B4)
  replace n1 : w.heap.size < W4.heap.size := ltAt n1 B4
  replace HB := Lib.hid (lift HB.out B4)
  replace HR2 := Lib.hid (HR2.out.at B4)
  replace HR3 := Lib.hid (HR3.out.at B4)
  have n4 : w3.heap.size < W4.heap.size := by rw [hW]; simp <;> omega
  have k0 : W4.cell? ⟨w3.heap.size, 0, none⟩ = some (.slice A2 (readyQ es q).length c2) := by rw [hW]; go_simp
  have k1 : W4.cell? ⟨w3.heap.size, 1, none⟩ = some (.slice A3 (runsU q).length c3) := by rw [hW]; go_simp
  clear hW
  clear B4
  have hz4 : w.heap.size ≤ W4.heap.size := HB.out.size
  refine (Concat2_any w3.heap.size A2 A3 c2 c3 _ _ W4 k0 k1 HR2.out HR3.out (by omega) (by omega)).mono ?_
  rintro e w5 ⟨A5, c5, rfl, ho5, hb⟩
  have HO5 := Lib.hid (own_base ho5 hz4)
  have hlen : (readyQ es q ++ runsU q).length ≤ 1000000 := by rw [List.length_append]; omega
  replace g0 := cellAt g0 hb (by omega)
  replace g1 := cellAt g1 hb (by omega)
  replace k0 := cellAt k0 hb (by omega)
  replace k1 := cellAt k1 hb (by omega)
  replace Hr := Lib.hid (Hr.out.at hb)
  replace HQ := Lib.hid (HQ.out.at hb)
  replace n1 : w.heap.size < w5.heap.size := ltAt n1 hb
  replace HB := Lib.hid (lift HB.out hb)
  replace HR2 := Lib.hid (HR2.out.at hb)
  replace HR3 := Lib.hid (HR3.out.at hb)
  replace n4 : w3.heap.size < w5.heap.size := ltAt n4 hb
  clear hb ho5
  generalize hL : readyQ es q ++ runsU q = L at *
  have HL := Lib.hid hL
  clear hL
  go_wp2_with fail
  refine (sortS_own w.heap.size c5 A5 L w5 HO5.out hlen).mono ?_
  rintro e w6 ⟨rfl, ho6, hg6⟩
  have ho7 : w6.ownsRow w.heap.size 9 1 (.slice A5 L.length c5) (stepsQ es q).length (svs (stepsQ es q)) := by
    have e1 : sortS L = stepsQ es q := by rw [← HL.out]; exact sort_steps es q
    rw [e1] at ho6
    rw [show (stepsQ es q).length = L.length by rw [← e1, sortS_len]]
    exact ho6
  have HO7 := Lib.hid ho7
  have HB7 := Lib.hid (HB.out.grown hg6 HB.out.size (fun j hj => (HO5.out.lt j hj).1))
  clear ho6 ho7 hg6
  go_wp2_with fail
  go_ret
  exact OwnS.ofq HO7.out HB7.out
theorem stepsQ_len' (es : List Ed) (q : List Jb) : (stepsQ es q).length ≤ 2 * q.length := stepsQ_len es q
/-! Step -/
theorem typ1_any (a s : Str) (t r d : Int) (pa : Nat) (w : World) (ha : w.cell? ⟨pa, 0, none⟩ = some (sv a)) :
    Calls Tryz.prog 74 #[jbV (s, t, r, d), .pointer (some ⟨pa, 0, none⟩)] w fun e w' => e = .returned (.bool (s == a)) ∧ Below w.heap.size w w' := by
  have la : pa < w.heap.size := cell_blk ha
  have n1 : ¬ pa = w.heap.size := by omega
  cases hsa : (s == a)
  · have hsa' : ¬ s = a := by simpa using hsa
    go_enter Tryz.func74, Tryz.ntmps74
    go_wp2_with fail
    go_ret
    exact ⟨ret_bool (by simp_all), (Below.refl _ _).alloc (Nat.le_refl _) _⟩
  · have hsa' : s = a := by simpa using hsa
    subst hsa'
    go_enter Tryz.func74, Tryz.ntmps74
    go_wp2_with fail
    go_ret
    exact ⟨ret_bool (by simp_all), (Below.refl _ _).alloc (Nat.le_refl _) _⟩
theorem says_typ (a : Str) (pa : Nat) (w : World) (ha : w.cell? ⟨pa, 0, none⟩ = some (sv a)) :
    SaysJ 74 #[.pointer (some ⟨pa, 0, none⟩)] (fun j => j.1 == a) w where
  enters := enters_of Tryz.func74 (by kernel_rfl) rfl
  says := fun W s t r d h => typ1_any a s t r d pa W ((h.cell (p := ⟨pa, 0, none⟩) (cell_blk ha)).trans ha)
set_option maxHeartbeats 1000000 in
theorem typ_any (A : Option Addr) (c : Nat) (q : List Jb) (u : Str) (j : Jb) (w : World) (hq : QIn w A c q) (hl : q.length ≤ 1000000) (hj : jobOf q u = some j) :
    Calls Tryz.prog 42 #[.slice A q.length c, sv u] w fun e w' => e = .returned (.int .i64 j.2.1) ∧ Below w.heap.size w w' := by
  have HQ := Lib.hid hq
  have HJ := Lib.hid hj
  clear hq hj
  go_enter Tryz.func42, Tryz.ntmps42
  go_wp2_with fail
  first | (refine wp_named ?_; intro W1 hW) | (refine calls_named ?_; intro W1 hW)
  have B1 : Below w.heap.size w W1 := by rw [hW]; exact (by repeat (first | exact Below.refl _ _ | assumption | refine Below.alloc ?_ (by first | omega | (simp <;> omega)) _ | refine Below.setCell ?_ (by first | omega | (simp <;> omega)) _ | refine Below.drew ?_))
  replace HQ := Lib.hid (HQ.out.at B1)
  have n1 : w.heap.size < W1.heap.size := by rw [hW]; simp <;> omega
  have g0 : W1.cell? ⟨w.heap.size, 0, none⟩ = some (sv u) := by rw [hW]; go_simp
  clear hW
  have HB := Lib.hid B1
  clear B1
  refine (IndexFuncJ A c q _ _ (fun j => j.1 == u) W1 HQ.out.rq hl (says_typ u _ _ g0)).mono ?_
  rintro e w2 ⟨r, rfl, hcase, hb⟩
  replace g0 := cellAt g0 hb (by omega)
  replace HQ := Lib.hid (HQ.out.at hb)
  replace n1 : w.heap.size < w2.heap.size := ltAt n1 hb
  replace HB := Lib.hid (lift HB.out hb)
  clear hb
  rcases hcase with ⟨rfl, hnone⟩ | ⟨k, hk, rfl, hfind, _, _⟩
  · exact absurd (hnone.symm.trans HJ.out) (by simp)
  · have hjk : q[k] = j := Option.some.inj (hfind.symm.trans HJ.out)
    obtain ⟨b2, o2, hA, hB2, x0, x1, x2, x3⟩ := HQ.out.rq.job hk
    rw [hjk] at x0 x1 x2 x3
    obtain ⟨s, t, r, d⟩ := j
    simp only at x0 x1 x2 x3
    clear hfind hjk
    have k1 : (0 : Int) ≤ (k : Int) := by omega
    have k2 : (k : Int) < (q.length : Int) := by omega
    subst hA
    go_wp2_with fail
    go_ret
    exact ⟨rfl, by have hbk := HB.out; have hz := hbk.size; exact (by repeat (first | exact Below.refl _ _ | assumption | refine Below.alloc ?_ (by first | omega | (simp <;> omega)) _ | refine Below.setCell ?_ (by first | omega | (simp <;> omega)) _ | refine Below.drew ?_))⟩
theorem can_any (t : Int) (w : World) : Calls Tryz.prog 41 #[.int .i64 t] w fun e w' => e = .returned (.bool (canF t)) ∧ Below w.heap.size w w' := by
  by_cases h1 : t = 1
  · subst h1
    go_enter Tryz.func41, Tryz.ntmps41
    go_wp2_with fail
    go_ret
    exact ⟨ret_bool (by simp [canF]), (by repeat (first | exact Below.refl _ _ | assumption | refine Below.alloc ?_ (by first | omega | (simp <;> omega)) _ | refine Below.setCell ?_ (by first | omega | (simp <;> omega)) _ | refine Below.drew ?_))⟩
  · have b1 : (t == 1) = false := by simpa using h1
    by_cases h4 : t = 4
    · subst h4
      go_enter Tryz.func41, Tryz.ntmps41
      go_wp2_with fail
      go_ret
      exact ⟨ret_bool (by simp [canF]), (by repeat (first | exact Below.refl _ _ | assumption | refine Below.alloc ?_ (by first | omega | (simp <;> omega)) _ | refine Below.setCell ?_ (by first | omega | (simp <;> omega)) _ | refine Below.drew ?_))⟩
    · have b4 : (t == 4) = false := by simpa using h4
      have HC := Lib.hid (show canF t = false by unfold canF; rw [b1, b4]; rfl)
      clear h1 h4
      go_enter Tryz.func41, Tryz.ntmps41
      go_wp2_with fail
      go_ret
      exact ⟨ret_bool (by rw [HC.out]), (by repeat (first | exact Below.refl _ _ | assumption | refine Below.alloc ?_ (by first | omega | (simp <;> omega)) _ | refine Below.setCell ?_ (by first | omega | (simp <;> omega)) _ | refine Below.drew ?_))⟩
theorem step_no {es : List Ed} {fails : List Str} {q : List Jb} {u : Str} (h : u ∉ runsU q) : stepW es fails q u = beginQ es q u := by
  unfold stepW stepQ
  cases hm : mayQ q
  · have h1 : beginQ es q u = none := by
      unfold beginQ; rw [if_neg]; intro hu; rw [readyQ_may hu] at hm; cases hm
    have h2 : finishQ q u (endW fails q u) = none := by
      unfold finishQ; cases jobOf q u with
      | none => rfl
      | some j => simp only; rw [if_neg (by simp [hm])]
    rw [h1, h2]; split <;> rfl
  · rw [if_neg]
    intro hr
    obtain ⟨j, hj, e, h2⟩ := runsB_iff.1 hr
    exact h ((mem_runsU hm).2 ⟨j, hj, e, h2⟩)
theorem step_yes {es : List Ed} {fails : List Str} {q : List Jb} {u : Str} (h : u ∈ runsU q) : ∃ j, jobOf q u = some j ∧ j.1 = u ∧ stepW es fails q u = finishQ q u (endJ fails j) := by
  have hm : mayQ q = true := by
    cases hm : mayQ q
    · unfold runsU at h; rw [if_neg (by simp [hm])] at h; cases h
    · rfl
  obtain ⟨j, hj, rfl, h2⟩ := (mem_runsU hm).1 h
  refine ⟨j, jobOf_of (mayQ.dq hm) hj, rfl, ?_⟩
  unfold stepW stepQ
  rw [if_pos (runsB_iff.2 ⟨j, hj, rfl, h2⟩), endW_of hm hj]
theorem containsS_big (A : Option Addr) (c : Nat) (ss : List Str) (x : Str) (w : World) (hr : Rd w w.heap.size 1 A ss.length (svs ss)) (hl : ss.length ≤ 140737488355328) :
    Calls Tryz.prog 38 #[.slice A ss.length c, sv x] w fun e w' => e = .returned (.bool (decide (x ∈ ss))) ∧ w' = w := by
  rcases Nat.eq_zero_or_pos ss.length with h0 | h0
  · have hn := List.length_eq_zero_iff.1 h0
    subst hn
    refine (Tryz.slices_Contains_string_empty A c _ w).mono ?_
    rintro e w' ⟨rfl, rfl⟩
    exact ⟨by simp, rfl⟩
  · obtain ⟨b, o, rfl, hb, hc⟩ := hr.open h0
    refine (Tryz.slices_Contains_string b o ss.length c (ss.map fun s => ⟨s.toArray⟩) ⟨x.toArray⟩ w (by simp) (by omega) (fun j hj => ?_)).mono ?_
    · have hj' : j < ss.length := by simpa using hj
      rw [hc j (by omega)]
      simp [svs, hj']
    · rintro e w' ⟨rfl, rfl⟩
      exact ⟨by rw [List.take_of_length_le (by simp), idxOf_zs], rfl⟩
set_option maxRecDepth 100000 in
set_option maxHeartbeats 4000000 in
theorem StepW_any (An Ae : Option Addr) (nn cn ce : Nat) (es : List Ed) (A : Option Addr) (c : Nat) (q : List Jb) (Af : Option Addr) (cf : Nat) (fails : List Str) (u : Str) (w : World) (hr : Rd w w.heap.size 3 Ae es.length (edsC es)) (hq : QIn w A c q) (hf : Rd w w.heap.size 1 Af fails.length (svs fails)) (hl : es.length ≤ 100000) (hlq : q.length ≤ 100000) (hlf : fails.length ≤ 140737488355328) :
    Calls Tryz.prog 17 #[gV An nn cn Ae es.length ce, .slice A q.length c, .slice Af fails.length cf, sv u] w (JobsRetF (stepW es fails q u) w) := by
  have Hr := Lib.hid hr
  have HQ := Lib.hid hq
  have HFl := Lib.hid hf
  clear hr hq hf
  have hul := runsU_len q
  go_enter Tryz.func17, Tryz.ntmps17
  go_wp2_with fail
  first | (refine wp_named ?_; intro W1 hW) | (refine calls_named ?_; intro W1 hW)
  have B1 : Below w.heap.size w W1 := by rw [hW]; exact (by repeat (first | exact Below.refl _ _ | assumption | refine Below.alloc ?_ (by first | omega | (simp <;> omega)) _ | refine Below.setCell ?_ (by first | omega | (simp <;> omega)) _ | refine Below.drew ?_))
  replace Hr := Lib.hid (Hr.out.at B1)
  replace HQ := Lib.hid (HQ.out.at B1)
  replace HFl := Lib.hid (HFl.out.at B1)
  have n1 : w.heap.size < W1.heap.size := by rw [hW]; simp <;> omega
  have g0 : W1.cell? ⟨w.heap.size, 0, none⟩ = some (.slice An nn cn) := by rw [hW]; go_simp
  have g1 : W1.cell? ⟨w.heap.size, 1, none⟩ = some (.slice Ae es.length ce) := by rw [hW]; go_simp
  clear hW
  have HB := Lib.hid B1
  clear B1
  refine (runsW_any A c q W1 HQ.out (by omega)).mono ?_
  rintro e w2 ⟨A2, c2, rfl, ho2, hb⟩
  have HR2 := Lib.hid (own_rd' ho2)
  replace g0 := cellAt g0 hb (by omega)
  replace g1 := cellAt g1 hb (by omega)
  replace Hr := Lib.hid (Hr.out.at hb)
  replace HQ := Lib.hid (HQ.out.at hb)
  replace HFl := Lib.hid (HFl.out.at hb)
  replace n1 : w.heap.size < w2.heap.size := ltAt n1 hb
  replace HB := Lib.hid (lift HB.out hb)
  clear hb ho2
  go_wp2_with fail
  refine (containsS_rd A2 c2 (runsU q) u w2 HR2.out (by omega)).mono ?_
  rintro e w3 ⟨rfl, rfl⟩
  by_cases hu : u ∈ runsU q
  · obtain ⟨j, hj, hju, hse⟩ := step_yes (es := es) (fails := fails) hu
    have hd : decide (u ∈ runsU q) = true := by simpa using hu
    have HJ := Lib.hid hj
    have HS := Lib.hid hse
    rw [hd]
    clear hj hse hu
    go_wp2_with fail
    refine (typ_any A c q u j w3 HQ.out (by omega) HJ.out).mono ?_
    rintro e w4 ⟨rfl, hb⟩
    replace g0 := cellAt g0 hb (by omega)
    replace g1 := cellAt g1 hb (by omega)
    replace Hr := Lib.hid (Hr.out.at hb)
    replace HQ := Lib.hid (HQ.out.at hb)
    replace HFl := Lib.hid (HFl.out.at hb)
    replace n1 : w.heap.size < w4.heap.size := ltAt n1 hb
    replace HB := Lib.hid (lift HB.out hb)
    clear hb
    go_wp2_with fail
    refine (can_any j.2.1 w4).mono ?_
    rintro e w5 ⟨rfl, hb⟩
    replace g0 := cellAt g0 hb (by omega)
    replace g1 := cellAt g1 hb (by omega)
    replace Hr := Lib.hid (Hr.out.at hb)
    replace HQ := Lib.hid (HQ.out.at hb)
    replace HFl := Lib.hid (HFl.out.at hb)
    replace n1 : w.heap.size < w5.heap.size := ltAt n1 hb
    replace HB := Lib.hid (lift HB.out hb)
    clear hb
    cases hc : canF j.2.1
    · have HE := Lib.hid (show stepW es fails q u = finishQ q u 1 by rw [HS.out]; unfold endJ; rw [hc]; rfl)
      go_wp2_with fail
      refine (FinishQF_any A c q u 1 w5 HQ.out (by omega)).mono ?_
      rintro e w6 ⟨A6, c6, rfl, hc6, hr6, hf6, hb⟩
      have hz6 := HB.out.size
      have HR6 := Lib.hid hr6
      have HF6 := Lib.hid (hf6.low hz6)
      replace g0 := cellAt g0 hb (by omega)
      replace g1 := cellAt g1 hb (by omega)
      replace Hr := Lib.hid (Hr.out.at hb)
      replace HQ := Lib.hid (HQ.out.at hb)
      replace HFl := Lib.hid (HFl.out.at hb)
      replace n1 : w.heap.size < w6.heap.size := ltAt n1 hb
      replace HB := Lib.hid (lift HB.out hb)
      clear hb hr6 hf6
      go_wp2_with fail
      go_ret2
      rw [HE.out]
      exact ⟨A6, c6, rfl, hc6, HR6.out, HF6.out, HB.out⟩
    · go_wp2_with fail
      refine (containsS_big Af cf fails u w5 HFl.out hlf).mono ?_
      rintro e w6 ⟨rfl, rfl⟩
      by_cases hin : u ∈ fails
      · have hd2 : decide (u ∈ fails) = true := by simpa using hin
        have HE := Lib.hid (show stepW es fails q u = finishQ q u 2 by rw [HS.out]; unfold endJ; rw [hc, hju, hd2]; rfl)
        rw [hd2]
        clear hin
        obtain ⟨w5, rfl⟩ : ∃ wo : World, wo = w6 := ⟨_, rfl⟩
        go_wp2_with fail
        refine (FinishQF_any A c q u 2 w5 HQ.out (by omega)).mono ?_
        rintro e w6 ⟨A6, c6, rfl, hc6, hr6, hf6, hb⟩
        have hz6 := HB.out.size
        have HR6 := Lib.hid hr6
        have HF6 := Lib.hid (hf6.low hz6)
        replace g0 := cellAt g0 hb (by omega)
        replace g1 := cellAt g1 hb (by omega)
        replace Hr := Lib.hid (Hr.out.at hb)
        replace HQ := Lib.hid (HQ.out.at hb)
        replace HFl := Lib.hid (HFl.out.at hb)
        replace n1 : w.heap.size < w6.heap.size := ltAt n1 hb
        replace HB := Lib.hid (lift HB.out hb)
        clear hb hr6 hf6
        go_wp2_with fail
        go_ret2
        rw [HE.out]
        exact ⟨A6, c6, rfl, hc6, HR6.out, HF6.out, HB.out⟩
      · have hd2 : decide (u ∈ fails) = false := by simpa using hin
        have HE := Lib.hid (show stepW es fails q u = finishQ q u 1 by rw [HS.out]; unfold endJ; rw [hc, hju, hd2]; rfl)
        rw [hd2]
        clear hin
        obtain ⟨w5, rfl⟩ : ∃ wo : World, wo = w6 := ⟨_, rfl⟩
        go_wp2_with fail
        refine (FinishQF_any A c q u 1 w5 HQ.out (by omega)).mono ?_
        rintro e w6 ⟨A6, c6, rfl, hc6, hr6, hf6, hb⟩
        have hz6 := HB.out.size
        have HR6 := Lib.hid hr6
        have HF6 := Lib.hid (hf6.low hz6)
        replace g0 := cellAt g0 hb (by omega)
        replace g1 := cellAt g1 hb (by omega)
        replace Hr := Lib.hid (Hr.out.at hb)
        replace HQ := Lib.hid (HQ.out.at hb)
        replace HFl := Lib.hid (HFl.out.at hb)
        replace n1 : w.heap.size < w6.heap.size := ltAt n1 hb
        replace HB := Lib.hid (lift HB.out hb)
        clear hb hr6 hf6
        go_wp2_with fail
        go_ret2
        rw [HE.out]
        exact ⟨A6, c6, rfl, hc6, HR6.out, HF6.out, HB.out⟩
  · have hd : decide (u ∈ runsU q) = false := by simpa using hu
    have HE := Lib.hid (step_no (es := es) (fails := fails) hu)
    rw [hd]
    clear hu
    go_wp2_with fail
    refine (BeginQF_any An Ae nn cn ce es A c q u w3 Hr.out HQ.out (by omega) (by omega)).mono ?_
    rintro e w6 ⟨A6, c6, rfl, hc6, hr6, hf6, hb⟩
    have hz6 := HB.out.size
    have HR6 := Lib.hid hr6
    have HF6 := Lib.hid (hf6.low hz6)
    replace g0 := cellAt g0 hb (by omega)
    replace g1 := cellAt g1 hb (by omega)
    replace Hr := Lib.hid (Hr.out.at hb)
    replace HQ := Lib.hid (HQ.out.at hb)
    replace HFl := Lib.hid (HFl.out.at hb)
    replace n1 : w.heap.size < w6.heap.size := ltAt n1 hb
    replace HB := Lib.hid (lift HB.out hb)
    clear hb hr6 hf6
    go_wp2_with fail
    go_ret2
    rw [HE.out]
    exact ⟨A6, c6, rfl, hc6, HR6.out, HF6.out, HB.out⟩
end Od
end Go.Proofs.YtmlogmcnblgnbaaGreat
end

section
/- slices.IndexFunc and ContainsFunc at texts, where the function value may turn something: what holds at each world (I) is kept. -/
namespace Go.Proofs.YtmlogmcnblgnbaaGreat
open Go.RowKit Go.Maps Go.Sort
set_option linter.unusedSimpArgs false

namespace Od
structure SaysI (g : Nat) (caps : Array Value) (p : Str → Bool) (ss : List Str) (I : World → Prop) : Prop where
  enters : ∀ (args : Array Value) (W : World), (callFunc g args).run Tryz.prog W = .ok (.enter g args) W
  says : ∀ (W : World) (s : Str), s ∈ ss → I W → Calls Tryz.prog g (#[sv s] ++ caps) W fun e w' => e = .returned (.bool (p s)) ∧ I w'
set_option maxRecDepth 100000 in
set_option maxHeartbeats 1000000 in
theorem IndexFuncSI (A : Option Addr) (c : Nat) (ss : List Str) (g : Nat) (caps : Array Value) (p : Str → Bool) (I : World → Prop) (w : World) (hI : I w) (hr : ∀ W, I W → Rd W W.heap.size 1 A ss.length (svs ss)) (hl : ss.length ≤ 1000000) (hp : SaysI g caps p ss I) :
    Calls Tryz.prog 131 #[.slice A ss.length c, .func (.func g) #[] caps] w fun e w' => ∃ r : Int, e = .returned (.int .i64 r) ∧ decide ((0 : Int) ≤ r) = ss.any p ∧ I w' := by
  have Hr := Lib.hid hr
  have Hp := Lib.hid hp
  have HI := Lib.hid hI
  have eg := hp.enters
  clear hr hp hI
  go_enter Tryz.func131, Tryz.ntmps131
  go_wp2_with fail
  go_loopw [8] (fun i wr => ∃ k : Nat, k ≤ ss.length ∧ i = .int .i64 k ∧ Hid ((ss.take k).any p = false) ∧ Hid (I wr)) (fun i _ => ss.length - (intOf i).toNat)
  case atStart => exact ⟨0, Nat.zero_le _, rfl, by simp [Hid], HI⟩
  case round =>
    obtain ⟨k, hk, rfl, hall, hi⟩ := hrel
    by_cases hlt : k < ss.length
    · obtain ⟨b, o, rfl, hB, hc0⟩ := (Hr.out wr hi.out).str hlt
      have hin : ss[k] ∈ ss := List.getElem_mem hlt
      generalize hx : ss[k] = x at hc0 hin
      have Hx := Lib.hid hx
      have hcall := Hp.out.says wr x hin hi.out
      have Hcall := Lib.hid hcall
      clear hcall hx hin
      go_wp2_with fail
      refine Hcall.out.mono ?_
      rintro e w2 ⟨rfl, hi2⟩
      have Hi2 := Lib.hid hi2
      clear hi2
      cases hpx : p x
      · have Hpx := Lib.hid hpx
        go_wp2_with fail
        go_roundw
        case rel => exact ⟨k + 1, by omega, by go_num, by show _ = false; rw [any_take_succ hlt, hall.out, Hx.out, Hpx.out]; rfl, Hi2⟩
        case measure => simp [intOf]; omega
      · have Hpx := Lib.hid hpx
        have ha : ss.any p = true := any_of_at hlt (by rw [Hx.out]; exact Hpx.out)
        have HA := Lib.hid ha
        clear ha
        go_wp2_with fail
        go_ret
        exact ⟨k, rfl, by rw [HA.out]; simp, Hi2.out⟩
    · have ha := hall.out
      rw [List.take_of_length_le (by omega)] at ha
      have Ha := Lib.hid ha
      clear ha
      go_wp2_with fail
      go_ret
      exact ⟨-1, rfl, by rw [Ha.out]; simp, hi.out⟩
set_option maxHeartbeats 1000000 in
theorem ContainsFuncSI (A : Option Addr) (c : Nat) (ss : List Str) (g : Nat) (caps : Array Value) (p : Str → Bool) (I : World → Prop) (w : World) (hI : I w) (hr : ∀ W, I W → Rd W W.heap.size 1 A ss.length (svs ss)) (hl : ss.length ≤ 1000000) (hp : SaysI g caps p ss I) :
    Calls Tryz.prog 99 #[.slice A ss.length c, .func (.func g) #[] caps] w fun e w' => e = .returned (.bool (ss.any p)) ∧ I w' := by
  go_enter Tryz.func99, Tryz.ntmps99
  go_wp2_with fail
  refine (IndexFuncSI A c ss g caps p I w hI hr hl hp).mono ?_
  rintro e w2 ⟨r, rfl, hiff, hi⟩
  have Hiff := Lib.hid hiff
  have Hi := Lib.hid hi
  clear hiff hi
  go_wp2_with fail
  go_ret
  exact ⟨ret_bool Hiff.out, Hi.out⟩
end Od
end Go.Proofs.YtmlogmcnblgnbaaGreat
end
