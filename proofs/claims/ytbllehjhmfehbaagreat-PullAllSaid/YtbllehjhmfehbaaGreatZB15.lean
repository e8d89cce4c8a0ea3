/- My texts, joined for the claim: PGI PSameP LpShown LpBase Frame Frame3 Frame5 FrameP. -/
import Derived.Test.YtbllehjhmfehbaaGreatZB4
import Derived.Test.YtbllehjhmfehbaaGreatZB9
import Derived.Test.YtbllehjhmfehbaaGreatZB7
import Derived.Test.YtbllehjhmfehbaaGreatZB10
import Derived.Test.YtbllehjhmfehbaaGreatZB0
import Derived.Test.YtbllehjhmfehbaaGreatZB14
import Derived.Test.YtbllehjhmfehbaaGreatRows
import Derived.ProofKit
import Derived.OpenShut
import Derived.Deep.Slices
import Derived.Deep.Fields
import Derived.Lib.SmallJoins
import Derived.SizedLaws

section
/- A graph that came in, of any size, and who is up; graph.May of any graph; layer 17's own word small. (bel2) -/
namespace Go.Proofs.YtbllehjhmfehbaaGreat
open Go.RowKit Go.Sort
set_option linter.unusedSimpArgs false
namespace Od
structure GIw (w : World) (An Ae : Option Addr) (ns : List Nd) (es : List Ed) : Prop where
  rn : Rd w w.heap.size 3 An ns.length (ndsC ns)
  re : Rd w w.heap.size 3 Ae es.length (edsC es)
  okn : OkNs ns
  oke : OkE es
theorem GIw.at {w w' : World} {An Ae : Option Addr} {ns : List Nd} {es : List Ed} (h : GIw w An Ae ns es) (hb : Below w.heap.size w w') : GIw w' An Ae ns es := ⟨h.rn.at hb, h.re.at hb, h.okn, h.oke⟩
theorem okS_of {s : Str} (h : s.length ≤ 140737488351232) : okS s := by unfold okS maxLen; omega
/-- Who is up, who is half. -/
structure NIn (w : World) (Au Ah : Option Addr) (up half : List Str) : Prop where
  u : SIn w Au up
  h : SIn w Ah half
theorem NIn.at {w w' : World} {Au Ah : Option Addr} {up half : List Str} (h : NIn w Au Ah up half) (hb : Below w.heap.size w w') : NIn w' Au Ah up half := ⟨h.u.at hb, h.h.at hb⟩
theorem wf_i64 {n : Int} (h : (Lit.int .i64 n).wf = true) : (Lit.int .i64 n).wf = true := h
set_option maxHeartbeats 1000000 in
theorem MayGB_any (An Ae : Option Addr) (cn ce : Nat) (ns : List Nd) (es : List Ed) (w : World) (hg : GIw w An Ae ns es) (hl : es.length ≤ 1000000) :
    Calls Tryz.prog 23 #[gV An ns.length cn Ae es.length ce] w fun e w' => e = .returned (.bool (mayG ns es)) ∧ Below w.heap.size w w' := by
  by_cases h64 : (64 : Int) < (ns.length : Int)
  · have h1 : decide ((64 : Int) < (ns.length : Int)) = true := by simpa using h64
    have hm : mayG ns es = false := by unfold mayG; rw [h1]; rfl
    have HM := Lib.hid hm
    clear hg hm
    go_enter Tryz.func23, Tryz.ntmps23
    go_wp2_with fail
    go_ret
    exact ⟨ret_bool (by rw [HM.out]), (by repeat (first | exact Below.refl _ _ | assumption | refine Below.alloc ?_ (by first | omega | (simp <;> omega)) _ | refine Below.setCell ?_ (by first | omega | (simp <;> omega)) _ | refine Below.drew ?_))⟩
  · exact MayG_any An Ae cn ce ns es w hg.rn hg.re (by omega) hl hg.okn
def small17 (ns : List Nd) (es : List Ed) : Bool := decide ((es.length : Int) ≤ 300) && mayG ns es
theorem small17_iff {ns : List Nd} {es : List Ed} : small17 ns es = true ↔ es.length ≤ 300 ∧ mayG ns es = true := by
  unfold small17
  rw [Bool.and_eq_true, decide_eq_true_eq]
  constructor
  · rintro ⟨h1, h2⟩; exact ⟨by omega, h2⟩
  · rintro ⟨h1, h2⟩; exact ⟨by omega, h2⟩
theorem may_len {ns : List Nd} {es : List Ed} (h : mayG ns es = true) : ns.length ≤ 64 := by
  unfold mayG at h
  rw [Bool.and_eq_true] at h
  have := h.1
  simp at this
  omega
set_option maxHeartbeats 1000000 in
theorem small17_any (An Ae : Option Addr) (cn ce : Nat) (ns : List Nd) (es : List Ed) (w : World) (hg : GIw w An Ae ns es) :
    Calls Tryz.prog 16 #[gV An ns.length cn Ae es.length ce] w fun e w' => e = .returned (.bool (small17 ns es)) ∧ Below w.heap.size w w' := by
  have HG := Lib.hid hg
  have HM := Lib.hid (show small17 ns es = (decide ((es.length : Int) ≤ 300) && mayG ns es) from rfl)
  clear hg
  by_cases h1 : (es.length : Int) ≤ 300
  · have d1 : decide ((es.length : Int) ≤ 300) = true := by simpa using h1
    have D1 := Lib.hid d1
    go_enter Tryz.func16, Tryz.ntmps16
    go_wp2_with fail
    first | (refine wp_named ?_; intro W1 hW) | (refine calls_named ?_; intro W1 hW)
    have B1 : Below w.heap.size w W1 := by rw [hW]; exact (by repeat (first | exact Below.refl _ _ | assumption | refine Below.alloc ?_ (by first | omega | (simp <;> omega)) _ | refine Below.setCell ?_ (by first | omega | (simp <;> omega)) _ | refine Below.drew ?_))
    replace HG := Lib.hid (HG.out.at B1)
    clear hW
    have HB := Lib.hid B1
    clear B1
    refine (MayGB_any An Ae cn ce ns es W1 HG.out (by omega)).mono ?_
    rintro e w2 ⟨rfl, hb⟩
    have HB2 := Lib.hid (lift HB.out hb)
    clear hb
    go_wp2_with fail
    go_ret
    exact ⟨ret_bool (by rw [HM.out, D1.out]; simp), HB2.out⟩
  · have d1 : decide ((es.length : Int) ≤ 300) = false := by simpa using h1
    have D1 := Lib.hid d1
    go_enter Tryz.func16, Tryz.ntmps16
    go_wp2_with fail
    go_ret
    exact ⟨ret_bool (by rw [HM.out, D1.out]; simp), (by repeat (first | exact Below.refl _ _ | assumption | refine Below.alloc ?_ (by first | omega | (simp <;> omega)) _ | refine Below.setCell ?_ (by first | omega | (simp <;> omega)) _ | refine Below.drew ?_))⟩
/-! The graph that the laws begin with -/
def nmA : Str := [97, 46, 116, 97, 114, 103, 101, 116]
def nmB : Str := [98, 46, 116, 97, 114, 103, 101, 116]
def nmC : Str := [99, 46, 116, 97, 114, 103, 101, 116]
def nmD : Str := [100, 46, 116, 97, 114, 103, 101, 116]
def nmE : Str := [101, 46, 116, 97, 114, 103, 101, 116]
def nmZ : Str := [122, 46, 116, 97, 114, 103, 101, 116]
def nms17 : List Str := [nmA, nmB, nmC, nmD, nmE]
def nd17 (s : Str) : Nd := (s, 4, 1)
def ns17 : List Nd := nms17.map nd17
def es17 : List Ed := [(nmA, nmB, 1), (nmA, nmC, 2), (nmD, nmA, 6), (nmE, nmA, 5)]
def GraphIs (ns : List Nd) (es : List Ed) (w : World) (e : Ending) (w' : World) : Prop := ∃ An cn Ae ce, e = .returned (gV An ns.length cn Ae es.length ce) ∧ ns.length ≤ cn ∧ es.length ≤ ce ∧
  Rd w' w'.heap.size 3 An ns.length (ndsC ns) ∧ Rd w' w'.heap.size 3 Ae es.length (edsC es) ∧ Below w.heap.size w w'
theorem one_ndC (n : Nd) : ∀ u ∈ ndC n, u.oneCell' = true := fun u hu => by
  simp only [ndC, List.mem_cons, List.not_mem_nil, or_false] at hu
  rcases hu with rfl | rfl | rfl <;> rfl
theorem infoNd : (Tryz.prog.info? 39).map (fun i => (i.zero, i.size, i.bytes)) = some (some (.agg #[.string ⟨#[]⟩, .int .i64 0, .int .i64 0]), 3, 32) := by kernel_rfl
set_option maxRecDepth 100000 in
set_option maxHeartbeats 4000000 in
theorem some17_any (w : World) : Calls Tryz.prog 43 #[] w (GraphIs ns17 es17 w) := by
  obtain ⟨i0, hi, hz0, hz1, hz2⟩ := info_parts infoNd
  go_enter Tryz.func43, Tryz.ntmps43
  go_wp2_with fail
  first | (refine wp_named ?_; intro W1 hW) | (refine calls_named ?_; intro W1 hW)
  have B1 : Below w.heap.size w W1 := by rw [hW]; exact (by repeat (first | exact Below.refl _ _ | assumption | refine Below.alloc ?_ (by first | omega | (simp <;> omega)) _ | refine Below.setCell ?_ (by first | omega | (simp <;> omega)) _ | refine Below.drew ?_))
  have n1 : (w.heap.size + 1 + 1) < W1.heap.size := by rw [hW]; simp <;> omega
  have n0 : (w.heap.size + 1) < W1.heap.size := by rw [hW]; simp <;> omega
  have c0 : W1.cell? ⟨(w.heap.size + 1), 0, none⟩ = some (.slice none 0 0) := by rw [hW]; go_simp
  have c1 : W1.cell? ⟨(w.heap.size + 1), 1, none⟩ = some (.slice none 0 0) := by rw [hW]; go_simp
  have f0 : W1.frozen? ⟨(w.heap.size + 1), 0, none⟩ = false := by rw [hW]; go_simp
  have f1 : W1.frozen? ⟨(w.heap.size + 1), 1, none⟩ = false := by rw [hW]; go_simp
  have d0 : W1.cell? ⟨w.heap.size, 0, none⟩ = some (.slice none 0 0) := by rw [hW]; go_simp
  have d1 : W1.cell? ⟨w.heap.size, 1, none⟩ = some (.slice none 0 0) := by rw [hW]; go_simp
  have e0 : W1.frozen? ⟨w.heap.size, 0, none⟩ = false := by rw [hW]; go_simp
  have e1 : W1.frozen? ⟨w.heap.size, 1, none⟩ = false := by rw [hW]; go_simp
  have hrd : Rd W1 W1.heap.size 1 (some ⟨w.heap.size + 1 + 1, 0, none⟩) 5 (svs nms17) := by
    rw [hW]
    have h := Rd.lit ((w.alloc (.cells #[.slice none 0 0, .slice none 0 0] 25)).alloc (.cells #[.slice none 0 0, .slice none 0 0] 25)) (svs nms17) 9 1 5 rfl
    simp only [World.size_alloc] at h ⊢
    exact h
  clear hW
  have HB := Lib.hid B1
  have HRd := Lib.hid hrd
  clear B1 hrd
  go_loopw [7] (fun i wr => ∃ (k : Nat) (v : Value), k ≤ 5 ∧ i = .int .i64 k ∧ Hid (wr.cell? ⟨w.heap.size + 1, 0, none⟩ = some v) ∧ Hid (wr.frozen? ⟨w.heap.size + 1, 0, none⟩ = false) ∧ Hid (wr.cell? ⟨w.heap.size + 1, 1, none⟩ = some (.slice none 0 0)) ∧ Hid (wr.frozen? ⟨w.heap.size + 1, 1, none⟩ = false) ∧ Hid (wr.ownsRow W1.heap.size 39 3 v k (ndsC ((nms17.take k).map nd17))) ∧ Hid (Keeps (But W1 (w.heap.size + 1)) W1 wr)) (fun i _ => 5 - (intOf i).toNat)
  case atStart => exact ⟨0, .slice none 0 0, Nat.zero_le _, rfl, c0, f0, c1, f1, World.ownsRow_nil _ _ _ _, But.below (Below.refl _ _)⟩
  case round =>
    obtain ⟨k, v, hk, rfl, HC0, HF0, HC1, HF1, HO, HK⟩ := hrel
    have hz := HK.out.size
    have x0 := HC0.out
    have x1 := HF0.out
    have x2 := HC1.out
    have x3 := HF1.out
    have lg : w.heap.size + 1 < wr.heap.size := by omega
    by_cases hlt : k < 5
    · have hlt5 : k < nms17.length := hlt
      have hrd := (Rd.str (ss := nms17) HRd.out hlt5)
      obtain ⟨b, o, hA, hB, y0⟩ := hrd
      injection hA with hA
      injection hA with hA1 hA2
      subst hA1 hA2
      rw [Nat.zero_add] at y0
      have y1 := cellK y0 HK.out (by omega) (by omega)
      have htk : (nms17.take (k + 1)).map nd17 = (nms17.take k).map nd17 ++ [nd17 nms17[k]] := by rw [List.take_succ_eq_append_getElem hlt5, List.map_append]; rfl
      generalize nms17[k] = s at y0 y1 htk
      have HTk := Lib.hid htk
      have m1 : (0 : Int) ≤ (k : Int) := by omega
      have m2 : (k : Int) < 5 := by omega
      have lb : w.heap.size + 1 + 1 < wr.heap.size := by omega
      have hv0 : v.ownBlock ≠ some (w.heap.size + 1) := fun e => by have := (HO.out.lt _ e).1; omega
      have HV := Lib.hid hv0
      have h63 := Lib.hid (show k + 1 ≤ maxLen by unfold maxLen; omega)
      have hby := Lib.hid (show (k + 1) * 32 ≤ 140737488355328 by omega)
      clear htk y0 hv0 hlt5 d0 d1 c0 c1
      go_wp2_with (first
        | (at_builtin; refine wpList_pushm wr wr (by rfl) (.tmp 12) (.tmp 15) 22 (by rfl) W1.heap.size 39 i0 _ 3 32 Tryz.underlying22 hi hz0 hz1 hz2 rfl (by decide) _ _ _ (by rfl) HO.out (ndC (nd17 s)) (wr.heap.size) rfl (by rfl) rfl (one_ndC _) h63.out hby.out hz (Below.refl _ _) ?_; intro A8 c8 w7 hown7 hbel7 hg7 hat7; have z0 := cell_kept x0 hg7 lg HV.out; have z1 := fro_kept x1 hg7 lg HV.out; have z2 := cell_kept x2 hg7 lg HV.out; have z3 := fro_kept x3 hg7 lg HV.out; have HO7 := Lib.hid hown7; have HG7 := Lib.hid (And.intro hg7 hat7); clear hown7 hbel7 hg7 hat7)
        | fail)
      go_roundw
      case rel =>
        have hne : (Value.slice A8 (k + 1) c8).ownBlock ≠ some (w.heap.size + 1) := fun e => by
          rcases HG7.out.2 with h | h
          · exact HV.out (h.symm.trans e)
          · rw [h] at e; injection e; omega
        refine ⟨k + 1, .slice A8 (k + 1) c8, by omega, by go_num, World.cell?_setCell_same _ _ _ z0, by show World.frozen? _ _ = _; rw [World.frozen?_setCell]; exact z1, (World.cell?_setCell_other _ _ _ _ (by simp)).trans z2, by show World.frozen? _ _ = _; rw [World.frozen?_setCell]; exact z3, ?_, ?_⟩
        · show World.ownsRow _ _ _ _ _ _ _
          rw [HTk.out]
          have h := HO7.out.kept (grownBy_setCell w7 ⟨w.heap.size + 1, 0, none⟩ (.slice A8 (k + 1) c8)) (.inr hne)
          simpa [ndsC] using h
        · have hk1 := HK.out
          have hg := HG7.out.1
          refine ⟨hg.os.trans hk1.os, hg.tape.trans hk1.tape, hg.output.trans hk1.output, by have := hg.size; simp only [World.size_setCell]; omega, fun j hj => ?_⟩
          rw [(grownBy_setCell w7 ⟨w.heap.size + 1, 0, none⟩ (.slice A8 (k + 1) c8)).block j (by have := hg.size; have := hj.1; omega) (fun e => hj.2 (by injection e)), hg.block j (by have := hj.1; omega) (fun e => by have := (HO.out.lt _ e.symm).1; have := hj.1; omega), hk1.block j hj]
      case measure => simp [intOf]; omega
    · obtain rfl : k = 5 := by omega
      obtain ⟨A, c, rfl, hrr⟩ := own_rd HO.out
      have y0 := cellK d0 HK.out (by omega) (by omega)
      have y1 := cellK d1 HK.out (by omega) (by omega)
      have z0 := froK e0 HK.out (by omega) (by omega)
      have z1 := froK e1 HK.out (by omega) (by omega)
      have hcap := (own_cap HO.out).1
      have HRr := Lib.hid hrr
      have HCap := Lib.hid hcap
      have l0 : w.heap.size < wr.heap.size := by omega
      have q1 : ¬ w.heap.size = wr.heap.size := by omega
      have q2 : ¬ w.heap.size + 1 = wr.heap.size := by omega
      clear hrr hcap d0 d1 e0 e1 c0 c1
      go_wp2_with fail
      have hba : Below w.heap.size w wr := HB.out.trans (HK.out.below (fun j hj => ⟨by omega, by omega⟩))
      refine bodyPost_ret (v := gV A 5 c (some ⟨wr.heap.size, 0, none⟩) 4 4) (by simp only [results, Tryz.results43]; go_simp) rfl ⟨A, c, _, 4, rfl, HCap.out, Nat.le_refl _, ?_, ?_, ?_⟩
      · have hA : ∀ ad, A = some ad → ad.block ≠ w.heap.size ∧ ad.block ≠ w.heap.size + 1 := fun ad e => by
          subst e
          have := (HO.out.lt ad.block rfl).1
          exact ⟨by omega, by omega⟩
        have h1 := (HRr.out.setCellF (p := ⟨w.heap.size + 1, 1, none⟩) (fun ad _ e h => (hA ad e).2 h.symm) (.slice (some ⟨wr.heap.size, 0, none⟩) 4 4))
        have h2 := (h1.setCellF (p := ⟨w.heap.size, 0, none⟩) (fun ad _ e h => (hA ad e).1 h.symm) (.slice A 5 c))
        have h3 := (h2.setCellF (p := ⟨w.heap.size, 1, none⟩) (fun ad _ e h => (hA ad e).1 h.symm) (.slice (some ⟨wr.heap.size, 0, none⟩) 4 4))
        exact (h3.alloc (by simp) _).more (by simp)
      · have h := Rd.lit (((wr.setCell ⟨w.heap.size + 1, 1, none⟩ (.slice (some ⟨wr.heap.size, 0, none⟩) 4 4)).setCell ⟨w.heap.size, 0, none⟩ (.slice A 5 c)).setCell ⟨w.heap.size, 1, none⟩ (.slice (some ⟨wr.heap.size, 0, none⟩) 4 4)) (edsC es17) 45 3 4 rfl
        simp only [World.size_setCell] at h
        exact h
      · exact (((hba.setCell (by simp) _).setCell (by simp) _).setCell (by simp) _).alloc (by simp; omega) _
end Od
end Go.Proofs.YtbllehjhmfehbaaGreat
end

section
/- The walk of matinsref17.SamePulls; two pulls compared. (bel2) -/
namespace Go.Proofs.YtbllehjhmfehbaaGreat
open Go.RowKit
set_option linter.unusedSimpArgs false

namespace Od
def plEq (a b : Pl) : Bool := a == b
set_option maxRecDepth 100000 in
theorem pl_eq (s s' b b' : Str) (t t' : Int) (n n' : Bool) (w : World) : (Op.equalIn 10000 37 (.agg #[sv s, .int .i64 t, .bool n, sv b]) (.agg #[sv s', .int .i64 t', .bool n', sv b'])).run Tryz.prog w = .ok (plEq (s, t, n, b) (s', t', n', b')) w := by
  show (Op.equalIn (9999 + 1) _ _ _).run _ w = _
  go_simp
  unfold plEq
  by_cases h1 : s = s' <;> by_cases h2 : t = t' <;> by_cases h3 : n = n' <;> by_cases h4 : b = b' <;> simp [h1, h2, h3, h4]
theorem pl_eql (s s' b b' : Str) (t t' : Int) (n n' : Bool) (w : World) : (binOp .eql 37 (.agg #[sv s, .int .i64 t, .bool n, sv b]) (.agg #[sv s', .int .i64 t', .bool n', sv b'])).run Tryz.prog w = .ok (.bool (plEq (s, t, n, b) (s', t', n', b'))) w := by
  rw [run_eql_struct, pl_eq]; rfl
theorem pl_neq (s s' b b' : Str) (t t' : Int) (n n' : Bool) (w : World) : (binOp .neq 37 (.agg #[sv s, .int .i64 t, .bool n, sv b]) (.agg #[sv s', .int .i64 t', .bool n', sv b'])).run Tryz.prog w = .ok (.bool (!plEq (s, t, n, b) (s', t', n', b'))) w := by
  rw [run_neq_struct, pl_eq]; rfl
set_option maxRecDepth 100000 in
set_option maxHeartbeats 4000000 in
theorem SamePulls_any (A A' : Option Addr) (c c' : Nat) (xs ys : List Pl) (w : World) (hr : Rd w w.heap.size 4 A xs.length (plsC xs)) (hr' : Rd w w.heap.size 4 A' ys.length (plsC ys)) (hb : xs.length ≤ 1000000) :
    Calls Tryz.prog 17 #[.slice A xs.length c, .slice A' ys.length c'] w fun e w' => e = .returned (.bool (decide (xs = ys))) ∧ Below w.heap.size w w' := by
  have Hr := Lib.hid hr
  have Hr' := Lib.hid hr'
  have hq := pl_neq
  clear hr hr'
  by_cases hl : xs.length = ys.length
  · have Hl := Lib.hid hl
    have hl1 : ((xs.length : Int) != (ys.length : Int)) = false := by simp [hl]
    clear hl
    go_enter Tryz.func17, Tryz.ntmps17
    go_wp2_with fail
    go_loopw [13] (fun i wr => ∃ k : Nat, k ≤ xs.length ∧ i = .int .i64 k ∧ Hid (∀ j (h1 : j < xs.length) (h2 : j < ys.length), j < k → xs[j] = ys[j]) ∧ Below w.heap.size w wr) (fun i _ => xs.length - (intOf i).toNat)
    case atStart => exact ⟨0, Nat.zero_le _, rfl, fun _ _ _ h => absurd h (by omega), Below.refl _ _⟩
    case round =>
      obtain ⟨k, hk, rfl, hall, hb⟩ := hrel
      have HB := Lib.hid hb
      replace Hr := Lib.hid (Hr.out.at hb)
      replace Hr' := Lib.hid (Hr'.out.at hb)
      clear hb
      by_cases hlt : k < xs.length
      · have hlt' : k < ys.length := by have := Hl.out; omega
        obtain ⟨b, o, rfl, hB, x0, x1, x2, x3⟩ := Hr.out.pl hlt
        obtain ⟨b', o', rfl, hB', y0, y1, y2, y3⟩ := Hr'.out.pl hlt'
        generalize hx : xs[k] = x at x0 x1 x2 x3
        generalize hy : ys[k] = y at y0 y1 y2 y3
        obtain ⟨s, t, n, d⟩ := x
        obtain ⟨s', t', n', d'⟩ := y
        have Hx := Lib.hid hx
        have Hy := Lib.hid hy
        simp only at x0 x1 x2 x3 y0 y1 y2 y3
        clear hx hy
        have hk0 : (0 : Int) ≤ (k : Int) := by omega
        have hk1 : (k : Int) < (xs.length : Int) := by omega
        have hk2 : (k : Int) < (ys.length : Int) := by omega
        cases hne : plEq (s, t, n, d) (s', t', n', d')
        · have Hne := Lib.hid (show (s, t, n, d) ≠ (s', t', n', d') by simpa [plEq] using hne)
          go_wp2_with fail
          try go_wp2_with fail
          refine wp_region_held_drew (S := fun w' => Below wr.heap.size wr w') (by kernel_rfl) (Below.drew (Below.refl _ _)) (fun hHeld => ?_)
          refine tY (i := 0) (v := ?_) rfl ?_ hHeld ?_; rotate_left 1; focus (intro w' hSw; clear hSw; go_simp; try with_reducible rfl)
          (try simp only [Act.put, zn1, zn2, zn3])
          refine tY (i := 1) (v := ?_) rfl ?_ hHeld ?_; rotate_left 1; focus (intro w' hSw; clear hSw; go_simp; try with_reducible rfl)
          (try simp only [Act.put, zn1, zn2, zn3])
          refine tY (i := 2) (v := ?_) rfl ?_ hHeld ?_; rotate_left 1; focus (intro w' hSw; clear hSw; go_simp; try with_reducible rfl)
          (try simp only [Act.put, zn1, zn2, zn3])
          refine tY (i := 3) (v := ?_) rfl ?_ hHeld ?_; rotate_left 1; focus (intro w' hSw; have hCell := fun (b o : Nat) (h : b < wr.heap.size) => hSw.cell (p := ⟨b, o, none⟩) h; clear hSw; go_simp; try with_reducible rfl)
          (try simp only [Act.put, zn1, zn2, zn3])
          refine tY (i := 4) (v := ?_) rfl ?_ hHeld ?_; rotate_left 1; focus (intro w' hSw; clear hSw; go_simp; try with_reducible rfl)
          (try simp only [Act.put, zn1, zn2, zn3])
          refine tY (i := 5) (v := ?_) rfl ?_ hHeld ?_; rotate_left 1; focus (intro w' hSw; clear hSw; go_simp; try with_reducible rfl)
          (try simp only [Act.put, zn1, zn2, zn3])
          refine tY (i := 6) (v := ?_) rfl ?_ hHeld ?_; rotate_left 1; focus (intro w' hSw; clear hSw; go_simp; try with_reducible rfl)
          (try simp only [Act.put, zn1, zn2, zn3])
          refine tY (i := 7) (v := ?_) rfl ?_ hHeld ?_; rotate_left 1; focus (intro w' hSw; have hCell := fun (b o : Nat) (h : b < wr.heap.size) => hSw.cell (p := ⟨b, o, none⟩) h; clear hSw; go_simp; try with_reducible rfl)
          (try simp only [Act.put, zn1, zn2, zn3])
          refine tY (i := 8) (v := ?_) rfl ?_ hHeld ?_; rotate_left 1; focus (intro w' hSw; clear hSw; go_simp; try with_reducible rfl)
          (try simp only [Act.put, zn1, zn2, zn3])
          refine wpAnyH_done (by kernel_rfl) ?_ _
          go_wp2_with fail
          go_ret
          exact ⟨ret_bool (by
            have hd : xs[k] ≠ ys[k] := by rw [Hx.out, Hy.out]; exact Hne.out
            simp [at_ne hlt hlt' hd]), lift HB.out hHeld⟩
        · have Hne := Lib.hid (show (s, t, n, d) = (s', t', n', d') by simpa [plEq] using hne)
          go_wp2_with fail
          try go_wp2_with fail
          refine wp_region_held_drew (S := fun w' => Below wr.heap.size wr w') (by kernel_rfl) (Below.drew (Below.refl _ _)) (fun hHeld => ?_)
          refine tY (i := 0) (v := ?_) rfl ?_ hHeld ?_; rotate_left 1; focus (intro w' hSw; clear hSw; go_simp; try with_reducible rfl)
          (try simp only [Act.put, zn1, zn2, zn3])
          refine tY (i := 1) (v := ?_) rfl ?_ hHeld ?_; rotate_left 1; focus (intro w' hSw; clear hSw; go_simp; try with_reducible rfl)
          (try simp only [Act.put, zn1, zn2, zn3])
          refine tY (i := 2) (v := ?_) rfl ?_ hHeld ?_; rotate_left 1; focus (intro w' hSw; clear hSw; go_simp; try with_reducible rfl)
          (try simp only [Act.put, zn1, zn2, zn3])
          refine tY (i := 3) (v := ?_) rfl ?_ hHeld ?_; rotate_left 1; focus (intro w' hSw; have hCell := fun (b o : Nat) (h : b < wr.heap.size) => hSw.cell (p := ⟨b, o, none⟩) h; clear hSw; go_simp; try with_reducible rfl)
          (try simp only [Act.put, zn1, zn2, zn3])
          refine tY (i := 4) (v := ?_) rfl ?_ hHeld ?_; rotate_left 1; focus (intro w' hSw; clear hSw; go_simp; try with_reducible rfl)
          (try simp only [Act.put, zn1, zn2, zn3])
          refine tY (i := 5) (v := ?_) rfl ?_ hHeld ?_; rotate_left 1; focus (intro w' hSw; clear hSw; go_simp; try with_reducible rfl)
          (try simp only [Act.put, zn1, zn2, zn3])
          refine tY (i := 6) (v := ?_) rfl ?_ hHeld ?_; rotate_left 1; focus (intro w' hSw; clear hSw; go_simp; try with_reducible rfl)
          (try simp only [Act.put, zn1, zn2, zn3])
          refine tY (i := 7) (v := ?_) rfl ?_ hHeld ?_; rotate_left 1; focus (intro w' hSw; have hCell := fun (b o : Nat) (h : b < wr.heap.size) => hSw.cell (p := ⟨b, o, none⟩) h; clear hSw; go_simp; try with_reducible rfl)
          (try simp only [Act.put, zn1, zn2, zn3])
          refine tY (i := 8) (v := ?_) rfl ?_ hHeld ?_; rotate_left 1; focus (intro w' hSw; clear hSw; go_simp; try with_reducible rfl)
          (try simp only [Act.put, zn1, zn2, zn3])
          refine wpAnyH_done (by kernel_rfl) ?_ _
          go_wp2_with fail
          go_roundw
          case rel => exact ⟨k + 1, by omega, by go_num, fun j h1 h2 h3 => by
            by_cases h : j < k
            · exact hall.out j h1 h2 h
            · obtain rfl : j = k := by omega
              rw [Hx.out, Hy.out]; exact Hne.out, lift HB.out hHeld⟩
          case measure => simp [intOf]; omega
      · go_wp2_with fail
        go_ret
        exact ⟨ret_bool (by
          have : xs = ys := eq_of_at Hl.out fun j h1 h2 => hall.out j h1 h2 (by omega)
          simp [this]), HB.out⟩
  · have hl1 : ((xs.length : Int) != (ys.length : Int)) = true := by rw [bne_iff_ne]; omega
    have Hl := Lib.hid hl
    clear hl
    go_enter Tryz.func17, Tryz.ntmps17
    go_wp2
    go_ret
    exact ⟨ret_bool (by
      have : ¬ xs = ys := fun e => Hl.out (by rw [e])
      simp [this]), Below.refl _ _⟩
end Od
end Go.Proofs.YtbllehjhmfehbaaGreat
end

section
/- What layer 17's laws begin with: the word shown. (bel2) -/
namespace Go.Proofs.YtbllehjhmfehbaaGreat
open Go.RowKit Go.Sort
set_option linter.unusedSimpArgs false
namespace Od
def pls17 : List Pl := [(nmA, 1, true, []), (nmB, 1, true, nmA), (nmC, 1, false, nmA), (nmD, 2, true, nmA)]
def plt17 : List Pl := [(nmA, 2, true, []), (nmE, 2, true, nmA)]
theorem sp1 : pullQ ns17 es17 [] [] (nmA, 1) [] = pls17 := by decide +kernel
theorem sp2 : pullQ ns17 es17 [nmE] [] (nmA, 2) [] = plt17 := by decide +kernel
theorem sp3 : pullQ ns17 es17 [] [] (nmZ, 1) [] = [] := by decide +kernel
theorem ok17 : OkE es17 := by
  intro e he
  simp only [es17, List.mem_cons, List.not_mem_nil, or_false] at he
  rcases he with rfl | rfl | rfl | rfl <;> exact ⟨by unfold okS maxLen; decide, by unfold okS maxLen; decide⟩
theorem okJ17 {s : Str} {t : Int} (h : s.length ≤ 100) (ht : t = 1 ∨ t = 2) : okJ (s, t) := ⟨by show s.length ≤ maxLen; unfold maxLen; omega, by rcases ht with rfl | rfl <;> rfl⟩
theorem SIn.nil (w : World) : SIn w none [] := ⟨Rd.none_, by simp⟩
set_option maxRecDepth 100000 in
set_option maxHeartbeats 8000000 in
theorem shown17_any (w : World) : Calls Tryz.prog 15 #[] w fun e w' => e = .returned (.bool true) ∧ Below w.heap.size w w' := by
  have hq := pl_eql
  go_enter Tryz.func15, Tryz.ntmps15
  go_wp2_with fail
  refine (some17_any w).mono ?_
  rintro e w1 ⟨An, cn, Ae, ce, rfl, hcn, hce, hrn, hre, hb⟩
  have HB := Lib.hid hb
  clear hb
  go_wp2_with fail
  refine (PAll_any An Ae none none none cn ce 0 0 0 ns17 es17 [] [] [] nmA 1 w1 hrn (by decide) hre (by decide) (SIn.nil _) (SIn.nil _) Rd.none_ (by decide) ok17 (okJ17 (by decide) (.inl rfl)) (fun _ h => by cases h)).mono ?_
  rw [sp1]
  rintro e w2 ⟨A2, c2, rfl, ho2, hb⟩
  have HL := Lib.hid (own_rd' ho2)
  replace HB := Lib.hid (lift HB.out hb)
  clear hb ho2 hrn hre
  go_wp2_with fail
  refine (some17_any w2).mono ?_
  rintro e w3 ⟨An3, cn3, Ae3, ce3, rfl, hcn3, hce3, hrn, hre, hb⟩
  have HG := Lib.hid (And.intro hrn hre)
  replace HB := Lib.hid (lift HB.out hb)
  replace HL := Lib.hid (HL.out.at hb)
  clear hb hrn hre
  go_wp2_with fail
  first | (refine wp_named ?_; intro W4 hW) | (refine calls_named ?_; intro W4 hW)
  have B4 : Below w3.heap.size w3 W4 := by rw [hW]; exact (by repeat (first | exact Below.refl _ _ | assumption | refine Below.alloc ?_ (by first | omega | (simp <;> omega)) _ | refine Below.setCell ?_ (by first | omega | (simp <;> omega)) _ | refine Below.drew ?_))
  replace HB := Lib.hid (lift HB.out B4)
  replace HL := Lib.hid (HL.out.at B4)
  replace HG := Lib.hid ((And.intro (HG.out.1.at B4) (HG.out.2.at B4)))
  have hu4 : Rd W4 W4.heap.size 1 (some ⟨w3.heap.size, 0, none⟩) 1 (svs [nmE]) := by rw [hW]; exact Rd.lit w3 (svs [nmE]) 9 1 1 rfl
  clear hW
  clear B4
  refine (PAll_any An3 Ae3 (some ⟨w3.heap.size, 0, none⟩) none none cn3 ce3 1 0 0 ns17 es17 [nmE] [] [] nmA 2 W4 HG.out.1 (by decide) HG.out.2 (by decide) (show SIn W4 (some ⟨w3.heap.size, 0, none⟩) [nmE] from ⟨hu4, by decide⟩) (SIn.nil _) Rd.none_ (by decide) ok17 (okJ17 (by decide) (.inr rfl)) (fun _ h => by cases h)).mono ?_
  rw [sp2]
  rintro e w5 ⟨A5, c5, rfl, ho5, hb⟩
  have HM := Lib.hid (own_rd' ho5)
  replace HB := Lib.hid (lift HB.out hb)
  replace HL := Lib.hid (HL.out.at hb)
  clear hb ho5 hu4 HG
  obtain ⟨p1, q1, hA1, hb1, x0, x1, x2, x3⟩ := Rd.pl (q := pls17) HL.out (i := 1) (by decide)
  obtain ⟨p2, q2, hA2, hb2, y0, y1, y2, y3⟩ := Rd.pl (q := pls17) HL.out (i := 2) (by decide)
  obtain ⟨p3, q3, hA3, hb3, z0, z1, z2, z3⟩ := Rd.pl (q := pls17) HL.out (i := 3) (by decide)
  subst hA1
  injection hA2 with hA2; injection hA2 with e1 e2; subst e1 e2
  injection hA3 with hA3; injection hA3 with e1 e2; subst e1 e2
  obtain ⟨r1, s1, hR1, hb4, v0, v1, v2, v3⟩ := Rd.pl (q := plt17) HM.out (i := 1) (by decide)
  subst hR1
  go_wp2_with fail
  refine (some17_any w5).mono ?_
  rintro e w6 ⟨An6, cn6, Ae6, ce6, rfl, hcn6, hce6, hrn, hre, hb⟩
  have HB6 := Lib.hid (lift HB.out hb)
  have HG := Lib.hid (And.intro hrn hre)
  clear hb hrn hre
  go_wp2_with fail
  refine (PAll_any An6 Ae6 none none none cn6 ce6 0 0 0 ns17 es17 [] [] [] nmZ 1 w6 HG.out.1 (by decide) HG.out.2 (by decide) (SIn.nil _) (SIn.nil _) Rd.none_ (by decide) ok17 (okJ17 (by decide) (.inl rfl)) (fun _ h => by cases h)).mono ?_
  rw [sp3]
  rintro e w7 ⟨A7, c7, rfl, ho7, hb⟩
  have HB7 := Lib.hid (lift HB6.out hb)
  clear hb ho7
  go_wp2_with fail
  go_ret
  exact ⟨rfl, HB7.out⟩
end Od
end Go.Proofs.YtbllehjhmfehbaaGreat
end

section
/- What the walks of layer 17's laws share. No program. (bel2) -/
namespace Go.Proofs.YtbllehjhmfehbaaGreat
open Go.RowKit Go.Sort Go.Maps
set_option linter.unusedSimpArgs false
namespace Od
theorem setF_put (D : List Str) (s : Str) : (fun y => if y = s then some (Value.bool true) else setF D y) = setF (D ++ [s]) := by
  funext y
  unfold setF
  by_cases e : y = s
  · subst e; simp
  · simp [e]
theorem setS_if {w : World} {b n : Nat} {k : Str} {a : Option Value} {f : Str → Option Value} (h : MapIs strK w b n (fun y => @ite (Option Value) (y = k) (Classical.propDecidable _) a (f y))) : MapIs strK w b n (fun y => if y = k then a else f y) := by
  have e : (fun y => @ite (Option Value) (y = k) (Classical.propDecidable _) a (f y)) = (fun y => if y = k then a else f y) := by
    funext y
    by_cases e : y = k <;> simp [e]
  rwa [e] at h
theorem setF_has (D : List Str) (s : Str) : (setF D s).getD (.bool false) = .bool (decide (s ∈ D)) := by
  unfold setF
  by_cases h : s ∈ D <;> simp [h]
/-- Texts and types of what is pulled are in order. -/
theorem pull_ok {ns : List Nd} {es : List Ed} {up half : List Str} {first : Jp} {wo : List Pl} (hok : OkE es) (hof : okJ first) {p : Pl} (hp : p ∈ pullQ ns es up half first wo) : okJ (p.1, p.2.1) ∧ okS p.2.2.2 := by
  obtain ⟨_, h⟩ := mem_pullQ.1 hp
  obtain ⟨h1, _, h3⟩ := mem_allP.1 h
  have hj : ∀ k, Rj (bringB es up half) (outB wo) first k → okJ k := fun k hk => pull_keys_ok (okJ_cand hok) hof k (mem_pullM.2 hk)
  refine ⟨hj _ h1, ?_⟩
  rw [h3]
  rcases by_cases_ h1 with ⟨_, e⟩ | ⟨_, _, j, hj2, e, _⟩
  · rw [e]; unfold okS maxLen; simp
  · rw [← e]; exact (hj _ hj2).1
theorem pull_asks {ns : List Nd} {es : List Ed} {up half : List Str} {first : Jp} {wo : List Pl} (h : asksB ns first = false) : pullQ ns es up half first wo = [] := by
  unfold pullQ; rw [h]; rfl
end Od
end Go.Proofs.YtbllehjhmfehbaaGreat
end

section
/- What every law's row asks behind the walk: the result is true, and each argument reads as it did, since nothing that was there has turned. -/
namespace Go.Proofs.YtbllehjhmfehbaaGreat
open Go.ChangeShapes Go.WideShapes Go.ChangeAt Go.RowKit

theorem own : ownKnob Tryz.prog.godebug = none := by kernel_rfl
theorem laid : laidOutB Tryz.prog = true := by kernel_rfl

section
variable {H : Type} {enc : TypeId × Value → H} {P : Program}

theorem trodAll_stays (hl : laidOutB P = true) {W W' : World} (hb : Below W.heap.size W W') :
    ∀ {ts : List TypeId} {vs : List Value} {ds : List (DataW H)} {p : List MemPlace}, (∀ t ∈ ts, P.readableRec t = true ∧ t < P.types.size) → (∀ x ∈ p, x.block < W.heap.size) →
      DataW.TrodAll enc P W 0 (fun _ => true) true ts vs ds p → DataW.TrodAll enc P W' 0 (fun b => decide (b < W.heap.size)) true ts vs ds p
  | [], _, _, _, _, _, h => by
    obtain ⟨rfl, rfl, rfl⟩ := trodAll_nil h
    exact trodAll_mk0
  | t :: _, _, _, _, hr, hlt, h => by
    obtain ⟨v, vs1, d, ds1, a, b, rfl, rfl, rfl, h1, h2⟩ := trodAll_cons h
    have ht := hr t List.mem_cons_self
    exact trodAll_cons_mk (Below.trod hl ht.1 ht.2 h1 hb (fun x hx => hlt x (List.mem_append.2 (.inl hx))))
      (trodAll_stays hl hb (fun u hu => hr u (List.mem_cons_of_mem _ hu)) (fun x hx => hlt x (List.mem_append.2 (.inr hx))) h2)

/-- The row's post, for a law: it returned true, and nothing that was there has turned. -/
theorem law_post (hl : laidOutB P = true) {f : Func} {s : ChangeSpec} {W W' : World} {args : Array Value} {ds gs : List (DataW H)} {before : List MemPlace} {tb : TypeId}
    (hr : ∀ t ∈ f.params.toList, P.readableRec t = true ∧ t < P.types.size) (hv : s.vars = []) (hres : f.resultTypes = #[tb]) (htb : P.underlying tb = some .bool)
    (hW : DataW.Whole enc P f.params.toList s.vars false W args.toList ds gs before) (hs : s.fn H (ds ++ gs) = { results := [.lit (.bool true)], args := ds }) (hb : Below W.heap.size W W') :
    s.post enc P f false true false false W args (.bool true) W' := by
  have hlt : ∀ p ∈ before, p.block < W.heap.size := fun p hp => hW.lt p hp
  have hW0 := hW
  obtain ⟨p, q, hA, hV, rfl, _, _⟩ := hW0
  rw [hv] at hV
  obtain ⟨rfl, rfl⟩ := trodVars_none hV
  rw [List.append_nil] at hlt
  refine ⟨ds, [], _, [], p, [], hW, ?_, ?_, ?_, hb.frame _, fun h => by cases h⟩
  · rw [hs, hres]
    exact trodAll_cons_mk (shut_bool htb true) trodAll_mk0
  · rw [hs]
    exact trodAll_stays hl hb hr hlt hA
  · rw [hs, hv]
    exact rfl

theorem cell_lt {w : World} {a : Addr} {v : Value} (h : w.cell? a = some v) : a.block < w.heap.size := by
  rcases Nat.lt_or_ge a.block w.heap.size with h1 | h1
  · exact h1
  · unfold World.cell? at h
    rw [Array.getElem?_eq_none h1] at h
    cases h

/-- An argument that is a slice of numbers. -/
theorem open_rd_ints {W : World} {base : Nat} {t e : TypeId} {v : Value} {d : DataW H} {p : List MemPlace} (ht : P.underlying t = some (.slice e)) (he : P.underlying e = some (.int .i64)) (hc : P.cellsOf e = 1)
    (hok : Value.okWide P W .any base t v) (h : DataW.Trod enc P W 0 (fun _ => true) true t v d p) : ∃ (A : Option Addr) (c : Nat) (xs : List Int), v = .slice A xs.length c ∧ Rd W W.heap.size 1 A xs.length (ints xs) ∧ ∀ x ∈ xs, (Lit.int .i64 x).wf = true := by
  obtain ⟨a0, len, cap, rfl⟩ := okWide_slice ht hok
  obtain ⟨fuel, hf⟩ := h
  rcases open_ints ht he hc hf with ⟨hcs, _⟩ | ⟨a, len', cap', zs, hcs, _, hl, hm, hz, hx, hcell, hwz⟩
  · simp only [Value.cells, List.cons.injEq, and_true] at hcs
    injection hcs with h1 h2 h3
    subst h1 h2 h3
    exact ⟨none, 0, [], rfl, Rd.none_, fun x hx => by cases hx⟩
  · simp only [Value.cells, List.cons.injEq, and_true] at hcs
    injection hcs with h1 h2 h3
    subst h1 h2 h3
    have hz' : zs.length = cap := hz
    have hlen : (zs.take len).length = len := by simp; omega
    refine ⟨some a, cap, zs.take len, by rw [hlen], ⟨by simp, fun hn => ?_⟩, fun x hx => hwz x (List.mem_of_mem_take hx)⟩
    rw [hlen] at hn
    have hc0 := hcell 0 (by omega)
    have hb : a.block < W.heap.size := by simpa [Addr.add] using cell_lt hc0
    have hsp : a.spot = none := by
      cases hs : a.spot with
      | none => rfl
      | some s =>
        exfalso
        simp only [Addr.add, if_pos, World.cell?, hs] at hc0
        revert hc0
        split <;> simp
    refine ⟨a, rfl, hb, hsp, fun j hj => ?_⟩
    have hj' : j < len := by rw [hlen] at hj; omega
    have := hcell j (by omega)
    have hadd : a.add j = ⟨a.block, a.off + j, none⟩ := by
      unfold Addr.add
      split
      · rename_i h0; subst h0; cases a; simp_all
      · rfl
    rw [hadd] at this
    rw [this]
    simp [ints, hj', List.getD, show j < zs.length from by omega]
end

end Go.Proofs.YtbllehjhmfehbaaGreat
end

section
/- What a law with graphs and texts as arguments asks ahead of its walk: that they read as lists. -/
namespace Go.Proofs.YtbllehjhmfehbaaGreat
open Go.ChangeShapes Go.WideShapes Go.ChangeAt Go.RowKit Go.Deep

section
variable {H : Type} {enc : TypeId × Value → H} {P : Program}
/-- All that a datum weighs is within reach. -/
def Light (P : Program) (t : TypeId) (d : DataW H) : Prop := ∀ n ∈ d.weights P t, n ≤ reachBytes
theorem light_arg {ts : List TypeId} {ds : List (DataW H)} (h : (DataW.weightsEach P ts ds).all (· ≤ reachBytes) = true) {j : Nat} {t : TypeId} {d : DataW H} (ht : ts[j]? = some t) (hd : ds[j]? = some d) : Light P t d := fun n hn => by
  have := List.all_eq_true.1 h n (DataW.weights_mem_each ht hd n hn)
  simpa using this
theorem weightsAll_mem {e : TypeId} : ∀ {l : List (DataW H)} {d : DataW H}, d ∈ l → ∀ n ∈ d.weights P e, n ∈ DataW.weightsAll P e l
  | d0 :: l, d, h, n, hn => by
    rw [DataW.weightsAll]
    rcases List.mem_cons.1 h with e | e
    · exact List.mem_append_left _ (e ▸ hn)
    · exact List.mem_append_right _ (weightsAll_mem e n hn)
theorem light_elem {t e : TypeId} {elems spare : List (DataW H)} (ht : P.underlying t = some (.slice e)) (h : Light P t (.slice elems spare)) {d : DataW H} (hd : d ∈ elems) : Light P e d := fun n hn => h n (by
  rw [DataW.weights, ht]
  exact List.mem_cons_of_mem _ (List.mem_append_left _ (weightsAll_mem hd n hn)))
theorem light_part {t : TypeId} {fs : Array Field} {parts : List (DataW H)} (ht : P.underlying t = some (.struct fs)) (h : Light P t (.agg parts)) {j : Nat} {f : Field} {d : DataW H} (hf : fs[j]? = some f) (hd : parts[j]? = some d) : Light P f.type d := fun n hn => h n (by
  rw [DataW.weights, ht]
  refine DataW.weights_mem_each (j := j) ?_ hd n hn
  simp [hf])

theorem list_of {α : Type} (f : Nat → Option α) : ∀ n, (∀ i, i < n → ∃ x, f i = some x) → ∃ xs : List α, xs.length = n ∧ ∀ i (hi : i < xs.length), f i = some xs[i]
  | 0, _ => ⟨[], rfl, fun i hi => by simp at hi⟩
  | q + 1, h => by
    obtain ⟨xs, h1, h2⟩ := list_of f q (fun i hil => h i (by omega))
    obtain ⟨x, hx⟩ := h q (by omega)
    refine ⟨xs ++ [x], by simp [h1], fun i hi => ?_⟩
    by_cases e : i < xs.length
    · rw [List.getElem_append_left e]; exact h2 i e
    · have : i = xs.length := by simp at hi; omega
      subst this
      have hx' : f xs.length = some x := by rw [h1]; exact hx
      rw [hx']
      simp
/-- A slice whose elements are rows of k cells that say an α. -/
theorem open_rd_rows {α : Type} (en : α → List Value) (k : Nat) (ok : α → Prop) {W : World} {t e : TypeId} {fuel : Nat} {v : Value} {y : DataW H × List MemPlace} (ht : P.underlying t = some (.slice e)) (hC : P.cellsOf e = k) (hk : 0 < k) (hlen : ∀ x, (en x).length = k)
    (hdec : ∀ n cs y, DataW.trod enc P W 0 (fun _ => true) true n e cs = some y → Light P e y.1 → ∃ x : α, en x = cs ∧ ok x)
    (h : DataW.trod enc P W 0 (fun _ => true) true fuel t [v] = some y) (hs : Light P t y.1) :
    ∃ (A : Option Addr) (c : Nat) (xs : List α), v = .slice A xs.length c ∧ xs.length ≤ c ∧ Rd W W.heap.size k A xs.length (xs.flatMap en) ∧ ∀ x ∈ xs, ok x := by
  rcases open_slice ht h with ⟨hcs, _⟩ | ⟨a, len, cap, m, n, D, Pl, hcs, _, hl, hm, hmm, hx, hi⟩
  · simp only [List.cons.injEq, and_true] at hcs
    subst hcs
    exact ⟨none, 0, [], rfl, Nat.le_refl _, by simpa using Rd.none_, fun x hx => by cases hx⟩
  · simp only [List.cons.injEq, and_true] at hcs
    subst hcs
    simp only [if_true] at hmm
    subst hmm
    rw [hC] at hi
    have hall : ∀ i, i < len → ∃ x : α, ok x ∧ ∀ j, j < k → W.cell? ((a.add (i * k)).add j) = (en x)[j]? := by
      intro i hil
      obtain ⟨cs', hc, htr⟩ := hi i (by omega)
      obtain ⟨_, hcl, hat⟩ := World.cells?_some hc
      have hlt : Light P e (D i) := light_elem ht (by rw [hx] at hs; exact hs) (List.mem_map.2 ⟨i, List.mem_range.2 hil, rfl⟩)
      obtain ⟨x, hx1, hx2⟩ := hdec _ _ _ htr hlt
      exact ⟨x, hx2, fun j hj => by rw [hx1]; exact hat j hj⟩
    obtain ⟨f, hf⟩ : ∃ f : Nat → Option α, ∀ i, i < len → ∃ x, f i = some x ∧ ok x ∧ ∀ j, j < k → W.cell? ((a.add (i * k)).add j) = (en x)[j]? := by
      classical
      exact ⟨fun i => if h : i < len then some (Classical.choose (hall i h)) else none, fun i hil => ⟨_, by simp only [hil, dif_pos], (Classical.choose_spec (hall i hil)).1, (Classical.choose_spec (hall i hil)).2⟩⟩
    have hxs := list_of f len (fun i hil => by obtain ⟨x, h, _⟩ := hf i hil; exact ⟨x, h⟩)
    obtain ⟨xs, hxl, hxf⟩ := hxs
    have hat : ∀ i (hi : i < xs.length), ok xs[i] ∧ ∀ j, j < k → W.cell? ((a.add (i * k)).add j) = (en xs[i])[j]? := by
      intro i hi
      obtain ⟨x, h1, h2, h3⟩ := hf i (by omega)
      have : xs[i] = x := by have := hxf i hi; rw [h1] at this; exact (Option.some.inj this).symm
      rw [this]; exact ⟨h2, h3⟩
    refine ⟨some a, m, xs, by rw [hxl], by omega, ⟨flat_len en k hlen xs, fun hn => ?_⟩, fun x hx => ?_⟩
    · have h0 := (hat 0 hn).2 0 hk
      have hne : (en xs[0])[0]? = some ((en xs[0])[0]'(by rw [hlen]; exact hk)) := List.getElem?_eq_getElem _
      rw [hne] at h0
      have hb : a.block < W.heap.size := by
        have := cell_lt h0
        simpa [Addr.add] using this
      have hsp : a.spot = none := by
        cases hs : a.spot with
        | none => rfl
        | some s =>
          exfalso
          simp only [Addr.add, Nat.zero_mul, if_pos, World.cell?, hs] at h0
          revert h0
          split <;> simp
      have hadd : ∀ q r : Nat, (a.add q).add r = ⟨a.block, a.off + (q + r), none⟩ := by
        intro q r
        unfold Addr.add
        by_cases h1 : q = 0
        · subst h1
          by_cases h2 : r = 0
          · subst h2; cases a; simp_all
          · simp [h2]
        · by_cases h2 : r = 0
          · subst h2; simp [h1]
          · simp [h1, h2, Nat.add_assoc]
      refine ⟨a, rfl, hb, hsp, fun j hj => ?_⟩
      have hq : j / k < xs.length := by rw [Nat.div_lt_iff_lt_mul hk]; exact hj
      have hm : j % k < k := Nat.mod_lt _ hk
      have h1 := (hat (j / k) hq).2 (j % k) hm
      have hdm : j / k * k + j % k = j := by rw [Nat.mul_comm]; exact Nat.div_add_mod j k
      rw [hadd, hdm] at h1
      rw [h1, ← flat_at en k hlen xs (j / k) (j % k) hq hm, hdm]
    · obtain ⟨i, hi, e⟩ := List.mem_iff_getElem.1 hx
      rw [← e]; exact (hat i hi).1
end

/-- Of a length that any machine has. -/
def okS47 (s : Str) : Prop := s.length ≤ 140737488351232
section
variable {H : Type} {enc : TypeId × Value → H} {W : World}
theorem open_str {n : Nat} {cs : List Value} {y : DataW H × List MemPlace} (h : DataW.trod enc Tryz.prog W 0 (fun _ => true) true n 9 cs = some y) (hs : Light Tryz.prog 9 y.1) : ∃ s : Str, cs = [sv s] ∧ okS47 s := by
  obtain ⟨s, h1, h2, _⟩ := DataW.trod_string Tryz.underlying9 h
  refine ⟨s.data.toList, by rw [h1], ?_⟩
  have h3 := hs s.data.toList.length (by rw [h2, DataW.weights]; simp)
  exact h3
theorem svs_flat (xs : List Str) : svs xs = xs.flatMap (fun s => [sv s]) := by
  induction xs with
  | nil => rfl
  | cons x xs ih => simp only [svs, List.map_cons, List.flatMap_cons, List.singleton_append] at ih ⊢; rw [ih]
theorem open_rd_strs {fuel : Nat} {v : Value} {y : DataW H × List MemPlace} (h : DataW.trod enc Tryz.prog W 0 (fun _ => true) true fuel 26 [v] = some y) (hs : Light Tryz.prog 26 y.1) :
    ∃ (A : Option Addr) (c : Nat) (ss : List Str), v = .slice A ss.length c ∧ ss.length ≤ c ∧ Rd W W.heap.size 1 A ss.length (svs ss) ∧ ∀ s ∈ ss, okS47 s := by
  obtain ⟨A, c, xs, h1, h2, h3, h4⟩ := open_rd_rows (fun s : Str => [sv s]) 1 okS47 Tryz.underlying26 (by kernel_rfl) (by omega) (fun _ => rfl) (fun n cs y hy hl => by
    obtain ⟨s, h1, h2⟩ := open_str hy hl
    exact ⟨s, h1.symm, h2⟩) h hs
  exact ⟨A, c, xs, h1, h2, by rw [svs_flat]; exact h3, h4⟩
theorem take1 {cs : List Value} {j : Nat} (h : j < cs.length) : (cs.drop j).take 1 = [cs[j]] := by
  rw [List.drop_eq_getElem_cons h]; rfl
theorem cs3 {cs : List Value} (h : cs.length = 3) : cs = [cs[0], cs[1], cs[2]] := by
  match cs, h with
  | [a, b, c], _ => rfl
set_option maxRecDepth 100000 in
/-- The three fields of a row. -/
theorem fields3 {t : TypeId} {f0 f1 f2 : Field} {n : Nat} {cs : List Value} {y : DataW H × List MemPlace} (hu : Tryz.prog.underlying t = some (.struct #[f0, f1, f2])) (hone : oneCellFields Tryz.prog #[f0, f1, f2] = true) (hC : Tryz.prog.cellsOf t = 3) (h : DataW.trod enc Tryz.prog W 0 (fun _ => true) true n t cs = some y) (hs : Light Tryz.prog t y.1) :
    ∃ (c0 c1 c2 : Value) (y0 y1 y2 : DataW H × List MemPlace) (m : Nat), cs = [c0, c1, c2] ∧ DataW.trod enc Tryz.prog W 0 (fun _ => true) true m f0.type [c0] = some y0 ∧ DataW.trod enc Tryz.prog W 0 (fun _ => true) true m f1.type [c1] = some y1 ∧ DataW.trod enc Tryz.prog W 0 (fun _ => true) true m f2.type [c2] = some y2 ∧
      Light Tryz.prog f0.type y0.1 ∧ Light Tryz.prog f1.type y1.1 ∧ Light Tryz.prog f2.type y2.1 := by
  obtain ⟨xs, m, _, rfl, hl, hxl, hf⟩ := DataW.trod_struct hu h
  have hl3 : cs.length = 3 := hl.trans hC
  have hx3 : xs.length = 3 := hxl
  obtain ⟨o0, k0⟩ := hone_of hone 0 f0 rfl
  obtain ⟨o1, k1⟩ := hone_of hone 1 f1 rfl
  obtain ⟨o2, k2⟩ := hone_of hone 2 f2 rfl
  match xs, hx3, cs, hl3 with
  | [x0, x1, x2], _, [c0, c1, c2], _ =>
    exact ⟨c0, c1, c2, x0, x1, x2, m, rfl, by simpa [o0, k0] using hf 0 f0 rfl, by simpa [o1, k1] using hf 1 f1 rfl, by simpa [o2, k2] using hf 2 f2 rfl,
      light_part (j := 0) (d := x0.1) hu hs rfl rfl, light_part (j := 1) (d := x1.1) hu hs rfl rfl, light_part (j := 2) (d := x2.1) hu hs rfl rfl⟩
set_option maxRecDepth 100000 in
theorem open_ed {n : Nat} {cs : List Value} {y : DataW H × List MemPlace} (h : DataW.trod enc Tryz.prog W 0 (fun _ => true) true n 45 cs = some y) (hs : Light Tryz.prog 45 y.1) : ∃ e : Ed, edC e = cs ∧ okS47 e.1 ∧ okS47 e.2.1 := by
  obtain ⟨c0, c1, c2, y0, y1, y2, m, rfl, h0, h1, h2, l0, l1, _⟩ := fields3 Tryz.underlying45 (by kernel_rfl) (by kernel_rfl) h hs
  obtain ⟨s, e0, k0⟩ := open_str h0 l0
  obtain ⟨d, e1, k1⟩ := open_str h1 l1
  obtain ⟨r, e2, _⟩ := DataW.trod_int Tryz.underlying3 h2
  simp only [List.cons.injEq, and_true] at e0 e1 e2
  subst e0 e1 e2
  exact ⟨(s, d, r), rfl, k0, k1⟩
set_option maxRecDepth 100000 in
theorem open_nd {n : Nat} {cs : List Value} {y : DataW H × List MemPlace} (h : DataW.trod enc Tryz.prog W 0 (fun _ => true) true n 39 cs = some y) (hs : Light Tryz.prog 39 y.1) : ∃ e : Nd, ndC e = cs ∧ okS47 e.1 := by
  obtain ⟨c0, c1, c2, y0, y1, y2, m, rfl, h0, h1, h2, l0, _, _⟩ := fields3 Tryz.underlying39 (by kernel_rfl) (by kernel_rfl) h hs
  obtain ⟨s, e0, k0⟩ := open_str h0 l0
  obtain ⟨d, e1, _⟩ := DataW.trod_int Tryz.underlying3 h1
  obtain ⟨r, e2, _⟩ := DataW.trod_int Tryz.underlying3 h2
  simp only [List.cons.injEq, and_true] at e0 e1 e2
  subst e0 e1 e2
  exact ⟨(s, d, r), rfl, k0⟩
/-- A graph that came in. -/
def GraphIn (W : World) (v : Value) (ns : List Nd) (es : List Ed) : Prop := ∃ An cn Ae ce, v = .agg #[.slice An ns.length cn, .slice Ae es.length ce] ∧ ns.length ≤ cn ∧ es.length ≤ ce ∧ Rd W W.heap.size 3 An ns.length (ndsC ns) ∧ Rd W W.heap.size 3 Ae es.length (edsC es)
set_option maxRecDepth 100000 in
theorem open_graph {r : Reach} {b0 : Nat} {v : Value} {d : DataW H} {p : List MemPlace} (hv : Value.okWide Tryz.prog W r b0 25 v) (h : DataW.Trod enc Tryz.prog W 0 (fun _ => true) true 25 v d p) (hs : Light Tryz.prog 25 d) :
    ∃ ns es, GraphIn W v ns es ∧ (∀ n ∈ ns, okS47 n.1) ∧ ∀ e ∈ es, okS47 e.1 ∧ okS47 e.2.1 := by
  have hu := Tryz.underlying25
  obtain ⟨v0, v1, y0, y1, n, rfl, rfl, rfl, h0, h1⟩ := Joins.open_agg2 hu (by kernel_rfl) (by kernel_rfl) hv h
  have l0 := light_part (j := 0) (d := y0.1) hu hs rfl rfl
  have l1 := light_part (j := 1) (d := y1.1) hu hs rfl rfl
  obtain ⟨An, cn, ns, rfl, hc0, hr0, k0⟩ := open_rd_rows ndC 3 (fun n => okS47 n.1) Tryz.underlying22 (by kernel_rfl) (by omega) ndC_len (fun n cs y hy hl => open_nd hy hl) h0 l0
  obtain ⟨Ae, ce, es, rfl, hc1, hr1, k1⟩ := open_rd_rows edC 3 (fun e => okS47 e.1 ∧ okS47 e.2.1) Tryz.underlying23 (by kernel_rfl) (by omega) edC_len (fun n cs y hy hl => open_ed hy hl) h1 l1
  exact ⟨ns, es, ⟨An, cn, Ae, ce, rfl, hc0, hc1, hr0, hr1⟩, k0, k1⟩
end
end Go.Proofs.YtbllehjhmfehbaaGreat
end

section
/- The length of a graph's nodes, an argument. -/
namespace Go.Proofs.YtbllehjhmfehbaaGreat
open Go.ChangeShapes Go.WideShapes Go.ChangeAt Go.RowKit Go.Deep

section
variable {H : Type} {enc : TypeId × Value → H} {P : Program}
theorem open_rd_len {W : World} {t e : TypeId} {fuel : Nat} {A : Option Addr} {len c : Nat} {y : DataW H × List MemPlace} (ht : P.underlying t = some (.slice e)) (hB : 0 < P.bytesOf e)
    (h : DataW.trod enc P W 0 (fun _ => true) true fuel t [.slice A len c] = some y) (hs : Light P t y.1) : len ≤ reachBytes := by
  rcases open_slice ht h with ⟨hcs, _⟩ | ⟨a, len', cap, m, n, D, Pl, hcs, _, hl, hm, hmm, hx, hi⟩
  · simp only [List.cons.injEq, and_true, Value.slice.injEq] at hcs
    omega
  · simp only [List.cons.injEq, and_true, Value.slice.injEq] at hcs
    obtain ⟨_, rfl, _⟩ := hcs
    have h1 := hs _ (by rw [hx, DataW.weights, ht]; exact List.mem_cons_self)
    simp only [List.length_map, List.length_range] at h1
    refine Nat.le_trans ?_ h1
    exact Nat.le_trans (Nat.le_add_right _ _) (Nat.le_mul_of_pos_right _ hB)
end
section
variable {H : Type} {enc : TypeId × Value → H} {W : World}
set_option maxRecDepth 100000 in
theorem graph_len {r : Reach} {b0 : Nat} {v : Value} {d : DataW H} {p : List MemPlace} {An Ae : Option Addr} {n cn m ce : Nat} (hv : Value.okWide Tryz.prog W r b0 25 v) (h : DataW.Trod enc Tryz.prog W 0 (fun _ => true) true 25 v d p) (hs : Light Tryz.prog 25 d)
    (he : v = .agg #[.slice An n cn, .slice Ae m ce]) : n ≤ reachBytes ∧ m ≤ reachBytes := by
  have hu := Tryz.underlying25
  obtain ⟨v0, v1, y0, y1, k, hvv, rfl, rfl, h0, h1⟩ := Joins.open_agg2 hu (by kernel_rfl) (by kernel_rfl) hv h
  have l0 := light_part (j := 0) (d := y0.1) hu hs rfl rfl
  have l1 := light_part (j := 1) (d := y1.1) hu hs rfl rfl
  rw [he] at hvv
  simp only [Value.agg.injEq, Array.mk.injEq, List.cons.injEq, and_true] at hvv
  obtain ⟨rfl, rfl⟩ := hvv
  exact ⟨open_rd_len Tryz.underlying22 (by decide +kernel) h0 l0, open_rd_len Tryz.underlying23 (by decide +kernel) h1 l1⟩
end
end Go.Proofs.YtbllehjhmfehbaaGreat
end

section
/- A law's arguments opened for its walk: a graph, who is up, texts, a text, pulls. -/
namespace Go.Proofs.YtbllehjhmfehbaaGreat
open Go.ChangeShapes Go.WideShapes Go.ChangeAt Go.RowKit Go.Deep

section
variable {H : Type} {enc : TypeId × Value → H} {W : World}
set_option maxRecDepth 100000 in
/-- The four fields of a row. -/
theorem fields4 {t : TypeId} {f0 f1 f2 f3 : Field} {n : Nat} {cs : List Value} {y : DataW H × List MemPlace} (hu : Tryz.prog.underlying t = some (.struct #[f0, f1, f2, f3])) (hone : oneCellFields Tryz.prog #[f0, f1, f2, f3] = true) (hC : Tryz.prog.cellsOf t = 4) (h : DataW.trod enc Tryz.prog W 0 (fun _ => true) true n t cs = some y) (hs : Light Tryz.prog t y.1) :
    ∃ (c0 c1 c2 c3 : Value) (y0 y1 y2 y3 : DataW H × List MemPlace) (m : Nat), cs = [c0, c1, c2, c3] ∧ DataW.trod enc Tryz.prog W 0 (fun _ => true) true m f0.type [c0] = some y0 ∧ DataW.trod enc Tryz.prog W 0 (fun _ => true) true m f1.type [c1] = some y1 ∧ DataW.trod enc Tryz.prog W 0 (fun _ => true) true m f2.type [c2] = some y2 ∧ DataW.trod enc Tryz.prog W 0 (fun _ => true) true m f3.type [c3] = some y3 ∧
      Light Tryz.prog f0.type y0.1 ∧ Light Tryz.prog f1.type y1.1 ∧ Light Tryz.prog f2.type y2.1 ∧ Light Tryz.prog f3.type y3.1 := by
  obtain ⟨xs, m, _, rfl, hl, hxl, hf⟩ := DataW.trod_struct hu h
  have hl4 : cs.length = 4 := hl.trans hC
  have hx4 : xs.length = 4 := hxl
  obtain ⟨o0, k0⟩ := hone_of hone 0 f0 rfl
  obtain ⟨o1, k1⟩ := hone_of hone 1 f1 rfl
  obtain ⟨o2, k2⟩ := hone_of hone 2 f2 rfl
  obtain ⟨o3, k3⟩ := hone_of hone 3 f3 rfl
  match xs, hx4, cs, hl4 with
  | [x0, x1, x2, x3], _, [c0, c1, c2, c3], _ =>
    exact ⟨c0, c1, c2, c3, x0, x1, x2, x3, m, rfl, by simpa [o0, k0] using hf 0 f0 rfl, by simpa [o1, k1] using hf 1 f1 rfl, by simpa [o2, k2] using hf 2 f2 rfl, by simpa [o3, k3] using hf 3 f3 rfl,
      light_part (j := 0) (d := x0.1) hu hs rfl rfl, light_part (j := 1) (d := x1.1) hu hs rfl rfl, light_part (j := 2) (d := x2.1) hu hs rfl rfl, light_part (j := 3) (d := x3.1) hu hs rfl rfl⟩
set_option maxRecDepth 100000 in
theorem open_strs {r : Reach} {b0 : Nat} {v : Value} {d : DataW H} {p : List MemPlace} (hv : Value.okWide Tryz.prog W r b0 26 v) (h : DataW.Trod enc Tryz.prog W 0 (fun _ => true) true 26 v d p) (hs : Light Tryz.prog 26 d) :
    ∃ (A : Option Addr) (c : Nat) (ss : List Str), v = .slice A ss.length c ∧ ss.length ≤ c ∧ Rd W W.heap.size 1 A ss.length (svs ss) ∧ (∀ s ∈ ss, okS47 s) ∧ ss.length ≤ 140737488351232 := by
  obtain ⟨a, l, c, rfl⟩ := okWide_slice Tryz.underlying26 hv
  obtain ⟨fuel, hf⟩ := h
  have hlen := open_rd_len Tryz.underlying26 (by decide +kernel) hf hs
  obtain ⟨A, c', ss, hv', hc, hr, hk⟩ := open_rd_strs hf hs
  obtain ⟨rfl, rfl, rfl⟩ : a = A ∧ l = ss.length ∧ c = c' := by injection hv' with h1 h2 h3; exact ⟨h1, h2, h3⟩
  exact ⟨a, c, ss, rfl, hc, hr, hk, Nat.le_trans hlen (by decide)⟩
set_option maxRecDepth 100000 in
theorem open_str_arg {r : Reach} {b0 : Nat} {v : Value} {d : DataW H} {p : List MemPlace} (hv : Value.okWide Tryz.prog W r b0 9 v) (h : DataW.Trod enc Tryz.prog W 0 (fun _ => true) true 9 v d p) (hs : Light Tryz.prog 9 d) : ∃ s : Str, v = sv s ∧ okS47 s := by
  obtain ⟨s, rfl⟩ := okWide_string Tryz.underlying9 hv
  obtain ⟨fuel, hf⟩ := h
  obtain ⟨s', h1, h2⟩ := open_str (cs := [.string s]) hf hs
  simp only [List.cons.injEq, and_true] at h1
  exact ⟨s', h1, h2⟩
set_option maxRecDepth 100000 in
/-- A graph that came in. -/
theorem open_gi {r : Reach} {b0 : Nat} {v : Value} {d : DataW H} {p : List MemPlace} (hv : Value.okWide Tryz.prog W r b0 25 v) (h : DataW.Trod enc Tryz.prog W 0 (fun _ => true) true 25 v d p) (hs : Light Tryz.prog 25 d) :
    ∃ (An Ae : Option Addr) (cn ce : Nat) (ns : List Nd) (es : List Ed), v = Od.gV An ns.length cn Ae es.length ce ∧ Od.GIw W An Ae ns es := by
  obtain ⟨ns, es, ⟨An, cn, Ae, ce, rfl, hcn, hce, hrn, hre⟩, kn, ke⟩ := open_graph hv h hs
  exact ⟨An, Ae, cn, ce, ns, es, rfl, hrn, hre, fun n hn => by have := kn n hn; unfold okS47 at this; omega, fun e he => ⟨Od.okS_of (ke e he).1, Od.okS_of (ke e he).2⟩⟩
set_option maxRecDepth 100000 in
/-- Who is up, who is half, as they came in. -/
theorem open_now {r : Reach} {b0 : Nat} {v : Value} {d : DataW H} {p : List MemPlace} (hv : Value.okWide Tryz.prog W r b0 28 v) (h : DataW.Trod enc Tryz.prog W 0 (fun _ => true) true 28 v d p) (hs : Light Tryz.prog 28 d) :
    ∃ (Au Ah : Option Addr) (cu ch : Nat) (up half : List Str), v = .agg #[.slice Au up.length cu, .slice Ah half.length ch] ∧ Od.NIn W Au Ah up half ∧ (∀ s ∈ up, okS47 s) ∧ (∀ s ∈ half, okS47 s) := by
  have hu := Tryz.underlying28
  obtain ⟨v0, v1, y0, y1, n, rfl, rfl, rfl, h0, h1⟩ := Joins.open_agg2 hu (by kernel_rfl) (by kernel_rfl) hv h
  have l0 := light_part (j := 0) (d := y0.1) hu hs rfl rfl
  have l1 := light_part (j := 1) (d := y1.1) hu hs rfl rfl
  obtain ⟨Au, cu, up, rfl, hc0, hr0, k0⟩ := open_rd_strs h0 l0
  obtain ⟨Ah, ch, half, rfl, hc1, hr1, k1⟩ := open_rd_strs h1 l1
  have e0 := open_rd_len Tryz.underlying26 (by decide +kernel) h0 l0
  have e1 := open_rd_len Tryz.underlying26 (by decide +kernel) h1 l1
  exact ⟨Au, Ah, cu, ch, up, half, rfl, ⟨⟨hr0, Nat.le_trans e0 (by decide)⟩, ⟨hr1, Nat.le_trans e1 (by decide)⟩⟩, k0, k1⟩
theorem okJ_of {s : Str} {t : Int} (hs : okS47 s) (ht : (Lit.int .i64 t).wf = true) : Od.okJ (s, t) := ⟨Od.okS_of hs, ht⟩
end
end Go.Proofs.YtbllehjhmfehbaaGreat
end
