/- My texts, joined for the claim: R17Put R17AllM. -/
import Derived.Test.YtbllehjhmfehbaaGreatZU1
import Derived.Test.YtbllehjhmfehbaaGreatZU10
import Derived.Test.YtbllehjhmfehbaaGreatZU3
import Derived.Test.YtbllehjhmfehbaaGreatZU7
import Derived.Deep.DeepCutAuto
import Derived.Test.YtbllehjhmfehbaaGreatZU6
import Derived.Test.YtbllehjhmfehbaaGreatZU9

section
/- matinsref17.put: a job into a rising row, once. (bel2) -/
namespace Go.Proofs.YtbllehjhmfehbaaGreat
open Go.RowKit Go.Sort
set_option linter.unusedSimpArgs false
namespace Od
theorem infoJr : (Tryz.prog.info? 86).map (fun i => (i.zero, i.size, i.bytes)) = some (some (.agg #[.string ⟨#[]⟩, .int .i64 0]), 2, 24) := by kernel_rfl
set_option maxRecDepth 100000 in
theorem jr_eq (s s' : Str) (t t' : Int) (w : World) : (Op.equalIn 10000 86 (.agg #[sv s, .int .i64 t]) (.agg #[sv s', .int .i64 t'])).run Tryz.prog w = .ok (s == s' && t == t') w := by
 show (Op.equalIn (9999 + 1) _ _ _).run _ w = _
 go_simp
 by_cases h1 : s = s' <;> by_cases h2 : t = t' <;> simp [h1, h2]
theorem jr_eql (s s' : Str) (t t' : Int) (w : World) : (binOp .eql 86 (.agg #[sv s, .int .i64 t]) (.agg #[sv s', .int .i64 t'])).run Tryz.prog w = .ok (.bool (s == s' && t == t')) w := by
 rw [run_eql_struct, jr_eq]; rfl
theorem ltJ_s {a b : Str} {x y : Int} (h : Op.bytesLess a b = true) : ltJ (a, x) (b, y) = true := by
 unfold ltJ; rw [show ltS a b = true from h]; rfl
theorem ltJ_t {a b : Str} {x y : Int} (h : (a == b) = true) (h2 : x < y) : ltJ (a, x) (b, y) = true := by
 unfold ltJ; simp [h, h2]
theorem ltJ_n {a b : Str} {x y : Int} (h : Op.bytesLess a b = false) (h2 : (a == b) = false) : ltJ (a, x) (b, y) = false := by
 unfold ltJ; rw [show ltS a b = false from h, h2]; rfl
theorem ltJ_m {a b : Str} {x y : Int} (h : Op.bytesLess a b = false) (h2 : ¬ x < y) : ltJ (a, x) (b, y) = false := by
 unfold ltJ; rw [show ltS a b = false from h]; simp [h2]
/-- The row as it was, or a new one. -/
def PutJ (A : Option Addr) (c : Nat) (l rs : List Jp) (w : World) (e : Ending) (w' : World) : Prop := ∃ A' c', e = .returned (.slice A' rs.length c') ∧ ((A' = A ∧ c' = c ∧ rs = l) ∨ w'.ownsRow w.heap.size 86 2 (.slice A' rs.length c') rs.length (jpsC rs)) ∧ Below w.heap.size w w'
def condJ (l : List Jp) (j : Jp) (k : Nat) : Bool := match l[k]? with | some x => ltJ x j | none => false
theorem condJ_lt {l : List Jp} {j : Jp} {k : Nat} (h : k < l.length) : condJ l j k = ltJ l[k] j := by unfold condJ; rw [List.getElem?_eq_getElem h]
theorem condJ_ge {l : List Jp} {j : Jp} {k : Nat} (h : ¬ k < l.length) : condJ l j k = false := by unfold condJ; rw [List.getElem?_eq_none (by omega)]
set_option maxRecDepth 100000 in
set_option maxHeartbeats 8000000 in
theorem put17_any (A : Option Addr) (c : Nat) (l : List Jp) (s : Str) (t : Int) (w : World) (hr : Rd w w.heap.size 2 A l.length (jpsC l)) (hc : l.length ≤ c) (hl : l.length ≤ 1000000) :
  Calls Tryz.prog 52 #[.slice A l.length c, .agg #[sv s, .int .i64 t]] w (PutJ A c l (insL ltJ (s, t) l) w) := by
 obtain ⟨i0, hi, hz0, hz1, hz2⟩ := info_parts infoJr
 have hq := jr_eql
 have Hr := Lib.hid hr
 clear hr
 go_enter Tryz.func52, Tryz.ntmps52
 go_wp2_with fail
 first | (refine wp_named ?_; intro W1 hW) | (refine calls_named ?_; intro W1 hW)
 have B1 : Below w.heap.size w W1 := by rw [hW]; exact bq2
 replace Hr := Lib.hid (Hr.out.at B1)
 have n1 : w.heap.size < W1.heap.size := by rw [hW]; simp <;> omega
 have j0 : W1.cell? ⟨w.heap.size, 0, none⟩ = some (sv s) := by rw [hW]; go_simp
 have j1 : W1.cell? ⟨w.heap.size, 1, none⟩ = some (.int .i64 t) := by rw [hW]; go_simp
 clear hW
 have HB1 := Lib.hid B1
 clear B1
 go_loopw [5] (fun i wr => ∃ k : Nat, k ≤ l.length ∧ i = .int .i64 k ∧ Hid (∀ y ∈ l.take k, ltJ y (s, t) = true) ∧ Hid (Below W1.heap.size W1 wr)) (fun i _ => l.length - (intOf i).toNat)
 case atStart => exact ⟨0, Nat.zero_le _, rfl, by simp [Hid], Below.refl _ _⟩
 case round =>
  obtain ⟨k, hk, rfl, HAll, HBr⟩ := hrel
  obtain ⟨w2, rfl⟩ : ∃ wo : World, wo = wr := ⟨_, rfl⟩
  have hbr := HBr.out
  replace j0 := cellAt j0 hbr (by omega)
  replace j1 := cellAt j1 hbr (by omega)
  replace Hr := Lib.hid (Hr.out.at hbr)
  replace n1 : w.heap.size < w2.heap.size := ltAt n1 hbr
  clear hbr
  go_upto_region 2 with fail
  go_cut [39] (fun v wx => v = .bool (condJ l (s, t) k) ∧ Below w2.heap.size w2 wx)
  case first =>
   by_cases hlt : k < l.length
   ·obtain ⟨b, o, hA, hB, x0, x1⟩ := Hr.out.jp hlt
    have hcl := condJ_lt (j := (s, t)) hlt
    subst hA
    generalize l[k] = x at x0 x1 hcl
    obtain ⟨sx, tx⟩ := x
    simp only at x0 x1
    have i1 : (0 : Int) ≤ (k : Int) := by omega
    have i2 : (k : Int) < (l.length : Int) := by omega
    have d1 : decide (k < l.length) = true := by simpa using hlt
    cases h1 : Op.bytesLess sx s
    ·cases h2 : (sx == s)
     ·have HC := Lib.hid (show condJ l (s, t) k = false from hcl.trans (ltJ_n h1 h2))
      clear hcl
      try go_wp2_with fail
      refine wp_region_held_drew (S := fun w' => Below w2.heap.size w2 w') (by kernel_rfl) (Below.drew (Below.refl _ _)) (fun hHeld => ?_)
      refine tV 0 ?_ ?zq ?_; (case zq => rintro _ -; go_simp; try with_reducible rfl); try simp only [Act.put, zn1, zn2, zn3]
      refine tV 1 ?_ ?zq ?_; (case zq => rintro _ -; go_simp; try with_reducible rfl); try simp only [Act.put, zn1, zn2, zn3]
      refine tV 2 ?_ ?zq ?_; (case zq => rintro _ -; go_simp; try with_reducible rfl); try simp only [Act.put, zn1, zn2, zn3]
      refine tV 3 ?_ ?zq ?_; (case zq => rintro _ -; go_simp; try with_reducible rfl); try simp only [Act.put, zn1, zn2, zn3]
      refine tV 4 ?_ ?zq ?_; (case zq => rintro _ -; go_simp; try with_reducible rfl); try simp only [Act.put, zn1, zn2, zn3]
      refine tV 5 ?_ ?zq ?_; (case zq => rintro _ -; go_simp; try with_reducible rfl); try simp only [Act.put, zn1, zn2, zn3]
      refine tV 6 ?_ ?zq ?_; (case zq => rintro _ -; go_simp; try with_reducible rfl); try simp only [Act.put, zn1, zn2, zn3]
      refine tV 7 ?_ ?zq ?_; (case zq => rintro _ -; go_simp; try with_reducible rfl); try simp only [Act.put, zn1, zn2, zn3]
      refine tV 8 ?_ ?zq ?_; (case zq => rintro _ -; go_simp; try with_reducible rfl); try simp only [Act.put, zn1, zn2, zn3]
      refine tV 9 ?_ ?zq ?_; (case zq => intro w' hSw; have hCell := fun (b o : Nat) (h : b < w2.heap.size) => hSw.cell (p := ⟨b, o, none⟩) h; clear hSw; go_simp; try with_reducible rfl); try simp only [Act.put, zn1, zn2, zn3]
      refine tV 10 ?_ ?zq ?_; (case zq => rintro _ -; go_simp; try with_reducible rfl); try simp only [Act.put, zn1, zn2, zn3]
      refine tV 11 ?_ ?zq ?_; (case zq => intro w' hSw; have hCell := fun (b o : Nat) (h : b < w2.heap.size) => hSw.cell (p := ⟨b, o, none⟩) h; clear hSw; go_simp; try with_reducible rfl); try simp only [Act.put, zn1, zn2, zn3]
      refine tV 12 ?_ ?zq ?_; (case zq => rintro _ -; go_simp; try with_reducible rfl); try simp only [Act.put, zn1, zn2, zn3]
      refine tV 13 ?_ ?zq ?_; (case zq => rintro _ -; go_simp; try with_reducible rfl); try simp only [Act.put, zn1, zn2, zn3]
      refine tV 14 ?_ ?zq ?_; (case zq => rintro _ -; go_simp; try with_reducible rfl); try simp only [Act.put, zn1, zn2, zn3]
      refine tV 15 ?_ ?zq ?_; (case zq => rintro _ -; go_simp; try with_reducible rfl); try simp only [Act.put, zn1, zn2, zn3]
      refine tV 16 ?_ ?zq ?_; (case zq => rintro _ -; go_simp; try with_reducible rfl); try simp only [Act.put, zn1, zn2, zn3]
      refine tV 17 ?_ ?zq ?_; (case zq => rintro _ -; go_simp; try with_reducible rfl); try simp only [Act.put, zn1, zn2, zn3]
      refine tV 18 ?_ ?zq ?_; (case zq => intro w' hSw; have hCell := fun (b o : Nat) (h : b < w2.heap.size) => hSw.cell (p := ⟨b, o, none⟩) h; clear hSw; go_simp; try with_reducible rfl); try simp only [Act.put, zn1, zn2, zn3]
      refine tV 19 ?_ ?zq ?_; (case zq => rintro _ -; go_simp; try with_reducible rfl); try simp only [Act.put, zn1, zn2, zn3]
      refine tV 20 ?_ ?zq ?_; (case zq => intro w' hSw; have hCell := fun (b o : Nat) (h : b < w2.heap.size) => hSw.cell (p := ⟨b, o, none⟩) h; clear hSw; go_simp; try with_reducible rfl); try simp only [Act.put, zn1, zn2, zn3]
      refine tV 21 ?_ ?zq ?_; (case zq => rintro _ -; go_simp; try with_reducible rfl); try simp only [Act.put, zn1, zn2, zn3]
      refine tV 22 ?_ ?zq ?_; (case zq => rintro _ -; go_simp; try with_reducible rfl); try simp only [Act.put, zn1, zn2, zn3]
      refine tS (i := 23) rfl hHeld ?_; (try simp only [Act.put, zn1, zn2, zn3])
      refine tS (i := 24) rfl hHeld ?_; (try simp only [Act.put, zn1, zn2, zn3])
      refine tS (i := 25) rfl hHeld ?_; (try simp only [Act.put, zn1, zn2, zn3])
      refine tS (i := 26) rfl hHeld ?_; (try simp only [Act.put, zn1, zn2, zn3])
      refine tS (i := 27) rfl hHeld ?_; (try simp only [Act.put, zn1, zn2, zn3])
      refine tS (i := 28) rfl hHeld ?_; (try simp only [Act.put, zn1, zn2, zn3])
      refine tS (i := 29) rfl hHeld ?_; (try simp only [Act.put, zn1, zn2, zn3])
      refine tS (i := 30) rfl hHeld ?_; (try simp only [Act.put, zn1, zn2, zn3])
      refine tV 31 ?_ ?zq ?_; (case zq => rintro _ -; go_simp; try with_reducible rfl); try simp only [Act.put, zn1, zn2, zn3]
      refine tV 32 ?_ ?zq ?_; (case zq => rintro _ -; go_simp; try with_reducible rfl); try simp only [Act.put, zn1, zn2, zn3]
      refine tV 33 ?_ ?zq ?_; (case zq => rintro _ -; go_simp; try with_reducible rfl); try simp only [Act.put, zn1, zn2, zn3]
      refine wpAnyH_done (by kernel_rfl) ?_ _
      go_wp2_with fail
      go_meet
      exact ⟨by rw [HC.out], hHeld⟩
     ·by_cases h3 : tx < t
      ·have HC := Lib.hid (show condJ l (s, t) k = true from hcl.trans (ltJ_t h2 h3))
       have d3 : decide (tx < t) = true := by simpa using h3
       clear hcl h3
       try go_wp2_with fail
       refine wp_region_held_drew (S := fun w' => Below w2.heap.size w2 w') (by kernel_rfl) (Below.drew (Below.refl _ _)) (fun hHeld => ?_)
       refine tV 0 ?_ ?zq ?_; (case zq => rintro _ -; go_simp; try with_reducible rfl); try simp only [Act.put, zn1, zn2, zn3]
       refine tV 1 ?_ ?zq ?_; (case zq => rintro _ -; go_simp; try with_reducible rfl); try simp only [Act.put, zn1, zn2, zn3]
       refine tV 2 ?_ ?zq ?_; (case zq => rintro _ -; go_simp; try with_reducible rfl); try simp only [Act.put, zn1, zn2, zn3]
       refine tV 3 ?_ ?zq ?_; (case zq => rintro _ -; go_simp; try with_reducible rfl); try simp only [Act.put, zn1, zn2, zn3]
       refine tV 4 ?_ ?zq ?_; (case zq => rintro _ -; go_simp; try with_reducible rfl); try simp only [Act.put, zn1, zn2, zn3]
       refine tV 5 ?_ ?zq ?_; (case zq => rintro _ -; go_simp; try with_reducible rfl); try simp only [Act.put, zn1, zn2, zn3]
       refine tV 6 ?_ ?zq ?_; (case zq => rintro _ -; go_simp; try with_reducible rfl); try simp only [Act.put, zn1, zn2, zn3]
       refine tV 7 ?_ ?zq ?_; (case zq => rintro _ -; go_simp; try with_reducible rfl); try simp only [Act.put, zn1, zn2, zn3]
       refine tV 8 ?_ ?zq ?_; (case zq => rintro _ -; go_simp; try with_reducible rfl); try simp only [Act.put, zn1, zn2, zn3]
       refine tV 9 ?_ ?zq ?_; (case zq => intro w' hSw; have hCell := fun (b o : Nat) (h : b < w2.heap.size) => hSw.cell (p := ⟨b, o, none⟩) h; clear hSw; go_simp; try with_reducible rfl); try simp only [Act.put, zn1, zn2, zn3]
       refine tV 10 ?_ ?zq ?_; (case zq => rintro _ -; go_simp; try with_reducible rfl); try simp only [Act.put, zn1, zn2, zn3]
       refine tV 11 ?_ ?zq ?_; (case zq => intro w' hSw; have hCell := fun (b o : Nat) (h : b < w2.heap.size) => hSw.cell (p := ⟨b, o, none⟩) h; clear hSw; go_simp; try with_reducible rfl); try simp only [Act.put, zn1, zn2, zn3]
       refine tV 12 ?_ ?zq ?_; (case zq => rintro _ -; go_simp; try with_reducible rfl); try simp only [Act.put, zn1, zn2, zn3]
       refine tV 13 ?_ ?zq ?_; (case zq => rintro _ -; go_simp; try with_reducible rfl); try simp only [Act.put, zn1, zn2, zn3]
       refine tV 14 ?_ ?zq ?_; (case zq => rintro _ -; go_simp; try with_reducible rfl); try simp only [Act.put, zn1, zn2, zn3]
       refine tV 15 ?_ ?zq ?_; (case zq => rintro _ -; go_simp; try with_reducible rfl); try simp only [Act.put, zn1, zn2, zn3]
       refine tV 16 ?_ ?zq ?_; (case zq => rintro _ -; go_simp; try with_reducible rfl); try simp only [Act.put, zn1, zn2, zn3]
       refine tV 17 ?_ ?zq ?_; (case zq => rintro _ -; go_simp; try with_reducible rfl); try simp only [Act.put, zn1, zn2, zn3]
       refine tV 18 ?_ ?zq ?_; (case zq => intro w' hSw; have hCell := fun (b o : Nat) (h : b < w2.heap.size) => hSw.cell (p := ⟨b, o, none⟩) h; clear hSw; go_simp; try with_reducible rfl); try simp only [Act.put, zn1, zn2, zn3]
       refine tV 19 ?_ ?zq ?_; (case zq => rintro _ -; go_simp; try with_reducible rfl); try simp only [Act.put, zn1, zn2, zn3]
       refine tV 20 ?_ ?zq ?_; (case zq => intro w' hSw; have hCell := fun (b o : Nat) (h : b < w2.heap.size) => hSw.cell (p := ⟨b, o, none⟩) h; clear hSw; go_simp; try with_reducible rfl); try simp only [Act.put, zn1, zn2, zn3]
       refine tV 21 ?_ ?zq ?_; (case zq => rintro _ -; go_simp; try with_reducible rfl); try simp only [Act.put, zn1, zn2, zn3]
       refine tV 22 ?_ ?zq ?_; (case zq => rintro _ -; go_simp; try with_reducible rfl); try simp only [Act.put, zn1, zn2, zn3]
       refine tV 23 ?_ ?zq ?_; (case zq => rintro _ -; go_simp; try with_reducible rfl); try simp only [Act.put, zn1, zn2, zn3]
       refine tV 24 ?_ ?zq ?_; (case zq => rintro _ -; go_simp; try with_reducible rfl); try simp only [Act.put, zn1, zn2, zn3]
       refine tV 25 ?_ ?zq ?_; (case zq => rintro _ -; go_simp; try with_reducible rfl); try simp only [Act.put, zn1, zn2, zn3]
       refine tV 26 ?_ ?zq ?_; (case zq => rintro _ -; go_simp; try with_reducible rfl); try simp only [Act.put, zn1, zn2, zn3]
       refine tV 27 ?_ ?zq ?_; (case zq => intro w' hSw; have hCell := fun (b o : Nat) (h : b < w2.heap.size) => hSw.cell (p := ⟨b, o, none⟩) h; clear hSw; go_simp; try with_reducible rfl); try simp only [Act.put, zn1, zn2, zn3]
       refine tV 28 ?_ ?zq ?_; (case zq => rintro _ -; go_simp; try with_reducible rfl); try simp only [Act.put, zn1, zn2, zn3]
       refine tV 29 ?_ ?zq ?_; (case zq => intro w' hSw; have hCell := fun (b o : Nat) (h : b < w2.heap.size) => hSw.cell (p := ⟨b, o, none⟩) h; clear hSw; go_simp; try with_reducible rfl); try simp only [Act.put, zn1, zn2, zn3]
       refine tV 30 ?_ ?zq ?_; (case zq => rintro _ -; go_simp; try with_reducible rfl); try simp only [Act.put, zn1, zn2, zn3]
       refine tV 31 ?_ ?zq ?_; (case zq => rintro _ -; go_simp; try with_reducible rfl); try simp only [Act.put, zn1, zn2, zn3]
       refine tV 32 ?_ ?zq ?_; (case zq => rintro _ -; go_simp; try with_reducible rfl); try simp only [Act.put, zn1, zn2, zn3]
       refine tV 33 ?_ ?zq ?_; (case zq => rintro _ -; go_simp; try with_reducible rfl); try simp only [Act.put, zn1, zn2, zn3]
       refine wpAnyH_done (by kernel_rfl) ?_ _
       go_wp2_with fail
       go_meet
       exact ⟨by rw [HC.out], hHeld⟩
      ·have HC := Lib.hid (show condJ l (s, t) k = false from hcl.trans (ltJ_m h1 h3))
       have d3 : decide (tx < t) = false := by simpa using h3
       clear hcl h3
       try go_wp2_with fail
       refine wp_region_held_drew (S := fun w' => Below w2.heap.size w2 w') (by kernel_rfl) (Below.drew (Below.refl _ _)) (fun hHeld => ?_)
       refine tV 0 ?_ ?zq ?_; (case zq => rintro _ -; go_simp; try with_reducible rfl); try simp only [Act.put, zn1, zn2, zn3]
       refine tV 1 ?_ ?zq ?_; (case zq => rintro _ -; go_simp; try with_reducible rfl); try simp only [Act.put, zn1, zn2, zn3]
       refine tV 2 ?_ ?zq ?_; (case zq => rintro _ -; go_simp; try with_reducible rfl); try simp only [Act.put, zn1, zn2, zn3]
       refine tV 3 ?_ ?zq ?_; (case zq => rintro _ -; go_simp; try with_reducible rfl); try simp only [Act.put, zn1, zn2, zn3]
       refine tV 4 ?_ ?zq ?_; (case zq => rintro _ -; go_simp; try with_reducible rfl); try simp only [Act.put, zn1, zn2, zn3]
       refine tV 5 ?_ ?zq ?_; (case zq => rintro _ -; go_simp; try with_reducible rfl); try simp only [Act.put, zn1, zn2, zn3]
       refine tV 6 ?_ ?zq ?_; (case zq => rintro _ -; go_simp; try with_reducible rfl); try simp only [Act.put, zn1, zn2, zn3]
       refine tV 7 ?_ ?zq ?_; (case zq => rintro _ -; go_simp; try with_reducible rfl); try simp only [Act.put, zn1, zn2, zn3]
       refine tV 8 ?_ ?zq ?_; (case zq => rintro _ -; go_simp; try with_reducible rfl); try simp only [Act.put, zn1, zn2, zn3]
       refine tV 9 ?_ ?zq ?_; (case zq => intro w' hSw; have hCell := fun (b o : Nat) (h : b < w2.heap.size) => hSw.cell (p := ⟨b, o, none⟩) h; clear hSw; go_simp; try with_reducible rfl); try simp only [Act.put, zn1, zn2, zn3]
       refine tV 10 ?_ ?zq ?_; (case zq => rintro _ -; go_simp; try with_reducible rfl); try simp only [Act.put, zn1, zn2, zn3]
       refine tV 11 ?_ ?zq ?_; (case zq => intro w' hSw; have hCell := fun (b o : Nat) (h : b < w2.heap.size) => hSw.cell (p := ⟨b, o, none⟩) h; clear hSw; go_simp; try with_reducible rfl); try simp only [Act.put, zn1, zn2, zn3]
       refine tV 12 ?_ ?zq ?_; (case zq => rintro _ -; go_simp; try with_reducible rfl); try simp only [Act.put, zn1, zn2, zn3]
       refine tV 13 ?_ ?zq ?_; (case zq => rintro _ -; go_simp; try with_reducible rfl); try simp only [Act.put, zn1, zn2, zn3]
       refine tV 14 ?_ ?zq ?_; (case zq => rintro _ -; go_simp; try with_reducible rfl); try simp only [Act.put, zn1, zn2, zn3]
       refine tV 15 ?_ ?zq ?_; (case zq => rintro _ -; go_simp; try with_reducible rfl); try simp only [Act.put, zn1, zn2, zn3]
       refine tV 16 ?_ ?zq ?_; (case zq => rintro _ -; go_simp; try with_reducible rfl); try simp only [Act.put, zn1, zn2, zn3]
       refine tV 17 ?_ ?zq ?_; (case zq => rintro _ -; go_simp; try with_reducible rfl); try simp only [Act.put, zn1, zn2, zn3]
       refine tV 18 ?_ ?zq ?_; (case zq => intro w' hSw; have hCell := fun (b o : Nat) (h : b < w2.heap.size) => hSw.cell (p := ⟨b, o, none⟩) h; clear hSw; go_simp; try with_reducible rfl); try simp only [Act.put, zn1, zn2, zn3]
       refine tV 19 ?_ ?zq ?_; (case zq => rintro _ -; go_simp; try with_reducible rfl); try simp only [Act.put, zn1, zn2, zn3]
       refine tV 20 ?_ ?zq ?_; (case zq => intro w' hSw; have hCell := fun (b o : Nat) (h : b < w2.heap.size) => hSw.cell (p := ⟨b, o, none⟩) h; clear hSw; go_simp; try with_reducible rfl); try simp only [Act.put, zn1, zn2, zn3]
       refine tV 21 ?_ ?zq ?_; (case zq => rintro _ -; go_simp; try with_reducible rfl); try simp only [Act.put, zn1, zn2, zn3]
       refine tV 22 ?_ ?zq ?_; (case zq => rintro _ -; go_simp; try with_reducible rfl); try simp only [Act.put, zn1, zn2, zn3]
       refine tV 23 ?_ ?zq ?_; (case zq => rintro _ -; go_simp; try with_reducible rfl); try simp only [Act.put, zn1, zn2, zn3]
       refine tV 24 ?_ ?zq ?_; (case zq => rintro _ -; go_simp; try with_reducible rfl); try simp only [Act.put, zn1, zn2, zn3]
       refine tV 25 ?_ ?zq ?_; (case zq => rintro _ -; go_simp; try with_reducible rfl); try simp only [Act.put, zn1, zn2, zn3]
       refine tV 26 ?_ ?zq ?_; (case zq => rintro _ -; go_simp; try with_reducible rfl); try simp only [Act.put, zn1, zn2, zn3]
       refine tV 27 ?_ ?zq ?_; (case zq => intro w' hSw; have hCell := fun (b o : Nat) (h : b < w2.heap.size) => hSw.cell (p := ⟨b, o, none⟩) h; clear hSw; go_simp; try with_reducible rfl); try simp only [Act.put, zn1, zn2, zn3]
       refine tV 28 ?_ ?zq ?_; (case zq => rintro _ -; go_simp; try with_reducible rfl); try simp only [Act.put, zn1, zn2, zn3]
       refine tV 29 ?_ ?zq ?_; (case zq => intro w' hSw; have hCell := fun (b o : Nat) (h : b < w2.heap.size) => hSw.cell (p := ⟨b, o, none⟩) h; clear hSw; go_simp; try with_reducible rfl); try simp only [Act.put, zn1, zn2, zn3]
       refine tV 30 ?_ ?zq ?_; (case zq => rintro _ -; go_simp; try with_reducible rfl); try simp only [Act.put, zn1, zn2, zn3]
       refine tV 31 ?_ ?zq ?_; (case zq => rintro _ -; go_simp; try with_reducible rfl); try simp only [Act.put, zn1, zn2, zn3]
       refine tV 32 ?_ ?zq ?_; (case zq => rintro _ -; go_simp; try with_reducible rfl); try simp only [Act.put, zn1, zn2, zn3]
       refine tV 33 ?_ ?zq ?_; (case zq => rintro _ -; go_simp; try with_reducible rfl); try simp only [Act.put, zn1, zn2, zn3]
       refine wpAnyH_done (by kernel_rfl) ?_ _
       go_wp2_with fail
       go_meet
       exact ⟨by rw [HC.out], hHeld⟩
    ·have HC := Lib.hid (show condJ l (s, t) k = true from hcl.trans (ltJ_s h1))
     clear hcl
     try go_wp2_with fail
     refine wp_region_held_drew (S := fun w' => Below w2.heap.size w2 w') (by kernel_rfl) (Below.drew (Below.refl _ _)) (fun hHeld => ?_)
     refine tV 0 ?_ ?zq ?_; (case zq => rintro _ -; go_simp; try with_reducible rfl); try simp only [Act.put, zn1, zn2, zn3]
     refine tV 1 ?_ ?zq ?_; (case zq => rintro _ -; go_simp; try with_reducible rfl); try simp only [Act.put, zn1, zn2, zn3]
     refine tV 2 ?_ ?zq ?_; (case zq => rintro _ -; go_simp; try with_reducible rfl); try simp only [Act.put, zn1, zn2, zn3]
     refine tV 3 ?_ ?zq ?_; (case zq => rintro _ -; go_simp; try with_reducible rfl); try simp only [Act.put, zn1, zn2, zn3]
     refine tV 4 ?_ ?zq ?_; (case zq => rintro _ -; go_simp; try with_reducible rfl); try simp only [Act.put, zn1, zn2, zn3]
     refine tV 5 ?_ ?zq ?_; (case zq => rintro _ -; go_simp; try with_reducible rfl); try simp only [Act.put, zn1, zn2, zn3]
     refine tV 6 ?_ ?zq ?_; (case zq => rintro _ -; go_simp; try with_reducible rfl); try simp only [Act.put, zn1, zn2, zn3]
     refine tV 7 ?_ ?zq ?_; (case zq => rintro _ -; go_simp; try with_reducible rfl); try simp only [Act.put, zn1, zn2, zn3]
     refine tV 8 ?_ ?zq ?_; (case zq => rintro _ -; go_simp; try with_reducible rfl); try simp only [Act.put, zn1, zn2, zn3]
     refine tV 9 ?_ ?zq ?_; (case zq => intro w' hSw; have hCell := fun (b o : Nat) (h : b < w2.heap.size) => hSw.cell (p := ⟨b, o, none⟩) h; clear hSw; go_simp; try with_reducible rfl); try simp only [Act.put, zn1, zn2, zn3]
     refine tV 10 ?_ ?zq ?_; (case zq => rintro _ -; go_simp; try with_reducible rfl); try simp only [Act.put, zn1, zn2, zn3]
     refine tV 11 ?_ ?zq ?_; (case zq => intro w' hSw; have hCell := fun (b o : Nat) (h : b < w2.heap.size) => hSw.cell (p := ⟨b, o, none⟩) h; clear hSw; go_simp; try with_reducible rfl); try simp only [Act.put, zn1, zn2, zn3]
     refine tV 12 ?_ ?zq ?_; (case zq => rintro _ -; go_simp; try with_reducible rfl); try simp only [Act.put, zn1, zn2, zn3]
     refine tV 13 ?_ ?zq ?_; (case zq => rintro _ -; go_simp; try with_reducible rfl); try simp only [Act.put, zn1, zn2, zn3]
     refine tS (i := 14) rfl hHeld ?_; (try simp only [Act.put, zn1, zn2, zn3])
     refine tS (i := 15) rfl hHeld ?_; (try simp only [Act.put, zn1, zn2, zn3])
     refine tS (i := 16) rfl hHeld ?_; (try simp only [Act.put, zn1, zn2, zn3])
     refine tS (i := 17) rfl hHeld ?_; (try simp only [Act.put, zn1, zn2, zn3])
     refine tS (i := 18) rfl hHeld ?_; (try simp only [Act.put, zn1, zn2, zn3])
     refine tS (i := 19) rfl hHeld ?_; (try simp only [Act.put, zn1, zn2, zn3])
     refine tS (i := 20) rfl hHeld ?_; (try simp only [Act.put, zn1, zn2, zn3])
     refine tS (i := 21) rfl hHeld ?_; (try simp only [Act.put, zn1, zn2, zn3])
     refine tS (i := 22) rfl hHeld ?_; (try simp only [Act.put, zn1, zn2, zn3])
     refine tS (i := 23) rfl hHeld ?_; (try simp only [Act.put, zn1, zn2, zn3])
     refine tS (i := 24) rfl hHeld ?_; (try simp only [Act.put, zn1, zn2, zn3])
     refine tS (i := 25) rfl hHeld ?_; (try simp only [Act.put, zn1, zn2, zn3])
     refine tS (i := 26) rfl hHeld ?_; (try simp only [Act.put, zn1, zn2, zn3])
     refine tS (i := 27) rfl hHeld ?_; (try simp only [Act.put, zn1, zn2, zn3])
     refine tS (i := 28) rfl hHeld ?_; (try simp only [Act.put, zn1, zn2, zn3])
     refine tS (i := 29) rfl hHeld ?_; (try simp only [Act.put, zn1, zn2, zn3])
     refine tS (i := 30) rfl hHeld ?_; (try simp only [Act.put, zn1, zn2, zn3])
     refine tS (i := 31) rfl hHeld ?_; (try simp only [Act.put, zn1, zn2, zn3])
     refine tV 32 ?_ ?zq ?_; (case zq => rintro _ -; go_simp; try with_reducible rfl); try simp only [Act.put, zn1, zn2, zn3]
     refine tV 33 ?_ ?zq ?_; (case zq => rintro _ -; go_simp; try with_reducible rfl); try simp only [Act.put, zn1, zn2, zn3]
     refine wpAnyH_done (by kernel_rfl) ?_ _
     go_wp2_with fail
     go_meet
     exact ⟨by rw [HC.out], hHeld⟩
   ·have HC := Lib.hid (condJ_ge (j := (s, t)) hlt)
    have d1 : decide (k < l.length) = false := by simpa using hlt
    try go_wp2_with fail
    refine wp_region_held_drew (S := fun w' => Below w2.heap.size w2 w') (by kernel_rfl) (Below.drew (Below.refl _ _)) (fun hHeld => ?_)
    refine tV 0 ?_ ?zq ?_; (case zq => rintro _ -; go_simp; try with_reducible rfl); try simp only [Act.put, zn1, zn2, zn3]
    refine tV 1 ?_ ?zq ?_; (case zq => rintro _ -; go_simp; try with_reducible rfl); try simp only [Act.put, zn1, zn2, zn3]
    refine tV 2 ?_ ?zq ?_; (case zq => rintro _ -; go_simp; try with_reducible rfl); try simp only [Act.put, zn1, zn2, zn3]
    refine tV 3 ?_ ?zq ?_; (case zq => rintro _ -; go_simp; try with_reducible rfl); try simp only [Act.put, zn1, zn2, zn3]
    refine tV 4 ?_ ?zq ?_; (case zq => rintro _ -; go_simp; try with_reducible rfl); try simp only [Act.put, zn1, zn2, zn3]
    refine tS (i := 5) rfl hHeld ?_; (try simp only [Act.put, zn1, zn2, zn3])
    refine tS (i := 6) rfl hHeld ?_; (try simp only [Act.put, zn1, zn2, zn3])
    refine tS (i := 7) rfl hHeld ?_; (try simp only [Act.put, zn1, zn2, zn3])
    refine tS (i := 8) rfl hHeld ?_; (try simp only [Act.put, zn1, zn2, zn3])
    refine tS (i := 9) rfl hHeld ?_; (try simp only [Act.put, zn1, zn2, zn3])
    refine tS (i := 10) rfl hHeld ?_; (try simp only [Act.put, zn1, zn2, zn3])
    refine tS (i := 11) rfl hHeld ?_; (try simp only [Act.put, zn1, zn2, zn3])
    refine tS (i := 12) rfl hHeld ?_; (try simp only [Act.put, zn1, zn2, zn3])
    refine tS (i := 13) rfl hHeld ?_; (try simp only [Act.put, zn1, zn2, zn3])
    refine tS (i := 14) rfl hHeld ?_; (try simp only [Act.put, zn1, zn2, zn3])
    refine tS (i := 15) rfl hHeld ?_; (try simp only [Act.put, zn1, zn2, zn3])
    refine tS (i := 16) rfl hHeld ?_; (try simp only [Act.put, zn1, zn2, zn3])
    refine tS (i := 17) rfl hHeld ?_; (try simp only [Act.put, zn1, zn2, zn3])
    refine tS (i := 18) rfl hHeld ?_; (try simp only [Act.put, zn1, zn2, zn3])
    refine tS (i := 19) rfl hHeld ?_; (try simp only [Act.put, zn1, zn2, zn3])
    refine tS (i := 20) rfl hHeld ?_; (try simp only [Act.put, zn1, zn2, zn3])
    refine tS (i := 21) rfl hHeld ?_; (try simp only [Act.put, zn1, zn2, zn3])
    refine tS (i := 22) rfl hHeld ?_; (try simp only [Act.put, zn1, zn2, zn3])
    refine tS (i := 23) rfl hHeld ?_; (try simp only [Act.put, zn1, zn2, zn3])
    refine tS (i := 24) rfl hHeld ?_; (try simp only [Act.put, zn1, zn2, zn3])
    refine tS (i := 25) rfl hHeld ?_; (try simp only [Act.put, zn1, zn2, zn3])
    refine tS (i := 26) rfl hHeld ?_; (try simp only [Act.put, zn1, zn2, zn3])
    refine tS (i := 27) rfl hHeld ?_; (try simp only [Act.put, zn1, zn2, zn3])
    refine tS (i := 28) rfl hHeld ?_; (try simp only [Act.put, zn1, zn2, zn3])
    refine tS (i := 29) rfl hHeld ?_; (try simp only [Act.put, zn1, zn2, zn3])
    refine tS (i := 30) rfl hHeld ?_; (try simp only [Act.put, zn1, zn2, zn3])
    refine tS (i := 31) rfl hHeld ?_; (try simp only [Act.put, zn1, zn2, zn3])
    refine tS (i := 32) rfl hHeld ?_; (try simp only [Act.put, zn1, zn2, zn3])
    refine tV 33 ?_ ?zq ?_; (case zq => rintro _ -; go_simp; try with_reducible rfl); try simp only [Act.put, zn1, zn2, zn3]
    refine wpAnyH_done (by kernel_rfl) ?_ _
    go_wp2_with fail
    go_meet
    exact ⟨by rw [HC.out], hHeld⟩
  case rest =>
   obtain ⟨rfl, hb⟩ := hcut
   have HB2 := Lib.hid (lift HBr.out hb)
   replace j0 := cellAt j0 hb (by omega)
   replace j1 := cellAt j1 hb (by omega)
   replace Hr := Lib.hid (Hr.out.at hb)
   replace n1 : w.heap.size < wc.heap.size := ltAt n1 hb
   clear hb
   cases hcd : condJ l (s, t) k
   ·have HGe := Lib.hid (show ∀ h : k < l.length, ltJ l[k] (s, t) = false from fun h => by rw [← condJ_lt h]; exact hcd)
    clear hcd
    have HB4 := Lib.hid (lift HB1.out HB2.out)
    go_wp2_with fail
    by_cases hlt : k < l.length
    ·obtain ⟨b, o, hA, hB, x0, x1⟩ := Hr.out.jp hlt
     have hlk : l[k]? = some l[k] := List.getElem?_eq_getElem hlt
     subst hA
     generalize l[k] = x at x0 x1 hlk
     obtain ⟨sx, tx⟩ := x
     simp only at x0 x1
     have i1 : (0 : Int) ≤ (k : Int) := by omega
     have i2 : (k : Int) < (l.length : Int) := by omega
     have d1 : decide (k < l.length) = true := by simpa using hlt
     have HLk0 := Lib.hid hlk
     clear hlk
     cases he : (sx == s && tx == t)
     ·have HNe := Lib.hid (show ¬ l[k]? = some (s, t) by rw [HLk0.out]; intro e; injection e with e; injection e with e1 e2; rw [e1, e2] at he; simp at he)
      try go_wp2_with fail
      refine wp_region_held_drew (S := fun w' => Below wc.heap.size wc w') (by kernel_rfl) (Below.drew (Below.refl _ _)) (fun hHeld => ?_)
      refine tV 0 ?_ ?zq ?_; (case zq => rintro _ -; go_simp; try with_reducible rfl); try simp only [Act.put, zn1, zn2, zn3]
      refine tV 1 ?_ ?zq ?_; (case zq => rintro _ -; go_simp; try with_reducible rfl); try simp only [Act.put, zn1, zn2, zn3]
      refine tV 2 ?_ ?zq ?_; (case zq => rintro _ -; go_simp; try with_reducible rfl); try simp only [Act.put, zn1, zn2, zn3]
      refine tV 3 ?_ ?zq ?_; (case zq => rintro _ -; go_simp; try with_reducible rfl); try simp only [Act.put, zn1, zn2, zn3]
      refine tV 4 ?_ ?zq ?_; (case zq => rintro _ -; go_simp; try with_reducible rfl); try simp only [Act.put, zn1, zn2, zn3]
      refine tV 5 ?_ ?zq ?_; (case zq => rintro _ -; go_simp; try with_reducible rfl); try simp only [Act.put, zn1, zn2, zn3]
      refine tV 6 ?_ ?zq ?_; (case zq => rintro _ -; go_simp; try with_reducible rfl); try simp only [Act.put, zn1, zn2, zn3]
      refine tV 7 ?_ ?zq ?_; (case zq => rintro _ -; go_simp; try with_reducible rfl); try simp only [Act.put, zn1, zn2, zn3]
      refine tV 8 ?_ ?zq ?_; (case zq => intro w' hSw; have hCell := fun (b o : Nat) (h : b < wc.heap.size) => hSw.cell (p := ⟨b, o, none⟩) h; clear hSw; go_simp; try with_reducible rfl); try simp only [Act.put, zn1, zn2, zn3]
      refine tV 9 ?_ ?zq ?_; (case zq => intro w' hSw; have hCell := fun (b o : Nat) (h : b < wc.heap.size) => hSw.cell (p := ⟨b, o, none⟩) h; clear hSw; go_simp; try with_reducible rfl); try simp only [Act.put, zn1, zn2, zn3]
      refine tV 10 ?_ ?zq ?_; (case zq => rintro _ -; go_simp; try with_reducible rfl); try simp only [Act.put, zn1, zn2, zn3]
      refine tV 11 ?_ ?zq ?_; (case zq => rintro _ -; go_simp; try with_reducible rfl); try simp only [Act.put, zn1, zn2, zn3]
      refine wpAnyH_done (by kernel_rfl) ?_ _
      clear hHeld x0 x1
      go_upto_region 6 with fail
      first | (refine wp_named ?_; intro W3 hW) | (refine calls_named ?_; intro W3 hW)
      have B3 : Below wc.heap.size wc W3 := by rw [hW]; exact bq2
      replace j0 := cellAt j0 B3 (by omega)
      replace j1 := cellAt j1 B3 (by omega)
      replace Hr := Lib.hid (Hr.out.at B3)
      replace n1 : w.heap.size < W3.heap.size := ltAt n1 B3
      clear hW
      have HB3 := Lib.hid (lift HB4.out B3)
      clear B3
      have hins : insL ltJ (s, t) l = l.take k ++ (s, t) :: l.drop k := by rw [insL_cut l k hk HAll.out HGe.out, if_neg HNe.out]
      have HI := Lib.hid hins
      have HR1 := Lib.hid (Hr.out.takeA hk)
      have HR2 := Lib.hid (Hr.out.dropA hk hc)
      have hs1 := run_slice_full (P := Tryz.prog) Tryz.underlying89 hi (some ⟨b, o, none⟩) l.length c k (Nat.le_trans hk hc)
      have hs2 := run_slice_tail (P := Tryz.prog) Tryz.underlying89 hi (some ⟨b, o, none⟩) l.length c k hk
      rw [hz1] at hs1 hs2
      have HLk := Lib.hid (show (l.drop k).length = l.length - k from List.length_drop)
      clear hins
      try go_wp2_with fail
      refine wp_region_held_drew (S := fun w' => Below W3.heap.size W3 w') (by kernel_rfl) (Below.drew (Below.refl _ _)) (fun hHeld => ?_)
      refine tV 0 ?_ ?zq ?_; (case zq => rintro _ -; go_simp; try with_reducible rfl); try simp only [Act.put, zn1, zn2, zn3]
      refine tV 1 ?_ ?zq ?_; (case zq => rintro _ -; go_simp; try with_reducible rfl); try simp only [Act.put, zn1, zn2, zn3]
      refine tV 2 ?_ ?zq ?_; (case zq => rintro _ -; go_simp; try with_reducible rfl); try simp only [Act.put, zn1, zn2, zn3]
      refine tV 3 ?_ ?zq ?_; (case zq => rintro _ -; go_simp; try with_reducible rfl); try simp only [Act.put, zn1, zn2, zn3]
      refine tV 4 ?_ ?zq ?_; (case zq => intro w' hSw; have hCell := fun (b o : Nat) (h : b < W3.heap.size) => hSw.cell (p := ⟨b, o, none⟩) h; clear hSw; go_simp; try with_reducible rfl); try simp only [Act.put, zn1, zn2, zn3]
      refine tV 6 ?_ ?zq ?_; (case zq => rintro _ -; go_simp; try with_reducible rfl); try simp only [Act.put, zn1, zn2, zn3]
      refine tV 7 ?_ ?zq ?_; (case zq => rintro _ -; go_simp; try with_reducible rfl); try simp only [Act.put, zn1, zn2, zn3]
      refine tV 8 ?_ ?zq ?_; (case zq => rintro _ -; go_simp; try with_reducible rfl); try simp only [Act.put, zn1, zn2, zn3]
      refine ready_one (i := 5) rfl (by kernel_rfl) (fun K hK => ?_)
      go_simp
      refine hK.out _ _ ?_ (fun hHeld2 => ?_)
      ·(try dsimp only); first | exact hHeld | exact bq2
      clear hK K hHeld; have hHeld := hHeld2; clear hHeld2; (try simp only [Act.put, zn1, zn2, zn3])
      refine ready_one (i := 9) rfl (by kernel_rfl) (fun K hK => ?_)
      refine step_append_full (by rfl) (.tmp 60) (.tmp 63) 89 (by rfl) 86 i0 _ 2 24 Tryz.underlying89 hi hz0 hz1 hz2 rfl _ (some ⟨W3.heap.size, 0, none⟩) 1 (jpC (s, t)) (by rfl) (Rd.lit W3.drew (jpC (s, t)) 86 2 1 rfl) (Nat.le_refl _) _ _ (l.length - k) (c - k) _ (by rfl) (HR2.out.at' (Nat.le_refl _) hHeld) (one_drop (one_jpsC l) _) (by unfold maxLen; omega) (by omega) ?_
      intro A2 c2 v2 hc2 hr2 hb
      have HR3 := Lib.hid hr2
      clear hr2
      refine hK.out _ _ ?_ (fun hHeld2 => ?_)
      ·(try dsimp only); first | exact Below.trans hHeld (Below.mono hb hHeld.size) | exact hHeld | exact Below.drew hHeld | exact bq2
      clear hK K hHeld; have hHeld := hHeld2; clear hHeld2; (try simp only [Act.put, zn1, zn2, zn3])
      refine ready_one (i := 10) rfl (by kernel_rfl) (fun K hK => ?_)
      refine step_append_fullo (by rfl) (.tmp 58) (.tmp 64) 89 (by rfl) 86 i0 _ 2 24 Tryz.underlying89 hi hz0 hz1 hz2 rfl _ _ k _ (by rfl) (HR1.out.at' (Nat.le_refl _) hHeld) (Nat.le_refl _) _ A2 (1 + (l.length - k)) c2 _ (by rfl) HR3.out (one_app (one_jpC (s, t)) (one_drop (one_jpsC l) _)) (by omega) (by unfold maxLen; omega) (by omega) ?_
      intro A3 c3 v3 hr3 hb
      have HR4 := Lib.hid (own_base hr3 hHeld.size)
      clear hr3
      refine hK.out _ _ ?_ (fun hHeld2 => ?_)
      ·(try dsimp only); first | exact Below.trans hHeld (Below.mono hb hHeld.size) | exact hHeld | exact Below.drew hHeld | exact bq2
      clear hK K hHeld; have hHeld := hHeld2; clear hHeld2; (try simp only [Act.put, zn1, zn2, zn3])
      refine tV 11 ?_ ?zq ?_; (case zq => rintro _ -; go_simp; try with_reducible rfl); try simp only [Act.put, zn1, zn2, zn3]
      refine wpAnyH_done (by kernel_rfl) ?_ _
      go_wp2_with fail
      go_ret
      have hl9 : k + (1 + (l.length - k)) = (insL ltJ (s, t) l).length := by rw [HI.out, List.length_append, List.length_cons, List.length_take, HLk.out]; omega
      have ho9 := own_base HR4.out HB3.out.size
      rw [show (jpsC l).take (k * 2) ++ (jpC (s, t) ++ (jpsC l).drop (k * 2)) = jpsC (insL ltJ (s, t) l) by rw [HI.out, jpsC_app, show jpsC ((s, t) :: l.drop k) = jpC (s, t) ++ jpsC (l.drop k) from by simp [jpsC], show jpsC (l.take k) = (jpsC l).take (k * 2) from flat_take jpC 2 jpC_len l k, show jpsC (l.drop k) = (jpsC l).drop (k * 2) from flat_drop jpC 2 jpC_len l k], hl9] at ho9
      rw [hl9]
      exact ⟨A3, c3, rfl, .inr ho9, lift HB3.out hHeld⟩
     ·have hpos : l[k]? = some (s, t) := by
       rw [HLk0.out]
       rw [Bool.and_eq_true, beq_iff_eq, beq_iff_eq] at he
       rw [he.1, he.2]
      have HI := Lib.hid (show insL ltJ (s, t) l = l by rw [insL_cut l k hk HAll.out HGe.out, if_pos hpos])
      clear hpos
      try go_wp2_with fail
      refine wp_region_held_drew (S := fun w' => Below wc.heap.size wc w') (by kernel_rfl) (Below.drew (Below.refl _ _)) (fun hHeld => ?_)
      refine tV 0 ?_ ?zq ?_; (case zq => rintro _ -; go_simp; try with_reducible rfl); try simp only [Act.put, zn1, zn2, zn3]
      refine tV 1 ?_ ?zq ?_; (case zq => rintro _ -; go_simp; try with_reducible rfl); try simp only [Act.put, zn1, zn2, zn3]
      refine tV 2 ?_ ?zq ?_; (case zq => rintro _ -; go_simp; try with_reducible rfl); try simp only [Act.put, zn1, zn2, zn3]
      refine tV 3 ?_ ?zq ?_; (case zq => rintro _ -; go_simp; try with_reducible rfl); try simp only [Act.put, zn1, zn2, zn3]
      refine tV 4 ?_ ?zq ?_; (case zq => rintro _ -; go_simp; try with_reducible rfl); try simp only [Act.put, zn1, zn2, zn3]
      refine tV 5 ?_ ?zq ?_; (case zq => rintro _ -; go_simp; try with_reducible rfl); try simp only [Act.put, zn1, zn2, zn3]
      refine tV 6 ?_ ?zq ?_; (case zq => rintro _ -; go_simp; try with_reducible rfl); try simp only [Act.put, zn1, zn2, zn3]
      refine tV 7 ?_ ?zq ?_; (case zq => rintro _ -; go_simp; try with_reducible rfl); try simp only [Act.put, zn1, zn2, zn3]
      refine tV 8 ?_ ?zq ?_; (case zq => intro w' hSw; have hCell := fun (b o : Nat) (h : b < wc.heap.size) => hSw.cell (p := ⟨b, o, none⟩) h; clear hSw; go_simp; try with_reducible rfl); try simp only [Act.put, zn1, zn2, zn3]
      refine tV 9 ?_ ?zq ?_; (case zq => intro w' hSw; have hCell := fun (b o : Nat) (h : b < wc.heap.size) => hSw.cell (p := ⟨b, o, none⟩) h; clear hSw; go_simp; try with_reducible rfl); try simp only [Act.put, zn1, zn2, zn3]
      refine tV 10 ?_ ?zq ?_; (case zq => rintro _ -; go_simp; try with_reducible rfl); try simp only [Act.put, zn1, zn2, zn3]
      refine tV 11 ?_ ?zq ?_; (case zq => rintro _ -; go_simp; try with_reducible rfl); try simp only [Act.put, zn1, zn2, zn3]
      refine wpAnyH_done (by kernel_rfl) ?_ _
      have HB4 := Lib.hid (lift HB4.out hHeld)
      clear hHeld
      go_wp2_with fail
      go_ret
      exact ⟨_, c, by rw [HI.out]; rfl, .inl ⟨rfl, rfl, HI.out⟩, HB4.out⟩
    ·have HNe := Lib.hid (show ¬ l[k]? = some (s, t) by rw [List.getElem?_eq_none (by omega)]; simp)
     have d1 : decide (k < l.length) = false := by simpa using hlt
     try go_wp2_with fail
     refine wp_region_held_drew (S := fun w' => Below wc.heap.size wc w') (by kernel_rfl) (Below.drew (Below.refl _ _)) (fun hHeld => ?_)
     refine tV 0 ?_ ?zq ?_; (case zq => rintro _ -; go_simp; try with_reducible rfl); try simp only [Act.put, zn1, zn2, zn3]
     refine tV 1 ?_ ?zq ?_; (case zq => rintro _ -; go_simp; try with_reducible rfl); try simp only [Act.put, zn1, zn2, zn3]
     refine tV 2 ?_ ?zq ?_; (case zq => rintro _ -; go_simp; try with_reducible rfl); try simp only [Act.put, zn1, zn2, zn3]
     refine tV 3 ?_ ?zq ?_; (case zq => rintro _ -; go_simp; try with_reducible rfl); try simp only [Act.put, zn1, zn2, zn3]
     refine tV 4 ?_ ?zq ?_; (case zq => rintro _ -; go_simp; try with_reducible rfl); try simp only [Act.put, zn1, zn2, zn3]
     refine tS (i := 5) rfl hHeld ?_; (try simp only [Act.put, zn1, zn2, zn3])
     refine tS (i := 6) rfl hHeld ?_; (try simp only [Act.put, zn1, zn2, zn3])
     refine tS (i := 7) rfl hHeld ?_; (try simp only [Act.put, zn1, zn2, zn3])
     refine tS (i := 8) rfl hHeld ?_; (try simp only [Act.put, zn1, zn2, zn3])
     refine tS (i := 9) rfl hHeld ?_; (try simp only [Act.put, zn1, zn2, zn3])
     refine tS (i := 10) rfl hHeld ?_; (try simp only [Act.put, zn1, zn2, zn3])
     refine tV 11 ?_ ?zq ?_; (case zq => rintro _ -; go_simp; try with_reducible rfl); try simp only [Act.put, zn1, zn2, zn3]
     refine wpAnyH_done (by kernel_rfl) ?_ _
     clear hHeld
     go_upto_region 6 with fail
     first | (refine wp_named ?_; intro W3 hW) | (refine calls_named ?_; intro W3 hW)
     have B3 : Below wc.heap.size wc W3 := by rw [hW]; exact bq2
     replace j0 := cellAt j0 B3 (by omega)
     replace j1 := cellAt j1 B3 (by omega)
     replace Hr := Lib.hid (Hr.out.at B3)
     replace n1 : w.heap.size < W3.heap.size := ltAt n1 B3
     clear hW
     have HB3 := Lib.hid (lift HB4.out B3)
     clear B3
     have hins : insL ltJ (s, t) l = l.take k ++ (s, t) :: l.drop k := by rw [insL_cut l k hk HAll.out HGe.out, if_neg HNe.out]
     have HI := Lib.hid hins
     have HR1 := Lib.hid (Hr.out.takeA hk)
     have HR2 := Lib.hid (Hr.out.dropA hk hc)
     have hs1 := run_slice_full (P := Tryz.prog) Tryz.underlying89 hi A l.length c k (Nat.le_trans hk hc)
     have hs2 := run_slice_tail (P := Tryz.prog) Tryz.underlying89 hi A l.length c k hk
     rw [hz1] at hs1 hs2
     have HLk := Lib.hid (show (l.drop k).length = l.length - k from List.length_drop)
     clear hins
     try go_wp2_with fail
     refine wp_region_held_drew (S := fun w' => Below W3.heap.size W3 w') (by kernel_rfl) (Below.drew (Below.refl _ _)) (fun hHeld => ?_)
     refine tV 0 ?_ ?zq ?_; (case zq => rintro _ -; go_simp; try with_reducible rfl); try simp only [Act.put, zn1, zn2, zn3]
     refine tV 1 ?_ ?zq ?_; (case zq => rintro _ -; go_simp; try with_reducible rfl); try simp only [Act.put, zn1, zn2, zn3]
     refine tV 2 ?_ ?zq ?_; (case zq => rintro _ -; go_simp; try with_reducible rfl); try simp only [Act.put, zn1, zn2, zn3]
     refine tV 3 ?_ ?zq ?_; (case zq => rintro _ -; go_simp; try with_reducible rfl); try simp only [Act.put, zn1, zn2, zn3]
     refine tV 4 ?_ ?zq ?_; (case zq => intro w' hSw; have hCell := fun (b o : Nat) (h : b < W3.heap.size) => hSw.cell (p := ⟨b, o, none⟩) h; clear hSw; go_simp; try with_reducible rfl); try simp only [Act.put, zn1, zn2, zn3]
     refine tV 6 ?_ ?zq ?_; (case zq => rintro _ -; go_simp; try with_reducible rfl); try simp only [Act.put, zn1, zn2, zn3]
     refine tV 7 ?_ ?zq ?_; (case zq => rintro _ -; go_simp; try with_reducible rfl); try simp only [Act.put, zn1, zn2, zn3]
     refine tV 8 ?_ ?zq ?_; (case zq => rintro _ -; go_simp; try with_reducible rfl); try simp only [Act.put, zn1, zn2, zn3]
     refine ready_one (i := 5) rfl (by kernel_rfl) (fun K hK => ?_)
     go_simp
     refine hK.out _ _ ?_ (fun hHeld2 => ?_)
     ·(try dsimp only); first | exact hHeld | exact bq2
     clear hK K hHeld; have hHeld := hHeld2; clear hHeld2; (try simp only [Act.put, zn1, zn2, zn3])
     refine ready_one (i := 9) rfl (by kernel_rfl) (fun K hK => ?_)
     refine step_append_full (by rfl) (.tmp 60) (.tmp 63) 89 (by rfl) 86 i0 _ 2 24 Tryz.underlying89 hi hz0 hz1 hz2 rfl _ (some ⟨W3.heap.size, 0, none⟩) 1 (jpC (s, t)) (by rfl) (Rd.lit W3.drew (jpC (s, t)) 86 2 1 rfl) (Nat.le_refl _) _ _ (l.length - k) (c - k) _ (by rfl) (HR2.out.at' (Nat.le_refl _) hHeld) (one_drop (one_jpsC l) _) (by unfold maxLen; omega) (by omega) ?_
     intro A2 c2 v2 hc2 hr2 hb
     have HR3 := Lib.hid hr2
     clear hr2
     refine hK.out _ _ ?_ (fun hHeld2 => ?_)
     ·(try dsimp only); first | exact Below.trans hHeld (Below.mono hb hHeld.size) | exact hHeld | exact Below.drew hHeld | exact bq2
     clear hK K hHeld; have hHeld := hHeld2; clear hHeld2; (try simp only [Act.put, zn1, zn2, zn3])
     refine ready_one (i := 10) rfl (by kernel_rfl) (fun K hK => ?_)
     refine step_append_fullo (by rfl) (.tmp 58) (.tmp 64) 89 (by rfl) 86 i0 _ 2 24 Tryz.underlying89 hi hz0 hz1 hz2 rfl _ _ k _ (by rfl) (HR1.out.at' (Nat.le_refl _) hHeld) (Nat.le_refl _) _ A2 (1 + (l.length - k)) c2 _ (by rfl) HR3.out (one_app (one_jpC (s, t)) (one_drop (one_jpsC l) _)) (by omega) (by unfold maxLen; omega) (by omega) ?_
     intro A3 c3 v3 hr3 hb
     have HR4 := Lib.hid (own_base hr3 hHeld.size)
     clear hr3
     refine hK.out _ _ ?_ (fun hHeld2 => ?_)
     ·(try dsimp only); first | exact Below.trans hHeld (Below.mono hb hHeld.size) | exact hHeld | exact Below.drew hHeld | exact bq2
     clear hK K hHeld; have hHeld := hHeld2; clear hHeld2; (try simp only [Act.put, zn1, zn2, zn3])
     refine tV 11 ?_ ?zq ?_; (case zq => rintro _ -; go_simp; try with_reducible rfl); try simp only [Act.put, zn1, zn2, zn3]
     refine wpAnyH_done (by kernel_rfl) ?_ _
     go_wp2_with fail
     go_ret
     have hl9 : k + (1 + (l.length - k)) = (insL ltJ (s, t) l).length := by rw [HI.out, List.length_append, List.length_cons, List.length_take, HLk.out]; omega
     have ho9 := own_base HR4.out HB3.out.size
     rw [show (jpsC l).take (k * 2) ++ (jpC (s, t) ++ (jpsC l).drop (k * 2)) = jpsC (insL ltJ (s, t) l) by rw [HI.out, jpsC_app, show jpsC ((s, t) :: l.drop k) = jpC (s, t) ++ jpsC (l.drop k) from by simp [jpsC], show jpsC (l.take k) = (jpsC l).take (k * 2) from flat_take jpC 2 jpC_len l k, show jpsC (l.drop k) = (jpsC l).drop (k * 2) from flat_drop jpC 2 jpC_len l k], hl9] at ho9
     rw [hl9]
     exact ⟨A3, c3, rfl, .inr ho9, lift HB3.out hHeld⟩
   ·have hlt : k < l.length := by
     by_cases h : k < l.length
     ·exact h
     ·rw [condJ_ge h] at hcd; cases hcd
    have HL := Lib.hid ((condJ_lt hlt).symm.trans hcd)
    clear hcd
    go_wp2_with fail
    go_roundw
    case rel =>
     refine ⟨k + 1, by omega, by go_num, fun y hy => ?_, HB2⟩
     rw [List.take_succ_eq_append_getElem hlt, List.mem_append, List.mem_singleton] at hy
     rcases hy with h | h
     ·exact HAll.out y h
     ·rw [h]; exact HL.out
    case measure => simp [intOf]; omega
end Od
end Go.Proofs.YtbllehjhmfehbaaGreat
end

section
/- The words of matinsref17.All: its maps, the middle of a layer, what a map literal puts in. (bel2) -/
namespace Go.Proofs.YtbllehjhmfehbaaGreat
open Go.RowKit Go.Sort Go.Maps
set_option linter.unusedSimpArgs false
section
variable {P : Program} {k : TypeId} {α : Type} {κ : KeyKind P k α} {ops : Array Oper} {rest : List Oper} {o : Oper} {a : Act} {Q : Exit → Act → World → Prop} (w : World)
open Classical in
theorem wpList_insert_is (hg : o.guard = none) (m x v : Operand) (t : TypeId) (hop : o.op = Op.insert t m x v) (e : TypeId) (ht : P.underlying t = some (.map k e))
  (b n : Nat) (f : α → Option Value) (hm : a.eval m = .map (some b)) (h : MapIs κ w b n f) (hn : n < maxLen) (key : α) (val : Value) (hx : a.eval x = κ.val key) (hv : a.eval v = val) (hk : κ.ok key)
  (hK : ∀ w', MapIs κ w' b (n + 1) (fun y => if y = key then some val else f y) → w.grownBy w' (some b) → wpList P ops Q rest (a.put o.dst undef) w') : wpList P ops Q (o :: rest) a w := by
 refine wpList_plain hg fun K' hK' => ?_
 obtain ⟨w', hrun, h1, h2⟩ := h.update ht hn hk val
 unfold Oper.wp
 simp [execOp, hop, hm, hx, hv, hrun, Result.andThen]
 exact hK' _ _ (hK w' h1 h2)
theorem wpList_wantT (hw : Region.wanted o (yielded ops a.tmps) = true) (h : ∀ K : Act → World → Prop, (∀ a w, wpList P ops Q rest a w → K a w) → o.wp P a w K Q) : wpList P ops Q (o :: rest) a w :=
 wpList_step fun K hK => by rw [if_pos hw]; exact h K hK
theorem wpList_lookup_wT (hw : Region.wanted o (yielded ops a.tmps) = true) (m x : Operand) (t : TypeId) (hop : o.op = Op.lookup t m x false) (e : TypeId) (ht : P.underlying t = some (.map k e)) (z : Value) (hz : (zeroValue e).run P w = .ok z w)
  (b n : Nat) (f : α → Option Value) (hm : a.eval m = .map (some b)) (h : MapIs κ w b n f) (key : α) (hx : a.eval x = κ.val key) (hk : κ.ok key)
  (hK : wpList P ops Q rest (a.put o.dst ((f key).getD z)) w) : wpList P ops Q (o :: rest) a w := by
 refine wpList_wantT w hw fun K' hK' => ?_
 have hrun := h.lookup ht hz hk
 unfold Oper.wp
 simp [execOp, hop, hm, hx, hrun, Result.andThen]
 exact hK' _ _ hK
theorem yield_lookup_is {ev : Operand → Value} (dst : Option Tmp) (ty : TypeId) (pos : String) (aft : Array Edge) (grd : Option (Nat × Bool)) (m x : Operand) (t e : TypeId) (ht : P.underlying t = some (.map k e)) (z : Value) (hz : (zeroValue e).run P w = .ok z w)
  (b n : Nat) (f : α → Option Value) (hm : ev m = .map (some b)) (h : MapIs κ w b n f) (key : α) (hx : ev x = κ.val key) (hk : κ.ok key) :
  (execOp ev ⟨dst, Op.lookup t m x false, ty, pos, aft, grd⟩).run P w = .ok (.value ((f key).getD z)) w := by
 have hrun := h.lookup ht hz hk
 show Sem.run P (Instr.lookup t (ev m) (ev x) false >>= fun r => pure (Next.value r)) w = _
 rw [hm, hx, Sem.run_bind, hrun]
 rfl
end
theorem own_map {w w' : World} {base e k n b : Nat} {v : Value} {xs : List Value} (h : w.ownsRow base e k v n xs) (hg : w.grownBy w' (some b)) (hb : b < base) : w'.ownsRow base e k v n xs :=
 h.kept hg (by
  cases hv : v.ownBlock with
  | none => exact .inl rfl
  | some g => exact .inr (fun e => by cases e; have := (h.lt _ hv).1; omega))
namespace Od
theorem MapIs.ifR {w : World} {b n : Nat} {k : Jp} {a : Option Value} {f : Jp → Option Value} (h : MapIs kindR w b n (fun y => @ite (Option Value) (y = k) (Classical.propDecidable _) a (f y))) : MapIs kindR w b n (fun y => if y = k then a else f y) := by
 have e : (fun y => @ite (Option Value) (y = k) (Classical.propDecidable _) a (f y)) = (fun y => if y = k then a else f y) := by
  funext y
  by_cases e : y = k <;> simp [e]
 rwa [e] at h
theorem zeroIr (w : World) : (zeroValue 3).run Tryz.prog w = .ok (.int .i64 0) w := Tryz.zeroValue3 w
/-- Who brought a job, but the first. -/
def byX (first : Jp) (m : Ms) (k : Jp) : Option Value := if k = first then none else byV m k
theorem byX_push {first : Jp} {m : Ms} {k : Jp} {s : Str} (h : knownP m k = false) (hf : k ≠ first) : (fun y => if y = k then some (sv s) else byX first m y) = byX first (m ++ [(k, s)]) := by
 have hp := byV_push (s := s) h
 funext y
 have hy : (if y = k then some (sv s) else byV m y) = byV (m ++ [(k, s)]) y := congrFun hp y
 unfold byX
 by_cases e : y = k
 ·subst e
  rw [if_pos rfl] at hy ⊢
  rw [if_neg hf, ← hy]
 ·rw [if_neg e] at hy ⊢
  by_cases e2 : y = first
  ·rw [if_pos e2, if_pos e2]
  ·rw [if_neg e2, if_neg e2, ← hy]
theorem byX_one (first : Jp) : (fun _ => none : Jp → Option Value) = byX first [(first, [])] := by
 funext y
 unfold byX
 by_cases e : y = first
 ·rw [if_pos e]
 ·rw [if_neg e]
  unfold byV byF
  have : (first == y) = false := by simpa using fun h => e h.symm
  simp [this]
theorem byX_get {first : Jp} {m : Ms} (hf : byOf m first = []) (k : Jp) : (byX first m k).getD (.string ⟨#[]⟩) = sv (byOf m k) := by
 unfold byX
 by_cases e : k = first
 ·subst e; rw [if_pos rfl, hf]; rfl
 ·rw [if_neg e, ← byF_getD]
  unfold byV
  cases byF m k <;> rfl
/-- The map of those that come along. -/
def FarS (w : World) (fB : Nat) (m : Ms) : Prop := ∃ f, MapIs kindR w fB m.length f ∧ ∀ k, (f k).isSome = knownP m k
theorem FarS.on {w w' : World} {fB : Nat} {m : Ms} (h : FarS w fB m) (hb : Below w.heap.size w w') : FarS w' fB m := by obtain ⟨f, h1, h2⟩ := h; exact ⟨f, h1.on hb, h2⟩
theorem FarS.kept {w w' : World} {fB b : Nat} {m : Ms} (h : FarS w fB m) (hg : w.grownBy w' (some b)) (hne : fB ≠ b) : FarS w' fB m := by obtain ⟨f, h1, h2⟩ := h; exact ⟨f, h1.kept hg (fun e => hne (by injection e)), h2⟩
theorem FarS.lt {w : World} {fB : Nat} {m : Ms} (h : FarS w fB m) : fB < w.heap.size := by obtain ⟨f, h1, _⟩ := h; exact h1.lt
theorem known_push (m : Ms) (k : Jp) (s : Str) (y : Jp) : knownP (m ++ [(k, s)]) y = (knownP m y || (k == y)) := by
 unfold knownP; rw [List.any_append]; simp
theorem FarS.one {w : World} {fB : Nat} {first : Jp} {v : Value} (h : MapIs kindR w fB 1 (fun y => if y = first then some v else none)) : FarS w fB [(first, [])] :=
 ⟨_, h, fun k => by
  unfold knownP
  by_cases e : k = first
  ·subst e; simp
  ·have : (first == k) = false := by simpa using fun h => e h.symm
   simp [e, this]⟩
theorem FarS.push {w' : World} {fB n : Nat} {m : Ms} {f : Jp → Option Value} {k : Jp} {s : Str} {v : Value} (hf : ∀ k, (f k).isSome = knownP m k) (hn : n = m.length) (h : MapIs kindR w' fB (n + 1) (fun y => if y = k then some v else f y)) : FarS w' fB (m ++ [(k, s)]) := by
 subst hn
 refine ⟨_, by rw [List.length_append]; exact h, fun y => ?_⟩
 rw [known_push]
 by_cases e : y = k
 ·subst e; simp
 ·have h2 : (k == y) = false := by simpa using fun h => e h.symm
  rw [if_neg e, hf, h2, Bool.or_false]
/-- In the middle of a layer: the maps, and the next layer's row. -/
structure LayS (w : World) (fB yB base : Nat) (first : Jp) (cand : List Jp) (s : Ms × List Jp) (A : Option Addr) (c : Nat) : Prop where
 nx : w.ownsRow base 86 2 (.slice A (canon ltJ s.2).length c) (canon ltJ s.2).length (jpsC (canon ltJ s.2))
 far : FarS w fB s.1
 by_ : MapIs kindR w yB s.1.length (byX first s.1)
 mid : Mid first cand s
 fst : first ∈ keysP s.1
theorem LayS.on {w w' : World} {fB yB base : Nat} {first : Jp} {cand : List Jp} {s : Ms × List Jp} {A : Option Addr} {c : Nat} (h : LayS w fB yB base first cand s A c) (hb : Below w.heap.size w w') : LayS w' fB yB base first cand s A c :=
 ⟨own_on h.nx hb, h.far.on hb, h.by_.on hb, h.mid, h.fst⟩
theorem midP_next {E : Jp → List Bg} {out : Jp → Bool} {m : Ms} {R : List Jp} {k : Nat} (h : k < R.length) : midP E out m R (k + 1) = (bysB R[k].1 (E R[k])).foldl (addP out) (midP E out m R k) := by
 rw [midP_succ h, bysB_filter, fold_no]
theorem bys_next {u : Str} {L : List Bg} {out : Jp → Bool} {s : Ms × List Jp} {i : Nat} (h : i < L.length) : (bysB u (L.take (i + 1))).foldl (addP out) s = addP out ((bysB u (L.take i)).foldl (addP out) s) (L[i].1, u) := by
 unfold bysB
 rw [List.take_succ_eq_append_getElem h, List.map_append, List.foldl_append]
 rfl
theorem addP_skip {out : Jp → Bool} {s : Ms × List Jp} {p : Jp × Str} (h : knownP s.1 p.1 = true ∨ out p.1 = true) : addP out s p = s := by
 unfold addP
 rw [if_pos]
 rcases h with h | h <;> rw [h] <;> simp
theorem addP_do {out : Jp → Bool} {s : Ms × List Jp} {p : Jp × Str} (h : knownP s.1 p.1 = false) (h2 : out p.1 = false) : addP out s p = (s.1 ++ [p], s.2 ++ [p.1]) := by
 unfold addP
 rw [if_neg (by rw [h, h2]; simp)]
/-- A job more. -/
theorem LayS.put {w w1 w2 w3 : World} {fB yB base : Nat} {first : Jp} {cand : List Jp} {s : Ms × List Jp} {A A' : Option Addr} {c c' : Nat} {k : Jp} {u : Str} {v : Value} {f : Jp → Option Value} {out : Jp → Bool}
  (h : LayS w fB yB base first cand s A c) (h1 : fB < base) (h2 : yB < base) (h3 : fB ≠ yB) (hbw : base ≤ w.heap.size) (hf : ∀ k, (f k).isSome = knownP s.1 k) (hk : knownP s.1 k = false) (ho : out k = false) (hc : k ∈ cand)
  (hm1 : MapIs kindR w1 fB (s.1.length + 1) (fun y => if y = k then some v else f y)) (hg1 : w.grownBy w1 (some fB))
  (hm2 : MapIs kindR w2 yB (s.1.length + 1) (fun y => if y = k then some (sv u) else byX first s.1 y)) (hg2 : w1.grownBy w2 (some yB))
  (hp : (A' = A ∧ c' = c ∧ insL ltJ k (canon ltJ s.2) = canon ltJ s.2) ∨ w3.ownsRow w2.heap.size 86 2 (.slice A' (insL ltJ k (canon ltJ s.2)).length c') (insL ltJ k (canon ltJ s.2)).length (jpsC (insL ltJ k (canon ltJ s.2)))) (hb : Below w2.heap.size w2 w3) :
  LayS w3 fB yB base first cand (addP out s (k, u)) A' c' := by
 have hadd := addP_do (out := out) (s := s) (p := (k, u)) hk ho
 have hs1 := hg1.size
 have hs2 := hg2.size
 have hrow : w3.ownsRow base 86 2 (.slice A' (canon ltJ (s.2 ++ [k])).length c') (canon ltJ (s.2 ++ [k])).length (jpsC (canon ltJ (s.2 ++ [k]))) := by
  rw [← insL_canon]
  rcases hp with ⟨rfl, rfl, he⟩ | hp
  ·rw [he]; exact own_on (own_map (own_map h.nx hg1 h1) hg2 h2) hb
  ·exact own_base hp (by omega)
 have hmid := h.mid.add (out := out) (p := (k, u)) hc
 rw [hadd] at hmid ⊢
 refine ⟨hrow, ((FarS.push (s := u) hf rfl hm1).kept hg2 h3).on hb, ?_, hmid, ?_⟩
 ·rw [byX_push hk (fun e => by rw [e, knownP_iff.2 h.fst] at hk; cases hk)] at hm2
  simp only [List.length_append, List.length_cons, List.length_nil]
  exact hm2.on hb
 ·have := h.fst
  unfold keysP at this ⊢
  rw [List.map_append]
  exact List.mem_append_left _ this
end Od
end Go.Proofs.YtbllehjhmfehbaaGreat
end
