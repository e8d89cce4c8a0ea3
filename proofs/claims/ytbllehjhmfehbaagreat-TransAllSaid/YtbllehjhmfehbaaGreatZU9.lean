/- My texts, joined for the claim: LtShown R19Find QOf QName QOfA QOfW QNode15R R19Sick RPut RIn. -/
import Derived.Test.YtbllehjhmfehbaaGreatZU8
import Derived.Test.YtbllehjhmfehbaaGreatZU1
import Derived.Test.YtbllehjhmfehbaaGreatZU7
import Derived.Test.YtbllehjhmfehbaaGreatZU2
import Derived.Laws.Concat
import Derived.RegionTactic
import Derived.BigRegion
import Derived.Test.YtbllehjhmfehbaaGreatZU3
import Derived.Test.YtbllehjhmfehbaaGreatRows
import Derived.Test.YtbllehjhmfehbaaGreatZU4

section
/- What layer 19's laws begin with: the words some, shown, small. (bel2) -/
namespace Go.Proofs.YtbllehjhmfehbaaGreat
open Go.RowKit Go.Sort
set_option linter.unusedSimpArgs false
namespace Od
def ns19 : List Nd := [(nmA, 4, 1), (nmB, 4, 1), (nmC, 4, 2), (nmD, 4, 1)]
def es19 : List Ed := [(nmA, nmB, 1), (nmA, nmC, 2), (nmA, nmD, 2), (nmD, nmB, 6)]
set_option maxHeartbeats 1000000 in
theorem node19_any (s : Str) (st : Int) (w : World) : Calls Tryz.prog 105 #[sv s, .int .i64 st] w fun e w' => e = .returned (ndV (s, 4, st)) ∧ Below w.heap.size w w' := by
 go_enter Tryz.func105, Tryz.ntmps105
 go_wp2_with fail
 refine bodyPost_ret (v := ndV (s, 4, st)) (by simp only [results, Tryz.results105]; go_simp) rfl ⟨rfl, ?_⟩
 exact bq2
set_option maxRecDepth 100000 in
set_option maxHeartbeats 4000000 in
theorem some19_any (w : World) : Calls Tryz.prog 63 #[] w (GraphIs ns19 es19 w) := by
 go_enter Tryz.func63, Tryz.ntmps63
 go_wp2_with fail
 first | (refine wp_named ?_; intro W1 hW) | (refine calls_named ?_; intro W1 hW)
 have B1 : Below w.heap.size w W1 := by rw [hW]; exact bq2
 have n1 : w.heap.size < W1.heap.size := by rw [hW]; simp <;> omega
 have c0 : W1.cell? ⟨w.heap.size, 0, none⟩ = some (.slice none 0 0) := by rw [hW]; go_simp
 have c1 : W1.cell? ⟨w.heap.size, 1, none⟩ = some (.slice none 0 0) := by rw [hW]; go_simp
 have f0 : W1.frozen? ⟨w.heap.size, 0, none⟩ = false := by rw [hW]; go_simp
 have f1 : W1.frozen? ⟨w.heap.size, 1, none⟩ = false := by rw [hW]; go_simp
 clear hW
 have HB := Lib.hid B1
 clear B1
 refine (node19_any nmA 1 _).mono ?_
 rintro e w2 ⟨rfl, hb⟩
 replace c0 := cellAt c0 hb (by omega)
 replace c1 := cellAt c1 hb (by omega)
 replace f0 := froAt f0 hb (by omega)
 replace f1 := froAt f1 hb (by omega)
 replace n1 : w.heap.size < w2.heap.size := ltAt n1 hb
 replace HB := Lib.hid (lift HB.out hb)
 clear hb
 go_wp2_with fail
 refine (node19_any nmB 1 _).mono ?_
 rintro e w3 ⟨rfl, hb⟩
 replace c0 := cellAt c0 hb (by omega)
 replace c1 := cellAt c1 hb (by omega)
 replace f0 := froAt f0 hb (by omega)
 replace f1 := froAt f1 hb (by omega)
 replace n1 : w.heap.size < w3.heap.size := ltAt n1 hb
 replace HB := Lib.hid (lift HB.out hb)
 clear hb
 go_wp2_with fail
 refine (node19_any nmC 2 _).mono ?_
 rintro e w4 ⟨rfl, hb⟩
 replace c0 := cellAt c0 hb (by omega)
 replace c1 := cellAt c1 hb (by omega)
 replace f0 := froAt f0 hb (by omega)
 replace f1 := froAt f1 hb (by omega)
 replace n1 : w.heap.size < w4.heap.size := ltAt n1 hb
 replace HB := Lib.hid (lift HB.out hb)
 clear hb
 go_wp2_with fail
 refine (node19_any nmD 1 _).mono ?_
 rintro e w5 ⟨rfl, hb⟩
 replace c0 := cellAt c0 hb (by omega)
 replace c1 := cellAt c1 hb (by omega)
 replace f0 := froAt f0 hb (by omega)
 replace f1 := froAt f1 hb (by omega)
 replace n1 : w.heap.size < w5.heap.size := ltAt n1 hb
 replace HB := Lib.hid (lift HB.out hb)
 clear hb
 go_wp2_with fail
 have hb5 := HB.out
 have hz5 := hb5.size
 have q1 : ¬ w.heap.size = w5.heap.size := by omega
 have q2 : ¬ w.heap.size = w5.heap.size + 1 := by omega
 refine bodyPost_ret (v := gV (some ⟨w5.heap.size, 0, none⟩) 4 4 (some ⟨w5.heap.size + 1, 0, none⟩) 4 4) (by simp only [results, Tryz.results63]; go_simp) rfl ⟨some ⟨w5.heap.size, 0, none⟩, 4, some ⟨w5.heap.size + 1, 0, none⟩, 4, rfl, Nat.le_refl _, Nat.le_refl _, ?_, ?_, ?_⟩
 ·have h := Rd.lit ((w5.setCell ⟨w.heap.size, 0, none⟩ (.slice (some ⟨w5.heap.size, 0, none⟩) 4 4)).setCell ⟨w.heap.size, 1, none⟩ (.slice (some ⟨w5.heap.size + 1, 0, none⟩) 4 4)) (ndsC ns19) 39 3 4 rfl
  simp only [World.size_setCell] at h
  exact (h.alloc (by simp) _).more (by simp)
 ·have h := Rd.lit (((w5.setCell ⟨w.heap.size, 0, none⟩ (.slice (some ⟨w5.heap.size, 0, none⟩) 4 4)).setCell ⟨w.heap.size, 1, none⟩ (.slice (some ⟨w5.heap.size + 1, 0, none⟩) 4 4)).alloc (.cells #[sv nmA, .int .i64 4, .int .i64 1, sv nmB, .int .i64 4, .int .i64 1, sv nmC, .int .i64 4, .int .i64 2, sv nmD, .int .i64 4, .int .i64 1] 39)) (edsC es19) 45 3 4 rfl
  simp only [World.size_setCell, World.size_alloc] at h ⊢
  exact h
 ·exact ((((hb5.setCell (by simp) _).setCell (by simp) _).alloc (by simp; omega) _).alloc (by simp; omega) _)
def small19 (ns : List Nd) (es : List Ed) : Bool := decide ((es.length : Int) ≤ 200) && decide ((ns.length : Int) ≤ 64)
theorem small19_iff {ns : List Nd} {es : List Ed} : small19 ns es = true ↔ es.length ≤ 200 ∧ ns.length ≤ 64 := by
 unfold small19
 rw [Bool.and_eq_true, decide_eq_true_eq, decide_eq_true_eq]
 omega
set_option maxHeartbeats 1000000 in
theorem small19_any (An Ae : Option Addr) (cn ce : Nat) (ns : List Nd) (es : List Ed) (w : World) :
  Calls Tryz.prog 26 #[gV An ns.length cn Ae es.length ce] w fun e w' => e = .returned (.bool (small19 ns es)) ∧ Below w.heap.size w w' := by
 have HM := Lib.hid (show small19 ns es = (decide ((es.length : Int) ≤ 200) && decide ((ns.length : Int) ≤ 64)) from rfl)
 go_enter Tryz.func26, Tryz.ntmps26
 by_cases h1 : (es.length : Int) ≤ 200
 ·have d1 : decide ((es.length : Int) ≤ 200) = true := by simpa using h1
  have D1 := Lib.hid d1
  go_wp2_with fail
  go_ret
  exact ⟨ret_bool (by rw [HM.out, D1.out]; simp), bq2⟩
 ·have d1 : decide ((es.length : Int) ≤ 200) = false := by simpa using h1
  have D1 := Lib.hid d1
  go_wp2_with fail
  go_ret
  exact ⟨ret_bool (by rw [HM.out, D1.out]; simp), bq2⟩
def tA : Tr := madeT ns19 es19 [nmB] [] (nmA, 1)
def tC : Tr := madeT ns19 es19 [] [] (nmC, 1)
def tM : Tr := madeT ns19 es19 [] [] (nmA, 1)
theorem sA1 : jobsT [nmB] [] tA.l = [(nmA, 1, 1, 0)] := by unfold tA; rw [made_C]; decide +kernel
theorem sA2 : tA.err = 0 := by unfold tA; rw [made_C]; decide +kernel
theorem sC2 : tC.err = 6 := by unfold tC; rw [made_C]; decide +kernel
theorem sM1 : (jobsT [] [] tM.l).length = 2 := by unfold tM; rw [made_C]; decide +kernel
theorem sM2 : tM.err = 0 := by unfold tM; rw [made_C]; decide +kernel
theorem sM3 : tM.gone.length = 3 := by unfold tM; rw [made_C]; decide +kernel
theorem ok19 : OkE es19 := by
 intro e he
 simp only [es19, List.mem_cons, List.not_mem_nil, or_false] at he
 rcases he with rfl | rfl | rfl | rfl <;> exact ⟨by unfold okS maxLen; decide, by unfold okS maxLen; decide⟩
theorem okn19 : OkNs ns19 := by
 intro e he
 simp only [ns19, List.mem_cons, List.not_mem_nil, or_false] at he
 rcases he with rfl | rfl | rfl | rfl <;> decide
theorem SIn.nil19 (w : World) : SIn w none [] := ⟨Rd.none_, by simp⟩
theorem okJ19 {s : Str} (h : s.length ≤ 100) : okJ (s, 1) := ⟨by show s.length ≤ maxLen; unfold maxLen; omega, rfl⟩
set_option maxRecDepth 100000 in
set_option maxHeartbeats 8000000 in
theorem shown19_any (w : World) : Calls Tryz.prog 25 #[] w fun e w' => e = .returned (.bool true) ∧ Below w.heap.size w w' := by
 have hq := jb_eql
 go_enter Tryz.func25, Tryz.ntmps25
 go_wp2_with fail
 refine (some19_any w).mono ?_
 rintro e w1 ⟨An, cn, Ae, ce, rfl, hcn, hce, hrn, hre, hb⟩
 have HB := Lib.hid hb
 have HG := Lib.hid (show GIw w1 An Ae ns19 es19 from ⟨hrn, hre, okn19, ok19⟩)
 clear hb hrn hre
 go_wp2_with fail
 first | (refine wp_named ?_; intro W2 hW) | (refine calls_named ?_; intro W2 hW)
 have B2 : Below w1.heap.size w1 W2 := by rw [hW]; exact bq2
 replace HB := Lib.hid (lift HB.out B2)
 replace HG := Lib.hid (HG.out.at B2)
 have hu2 : Rd W2 W2.heap.size 1 (some ⟨w1.heap.size, 0, none⟩) 1 (svs [nmB]) := by rw [hW]; exact Rd.lit w1 (svs [nmB]) 9 1 1 rfl
 clear hW
 have HU := Lib.hid hu2
 clear B2 hu2
 have h1 := Build_any An Ae (some ⟨w1.heap.size, 0, none⟩) none cn ce 1 0 ns19 es19 [nmB] [] nmA 1 W2 HG.out ⟨⟨HU.out, by simp⟩, SIn.nil19 _⟩ (by decide) (by decide) (okJ19 (by decide))
 unfold BuildD at h1
 rw [show madeT ns19 es19 [nmB] [] (nmA, 1) = tA from rfl, sA1, sA2] at h1
 refine h1.mono ?_
 clear h1
 rintro e w3 ⟨A3, c3, rfl, ho3, hb⟩
 have HL := Lib.hid (own_rd' ho3)
 replace HB := Lib.hid (lift HB.out hb)
 clear hb ho3 HG HU
 go_wp2_with fail
 refine (some19_any w3).mono ?_
 rintro e w4 ⟨An4, cn4, Ae4, ce4, rfl, hcn4, hce4, hrn, hre, hb⟩
 have HG := Lib.hid (show GIw w4 An4 Ae4 ns19 es19 from ⟨hrn, hre, okn19, ok19⟩)
 replace HB := Lib.hid (lift HB.out hb)
 replace HL := Lib.hid (HL.out.at hb)
 clear hb hrn hre
 go_wp2_with fail
 have h1 := Build_any An4 Ae4 none none cn4 ce4 0 0 ns19 es19 [] [] nmC 1 w4 HG.out ⟨SIn.nil19 _, SIn.nil19 _⟩ (by decide) (by decide) (okJ19 (by decide))
 unfold BuildD at h1
 rw [show madeT ns19 es19 [] [] (nmC, 1) = tC from rfl, sC2] at h1
 refine h1.mono ?_
 clear h1
 rintro e w5 ⟨A5, c5, rfl, ho5, hb⟩
 replace HB := Lib.hid (lift HB.out hb)
 replace HL := Lib.hid (HL.out.at hb)
 clear hb ho5 HG
 generalize (jobsT [] [] tC.l).length = lc
 go_wp2_with fail
 refine (some19_any w5).mono ?_
 rintro e w6 ⟨An6, cn6, Ae6, ce6, rfl, hcn6, hce6, hrn, hre, hb⟩
 have HG := Lib.hid (show GIw w6 An6 Ae6 ns19 es19 from ⟨hrn, hre, okn19, ok19⟩)
 replace HB := Lib.hid (lift HB.out hb)
 replace HL := Lib.hid (HL.out.at hb)
 clear hb hrn hre
 go_wp2_with fail
 have h1 := Build_any An6 Ae6 none none cn6 ce6 0 0 ns19 es19 [] [] nmA 1 w6 HG.out ⟨SIn.nil19 _, SIn.nil19 _⟩ (by decide) (by decide) (okJ19 (by decide))
 unfold BuildD at h1
 rw [show madeT ns19 es19 [] [] (nmA, 1) = tM from rfl, sM1, sM2] at h1
 refine h1.mono ?_
 clear h1
 rintro e w7 ⟨A7, c7, rfl, ho7, hb⟩
 replace HB := Lib.hid (lift HB.out hb)
 replace HL := Lib.hid (HL.out.at hb)
 clear hb ho7 HG
 go_wp2_with fail
 refine (some19_any w7).mono ?_
 rintro e w8 ⟨An8, cn8, Ae8, ce8, rfl, hcn8, hce8, hrn, hre, hb⟩
 have HG := Lib.hid (show GIw w8 An8 Ae8 ns19 es19 from ⟨hrn, hre, okn19, ok19⟩)
 replace HB := Lib.hid (lift HB.out hb)
 replace HL := Lib.hid (HL.out.at hb)
 clear hb hrn hre
 go_wp2_with fail
 have h1 := Gone_any An8 Ae8 none none cn8 ce8 0 0 ns19 es19 [] [] nmA 1 w8 HG.out ⟨SIn.nil19 _, SIn.nil19 _⟩ (by decide) (by decide) (okJ19 (by decide))
 unfold GoneD at h1
 rw [show madeT ns19 es19 [] [] (nmA, 1) = tM from rfl, sM3] at h1
 refine h1.mono ?_
 clear h1
 rintro e w9 ⟨A9, c9, rfl, ho9, hb⟩
 replace HB := Lib.hid (lift HB.out hb)
 replace HL := Lib.hid (HL.out.at hb)
 clear hb ho9 HG
 obtain ⟨p1, q1, hA1, hb1, x0, x1, x2, x3⟩ := Rd.job (q := [(nmA, 1, 1, 0)]) HL.out (i := 0) (by decide)
 subst hA1
 simp only [Nat.zero_mul, Nat.add_zero, List.getElem_cons_zero] at x0 x1 x2 x3
 go_wp2_with fail
 go_ret
 exact ⟨rfl, HB.out⟩
end Od
end Go.Proofs.YtbllehjhmfehbaaGreat
end

section
/- The small words of the reference of layer 19: find, begins, state. (bel2) -/
namespace Go.Proofs.YtbllehjhmfehbaaGreat
open Go.RowKit Go.Sort
set_option linter.unusedSimpArgs false
namespace Od
def isP (u : Str) (t : Int) (p : Pl) : Bool := p.1 == u && p.2.1 == t
theorem find_take {l : List Pl} {u : Str} {t : Int} {k : Nat} (hk : k < l.length) (h0 : (l.take k).any (isP u t) = false) (h1 : isP u t l[k] = true) : l.find? (isP u t) = some l[k] := find_at hk h0 h1
set_option maxRecDepth 100000 in
set_option maxHeartbeats 4000000 in
theorem find17_any (A : Option Addr) (c : Nat) (l : List Pl) (u : Str) (t : Int) (w : World) (hr : Rd w w.heap.size 4 A l.length (plsC l)) (hl : l.length ≤ 1000000) :
  Calls Tryz.prog 111 #[.slice A l.length c, sv u, .int .i64 t] w fun e w' => e = .returned (pullV (l.find? (isP u t))) ∧ Below w.heap.size w w' := by
 have Hr := Lib.hid hr
 clear hr
 go_enter Tryz.func111, Tryz.ntmps111
 go_wp2_with fail
 first | (refine wp_named ?_; intro W1 hW) | (refine calls_named ?_; intro W1 hW)
 have B1 : Below w.heap.size w W1 := by rw [hW]; exact bq2
 replace Hr := Lib.hid (Hr.out.at B1)
 have n1 : w.heap.size < W1.heap.size := by rw [hW]; simp <;> omega
 have r0 : W1.cell? ⟨w.heap.size, 0, none⟩ = some (.string ⟨#[]⟩) := by rw [hW]; go_simp
 have r1 : W1.cell? ⟨w.heap.size, 1, none⟩ = some (.int .i64 0) := by rw [hW]; go_simp
 have r2 : W1.cell? ⟨w.heap.size, 2, none⟩ = some (.bool false) := by rw [hW]; go_simp
 have r3 : W1.cell? ⟨w.heap.size, 3, none⟩ = some (.string ⟨#[]⟩) := by rw [hW]; go_simp
 have z0 : W1.frozen? ⟨w.heap.size, 0, none⟩ = false := by rw [hW]; go_simp
 have z1 : W1.frozen? ⟨w.heap.size, 1, none⟩ = false := by rw [hW]; go_simp
 have z2 : W1.frozen? ⟨w.heap.size, 2, none⟩ = false := by rw [hW]; go_simp
 have z3 : W1.frozen? ⟨w.heap.size, 3, none⟩ = false := by rw [hW]; go_simp
 clear hW
 have HB1 := Lib.hid B1
 have hzz : w.heap.size ≤ W1.heap.size := B1.size
 clear B1
 go_loopw [12] (fun i wr => ∃ k : Nat, k ≤ l.length ∧ i = .int .i64 k ∧ Hid ((l.take k).any (isP u t) = false) ∧ Hid (Below W1.heap.size W1 wr)) (fun i _ => l.length - (intOf i).toNat)
 case atStart => exact ⟨0, Nat.zero_le _, rfl, by simp [Hid], Below.refl _ _⟩
 case round =>
  obtain ⟨k, hk, rfl, HK, HBl⟩ := hrel
  replace r0 := cellAt r0 HBl.out (by omega)
  replace r1 := cellAt r1 HBl.out (by omega)
  replace r2 := cellAt r2 HBl.out (by omega)
  replace r3 := cellAt r3 HBl.out (by omega)
  replace z0 := froAt z0 HBl.out (by omega)
  replace z1 := froAt z1 HBl.out (by omega)
  replace z2 := froAt z2 HBl.out (by omega)
  replace z3 := froAt z3 HBl.out (by omega)
  replace Hr := Lib.hid (Hr.out.at HBl.out)
  replace n1 : w.heap.size < wr.heap.size := ltAt n1 HBl.out
  have hzw := HBl.out.size
  by_cases hlt : k < l.length
  ·obtain ⟨b2, o2, hA, hB2, x0, x1, x2, x3⟩ := Hr.out.pl hlt
   subst hA
   have hnx := find_take (u := u) (t := t) hlt HK.out
   have hany := any_take_succ (p := isP u t) hlt
   rw [HK.out] at hany
   generalize l[k] = p at x0 x1 x2 x3 hnx hany
   obtain ⟨s', t', n', b'⟩ := p
   simp only [isP] at x0 x1 x2 x3 hnx hany
   have HA := Lib.hid hany
   have HX := Lib.hid hnx
   have i1 : (0 : Int) ≤ (k : Int) := by omega
   have i2 : (k : Int) < (l.length : Int) := by omega
   clear hany hnx
   cases hss : (s' == u)
   ·have HA2 := Lib.hid (show (l.take (k + 1)).any (isP u t) = false by show (l.take (k + 1)).any (fun p => p.1 == u && p.2.1 == t) = false; rw [show (l.take (k + 1)).any (fun p => p.1 == u && p.2.1 == t) = _ from HA.out, hss]; rfl)
    go_wp2_with fail
    go_roundw
    case rel => exact ⟨k + 1, by omega, by go_num, HA2.out, HBl.out.alloc hzw _⟩
    case measure => simp [intOf]; omega
   ·cases htt : (t' == t)
    ·have HA2 := Lib.hid (show (l.take (k + 1)).any (isP u t) = false by show (l.take (k + 1)).any (fun p => p.1 == u && p.2.1 == t) = false; rw [show (l.take (k + 1)).any (fun p => p.1 == u && p.2.1 == t) = _ from HA.out, hss, htt]; rfl)
     go_wp2_with fail
     go_roundw
     case rel => exact ⟨k + 1, by omega, by go_num, HA2.out, HBl.out.alloc hzw _⟩
     case measure => simp [intOf]; omega
    ·have HX2 := Lib.hid (HX.out (by rw [hss, htt]; rfl))
     have e1 : s' = u := by simpa using hss
     have e2 : t' = t := by simpa using htt
     subst e1 e2
     clear HX HA
     go_wp2_with fail
     have hB0 := lift HB1.out HBl.out
     refine bodyPost_ret (v := .tuple #[plV (s', t', n', b'), .bool true]) (by simp only [results, Tryz.results111]; go_simp) rfl ⟨by rw [show List.find? (isP s' t') l = _ from HX2.out]; rfl, bq2⟩
  ·have HN := Lib.hid (show l.find? (isP u t) = none from find_none_take (by have := HK.out; rwa [List.take_of_length_le (by omega)] at this))
   go_wp2_with fail
   have hB0 := lift HB1.out HBl.out
   refine bodyPost_ret (v := .tuple #[plV ([], 0, false, []), .bool false]) (by simp only [results, Tryz.results111]; go_simp) rfl ⟨by rw [HN.out]; rfl, bq2⟩
theorem start_find (l : List Pl) (u : Str) : startL l u = ((l.find? (isP u 1)).isSome || (l.find? (isP u 3)).isSome) := by
 rw [Bool.eq_iff_iff, Bool.or_eq_true, List.find?_isSome, List.find?_isSome]
 unfold startL
 rw [List.any_eq_true]
 constructor
 ·rintro ⟨p, hp, h⟩
  rw [Bool.and_eq_true] at h
  unfold beginsP at h
  rw [Bool.or_eq_true] at h
  rcases h with ⟨h1, h2 | h2⟩
  ·exact .inl ⟨p, hp, by unfold isP; rw [h1, h2]; rfl⟩
  ·exact .inr ⟨p, hp, by unfold isP; rw [h1, h2]; rfl⟩
 ·rintro (⟨p, hp, h⟩ | ⟨p, hp, h⟩)
  all_goals
   unfold isP at h
   rw [Bool.and_eq_true] at h
   exact ⟨p, hp, by unfold beginsP; rw [h.1, h.2]; simp⟩
theorem stop_find (l : List Pl) (u : Str) : stopL l u = (l.find? (isP u 2)).isSome := by
 rw [Bool.eq_iff_iff, List.find?_isSome]
 unfold stopL isP
 rw [List.any_eq_true]
set_option maxRecDepth 100000 in
set_option maxHeartbeats 2000000 in
theorem begins17_any (A : Option Addr) (c : Nat) (l : List Pl) (u : Str) (w : World) (hr : Rd w w.heap.size 4 A l.length (plsC l)) (hl : l.length ≤ 1000000) :
  Calls Tryz.prog 112 #[.slice A l.length c, sv u] w fun e w' => e = .returned (.bool (startL l u)) ∧ Below w.heap.size w w' := by
 have Hr := Lib.hid hr
 have HS := Lib.hid (start_find l u)
 clear hr
 go_enter Tryz.func112, Tryz.ntmps112
 go_wp2_with fail
 refine (find17_any A c l u 1 w Hr.out hl).mono ?_
 rintro e w2 ⟨rfl, hb⟩
 have HB2 := Lib.hid hb
 clear hb
 unfold pullV plV
 generalize (l.find? (isP u 1)).isSome = is1 at *
 generalize (l.find? (isP u 1)).getD ([], 0, false, []) = p1
 obtain ⟨s1, t1, n1, b1⟩ := p1
 simp only
 go_wp2_with fail
 have hz2 := HB2.out.size
 first | (refine wp_named ?_; intro W3 hW) | (refine calls_named ?_; intro W3 hW)
 have B3 : Below w2.heap.size w2 W3 := by rw [hW]; exact bq2
 clear hW
 have HB3 := Lib.hid (lift HB2.out B3)
 clear B3
 refine (find17_any A c l u 3 W3 (Hr.out.at HB3.out) hl).mono ?_
 rintro e w4 ⟨rfl, hb⟩
 have HB4 := Lib.hid (lift HB3.out hb)
 clear hb
 unfold pullV plV
 generalize (l.find? (isP u 3)).isSome = is3 at *
 generalize (l.find? (isP u 3)).getD ([], 0, false, []) = p3
 obtain ⟨s3, t3, n3, b3⟩ := p3
 simp only
 have hB0 := HB4.out
 have hz4 := HB4.out.size
 cases is1
 ·go_wp2_with fail
  go_ret
  exact ⟨ret_bool (by rw [HS.out]; rfl), bq2⟩
 ·go_wp2_with fail
  go_ret
  exact ⟨ret_bool (by rw [HS.out]; rfl), bq2⟩
end Od
end Go.Proofs.YtbllehjhmfehbaaGreat
end

section
/- The walks of the reference's names: matinsref1.Letter, Digit, nameByte, Suffix, Of, May. (bel2) -/
namespace Go.Proofs.YtbllehjhmfehbaaGreat
open Go.RowKit
set_option linter.unusedSimpArgs false

namespace Od
set_option maxHeartbeats 1000000 in
theorem Letter1_any (c : Int) (w : World) : Calls Tryz.prog 138 #[.int .u8 c] w fun e w' => e = .returned (.bool (letterB c)) ∧ w = w' := by
 by_cases h1 : (97 : Int) ≤ c
 ·have d1 : decide ((97 : Int) ≤ c) = true := by simpa using h1
  have e3 : decide ((65 : Int) ≤ c) = true := by simp; omega
  by_cases h2 : c ≤ (122 : Int)
  ·have d2 : decide (c ≤ (122 : Int)) = true := by simpa using h2
   go_enter Tryz.func138, Tryz.ntmps138
   go_wp2
   go_ret
   exact ⟨ret_bool (by simp [letterB, d1, d2]), rfl⟩
  ·have d2 : decide (c ≤ (122 : Int)) = false := by simpa using h2
   have d4 : decide (c ≤ (90 : Int)) = false := by simp; omega
   go_enter Tryz.func138, Tryz.ntmps138
   go_wp2
   go_ret
   exact ⟨ret_bool (by simp [letterB, d1, d2, e3, d4]), rfl⟩
 ·have d1 : decide ((97 : Int) ≤ c) = false := by simpa using h1
  by_cases h3 : (65 : Int) ≤ c
  ·have d3 : decide ((65 : Int) ≤ c) = true := by simpa using h3
   go_enter Tryz.func138, Tryz.ntmps138
   go_wp2
   go_ret
   exact ⟨ret_bool (by simp [letterB, d1, d3]), rfl⟩
  ·have d3 : decide ((65 : Int) ≤ c) = false := by simpa using h3
   go_enter Tryz.func138, Tryz.ntmps138
   go_wp2
   go_ret
   exact ⟨ret_bool (by simp [letterB, d1, d3]), rfl⟩
set_option maxHeartbeats 1000000 in
theorem Digit1_any (c : Int) (w : World) : Calls Tryz.prog 139 #[.int .u8 c] w fun e w' => e = .returned (.bool (digitB c)) ∧ w = w' := by
 by_cases h1 : (48 : Int) ≤ c
 ·have d1 : decide ((48 : Int) ≤ c) = true := by simpa using h1
  go_enter Tryz.func139, Tryz.ntmps139
  go_wp2
  go_ret
  exact ⟨ret_bool (by simp [digitB, d1]), rfl⟩
 ·have d1 : decide ((48 : Int) ≤ c) = false := by simpa using h1
  go_enter Tryz.func139, Tryz.ntmps139
  go_wp2
  go_ret
  exact ⟨ret_bool (by simp [digitB, d1]), rfl⟩
def nameB (c : Int) : Bool := letterB c || (digitB c || (c == 58 || (c == 45 || (c == 95 || (c == 46 || c == 92)))))
theorem nameB_ok : ∀ n : Nat, n < 256 → nameB (n : Int) = okB (n : Int) := by decide +kernel
set_option maxHeartbeats 2000000 in
theorem nameByte_any (c : Int) (w : World) : Calls Tryz.prog 101 #[.int .u8 c] w fun e w' => e = .returned (.bool (nameB c)) ∧ w = w' := by
 have HM := Lib.hid (show nameB c = (letterB c || (digitB c || (c == 58 || (c == 45 || (c == 95 || (c == 46 || c == 92)))))) from rfl)
 cases h1 : letterB c
 ·cases h2 : digitB c
  ·cases h3 : (c == 58)
   ·cases h4 : (c == 45)
    ·cases h5 : (c == 95)
     ·cases h6 : (c == 46)
      ·cases h7 : (c == 92)
       ·go_enter Tryz.func101, Tryz.ntmps101
        go_wp2_with fail
        refine (Letter1_any c w).mono ?_
        rintro e w1 ⟨rfl, rfl⟩
        go_wp2_with fail
        refine (Digit1_any c w).mono ?_
        rintro e w1 ⟨rfl, rfl⟩
        go_wp2_with fail
        go_ret
        exact ⟨ret_bool (by rw [HM.out]; simp [*]), rfl⟩
       ·go_enter Tryz.func101, Tryz.ntmps101
        go_wp2_with fail
        refine (Letter1_any c w).mono ?_
        rintro e w1 ⟨rfl, rfl⟩
        go_wp2_with fail
        refine (Digit1_any c w).mono ?_
        rintro e w1 ⟨rfl, rfl⟩
        go_wp2_with fail
        go_ret
        exact ⟨ret_bool (by rw [HM.out]; simp [*]), rfl⟩
      ·go_enter Tryz.func101, Tryz.ntmps101
       go_wp2_with fail
       refine (Letter1_any c w).mono ?_
       rintro e w1 ⟨rfl, rfl⟩
       go_wp2_with fail
       refine (Digit1_any c w).mono ?_
       rintro e w1 ⟨rfl, rfl⟩
       go_wp2_with fail
       go_ret
       exact ⟨ret_bool (by rw [HM.out]; simp [*]), rfl⟩
     ·go_enter Tryz.func101, Tryz.ntmps101
      go_wp2_with fail
      refine (Letter1_any c w).mono ?_
      rintro e w1 ⟨rfl, rfl⟩
      go_wp2_with fail
      refine (Digit1_any c w).mono ?_
      rintro e w1 ⟨rfl, rfl⟩
      go_wp2_with fail
      go_ret
      exact ⟨ret_bool (by rw [HM.out]; simp [*]), rfl⟩
    ·go_enter Tryz.func101, Tryz.ntmps101
     go_wp2_with fail
     refine (Letter1_any c w).mono ?_
     rintro e w1 ⟨rfl, rfl⟩
     go_wp2_with fail
     refine (Digit1_any c w).mono ?_
     rintro e w1 ⟨rfl, rfl⟩
     go_wp2_with fail
     go_ret
     exact ⟨ret_bool (by rw [HM.out]; simp [*]), rfl⟩
   ·go_enter Tryz.func101, Tryz.ntmps101
    go_wp2_with fail
    refine (Letter1_any c w).mono ?_
    rintro e w1 ⟨rfl, rfl⟩
    go_wp2_with fail
    refine (Digit1_any c w).mono ?_
    rintro e w1 ⟨rfl, rfl⟩
    go_wp2_with fail
    go_ret
    exact ⟨ret_bool (by rw [HM.out]; simp [*]), rfl⟩
  ·go_enter Tryz.func101, Tryz.ntmps101
   go_wp2_with fail
   refine (Letter1_any c w).mono ?_
   rintro e w1 ⟨rfl, rfl⟩
   go_wp2_with fail
   refine (Digit1_any c w).mono ?_
   rintro e w1 ⟨rfl, rfl⟩
   go_wp2_with fail
   go_ret
   exact ⟨ret_bool (by rw [HM.out]; simp [*]), rfl⟩
 ·go_enter Tryz.func101, Tryz.ntmps101
  go_wp2_with fail
  refine (Letter1_any c w).mono ?_
  rintro e w1 ⟨rfl, rfl⟩
  go_wp2_with fail
  go_ret
  exact ⟨ret_bool (by rw [HM.out]; simp [*]), rfl⟩
set_option maxHeartbeats 1000000 in
theorem Suffix1_any (k : Int) (w : World) (h1 : 1 ≤ k) (h4 : k ≤ 4) : Calls Tryz.prog 100 #[.int .i64 k] w fun e w' => e = .returned (sv (sufS k)) ∧ w = w' := by
 rcases (show k = 1 ∨ k = 2 ∨ k = 3 ∨ k = 4 by omega) with rfl | rfl | rfl | rfl
 ·go_enter Tryz.func100, Tryz.ntmps100
  go_wp2
  go_ret
  exact ⟨rfl, rfl⟩
 ·go_enter Tryz.func100, Tryz.ntmps100
  go_wp2
  go_ret
  exact ⟨rfl, rfl⟩
 ·go_enter Tryz.func100, Tryz.ntmps100
  go_wp2
  go_ret
  exact ⟨rfl, rfl⟩
 ·go_enter Tryz.func100, Tryz.ntmps100
  go_wp2
  go_ret
  exact ⟨rfl, rfl⟩
/-! A name's pieces -/
def endS (k : Nat) : Str := 46 :: sufS k
def fitsB (s : Str) (k : Nat) : Bool := decide ((endS k).length < s.length) && s.drop (s.length - (endS k).length) == endS k
def pk (s : Str) : Nat → Int × Str
 | 0 => (0, [])
 | k + 1 => if fitsB s (k + 1) = true then ((k + 1 : Nat), s.take (s.length - (endS (k + 1)).length)) else pk s k
end Od
end Go.Proofs.YtbllehjhmfehbaaGreat
end

section
/- Names as texts: the reference's pieces are the program's. No program. -/
namespace Go.Proofs.YtbllehjhmfehbaaGreat
set_option linter.unusedSimpArgs false
namespace Od
theorem last_split {a b t u : Str} (h : a ++ 46 :: t = b ++ 46 :: u) (ht : (46 : UInt8) ∉ t) (hu : (46 : UInt8) ∉ u) : a = b ∧ t = u := by
 rcases List.append_eq_append_iff.1 h with ⟨c, h1, h2⟩ | ⟨c, h1, h2⟩
 ·cases c with
  | nil => simp at h1 h2; exact ⟨h1.symm, h2⟩
  | cons z c =>
   injection h2 with h3 h4
   exact absurd (by rw [h4]; simp) ht
 ·cases c with
  | nil => simp at h1 h2; exact ⟨h1, h2.symm⟩
  | cons z c =>
   injection h2 with h3 h4
   exact absurd (by rw [h4]; simp) hu
theorem last_list (s : Str) : (Lib.lastIndexByte ⟨s.toArray⟩ 46 = -1 ∧ (46 : UInt8) ∉ s) ∨ ∃ i, i < s.length ∧ Lib.lastIndexByte ⟨s.toArray⟩ 46 = (i : Nat) ∧ s = s.take i ++ 46 :: s.drop (i + 1) ∧ (46 : UInt8) ∉ s.drop (i + 1) := by
 have hb : ∀ {j : Nat} (hj : j < s.length), (((⟨s.toArray⟩ : ByteArray).data[j]!).toNat : Int) = (s[j].toNat : Int) := by
  intro j hj; simp [hj]
 have h46 : ∀ b : UInt8, ((b.toNat : Int) = 46) ↔ b = 46 := by
  intro b
  constructor
  ·intro h
   have : b.toNat = (46 : UInt8).toNat := by simp; omega
   exact UInt8.toNat_inj.1 this
  ·intro h; subst h; rfl
 rcases Lib.lastIndexByte_spec ⟨s.toArray⟩ 46 with ⟨h1, h2⟩ | ⟨i, hi, h1, h2, h3⟩
 ·refine .inl ⟨h1, fun hm => ?_⟩
  obtain ⟨j, hj, e⟩ := List.mem_iff_getElem.1 hm
  refine h2 j (by simpa [ByteArray.size] using hj) ?_
  rw [hb hj, e]; rfl
 ·have hi' : i < s.length := by simpa [ByteArray.size] using hi
  rw [hb hi', h46] at h2
  refine .inr ⟨i, hi', h1, ?_, fun hm => ?_⟩
  ·rw [← h2, List.getElem_cons_drop, List.take_append_drop]
  ·obtain ⟨j, hj, e⟩ := List.mem_iff_getElem.1 hm
   rw [List.getElem_drop] at e
   have hj' : i + 1 + j < s.length := by rw [List.length_drop] at hj; omega
   refine h3 (i + 1 + j) (by omega) (by simpa [ByteArray.size] using hj') ?_
   rw [hb hj', e]; rfl
theorem sufS_no {k : Nat} (h1 : 1 ≤ k) (h4 : k ≤ 4) : (46 : UInt8) ∉ sufS k := by
 rcases (show k = 1 ∨ k = 2 ∨ k = 3 ∨ k = 4 by omega) with rfl | rfl | rfl | rfl <;> decide
theorem fits_split {s : Str} {k : Nat} (h : fitsB s k = true) : (endS k).length < s.length ∧ s = s.take (s.length - (endS k).length) ++ 46 :: sufS k := by
 unfold fitsB at h
 rw [Bool.and_eq_true, decide_eq_true_eq, beq_iff_eq] at h
 refine ⟨h.1, ?_⟩
 have h2 : s.drop (s.length - (endS k).length) = 46 :: sufS k := h.2
 rw [← h2, List.take_append_drop]
theorem fits_none {s : Str} {k : Nat} (h : (46 : UInt8) ∉ s) : fitsB s k = false := by
 cases hf : fitsB s k
 ·rfl
 ·exact absurd (by rw [(fits_split hf).2]; simp) h
theorem fits_at {s : Str} {i k : Nat} (h1 : 1 ≤ k) (h4 : k ≤ 4) (hi : i < s.length) (hs : s = s.take i ++ 46 :: s.drop (i + 1)) (hn : (46 : UInt8) ∉ s.drop (i + 1)) : fitsB s k = (decide (0 < i) && decide (sufS k = s.drop (i + 1))) := by
 rw [Bool.eq_iff_iff, Bool.and_eq_true, decide_eq_true_eq, decide_eq_true_eq]
 constructor
 ·intro hf
  obtain ⟨h5, h6⟩ := fits_split hf
  obtain ⟨h7, h8⟩ := last_split (hs.symm.trans h6) hn (sufS_no h1 h4)
  refine ⟨?_, h8.symm⟩
  have := congrArg List.length h7
  rw [List.length_take, List.length_take] at this
  omega
 ·rintro ⟨h5, h6⟩
  have hl : (endS k).length = s.length - i := by
   show (46 :: sufS k).length = _
   rw [List.length_cons, h6, List.length_drop]; omega
  unfold fitsB
  rw [Bool.and_eq_true, decide_eq_true_eq, beq_iff_eq, hl]
  refine ⟨by omega, ?_⟩
  rw [show s.length - (s.length - i) = i by omega]
  show _ = 46 :: sufS k
  rw [h6]
  have h9 : s[i]'hi = 46 := by
   have h10 : s[i]'hi = (s.take i ++ 46 :: s.drop (i + 1))[i]'(by rw [← hs]; exact hi) := by congr 1
   rw [h10, List.getElem_append_right (by rw [List.length_take]; omega)]
   simp [List.length_take, Nat.min_eq_left (Nat.le_of_lt hi)]
  rw [← h9, List.getElem_cons_drop]
theorem pk_cases (s : Str) : (pk s 4 = (0, []) ∧ ((nameCut s).1 = [] ∨ sufK (nameCut s).2 = 0)) ∨ (pk s 4 = (sufK (nameCut s).2, (nameCut s).1) ∧ sufK (nameCut s).2 ≠ 0) := by
 rcases last_list s with ⟨h1, h2⟩ | ⟨i, hi, h1, h2, h3⟩
 ·refine .inl ⟨?_, .inl ?_⟩
  ·simp [pk, fits_none h2]
  ·unfold nameCut; rw [h1]; rfl
 ·have hc : nameCut s = (s.take i, s.drop (i + 1)) := by
   unfold nameCut; rw [h1, if_neg (by omega)]; simp
  have hf : ∀ k, 1 ≤ k → k ≤ 4 → fitsB s k = (decide (0 < i) && decide (sufS k = s.drop (i + 1))) := fun k a b => fits_at a b hi h2 h3
  rw [hc]
  simp only
  have hlen : ∀ k : Nat, sufS k = s.drop (i + 1) → s.take (s.length - (endS k).length) = s.take i := by
   intro k hk
   have hl : (endS k).length = s.length - i := by
    show (46 :: sufS k).length = _
    rw [List.length_cons, hk, List.length_drop]; omega
   rw [hl, show s.length - (s.length - i) = i by omega]
  by_cases h0 : 0 < i
  ·have hf' : ∀ k, 1 ≤ k → k ≤ 4 → fitsB s k = decide (sufS k = s.drop (i + 1)) := fun k a b => by rw [hf k a b]; simp [h0]
   have e1 := hf' 1 (by omega) (by omega)
   have e2 := hf' 2 (by omega) (by omega)
   have e3 := hf' 3 (by omega) (by omega)
   have e4 := hf' 4 (by omega) (by omega)
   have l1 := hlen 1
   have l2 := hlen 2
   have l3 := hlen 3
   have l4 := hlen 4
   generalize s.drop (i + 1) = t at *
   unfold sufK
   simp only [pk, Nat.zero_add, Nat.reduceAdd, e1, e2, e3, e4, decide_eq_true_eq]
   by_cases t1 : sufS 1 = t
   ·subst t1
    exact .inr ⟨by simp [sufS] at l1 ⊢; exact l1, by simp⟩
   ·by_cases t2 : sufS 2 = t
    ·subst t2
     exact .inr ⟨by simp [sufS] at l2 ⊢; exact l2, by simp [sufS]⟩
    ·by_cases t3 : sufS 3 = t
     ·subst t3
      exact .inr ⟨by simp [sufS] at l3 ⊢; exact l3, by simp [sufS]⟩
     ·by_cases t4 : sufS 4 = t
      ·subst t4
       exact .inr ⟨by simp [sufS] at l4 ⊢; exact l4, by simp [sufS]⟩
      ·have u1 : ¬ sufS (1 : Nat) = t := t1
       have u2 : ¬ sufS (2 : Nat) = t := t2
       have u3 : ¬ sufS (3 : Nat) = t := t3
       have u4 : ¬ sufS (4 : Nat) = t := t4
       exact .inl ⟨by rw [if_neg u4, if_neg u3, if_neg u2, if_neg u1], .inr (by rw [if_neg t1, if_neg t2, if_neg t3, if_neg t4])⟩
  ·have hf' : ∀ k, 1 ≤ k → k ≤ 4 → fitsB s k = false := fun k a b => by rw [hf k a b]; simp [h0]
   refine .inl ⟨?_, .inl ?_⟩
   ·simp [pk, hf' 1, hf' 2, hf' 3, hf' 4]
   ·have : i = 0 := by omega
    rw [this]; rfl
/-- A name's pieces: its kind (0: it may not be), its prefix, its instance, whether there is an at. -/
def ofS (s : Str) : Int × Str × Str × Bool :=
 if 60 < s.length ∨ (pk s 4).1 = 0 ∨ (atCut (pk s 4).2).1 = [] ∨ allB nameB ((atCut (pk s 4).2).1 ++ (atCut (pk s 4).2).2) = false then (0, [], [], false)
 else ((pk s 4).1, (atCut (pk s 4).2).1, (atCut (pk s 4).2).2, decide (0 ≤ Lib.indexByte (pk s 4).2 64))
theorem allB_name (s : Str) : allB nameB s = allB okB s := by
 unfold allB
 refine Bool.eq_iff_iff.2 ?_
 rw [List.all_eq_true, List.all_eq_true]
 have h : ∀ c : UInt8, nameB (c.toNat : Int) = okB (c.toNat : Int) := fun c => nameB_ok _ c.toNat_lt
 simp only [h]
theorem allB_app (p : Int → Bool) (a b : Str) : allB p (a ++ b) = (allB p a && allB p b) := by unfold allB; rw [List.all_append]
theorem ofS_kind (s : Str) : (ofS s).1 = kindS s := by
 unfold ofS kindS badName
 rw [allB_name, allB_app]
 rcases pk_cases s with ⟨h1, h2⟩ | ⟨h1, h2⟩
 ·rw [h1, if_pos (.inr (.inl rfl))]
  rcases h2 with h2 | h2
  ·rw [h2]; simp [atCut, Lib.indexByte]
  ·rw [h2]; simp
 ·rw [h1]
  simp only
  by_cases c1 : 60 < s.length
  ·rw [if_pos (.inl c1), if_pos (by simp; omega)]
  ·by_cases c2 : (atCut (nameCut s).1).1 = []
   ·rw [if_pos (.inr (.inr (.inl c2))), if_pos (by simp [c2])]
   ·cases c3 : allB okB (atCut (nameCut s).1).1
    ·rw [if_pos (by simp), if_pos (by simp)]
    ·cases c4 : allB okB (atCut (nameCut s).1).2
     ·rw [if_pos (by simp), if_pos (by simp)]
     ·rw [if_neg (by simp [c2, h2]; omega), if_neg (by simp [c2]; omega)]
end Od
end Go.Proofs.YtbllehjhmfehbaaGreat
end

section
/- The walk of matinsref1.Of. (bel2) -/
namespace Go.Proofs.YtbllehjhmfehbaaGreat
open Go.RowKit
set_option linter.unusedSimpArgs false

namespace Od
abbrev cutC (r : Int × Str × Str × Bool) : Value := .agg #[.int .i64 r.1, sv r.2.1, sv r.2.2.1, .bool r.2.2.2]
theorem end_add (k : Nat) : ((⟨#[46]⟩ : ByteArray) ++ ⟨(sufS k).toArray⟩) = ⟨(endS k).toArray⟩ := by
 apply ByteArray.ext
 simp [endS]
theorem str_add (a b : Str) : ((⟨a.toArray⟩ : ByteArray) ++ ⟨b.toArray⟩) = ⟨(a ++ b).toArray⟩ := by
 apply ByteArray.ext
 simp
/-- The cells of what Of makes. -/
structure OfAt (w0 w : World) (k : Int) (p i : Str) (a : Bool) : Prop where
 lt : w0.heap.size + 1 < w.heap.size
 c0 : w.cell? ⟨w0.heap.size + 1, 0, none⟩ = some (.int .i64 k)
 c1 : w.cell? ⟨w0.heap.size + 1, 1, none⟩ = some (sv p)
 c2 : w.cell? ⟨w0.heap.size + 1, 2, none⟩ = some (sv i)
 c3 : w.cell? ⟨w0.heap.size + 1, 3, none⟩ = some (.bool a)
 r0 : w.cell? ⟨w0.heap.size, 0, none⟩ = some (.int .i64 0)
 r1 : w.cell? ⟨w0.heap.size, 1, none⟩ = some (sv [])
 r2 : w.cell? ⟨w0.heap.size, 2, none⟩ = some (sv [])
 r3 : w.cell? ⟨w0.heap.size, 3, none⟩ = some (.bool false)
 f0 : w.frozen? ⟨w0.heap.size + 1, 0, none⟩ = false
 f1 : w.frozen? ⟨w0.heap.size + 1, 1, none⟩ = false
 f2 : w.frozen? ⟨w0.heap.size + 1, 2, none⟩ = false
 f3 : w.frozen? ⟨w0.heap.size + 1, 3, none⟩ = false
 g0 : w.frozen? ⟨w0.heap.size, 0, none⟩ = false
 g1 : w.frozen? ⟨w0.heap.size, 1, none⟩ = false
 g2 : w.frozen? ⟨w0.heap.size, 2, none⟩ = false
 g3 : w.frozen? ⟨w0.heap.size, 3, none⟩ = false
 bel : Below w0.heap.size w0 w
theorem OfAt.set0 {w0 w : World} {k : Int} {p i : Str} {a : Bool} (h : OfAt w0 w k p i a) (k' : Int) : OfAt w0 (w.setCell ⟨w0.heap.size + 1, 0, none⟩ (.int .i64 k')) k' p i a where
 lt := by rw [World.size_setCell]; exact h.lt
 c0 := World.cell?_setCell_same _ _ _ h.c0
 c1 := (World.cell?_setCell_other _ _ _ _ (by simp)).trans h.c1
 c2 := (World.cell?_setCell_other _ _ _ _ (by simp)).trans h.c2
 c3 := (World.cell?_setCell_other _ _ _ _ (by simp)).trans h.c3
 r0 := (World.cell?_setCell_other _ _ _ _ (by simp)).trans h.r0
 r1 := (World.cell?_setCell_other _ _ _ _ (by simp)).trans h.r1
 r2 := (World.cell?_setCell_other _ _ _ _ (by simp)).trans h.r2
 r3 := (World.cell?_setCell_other _ _ _ _ (by simp)).trans h.r3
 f0 := by rw [World.frozen?_setCell]; exact h.f0
 f1 := by rw [World.frozen?_setCell]; exact h.f1
 f2 := by rw [World.frozen?_setCell]; exact h.f2
 f3 := by rw [World.frozen?_setCell]; exact h.f3
 g0 := by rw [World.frozen?_setCell]; exact h.g0
 g1 := by rw [World.frozen?_setCell]; exact h.g1
 g2 := by rw [World.frozen?_setCell]; exact h.g2
 g3 := by rw [World.frozen?_setCell]; exact h.g3
 bel := h.bel.setCell (by simp) _
theorem OfAt.set1 {w0 w : World} {k : Int} {p i : Str} {a : Bool} (h : OfAt w0 w k p i a) (p' : Str) : OfAt w0 (w.setCell ⟨w0.heap.size + 1, 1, none⟩ (sv p')) k p' i a where
 lt := by rw [World.size_setCell]; exact h.lt
 c0 := (World.cell?_setCell_other _ _ _ _ (by simp)).trans h.c0
 c1 := World.cell?_setCell_same _ _ _ h.c1
 c2 := (World.cell?_setCell_other _ _ _ _ (by simp)).trans h.c2
 c3 := (World.cell?_setCell_other _ _ _ _ (by simp)).trans h.c3
 r0 := (World.cell?_setCell_other _ _ _ _ (by simp)).trans h.r0
 r1 := (World.cell?_setCell_other _ _ _ _ (by simp)).trans h.r1
 r2 := (World.cell?_setCell_other _ _ _ _ (by simp)).trans h.r2
 r3 := (World.cell?_setCell_other _ _ _ _ (by simp)).trans h.r3
 f0 := by rw [World.frozen?_setCell]; exact h.f0
 f1 := by rw [World.frozen?_setCell]; exact h.f1
 f2 := by rw [World.frozen?_setCell]; exact h.f2
 f3 := by rw [World.frozen?_setCell]; exact h.f3
 g0 := by rw [World.frozen?_setCell]; exact h.g0
 g1 := by rw [World.frozen?_setCell]; exact h.g1
 g2 := by rw [World.frozen?_setCell]; exact h.g2
 g3 := by rw [World.frozen?_setCell]; exact h.g3
 bel := h.bel.setCell (by simp) _
theorem OfAt.set2 {w0 w : World} {k : Int} {p i : Str} {a : Bool} (h : OfAt w0 w k p i a) (i' : Str) : OfAt w0 (w.setCell ⟨w0.heap.size + 1, 2, none⟩ (sv i')) k p i' a where
 lt := by rw [World.size_setCell]; exact h.lt
 c0 := (World.cell?_setCell_other _ _ _ _ (by simp)).trans h.c0
 c1 := (World.cell?_setCell_other _ _ _ _ (by simp)).trans h.c1
 c2 := World.cell?_setCell_same _ _ _ h.c2
 c3 := (World.cell?_setCell_other _ _ _ _ (by simp)).trans h.c3
 r0 := (World.cell?_setCell_other _ _ _ _ (by simp)).trans h.r0
 r1 := (World.cell?_setCell_other _ _ _ _ (by simp)).trans h.r1
 r2 := (World.cell?_setCell_other _ _ _ _ (by simp)).trans h.r2
 r3 := (World.cell?_setCell_other _ _ _ _ (by simp)).trans h.r3
 f0 := by rw [World.frozen?_setCell]; exact h.f0
 f1 := by rw [World.frozen?_setCell]; exact h.f1
 f2 := by rw [World.frozen?_setCell]; exact h.f2
 f3 := by rw [World.frozen?_setCell]; exact h.f3
 g0 := by rw [World.frozen?_setCell]; exact h.g0
 g1 := by rw [World.frozen?_setCell]; exact h.g1
 g2 := by rw [World.frozen?_setCell]; exact h.g2
 g3 := by rw [World.frozen?_setCell]; exact h.g3
 bel := h.bel.setCell (by simp) _
theorem OfAt.set3 {w0 w : World} {k : Int} {p i : Str} {a : Bool} (h : OfAt w0 w k p i a) (a' : Bool) : OfAt w0 (w.setCell ⟨w0.heap.size + 1, 3, none⟩ (.bool a')) k p i a' where
 lt := by rw [World.size_setCell]; exact h.lt
 c0 := (World.cell?_setCell_other _ _ _ _ (by simp)).trans h.c0
 c1 := (World.cell?_setCell_other _ _ _ _ (by simp)).trans h.c1
 c2 := (World.cell?_setCell_other _ _ _ _ (by simp)).trans h.c2
 c3 := World.cell?_setCell_same _ _ _ h.c3
 r0 := (World.cell?_setCell_other _ _ _ _ (by simp)).trans h.r0
 r1 := (World.cell?_setCell_other _ _ _ _ (by simp)).trans h.r1
 r2 := (World.cell?_setCell_other _ _ _ _ (by simp)).trans h.r2
 r3 := (World.cell?_setCell_other _ _ _ _ (by simp)).trans h.r3
 f0 := by rw [World.frozen?_setCell]; exact h.f0
 f1 := by rw [World.frozen?_setCell]; exact h.f1
 f2 := by rw [World.frozen?_setCell]; exact h.f2
 f3 := by rw [World.frozen?_setCell]; exact h.f3
 g0 := by rw [World.frozen?_setCell]; exact h.g0
 g1 := by rw [World.frozen?_setCell]; exact h.g1
 g2 := by rw [World.frozen?_setCell]; exact h.g2
 g3 := by rw [World.frozen?_setCell]; exact h.g3
 bel := h.bel.setCell (by simp) _
theorem OfAt.drew {w0 w : World} {k : Int} {p i : Str} {a : Bool} (h : OfAt w0 w k p i a) : OfAt w0 w.drew k p i a := ⟨h.lt, h.c0, h.c1, h.c2, h.c3, h.r0, h.r1, h.r2, h.r3, h.f0, h.f1, h.f2, h.f3, h.g0, h.g1, h.g2, h.g3, h.bel.drew⟩
theorem atCut_none {s : Str} (h : ∀ j (hj : j < s.length), s[j] ≠ 64) : Lib.indexByte s 64 = -1 := by
 rcases (show Lib.indexByte s 64 < 0 ∨ 0 ≤ Lib.indexByte s 64 by omega) with h1 | h1
 ·have := Lib.indexByte_ge s 64; omega
 ·obtain ⟨i, hi⟩ : ∃ i : Nat, Lib.indexByte s 64 = i := ⟨(Lib.indexByte s 64).toNat, by omega⟩
  have h2 := (Lib.indexByte_some hi).1
  obtain ⟨h3, h4⟩ := List.getElem?_eq_some_iff.1 h2
  exact absurd h4 (h i h3)
theorem atCut_first {s : Str} {i : Nat} (hi : i < s.length) (h0 : s[i] = 64) (h : ∀ j (hj : j < s.length), j < i → s[j] ≠ 64) : Lib.indexByte s 64 = i := by
 have hge := Lib.indexByte_ge s 64
 rcases (show Lib.indexByte s 64 < 0 ∨ 0 ≤ Lib.indexByte s 64 by omega) with h1 | h1
 ·have h2 : Lib.indexByte s 64 = -1 := by omega
  exact absurd (by rw [List.getElem?_eq_getElem hi, h0]) (Lib.indexByte_none h2 i)
 ·obtain ⟨m, hm⟩ : ∃ m : Nat, Lib.indexByte s 64 = m := ⟨(Lib.indexByte s 64).toNat, by omega⟩
  obtain ⟨h2, h3⟩ := Lib.indexByte_some hm
  obtain ⟨h4, h5⟩ := List.getElem?_eq_some_iff.1 h2
  rcases Nat.lt_trichotomy m i with h6 | h6 | h6
  ·exact absurd h5 (h m h4 h6)
  ·rw [hm, h6]
  ·exact absurd (by rw [List.getElem?_eq_getElem hi, h0]) (h3 i h6)
theorem pk_len (s : Str) : ∀ k, (pk s k).2.length ≤ s.length
 | 0 => by simp [pk]
 | k + 1 => by
  unfold pk
  split
  ·simp
  ·exact pk_len s k
theorem endS_len (k : Nat) : (endS k).length ≤ 8 := by
 unfold endS sufS
 split
 ·decide
 ·split
  ·decide
  ·split
   ·decide
   ·split <;> decide
end Od
end Go.Proofs.YtbllehjhmfehbaaGreat
end

section
/- The walk of matinsref1.Of. (bel2) -/
namespace Go.Proofs.YtbllehjhmfehbaaGreat
open Go.RowKit
set_option linter.unusedSimpArgs false

namespace Od
theorem exit_named {Q : Exit → Act → World → Prop} {e : Exit} {a : Act} {w : World} (h : ∀ W, W = w → Q e a W) : Q e a w := h w rfl
set_option maxRecDepth 100000 in
set_option maxHeartbeats 16000000 in
theorem Of_any (s : Str) (w : World) (hl : s.length ≤ 140737488355328) : Calls Tryz.prog 55 #[sv s] w fun e w' => e = .returned (cutC (ofS s)) ∧ Below w.heap.size w w' := by
 by_cases h60 : (60 : Int) < (s.length : Int)
 ·have d60 : decide ((60 : Int) < (s.length : Int)) = true := by simpa using h60
  have HO := Lib.hid (show ofS s = (0, [], [], false) by unfold ofS; rw [if_pos (.inl (by omega))])
  go_enter Tryz.func55, Tryz.ntmps55
  go_wp2_with fail
  refine bodyPost_ret (v := cutC (0, [], [], false)) (by simp only [results, Tryz.results55]; go_simp) rfl ⟨by rw [HO.out], bq2⟩
 ·have d60 : decide ((60 : Int) < (s.length : Int)) = false := by simpa using h60
  have H60 := Lib.hid h60
  clear h60
  go_enter Tryz.func55, Tryz.ntmps55
  go_wp2_with fail
  go_loopw [5, 4] (fun i rst wr => ∃ k : Nat, k ≤ 4 ∧ i = .int .i64 ((k : Int) + 1) ∧ rst = sv (pk s k).2 ∧ OfAt w wr (pk s k).1 [] [] false) (fun i _ _ => 5 - (intOf i).toNat)
  case atStart => exact ⟨0, by omega, rfl, rfl, show OfAt w _ 0 [] [] false from ⟨by simp, by go_simp, by go_simp, by go_simp, by go_simp, by go_simp, by go_simp, by go_simp, by go_simp, by go_simp, by go_simp, by go_simp, by go_simp, by go_simp, by go_simp, by go_simp, by go_simp, bq2⟩⟩
  case round =>
   obtain ⟨k, hk, rfl, rfl, ho⟩ := hrel
   have HA := Lib.hid ho
   clear ho
   by_cases hlt : k < 4
   ·have dk : decide ((k : Int) + 1 ≤ 4) = true := by simp; omega
    have he := end_add (k + 1)
    have hek : ((k + 1 : Nat) : Int) = (k : Int) + 1 := by omega
    rw [hek] at he
    have hel := endS_len (k + 1)
    have hsl : (endS (k + 1)).length = 1 + (sufS ((k : Int) + 1)).length := by rw [← hek]; simp [endS]; omega
    have hns : ¬ 9223372036854775807 < 1 + (sufS ((k : Int) + 1)).length := by omega
    have hpk : pk s (k + 1) = if fitsB s (k + 1) = true then (((k + 1 : Nat) : Int), s.take (s.length - (endS (k + 1)).length)) else pk s k := rfl
    have hex := extract_str s (s.length - (endS (k + 1)).length) s.length
    rw [List.take_length] at hex
    clear hsl
    have hfit : fitsB s (k + 1) = (decide ((endS (k + 1)).length < s.length) && s.drop (s.length - (endS (k + 1)).length) == endS (k + 1)) := rfl
    by_cases hle : (endS (k + 1)).length < s.length
    ·cases hse : (s.drop (s.length - (endS (k + 1)).length) == endS (k + 1))
     ·have HPK := Lib.hid (hpk.trans (if_neg (by rw [hfit]; simp [hse])))
      clear hpk hfit
      obtain ⟨lt, c0, c1, c2, c3, r0, r1, r2, r3, f0, f1, f2, f3, g0, g1, g2, g3, bel⟩ := HA.out
      go_wp2_with fail
      refine (Suffix1_any ((k : Int) + 1) wr (by omega) (by omega)).mono ?_
      rintro e w5 ⟨rfl, rfl⟩
      go_wp2_with fail
      go_roundw
      case rel => exact ⟨k + 1, by omega, by go_num, by rw [HPK.out], by rw [HPK.out]; exact HA.out⟩
      case measure => simp [intOf]; omega
     ·have HPK := Lib.hid (hpk.trans (if_pos (by rw [hfit]; simp [hse, hle])))
      have hex2 := extract_str s 0 (s.length - (endS (k + 1)).length)
      rw [List.drop_zero] at hex2
      clear hpk hfit
      obtain ⟨lt, c0, c1, c2, c3, r0, r1, r2, r3, f0, f1, f2, f3, g0, g1, g2, g3, bel⟩ := HA.out
      go_wp2_with fail
      refine (Suffix1_any ((k : Int) + 1) wr (by omega) (by omega)).mono ?_
      rintro e w5 ⟨rfl, rfl⟩
      go_wp2_with fail
      go_region
      go_wp2_with fail
      go_roundw
      case rel => exact ⟨k + 1, by omega, by go_num, by rw [HPK.out], by rw [HPK.out]; exact (HA.out.set0 _).drew⟩
      case measure => simp [intOf]; omega
    ·have HPK := Lib.hid (hpk.trans (if_neg (by rw [hfit]; simp [hle])))
     clear hpk hfit
     obtain ⟨lt, c0, c1, c2, c3, r0, r1, r2, r3, f0, f1, f2, f3, g0, g1, g2, g3, bel⟩ := HA.out
     go_wp2_with fail
     refine (Suffix1_any ((k : Int) + 1) wr (by omega) (by omega)).mono ?_
     rintro e w5 ⟨rfl, rfl⟩
     go_wp2_with fail
     go_roundw
     case rel => exact ⟨k + 1, by omega, by go_num, by rw [HPK.out], by rw [HPK.out]; exact HA.out⟩
     case measure => simp [intOf]; omega
   ·have hk4 : k = 4 := by omega
    subst hk4
    have hpl := pk_len s 4
    have hof : (pk s 4).1 = 0 → ofS s = (0, [], [], false) := fun h => by unfold ofS; rw [if_pos (.inr (.inl h))]
    have hof2 : (pk s 4).1 ≠ 0 → ∀ pre ins at_, Lib.indexByte (pk s 4).2 64 = at_ → atCut (pk s 4).2 = (pre, ins) → (pre = [] → ofS s = (0, [], [], false)) ∧ (allB nameB (pre ++ ins) = false → ofS s = (0, [], [], false)) ∧ (pre ≠ [] → allB nameB (pre ++ ins) = true → ofS s = ((pk s 4).1, pre, ins, decide (0 ≤ at_))) := by
     intro h0 pre ins at_ hi hc
     have h60 := H60.out
     refine ⟨fun h => ?_, fun h => ?_, fun h h' => ?_⟩
     ·unfold ofS; rw [if_pos (.inr (.inr (.inl (by rw [hc]; exact h))))]
     ·unfold ofS; rw [if_pos (.inr (.inr (.inr (by rw [hc]; exact h))))]
     ·unfold ofS; rw [hc, hi, if_neg]
      rintro (g | g | g | g)
      ·omega
      ·exact h0 g
      ·exact h g
      ·rw [h'] at g; cases g
    generalize hq : pk s 4 = q at *
    obtain ⟨kd, rest⟩ := q
    simp only at hof hof2 hpl HA
    clear hq
    by_cases hkd : kd = 0
    ·have HO := Lib.hid (hof hkd)
     clear hof hof2
     obtain ⟨lt, c0, c1, c2, c3, r0, r1, r2, r3, f0, f1, f2, f3, g0, g1, g2, g3, bel⟩ := HA.out
     go_wp2_with fail
     refine bodyPost_ret (v := cutC (0, [], [], false)) (by simp only [results, Tryz.results55]; go_simp) rfl ⟨by rw [HO.out], bq2⟩
    ·have HF2 := Lib.hid (hof2 hkd)
     clear hof hof2
     obtain ⟨lt, c0, c1, c2, c3, r0, r1, r2, r3, f0, f1, f2, f3, g0, g1, g2, g3, bel⟩ := HA.out
     go_wp2_with fail
     obtain ⟨w9, hw9⟩ : ∃ w9, w9 = wr.setCell ⟨w.heap.size + 1, 1, none⟩ (sv rest) := ⟨_, rfl⟩
     have ha9 := HA.out.set1 rest
     rw [← hw9] at ha9
     rw [← hw9]
     clear lt c0 c1 c2 c3 r0 r1 r2 r3 f0 f1 f2 f3 g0 g1 g2 g3 bel
     have HA9 := Lib.hid ha9
     clear ha9 hw9 HA
     go_loop [7] (fun i => ∃ k : Nat, k ≤ rest.length ∧ i = .int .i64 k ∧ Hid (∀ j (hj : j < rest.length), j < k → rest[j] ≠ 64)) (fun i => rest.length - (intOf i).toNat)
     case atStart => exact ⟨0, Nat.zero_le _, rfl, fun j _ h => absurd h (by omega)⟩
     case round =>
      obtain ⟨k2, hk2, rfl, hall2⟩ := hrel
      by_cases hlt2 : k2 < rest.length
      ·have hex := extract_str rest 0 k2
       have hex2 := extract_str rest (k2 + 1) rest.length
       rw [List.drop_zero] at hex
       rw [List.take_length] at hex2
       by_cases h64 : rest[k2] = 64
       ·have hidx := atCut_first hlt2 h64 hall2.out
        have hcut : atCut rest = (rest.take k2, rest.drop (k2 + 1)) := by
         unfold atCut; rw [hidx, if_pos (by omega)]; simp
        have hof := HF2.out _ _ _ hidx hcut
        rw [show decide ((0 : Int) ≤ (k2 : Int)) = true from by simp] at hof
        have hpl : (rest.take k2).length + (rest.drop (k2 + 1)).length ≤ 140737488355328 := by simp; omega
        have hlt2' := hlt2
        generalize rest.take k2 = pre at *
        generalize rest.drop (k2 + 1) = ins at *
        have hb : ((((({ data := rest.toArray } : ByteArray)[k2]'hlt2).toNat : Nat) : Int) == 64) = true := by show ((rest[k2].toNat : Int) == 64) = true; rw [h64]; rfl
        obtain ⟨lt, c0, c1, c2, c3, r0, r1, r2, r3, f0, f1, f2, f3, g0, g1, g2, g3, bel⟩ := HA9.out
        go_wp2_with fail
        go_region
        refine exit_named ?_
        intro W hW
        have HA := Lib.hid (show OfAt w W kd pre ins true by rw [hW]; exact (((HA9.out.set3 true).set1 pre).set2 ins).drew)
        clear lt c0 c1 c2 c3 r0 r1 r2 r3 f0 f1 f2 f3 g0 g1 g2 g3 bel
        clear hW
        obtain ⟨L, hL⟩ : ∃ L, L = pre ++ ins := ⟨_, rfl⟩
        have hsum := str_add pre ins
        rw [← hL] at hof hsum
        have hLn : L.length = pre.length + ins.length := by rw [hL]; simp
        clear hL
        have HF := Lib.hid hof
        have HP := Lib.hid hpl
        clear hof
        cases hp0 : (pre == ([] : Str))
        ·have hpp : ¬ pre = [] := by simpa using hp0
         have HP0 := Lib.hid hpp
         have he0 : (pre).isEmpty = false := by simp [hpp]
         have hnb : ¬ 9223372036854775807 < pre.length + ins.length := by omega
         clear hpp
         obtain ⟨lt, c0, c1, c2, c3, r0, r1, r2, r3, f0, f1, f2, f3, g0, g1, g2, g3, bel⟩ := HA.out
         go_wp2_with fail
         go_loop [9] (fun i => ∃ k : Nat, k ≤ L.length ∧ i = .int .i64 k ∧ Hid (allB nameB (L.take k) = true)) (fun i => L.length - (intOf i).toNat)
         case atStart => exact ⟨0, Nat.zero_le _, rfl, by simp [Hid, allB]⟩
         case round =>
          obtain ⟨k3, hk3, rfl, hall⟩ := hrel
          by_cases hlt3 : k3 < L.length
          ·have h1 : allB nameB (L.take (k3 + 1)) = (allB nameB (L.take k3) && nameB (L[k3].toNat : Int)) := by
            unfold allB; rw [List.take_succ_eq_append_getElem hlt3, List.all_append]; simp
           have h2 : nameB (L[k3].toNat : Int) = false → allB nameB L = false := fun h => by
            unfold allB; rw [List.all_eq_false]; exact ⟨L[k3], List.getElem_mem hlt3, by simp [h]⟩
           have H1 := Lib.hid h1
           have H2 := Lib.hid h2
           clear h1 h2
           go_wp2_with fail
           refine (nameByte_any (L[k3].toNat : Int) _).mono ?_
           rintro e v ⟨rfl, rfl⟩
           cases hpc : nameB (L[k3].toNat : Int)
           ·have H3 := Lib.hid (H2.out hpc)
            go_wp2_with fail
            refine bodyPost_ret (v := cutC (0, [], [], false)) (by simp only [results, Tryz.results55]; go_simp) rfl ⟨by rw [HF.out.2.1 H3.out], bq2⟩
           ·have H3 := Lib.hid hpc
            go_wp2_with fail
            go_round
            case rel => exact ⟨k3 + 1, by omega, by go_num, by show _ = true; rw [H1.out, hall.out, H3.out]; rfl⟩
            case measure => simp [intOf]; omega
          ·have hkn : k3 = L.length := by omega
           subst hkn
           have h := hall.out
           rw [List.take_length] at h
           have H4 := Lib.hid h
           clear h
           go_wp2_with fail
           refine bodyPost_ret (v := cutC (kd, pre, ins, true)) (by simp only [results, Tryz.results55]; go_simp) rfl ⟨by rw [HF.out.2.2 HP0.out H4.out], bq2⟩
        ·have hpp : pre = [] := by simpa using hp0
         have HP0 := Lib.hid hpp
         have he0 : (pre).isEmpty = true := by simp [hpp]
         clear hpp
         obtain ⟨lt, c0, c1, c2, c3, r0, r1, r2, r3, f0, f1, f2, f3, g0, g1, g2, g3, bel⟩ := HA.out
         go_wp2_with fail
         refine bodyPost_ret (v := cutC (0, [], [], false)) (by simp only [results, Tryz.results55]; go_simp) rfl ⟨by rw [HF.out.1 HP0.out], bq2⟩
       ·have hb : ((((({ data := rest.toArray } : ByteArray)[k2]'hlt2).toNat : Nat) : Int) == 64) = false := by
         show ((rest[k2].toNat : Int) == 64) = false
         rw [beq_eq_false_iff_ne]; intro h; exact h64 (UInt8.toNat_inj.1 (by simp; omega))
        have H64 := Lib.hid h64
        clear h64
        go_wp2_with fail
        go_round
        case rel =>
         refine ⟨k2 + 1, by omega, by go_num, fun j h1 h2 => ?_⟩
         by_cases e : j = k2
         ·subst e; exact H64.out
         ·exact hall2.out j h1 (by omega)
        case measure => simp [intOf]; omega
      ·have hcut : atCut rest = (rest, []) := by
        unfold atCut; rw [atCut_none (fun j hj => hall2.out j hj (by omega)), if_neg (by omega)]
       have hof := HF2.out rest [] _ (atCut_none (fun j hj => hall2.out j hj (by omega))) hcut
       have HA := HA9
       rw [List.append_nil] at hof
       have hpl : rest.length ≤ 140737488355328 := by omega
       have HF := Lib.hid hof
       have HP := Lib.hid hpl
       clear hof
       cases hp0 : (rest == ([] : Str))
       ·have hpp : ¬ rest = [] := by simpa using hp0
        have HP0 := Lib.hid hpp
        have he0 : (rest).isEmpty = false := by simp [hpp]
        have hnb : ¬ 9223372036854775807 < rest.length := by omega
        clear hpp
        obtain ⟨lt, c0, c1, c2, c3, r0, r1, r2, r3, f0, f1, f2, f3, g0, g1, g2, g3, bel⟩ := HA.out
        go_wp2_with fail
        go_loop [9] (fun i => ∃ k : Nat, k ≤ rest.length ∧ i = .int .i64 k ∧ Hid (allB nameB (rest.take k) = true)) (fun i => rest.length - (intOf i).toNat)
        case atStart => exact ⟨0, Nat.zero_le _, rfl, by simp [Hid, allB]⟩
        case round =>
         obtain ⟨k3, hk3, rfl, hall⟩ := hrel
         by_cases hlt3 : k3 < rest.length
         ·have h1 : allB nameB (rest.take (k3 + 1)) = (allB nameB (rest.take k3) && nameB (rest[k3].toNat : Int)) := by
           unfold allB; rw [List.take_succ_eq_append_getElem hlt3, List.all_append]; simp
          have h2 : nameB (rest[k3].toNat : Int) = false → allB nameB rest = false := fun h => by
           unfold allB; rw [List.all_eq_false]; exact ⟨rest[k3], List.getElem_mem hlt3, by simp [h]⟩
          have H1 := Lib.hid h1
          have H2 := Lib.hid h2
          clear h1 h2
          go_wp2_with fail
          refine (nameByte_any (rest[k3].toNat : Int) _).mono ?_
          rintro e v ⟨rfl, rfl⟩
          cases hpc : nameB (rest[k3].toNat : Int)
          ·have H3 := Lib.hid (H2.out hpc)
           go_wp2_with fail
           refine bodyPost_ret (v := cutC (0, [], [], false)) (by simp only [results, Tryz.results55]; go_simp) rfl ⟨by rw [HF.out.2.1 H3.out], bq2⟩
          ·have H3 := Lib.hid hpc
           go_wp2_with fail
           go_round
           case rel => exact ⟨k3 + 1, by omega, by go_num, by show _ = true; rw [H1.out, hall.out, H3.out]; rfl⟩
           case measure => simp [intOf]; omega
         ·have hkn : k3 = rest.length := by omega
          subst hkn
          have h := hall.out
          rw [List.take_length] at h
          have H4 := Lib.hid h
          clear h
          go_wp2_with fail
          refine bodyPost_ret (v := cutC (kd, rest, [], (decide ((0 : Int) ≤ -1)))) (by simp only [results, Tryz.results55]; go_simp) rfl ⟨by rw [HF.out.2.2 HP0.out H4.out], bq2⟩
       ·have hpp : rest = [] := by simpa using hp0
        have HP0 := Lib.hid hpp
        have he0 : (rest).isEmpty = true := by simp [hpp]
        clear hpp
        obtain ⟨lt, c0, c1, c2, c3, r0, r1, r2, r3, f0, f1, f2, f3, g0, g1, g2, g3, bel⟩ := HA.out
        go_wp2_with fail
        refine bodyPost_ret (v := cutC (0, [], [], false)) (by simp only [results, Tryz.results55]; go_simp) rfl ⟨by rw [HF.out.1 HP0.out], bq2⟩
end Od
end Go.Proofs.YtbllehjhmfehbaaGreat
end

section
/- The walks of matinsref15.less and matinsref15.Node; matinsref1.Of by its kind alone. (bel2) -/
namespace Go.Proofs.YtbllehjhmfehbaaGreat
open Go.RowKit
set_option linter.unusedSimpArgs false

namespace Od
def OfK (s : Str) (w : World) (e : Ending) (w' : World) : Prop := ∃ p i a, e = .returned (cutC (kindS s, p, i, a)) ∧ Below w.heap.size w w'
theorem OfK_any (s : Str) (w : World) (hl : s.length ≤ 140737488355328) : Calls Tryz.prog 55 #[sv s] w (OfK s w) :=
 (Of_any s w hl).mono fun e w' ⟨h, hb⟩ => ⟨(ofS s).2.1, (ofS s).2.2.1, (ofS s).2.2.2, by rw [h, ← ofS_kind], hb⟩
set_option maxRecDepth 100000 in
theorem field_kind : ∀ (k : Int) (p i : Str) (a : Bool) (v : World), (Instr.field 100 (cutC (k, p, i, a)) 0).run Tryz.prog v = .ok (.int .i64 k) v := fun _ _ _ _ _ => by kernel_rfl
set_option maxRecDepth 100000 in
set_option maxHeartbeats 4000000 in
theorem less15_any (a b a' b' : Str) (x y : Int) (w : World) :
  Calls Tryz.prog 56 #[.agg #[sv a, sv b, .int .i64 x], .agg #[sv a', sv b', .int .i64 y]] w fun e w' => e = .returned (.bool (ltE (a, b, x) (a', b', y))) ∧ Below w.heap.size w w' := by
 have HM := Lib.hid (show ltE (a, b, x) (a', b', y) = (ltS a a' || (a == a' && (ltS b b' || (b == b' && decide (x < y))))) from rfl)
 cases h1 : (a == a')
 ·cases h2 : Op.bytesLess a a'
  ·go_enter Tryz.func56, Tryz.ntmps56
   go_wp2_with fail
   go_ret
   exact ⟨ret_bool (by rw [HM.out]; simp [ltS, h1, h2]), bq2⟩
  ·go_enter Tryz.func56, Tryz.ntmps56
   go_wp2_with fail
   go_ret
   exact ⟨ret_bool (by rw [HM.out]; simp [ltS, h1, h2]), bq2⟩
 ·have e1 : a = a' := by simpa using h1
  subst e1
  have h2 : Op.bytesLess a a = false := toS.irrefl a
  cases h3 : (b == b')
  ·cases h4 : Op.bytesLess b b'
   ·go_enter Tryz.func56, Tryz.ntmps56
    go_wp2_with fail
    go_ret
    exact ⟨ret_bool (by rw [HM.out]; simp [ltS, h2, h3, h4]), bq2⟩
   ·go_enter Tryz.func56, Tryz.ntmps56
    go_wp2_with fail
    go_ret
    exact ⟨ret_bool (by rw [HM.out]; simp [ltS, h2, h3, h4]), bq2⟩
  ·have e2 : b = b' := by simpa using h3
   subst e2
   have h4 : Op.bytesLess b b = false := toS.irrefl b
   go_enter Tryz.func56, Tryz.ntmps56
   go_wp2_with fail
   go_ret
   exact ⟨ret_bool (by rw [HM.out]; simp [ltS, h2, h4]), bq2⟩
theorem nodeOf_at {ns : List Nd} {s : Str} {k : Nat} (hk : k < ns.length) (h0 : (ns.take k).any (fun n => n.1 == s) = false) (h : (ns[k].1 == s) = true) : nodeOf ns s = some ns[k] := find_at hk h0 h
set_option maxRecDepth 100000 in
set_option maxHeartbeats 4000000 in
theorem Node15_any (An Ae : Option Addr) (ne cn ce : Nat) (ns : List Nd) (s : Str) (w : World) (hr : Rd w w.heap.size 3 An ns.length (ndsC ns)) (hl : ns.length ≤ 1000000) :
  Calls Tryz.prog 49 #[gV An ns.length cn Ae ne ce, sv s] w fun e w' => e = .returned (nodeV (nodeOf ns s)) ∧ Below w.heap.size w w' := by
 have Hr := Lib.hid hr
 clear hr
 go_enter Tryz.func49, Tryz.ntmps49
 go_wp2_with fail
 first | (refine wp_named ?_; intro W1 hW) | (refine calls_named ?_; intro W1 hW)
 have B1 : Below w.heap.size w W1 := by rw [hW]; exact bq2
 replace Hr := Lib.hid (Hr.out.at B1)
 have n1 : w.heap.size < W1.heap.size := by rw [hW]; simp <;> omega
 have n2 : w.heap.size + 1 < W1.heap.size := by rw [hW]; simp <;> omega
 have g0 : W1.cell? ⟨w.heap.size, 0, none⟩ = some (.slice An ns.length cn) := by rw [hW]; go_simp
 have g1 : W1.cell? ⟨w.heap.size, 1, none⟩ = some (.slice Ae ne ce) := by rw [hW]; go_simp
 have r0 : W1.cell? ⟨w.heap.size + 1, 0, none⟩ = some (sv []) := by rw [hW]; go_simp
 have r1 : W1.cell? ⟨w.heap.size + 1, 1, none⟩ = some (.int .i64 0) := by rw [hW]; go_simp
 have r2 : W1.cell? ⟨w.heap.size + 1, 2, none⟩ = some (.int .i64 0) := by rw [hW]; go_simp
 have f0 : W1.frozen? ⟨w.heap.size + 1, 0, none⟩ = false := by rw [hW]; go_simp
 have f1 : W1.frozen? ⟨w.heap.size + 1, 1, none⟩ = false := by rw [hW]; go_simp
 have f2 : W1.frozen? ⟨w.heap.size + 1, 2, none⟩ = false := by rw [hW]; go_simp
 clear hW
 have HB := Lib.hid B1
 clear B1
 go_loopw [11] (fun i wr => ∃ k : Nat, k ≤ ns.length ∧ i = .int .i64 k ∧ Hid ((ns.take k).any (fun n => n.1 == s) = false) ∧ Below W1.heap.size W1 wr) (fun i _ => ns.length - (intOf i).toNat)
 case atStart => exact ⟨0, Nat.zero_le _, rfl, by simp [Hid], Below.refl _ _⟩
 case round =>
  obtain ⟨k, hk, rfl, hall, hb⟩ := hrel
  have Hb := Lib.hid hb
  replace g0 := cellAt g0 hb (by omega)
  replace g1 := cellAt g1 hb (by omega)
  replace r0 := cellAt r0 hb (by omega)
  replace r1 := cellAt r1 hb (by omega)
  replace r2 := cellAt r2 hb (by omega)
  replace f0 := froAt f0 hb (by omega)
  replace f1 := froAt f1 hb (by omega)
  replace f2 := froAt f2 hb (by omega)
  replace Hr := Lib.hid (Hr.out.at hb)
  replace n1 : w.heap.size < wr.heap.size := ltAt n1 hb
  replace n2 : w.heap.size + 1 < wr.heap.size := ltAt n2 hb
  replace HB := Lib.hid (lift HB.out hb)
  clear hb
  have hzw : w.heap.size + 1 < wr.heap.size := n2
  by_cases hlt : k < ns.length
  ·obtain ⟨b, o, rfl, hB, x0, x1, x2⟩ := Hr.out.node hlt
   have hnx := nodeOf_at (s := s) hlt hall.out
   have hany := any_take_succ (p := fun n : Nd => n.1 == s) hlt
   generalize ns[k] = z at x0 x1 x2 hnx hany
   obtain ⟨s', t', r'⟩ := z
   simp only at x0 x1 x2 hnx hany
   have HA := Lib.hid hany
   have HX := Lib.hid hnx
   clear hany hnx
   have k1 : (0 : Int) ≤ (k : Int) := by omega
   have k2 : (k : Int) < (ns.length : Int) := by omega
   cases hss : (s' == s)
   ·have HA2 := Lib.hid (show (ns.take (k + 1)).any (fun n => n.1 == s) = false by rw [HA.out, hall.out, hss]; rfl)
    go_wp2_with fail
    go_roundw
    case rel => exact ⟨k + 1, by omega, by go_num, HA2.out, Hb.out.alloc Hb.out.size _⟩
    case measure => simp [intOf]; omega
   ·have HX2 := Lib.hid (HX.out hss)
    have e1 : s' = s := by simpa using hss
    subst e1
    go_wp2_with fail
    have hB0 := HB.out
    refine bodyPost_ret (v := .tuple #[ndV (s', t', r'), .bool true]) (by simp only [results, Tryz.results49]; go_simp) rfl ⟨by rw [HX2.out]; rfl, bq2⟩
  ·have HN := Lib.hid (show nodeOf ns s = none from find_none_take (by have := hall.out; rwa [List.take_of_length_le (by omega)] at this))
   go_wp2_with fail
   have hB0 := HB.out
   refine bodyPost_ret (v := .tuple #[ndV ([], 0, 0), .bool false]) (by simp only [results, Tryz.results49]; go_simp) rfl ⟨by rw [HN.out]; rfl, bq2⟩
end Od
end Go.Proofs.YtbllehjhmfehbaaGreat
end

section
/- state and sick of the reference of layer 19. (bel2) -/
namespace Go.Proofs.YtbllehjhmfehbaaGreat
open Go.RowKit Go.Sort
set_option linter.unusedSimpArgs false
namespace Od
set_option maxHeartbeats 1000000 in
theorem state17_any (Au Ah : Option Addr) (cu ch : Nat) (up half : List Str) (u : Str) (w : World) (hn : NIn w Au Ah up half) :
  Calls Tryz.prog 71 #[nowV Au up.length cu Ah half.length ch, sv u] w fun e w' => e = .returned (.int .i64 (nowS up half u)) ∧ Below w.heap.size w w' := by
 have HN := Lib.hid hn
 have HS := Lib.hid (show nowS up half u = if hasB up u = true then 1 else if hasB half u = true then 2 else 0 from rfl)
 clear hn
 go_enter Tryz.func71, Tryz.ntmps71
 go_wp2_with fail
 first | (refine wp_named ?_; intro W1 hW) | (refine calls_named ?_; intro W1 hW)
 have B1 : Below w.heap.size w W1 := by rw [hW]; exact bq2
 replace HN := Lib.hid (HN.out.at B1)
 have n1 : w.heap.size < W1.heap.size := by rw [hW]; simp <;> omega
 have c0 : W1.cell? ⟨w.heap.size, 0, none⟩ = some (.slice Au up.length cu) := by rw [hW]; go_simp
 have c1 : W1.cell? ⟨w.heap.size, 1, none⟩ = some (.slice Ah half.length ch) := by rw [hW]; go_simp
 clear hW
 have HB := Lib.hid B1
 clear B1
 refine (HasS_any _ _ _ _ _ HN.out.u.rd HN.out.u.len).mono ?_
 rintro e w' ⟨rfl, rfl⟩
 cases h1 : hasB up u
 ·go_wp2_with fail
  refine (HasS_any _ _ _ _ _ HN.out.h.rd HN.out.h.len).mono ?_
  rintro e w' ⟨rfl, rfl⟩
  cases h2 : hasB half u
  ·go_wp2_with fail
   go_ret
   exact ⟨by rw [HS.out, h1, h2]; rfl, HB.out⟩
  ·go_wp2_with fail
   go_ret
   exact ⟨by rw [HS.out, h1, h2]; rfl, HB.out⟩
 ·go_wp2_with fail
  go_ret
  exact ⟨by rw [HS.out, h1]; rfl, HB.out⟩
def sickV (ns : List Nd) (o : Option Pl) : Value := .tuple #[plV (o.getD ([], 0, false, [])), .int .i64 (match o with | some p => sickE ns p.1 | none => 0), .bool o.isSome]
set_option maxRecDepth 100000 in
set_option maxHeartbeats 16000000 in
theorem sick17_any (An Ae A : Option Addr) (ne cn ce c : Nat) (ns : List Nd) (l : List Pl) (w : World) (hn : Rd w w.heap.size 3 An ns.length (ndsC ns)) (hnl : ns.length ≤ 1000000) (hr : Rd w w.heap.size 4 A l.length (plsC l)) (hl : l.length ≤ 1000000) :
  Calls Tryz.prog 72 #[gV An ns.length cn Ae ne ce, .slice A l.length c] w fun e w' => e = .returned (sickV ns (l.find? (sickP ns))) ∧ Below w.heap.size w w' := by
 have Hr := Lib.hid hr
 have Hn := Lib.hid hn
 clear hr hn
 go_enter Tryz.func72, Tryz.ntmps72
 go_wp2_with fail
 first | (refine wp_named ?_; intro W1 hW) | (refine calls_named ?_; intro W1 hW)
 have B1 : Below w.heap.size w W1 := by rw [hW]; exact bq2
 replace Hr := Lib.hid (Hr.out.at B1)
 replace Hn := Lib.hid (Hn.out.at B1)
 have n1 : w.heap.size < W1.heap.size := by rw [hW]; simp <;> omega
 have n2 : (w.heap.size + 1) < W1.heap.size := by rw [hW]; simp <;> omega
 have g0 : W1.cell? ⟨w.heap.size, 0, none⟩ = some (.slice An ns.length cn) := by rw [hW]; go_simp
 have g1 : W1.cell? ⟨w.heap.size, 1, none⟩ = some (.slice Ae ne ce) := by rw [hW]; go_simp
 have r0 : W1.cell? ⟨(w.heap.size + 1), 0, none⟩ = some (.string ⟨#[]⟩) := by rw [hW]; go_simp
 have r1 : W1.cell? ⟨(w.heap.size + 1), 1, none⟩ = some (.int .i64 0) := by rw [hW]; go_simp
 have r2 : W1.cell? ⟨(w.heap.size + 1), 2, none⟩ = some (.bool false) := by rw [hW]; go_simp
 have r3 : W1.cell? ⟨(w.heap.size + 1), 3, none⟩ = some (.string ⟨#[]⟩) := by rw [hW]; go_simp
 have z0 : W1.frozen? ⟨(w.heap.size + 1), 0, none⟩ = false := by rw [hW]; go_simp
 have z1 : W1.frozen? ⟨(w.heap.size + 1), 1, none⟩ = false := by rw [hW]; go_simp
 have z2 : W1.frozen? ⟨(w.heap.size + 1), 2, none⟩ = false := by rw [hW]; go_simp
 have z3 : W1.frozen? ⟨(w.heap.size + 1), 3, none⟩ = false := by rw [hW]; go_simp
 clear hW
 have HB1 := Lib.hid B1
 have hzz : w.heap.size ≤ W1.heap.size := B1.size
 clear B1
 go_loopw [14] (fun i wr => ∃ k : Nat, k ≤ l.length ∧ i = .int .i64 k ∧ Hid ((l.take k).any (sickP ns) = false) ∧ Below W1.heap.size W1 wr) (fun i _ => l.length - (intOf i).toNat)
 case atStart => exact ⟨0, Nat.zero_le _, rfl, by simp [Hid], Below.refl _ _⟩
 case round =>
  obtain ⟨k, hk, rfl, HK, hbl⟩ := hrel
  have HBl := Lib.hid hbl
  clear hbl
  replace g0 := cellAt g0 HBl.out (by omega)
  replace g1 := cellAt g1 HBl.out (by omega)
  replace r0 := cellAt r0 HBl.out (by omega)
  replace r1 := cellAt r1 HBl.out (by omega)
  replace r2 := cellAt r2 HBl.out (by omega)
  replace r3 := cellAt r3 HBl.out (by omega)
  replace z0 := froAt z0 HBl.out (by omega)
  replace z1 := froAt z1 HBl.out (by omega)
  replace z2 := froAt z2 HBl.out (by omega)
  replace z3 := froAt z3 HBl.out (by omega)
  replace Hr := Lib.hid (Hr.out.at HBl.out)
  replace Hn := Lib.hid (Hn.out.at HBl.out)
  replace n1 : w.heap.size < wr.heap.size := ltAt n1 HBl.out
  replace n2 : (w.heap.size + 1) < wr.heap.size := ltAt n2 HBl.out
  have hzw := HBl.out.size
  by_cases hlt : k < l.length
  ·obtain ⟨b2, o2, hA, hB2, x0, x1, x2, x3⟩ := Hr.out.pl hlt
   subst hA
   have hnx := find_at (p := sickP ns) hlt HK.out
   have hany := any_take_succ (p := sickP ns) hlt
   rw [HK.out, Bool.false_or] at hany
   generalize l[k] = p at x0 x1 x2 x3 hnx hany
   obtain ⟨s', t', n', b'⟩ := p
   have hsp : sickP ns (s', t', n', b') = ((t' == 1 || t' == 3) && stN ns s' != 1) := rfl
   rw [hsp] at hnx hany
   simp only at x0 x1 x2 x3
   have HA := Lib.hid hany
   have HX := Lib.hid hnx
   have i1 : (0 : Int) ≤ (k : Int) := by omega
   have i2 : (k : Int) < (l.length : Int) := by omega
   clear hany hnx hsp
   go_wp2_with fail
   first | (refine wp_named ?_; intro W6 hW) | (refine calls_named ?_; intro W6 hW)
   have B6 : Below wr.heap.size wr W6 := by rw [hW]; exact bq2
   replace g0 := cellAt g0 B6 (by omega)
   replace g1 := cellAt g1 B6 (by omega)
   replace r0 := cellAt r0 B6 (by omega)
   replace r1 := cellAt r1 B6 (by omega)
   replace r2 := cellAt r2 B6 (by omega)
   replace r3 := cellAt r3 B6 (by omega)
   replace z0 := froAt z0 B6 (by omega)
   replace z1 := froAt z1 B6 (by omega)
   replace z2 := froAt z2 B6 (by omega)
   replace z3 := froAt z3 B6 (by omega)
   replace Hr := Lib.hid (Hr.out.at B6)
   replace Hn := Lib.hid (Hn.out.at B6)
   replace n1 : w.heap.size < W6.heap.size := ltAt n1 B6
   replace n2 : (w.heap.size + 1) < W6.heap.size := ltAt n2 B6
   have m6 : wr.heap.size < W6.heap.size := by rw [hW]; simp <;> omega
   have y0 : W6.cell? ⟨wr.heap.size, 0, none⟩ = some (sv s') := by rw [hW]; go_simp
   have y1 : W6.cell? ⟨wr.heap.size, 1, none⟩ = some (.int .i64 t') := by rw [hW]; go_simp
   have y2 : W6.cell? ⟨wr.heap.size, 2, none⟩ = some (.bool n') := by rw [hW]; go_simp
   have y3 : W6.cell? ⟨wr.heap.size, 3, none⟩ = some (sv b') := by rw [hW]; go_simp
   clear hW
   have HB6 := Lib.hid (lift HBl.out B6)
   clear B6 x0 x1 x2 x3
   refine (Node15_any An Ae ne cn ce ns s' W6 Hn.out hnl).mono ?_
   rintro e w7 ⟨rfl, hb⟩
   have HB7 := Lib.hid (lift HB6.out hb)
   replace g0 := cellAt g0 hb (by omega)
   replace g1 := cellAt g1 hb (by omega)
   replace r0 := cellAt r0 hb (by omega)
   replace r1 := cellAt r1 hb (by omega)
   replace r2 := cellAt r2 hb (by omega)
   replace r3 := cellAt r3 hb (by omega)
   replace z0 := froAt z0 hb (by omega)
   replace z1 := froAt z1 hb (by omega)
   replace z2 := froAt z2 hb (by omega)
   replace z3 := froAt z3 hb (by omega)
   replace y0 := cellAt y0 hb (by omega)
   replace y1 := cellAt y1 hb (by omega)
   replace y2 := cellAt y2 hb (by omega)
   replace y3 := cellAt y3 hb (by omega)
   replace Hr := Lib.hid (Hr.out.at hb)
   replace Hn := Lib.hid (Hn.out.at hb)
   replace n1 : w.heap.size < w7.heap.size := ltAt n1 hb
   replace n2 : (w.heap.size + 1) < w7.heap.size := ltAt n2 hb
   replace m6 : wr.heap.size < w7.heap.size := ltAt m6 hb
   clear hb
   have hst : stN ns s' = ((nodeOf ns s').getD ([], 0, 0)).2.2 := by unfold stN; cases nodeOf ns s' <;> rfl
   have hse : sickE ns s' = if stN ns s' = 2 then 6 else if stN ns s' = 3 then 15 else 16 := rfl
   unfold nodeV
   generalize (nodeOf ns s').isSome = is at *
   generalize (nodeOf ns s').getD ([], 0, 0) = nd at *
   obtain ⟨s1, k1, r1⟩ := nd
   simp only at hst
   rw [hst] at HA HX hse
   have HEe := Lib.hid hse
   have hz7 := HB7.out.size
   have hbx := HB7.out
   clear hst hse
   by_cases t1 : t' = 1
   ·subst t1
    by_cases e1 : r1 = 1
    ·subst e1
     have HA2 := Lib.hid (show (l.take (k + 1)).any (sickP ns) = false by rw [HA.out]; exact rfl)
     go_wp2_with fail
     go_roundw
     case rel => exact ⟨k + 1, by omega, by go_num, HA2.out, bq2⟩
     case measure => simp [intOf]; omega
    ·have n1 : (r1 == 1) = false := by simpa using e1
     have HW := Lib.hid (show (true && r1 != 1) = true by unfold bne; rw [n1]; rfl)
     by_cases e2 : r1 = 2
     ·subst e2
      have HE := Lib.hid (show sickE ns s' = 6 by rw [HEe.out]; rfl)
      have HX2 := Lib.hid (HX.out HW.out)
      clear HX HA HEe
      go_wp2_with fail
      have hB0 := lift HB1.out HB7.out
      refine bodyPost_ret (v := .tuple #[plV (s', 1, n', b'), .int .i64 6, .bool true]) (by simp only [results, Tryz.results72]; go_simp) rfl ⟨by rw [HX2.out]; exact congrArg (fun e => Ending.returned (.tuple #[plV (s', 1, n', b'), .int .i64 e, .bool true])) HE.out.symm, bq2⟩
     ·have n2 : (r1 == 2) = false := by simpa using e2
      by_cases e3 : r1 = 3
      ·subst e3
       have HE := Lib.hid (show sickE ns s' = 15 by rw [HEe.out]; rfl)
       have HX2 := Lib.hid (HX.out HW.out)
       clear HX HA HEe
       go_wp2_with fail
       have hB0 := lift HB1.out HB7.out
       refine bodyPost_ret (v := .tuple #[plV (s', 1, n', b'), .int .i64 15, .bool true]) (by simp only [results, Tryz.results72]; go_simp) rfl ⟨by rw [HX2.out]; exact congrArg (fun e => Ending.returned (.tuple #[plV (s', 1, n', b'), .int .i64 e, .bool true])) HE.out.symm, bq2⟩
      ·have n3 : (r1 == 3) = false := by simpa using e3
       have HE := Lib.hid (show sickE ns s' = 16 by rw [HEe.out]; rw [if_neg e2, if_neg e3])
       have HX2 := Lib.hid (HX.out HW.out)
       clear HX HA HEe
       go_wp2_with fail
       have hB0 := lift HB1.out HB7.out
       refine bodyPost_ret (v := .tuple #[plV (s', 1, n', b'), .int .i64 16, .bool true]) (by simp only [results, Tryz.results72]; go_simp) rfl ⟨by rw [HX2.out]; exact congrArg (fun e => Ending.returned (.tuple #[plV (s', 1, n', b'), .int .i64 e, .bool true])) HE.out.symm, bq2⟩
   ·have m1 : (t' == 1) = false := by simpa using t1
    rw [m1] at HA HX
    by_cases t3 : t' = 3
    ·subst t3
     by_cases e1 : r1 = 1
     ·subst e1
      have HA2 := Lib.hid (show (l.take (k + 1)).any (sickP ns) = false by rw [HA.out]; exact rfl)
      go_wp2_with fail
      go_roundw
      case rel => exact ⟨k + 1, by omega, by go_num, HA2.out, bq2⟩
      case measure => simp [intOf]; omega
     ·have n1 : (r1 == 1) = false := by simpa using e1
      have HW := Lib.hid (show (true && r1 != 1) = true by unfold bne; rw [n1]; rfl)
      by_cases e2 : r1 = 2
      ·subst e2
       have HE := Lib.hid (show sickE ns s' = 6 by rw [HEe.out]; rfl)
       have HX2 := Lib.hid (HX.out HW.out)
       clear HX HA HEe
       go_wp2_with fail
       have hB0 := lift HB1.out HB7.out
       refine bodyPost_ret (v := .tuple #[plV (s', 3, n', b'), .int .i64 6, .bool true]) (by simp only [results, Tryz.results72]; go_simp) rfl ⟨by rw [HX2.out]; exact congrArg (fun e => Ending.returned (.tuple #[plV (s', 3, n', b'), .int .i64 e, .bool true])) HE.out.symm, bq2⟩
      ·have n2 : (r1 == 2) = false := by simpa using e2
       by_cases e3 : r1 = 3
       ·subst e3
        have HE := Lib.hid (show sickE ns s' = 15 by rw [HEe.out]; rfl)
        have HX2 := Lib.hid (HX.out HW.out)
        clear HX HA HEe
        go_wp2_with fail
        have hB0 := lift HB1.out HB7.out
        refine bodyPost_ret (v := .tuple #[plV (s', 3, n', b'), .int .i64 15, .bool true]) (by simp only [results, Tryz.results72]; go_simp) rfl ⟨by rw [HX2.out]; exact congrArg (fun e => Ending.returned (.tuple #[plV (s', 3, n', b'), .int .i64 e, .bool true])) HE.out.symm, bq2⟩
       ·have n3 : (r1 == 3) = false := by simpa using e3
        have HE := Lib.hid (show sickE ns s' = 16 by rw [HEe.out]; rw [if_neg e2, if_neg e3])
        have HX2 := Lib.hid (HX.out HW.out)
        clear HX HA HEe
        go_wp2_with fail
        have hB0 := lift HB1.out HB7.out
        refine bodyPost_ret (v := .tuple #[plV (s', 3, n', b'), .int .i64 16, .bool true]) (by simp only [results, Tryz.results72]; go_simp) rfl ⟨by rw [HX2.out]; exact congrArg (fun e => Ending.returned (.tuple #[plV (s', 3, n', b'), .int .i64 e, .bool true])) HE.out.symm, bq2⟩
    ·have m3 : (t' == 3) = false := by simpa using t3
     rw [m3] at HA HX
     have HA2 := Lib.hid (show (l.take (k + 1)).any (sickP ns) = false by rw [HA.out]; exact rfl)
     go_wp2_with fail
     go_roundw
     case rel => exact ⟨k + 1, by omega, by go_num, HA2.out, bq2⟩
     case measure => simp [intOf]; omega
  ·have HN := Lib.hid (show l.find? (sickP ns) = none from find_none_take (by have := HK.out; rwa [List.take_of_length_le (by omega)] at this))
   go_wp2_with fail
   have hB0 := lift HB1.out HBl.out
   refine bodyPost_ret (v := .tuple #[plV ([], 0, false, []), .int .i64 0, .bool false]) (by simp only [results, Tryz.results72]; go_simp) rfl ⟨by rw [HN.out]; rfl, bq2⟩
end Od
end Go.Proofs.YtbllehjhmfehbaaGreat
end

section
/- The walk of matinsref15.put: a text into a rising row, once. -/
namespace Go.Proofs.YtbllehjhmfehbaaGreat
open Go.RowKit Go.Sort

namespace Od
theorem svs_app (a b : List Str) : svs (a ++ b) = svs a ++ svs b := by simp [svs]
set_option maxRecDepth 100000 in
set_option maxHeartbeats 1000000 in
theorem put15_any (A : Option Addr) (c : Nat) (ss : List Str) (s : Str) (w : World) (hr : Rd w w.heap.size 1 A ss.length (svs ss)) (hc : ss.length ≤ c) (hl : ss.length ≤ 1000000) :
  Calls Tryz.prog 137 #[.slice A ss.length c, sv s] w (RdIs 1 (insL ltS s ss).length (svs (insL ltS s ss)) w) := by
 obtain ⟨i0, hi, hz0, hz1, hz2⟩ := info_parts inS
 have Hr := Lib.hid hr
 clear hr
 go_enter Tryz.func137, Tryz.ntmps137
 go_wp2_with fail
 go_loop [5] (fun i => ∃ k : Nat, k ≤ ss.length ∧ i = .int .i64 k ∧ Hid (∀ y ∈ ss.take k, ltS y s = true)) (fun i => ss.length - (intOf i).toNat)
 case atStart => exact ⟨0, Nat.zero_le _, rfl, by simp [Hid]⟩
 case round =>
  obtain ⟨k, hk, rfl, hall⟩ := hrel
  by_cases hlt : k < ss.length
  ·obtain ⟨b, o, rfl, hB, hc0⟩ := Hr.out.str hlt
   generalize hx : ss[k] = x at hc0
   have Hx := Lib.hid hx
   clear hx
   cases hlx : Op.bytesLess x s
   ·have hge : ∀ h : k < ss.length, ltS ss[k] s = false := fun _ => by rw [Hx.out]; exact hlx
    have Hge := Lib.hid hge
    clear hge
    cases hxs : (x == s)
    ·go_wp2_with fail
     have hge := Hge.out
     have hne : ¬ ss[k]? = some s := by rw [List.getElem?_eq_getElem hlt, Hx.out]; intro e; injection e with e; rw [e] at hxs; simp at hxs
     clear hlx hxs
     have hins : insL ltS s ss = ss.take k ++ s :: ss.drop k := by rw [insL_cut ss k hk hall hge, if_neg hne]
     have HI := Lib.hid hins
     have HR1 := Lib.hid (Hr.out.takeA hk)
     have HR2 := Lib.hid (Hr.out.dropA hk hc)
     have hs1 := run_slice_full (P := Tryz.prog) Tryz.underlying26 hi (some ⟨b, o, none⟩) ss.length c k (Nat.le_trans hk hc)
     have hs2 := run_slice_tail (P := Tryz.prog) Tryz.underlying26 hi (some ⟨b, o, none⟩) ss.length c k hk
     rw [hz1] at hs1 hs2
     clear hins hne hge
     have hlk : (ss.drop k).length = ss.length - k := List.length_drop
     have HLk := Lib.hid hlk
     clear hlk
     try go_wp2_with fail
     refine wp_region_held_drew (S := fun w' => Below w.heap.size w w') (by kernel_rfl) (Below.drew (Below.refl _ _)) (fun hHeld => ?_)
     refine tV 0 ?_ ?zq ?_; (case zq => rintro _ -; go_simp; try with_reducible rfl); try simp only [Act.put, zn1, zn2, zn3]
     refine tV 1 ?_ ?zq ?_; (case zq => rintro _ -; go_simp; try with_reducible rfl); try simp only [Act.put, zn1, zn2, zn3]
     refine tV 2 ?_ ?zq ?_; (case zq => rintro _ -; go_simp; try with_reducible rfl); try simp only [Act.put, zn1, zn2, zn3]
     refine tV 3 ?_ ?zq ?_; (case zq => rintro _ -; go_simp; try with_reducible rfl); try simp only [Act.put, zn1, zn2, zn3]
     refine tV 4 ?_ ?zq ?_; (case zq => rintro _ -; go_simp; try with_reducible rfl); try simp only [Act.put, zn1, zn2, zn3]
     refine tV 6 ?_ ?zq ?_; (case zq => rintro _ -; go_simp; try with_reducible rfl); try simp only [Act.put, zn1, zn2, zn3]
     refine tV 7 ?_ ?zq ?_; (case zq => rintro _ -; go_simp; try with_reducible rfl); try simp only [Act.put, zn1, zn2, zn3]
     refine tV 8 ?_ ?zq ?_; (case zq => rintro _ -; go_simp; try with_reducible rfl); try simp only [Act.put, zn1, zn2, zn3]
     refine ready_one (i := 5) rfl (by kernel_rfl) (fun K hK => ?_)
     go_simp
     refine hK.out _ _ ?_ (fun hHeld2 => ?_)
     ·(try dsimp only); first | exact hHeld | exact bq
     clear hK K hHeld; have hHeld := hHeld2; clear hHeld2; (try simp only [Act.put, zn1, zn2, zn3])
     refine ready_one (i := 9) rfl (by kernel_rfl) (fun K hK => ?_)
     refine step_append_full (by rfl) (.tmp 38) (.tmp 41) 26 (by rfl) 9 i0 (.string ⟨#[]⟩) 1 16 Tryz.underlying26 hi hz0 hz1 hz2 rfl _ (some ⟨w.heap.size, 0, none⟩) 1 [sv s] (by rfl) (Rd.lit w.drew [sv s] 9 1 1 rfl) (Nat.le_refl _) _ _ (ss.length - k) (c - k) _ (by rfl) (HR2.out.at' (Nat.le_refl _) hHeld) (one_drop (one_svs ss) _) (by unfold maxLen; omega) (by omega) ?_
     intro A2 c2 v2 hc2 hr2 hb
     have HR3 := Lib.hid hr2
     clear hr2
     refine hK.out _ _ ?_ (fun hHeld2 => ?_)
     ·(try dsimp only); first | exact Below.trans hHeld (Below.mono hb hHeld.size) | exact hHeld | exact Below.drew hHeld | exact bq
     clear hK K hHeld; have hHeld := hHeld2; clear hHeld2; (try simp only [Act.put, zn1, zn2, zn3])
     refine ready_one (i := 10) rfl (by kernel_rfl) (fun K hK => ?_)
     refine step_append_full (by rfl) (.tmp 36) (.tmp 42) 26 (by rfl) 9 i0 (.string ⟨#[]⟩) 1 16 Tryz.underlying26 hi hz0 hz1 hz2 rfl _ _ k _ (by rfl) (HR1.out.at' (Nat.le_refl _) hHeld) (Nat.le_refl _) _ A2 (1 + (ss.length - k)) c2 _ (by rfl) HR3.out (one_app (one_sv s) (one_drop (one_svs ss) _)) (by unfold maxLen; omega) (by omega) ?_
     intro A3 c3 v3 hc3 hr3 hb
     have HR4 := Lib.hid hr3
     clear hr3
     refine hK.out _ _ ?_ (fun hHeld2 => ?_)
     ·(try dsimp only); first | exact Below.trans hHeld (Below.mono hb hHeld.size) | exact hHeld | exact Below.drew hHeld | exact bq
     clear hK K hHeld; have hHeld := hHeld2; clear hHeld2; (try simp only [Act.put, zn1, zn2, zn3])
     refine tV 11 ?_ ?zq ?_; (case zq => rintro _ -; go_simp; try with_reducible rfl); try simp only [Act.put, zn1, zn2, zn3]
     refine wpAnyH_done (by kernel_rfl) ?_ _
     go_wp2_with fail
     go_ret
     refine RdIs.of hc3 HR4.out hHeld ?_ ?_
     ·rw [HI.out, List.length_append, List.length_cons, List.length_take, HLk.out]; omega
     ·rw [HI.out]; simp [svs, List.map_take, List.map_drop]
    ·go_wp2_with fail
     go_ret
     have hins : insL ltS s ss = ss := by rw [insL_cut ss k hk hall Hge.out, if_pos]; rw [List.getElem?_eq_getElem hlt, Hx.out]; simpa using hxs
     exact RdIs.of hc Hr.out (Below.refl _ _) (by rw [hins]) (by rw [hins])
   ·go_wp2_with fail
    go_round
    case rel =>
     refine ⟨k + 1, by omega, by go_num, fun y hy => ?_⟩
     rw [List.take_succ_eq_append_getElem hlt, List.mem_append, List.mem_singleton] at hy
     rcases hy with h | h
     ·exact hall y h
     ·rw [h, Hx.out]; exact hlx
    case measure => simp [intOf]; omega
  ·have hge : ∀ h : k < ss.length, ltS ss[k] s = false := fun h => absurd h hlt
   have hne : ¬ ss[k]? = some s := by rw [List.getElem?_eq_none (by omega)]; simp
   go_wp2_with fail
   have hins : insL ltS s ss = ss.take k ++ s :: ss.drop k := by rw [insL_cut ss k hk hall hge, if_neg hne]
   have HI := Lib.hid hins
   have HR1 := Lib.hid (Hr.out.takeA hk)
   have HR2 := Lib.hid (Hr.out.dropA hk hc)
   have hs1 := run_slice_full (P := Tryz.prog) Tryz.underlying26 hi A ss.length c k (Nat.le_trans hk hc)
   have hs2 := run_slice_tail (P := Tryz.prog) Tryz.underlying26 hi A ss.length c k hk
   rw [hz1] at hs1 hs2
   clear hins hne hge
   have hlk : (ss.drop k).length = ss.length - k := List.length_drop
   have HLk := Lib.hid hlk
   clear hlk
   try go_wp2_with fail
   refine wp_region_held_drew (S := fun w' => Below w.heap.size w w') (by kernel_rfl) (Below.drew (Below.refl _ _)) (fun hHeld => ?_)
   refine tV 0 ?_ ?zq ?_; (case zq => rintro _ -; go_simp; try with_reducible rfl); try simp only [Act.put, zn1, zn2, zn3]
   refine tV 1 ?_ ?zq ?_; (case zq => rintro _ -; go_simp; try with_reducible rfl); try simp only [Act.put, zn1, zn2, zn3]
   refine tV 2 ?_ ?zq ?_; (case zq => rintro _ -; go_simp; try with_reducible rfl); try simp only [Act.put, zn1, zn2, zn3]
   refine tV 3 ?_ ?zq ?_; (case zq => rintro _ -; go_simp; try with_reducible rfl); try simp only [Act.put, zn1, zn2, zn3]
   refine tV 4 ?_ ?zq ?_; (case zq => rintro _ -; go_simp; try with_reducible rfl); try simp only [Act.put, zn1, zn2, zn3]
   refine tV 6 ?_ ?zq ?_; (case zq => rintro _ -; go_simp; try with_reducible rfl); try simp only [Act.put, zn1, zn2, zn3]
   refine tV 7 ?_ ?zq ?_; (case zq => rintro _ -; go_simp; try with_reducible rfl); try simp only [Act.put, zn1, zn2, zn3]
   refine tV 8 ?_ ?zq ?_; (case zq => rintro _ -; go_simp; try with_reducible rfl); try simp only [Act.put, zn1, zn2, zn3]
   refine ready_one (i := 5) rfl (by kernel_rfl) (fun K hK => ?_)
   go_simp
   refine hK.out _ _ ?_ (fun hHeld2 => ?_)
   ·(try dsimp only); first | exact hHeld | exact bq
   clear hK K hHeld; have hHeld := hHeld2; clear hHeld2; (try simp only [Act.put, zn1, zn2, zn3])
   refine ready_one (i := 9) rfl (by kernel_rfl) (fun K hK => ?_)
   refine step_append_full (by rfl) (.tmp 38) (.tmp 41) 26 (by rfl) 9 i0 (.string ⟨#[]⟩) 1 16 Tryz.underlying26 hi hz0 hz1 hz2 rfl _ (some ⟨w.heap.size, 0, none⟩) 1 [sv s] (by rfl) (Rd.lit w.drew [sv s] 9 1 1 rfl) (Nat.le_refl _) _ _ (ss.length - k) (c - k) _ (by rfl) (HR2.out.at' (Nat.le_refl _) hHeld) (one_drop (one_svs ss) _) (by unfold maxLen; omega) (by omega) ?_
   intro A2 c2 v2 hc2 hr2 hb
   have HR3 := Lib.hid hr2
   clear hr2
   refine hK.out _ _ ?_ (fun hHeld2 => ?_)
   ·(try dsimp only); first | exact Below.trans hHeld (Below.mono hb hHeld.size) | exact hHeld | exact Below.drew hHeld | exact bq
   clear hK K hHeld; have hHeld := hHeld2; clear hHeld2; (try simp only [Act.put, zn1, zn2, zn3])
   refine ready_one (i := 10) rfl (by kernel_rfl) (fun K hK => ?_)
   refine step_append_full (by rfl) (.tmp 36) (.tmp 42) 26 (by rfl) 9 i0 (.string ⟨#[]⟩) 1 16 Tryz.underlying26 hi hz0 hz1 hz2 rfl _ _ k _ (by rfl) (HR1.out.at' (Nat.le_refl _) hHeld) (Nat.le_refl _) _ A2 (1 + (ss.length - k)) c2 _ (by rfl) HR3.out (one_app (one_sv s) (one_drop (one_svs ss) _)) (by unfold maxLen; omega) (by omega) ?_
   intro A3 c3 v3 hc3 hr3 hb
   have HR4 := Lib.hid hr3
   clear hr3
   refine hK.out _ _ ?_ (fun hHeld2 => ?_)
   ·(try dsimp only); first | exact Below.trans hHeld (Below.mono hb hHeld.size) | exact hHeld | exact Below.drew hHeld | exact bq
   clear hK K hHeld; have hHeld := hHeld2; clear hHeld2; (try simp only [Act.put, zn1, zn2, zn3])
   refine tV 11 ?_ ?zq ?_; (case zq => rintro _ -; go_simp; try with_reducible rfl); try simp only [Act.put, zn1, zn2, zn3]
   refine wpAnyH_done (by kernel_rfl) ?_ _
   go_wp2_with fail
   go_ret
   refine RdIs.of hc3 HR4.out hHeld ?_ ?_
   ·rw [HI.out, List.length_append, List.length_cons, List.length_take, HLk.out]; omega
   ·rw [HI.out]; simp [svs, List.map_take, List.map_drop]
end Od
end Go.Proofs.YtbllehjhmfehbaaGreat
end

section
/- The walk of matinsref15.In: who leads to a unit by a relation, rising, each once. (bel2) -/
namespace Go.Proofs.YtbllehjhmfehbaaGreat
open Go.RowKit Go.Sort
set_option linter.unusedSimpArgs false

namespace Od
def inQ (u : Str) (rel : Int) (e : Ed) : Bool := e.2.1 == u && e.2.2 == rel
def inRaw (es : List Ed) (u : Str) (rel : Int) : List Str := (es.filter (inQ u rel)).map (fun e => e.1)
def inR (es : List Ed) (u : Str) (rel : Int) : List Str := canon ltS (inRaw es u rel)
theorem inRaw_succ {es : List Ed} {u : Str} {rel : Int} {k : Nat} (h : k < es.length) : inRaw (es.take (k + 1)) u rel = inRaw (es.take k) u rel ++ (if (es[k].2.1 == u && es[k].2.2 == rel) = true then [es[k].1] else []) := by
 unfold inRaw
 rw [List.take_succ_eq_append_getElem h, List.filter_append, List.map_append]
 congr 1
 rw [List.filter_cons, List.filter_nil]
 show List.map _ (if inQ u rel es[k] = true then _ else _) = _
 unfold inQ
 split <;> simp
theorem inR_put {l : List Str} {s : Str} : canon ltS (l ++ [s]) = insL ltS s (canon ltS l) := by unfold canon; rw [List.foldl_append]; rfl
theorem inR_len (es : List Ed) (u : Str) (rel : Int) (k : Nat) : (canon ltS (inRaw (es.take k) u rel)).length ≤ es.length := by
 refine Nat.le_trans (canon_len _) ?_
 unfold inRaw
 rw [List.length_map]
 refine Nat.le_trans (List.length_filter_le _ _) ?_
 rw [List.length_take]; omega
end Od
end Go.Proofs.YtbllehjhmfehbaaGreat
end
