/- My texts, joined for the claim: WFactW WOfW WFactF. -/
import Derived.Test.YtmlogmcnblgnbaaGreatZB0
import Derived.Test.YtmlogmcnblgnbaaGreatZB11
import Derived.Test.YtmlogmcnblgnbaaGreatZB12

section
/- The walks of wave's fact: lacks, end, of. (bel2) -/
namespace Go.Proofs.YtmlogmcnblgnbaaGreat
open Go.RowKit Go.Sort Go.Maps
set_option linter.unusedSimpArgs false

namespace Od
/-- More may be known than was, but of those in X. -/
def Knew (md : Nat) (es : List Ed) (fails : List Str) (q : List Jb) (X : Str → Prop) (D : Str → Option Value) (w w' : World) : Prop :=
  ∃ D', Known w' md es fails q D' ∧ Keeps (But w md) w w' ∧ ∀ s, X s → D' s = D s
section
variable {md : Nat} {es : List Ed} {fails : List Str} {q : List Jb} {X Y : Str → Prop} {D : Str → Option Value} {w w1 w2 : World}
theorem Knew.refl (h : Known w md es fails q D) : Knew md es fails q X D w w := ⟨D, h, But.below (Below.refl _ _), fun _ _ => rfl⟩
theorem Knew.after (hb : Below w.heap.size w w1) (h : Knew md es fails q X D w1 w2) : Knew md es fails q X D w w2 := by
  obtain ⟨D', h1, h2, h3⟩ := h
  exact ⟨D', h1, But.trans (But.below hb) h2, h3⟩
theorem Knew.on (h : Knew md es fails q X D w w1) (hb : Below w1.heap.size w1 w2) : Knew md es fails q X D w w2 := by
  obtain ⟨D', h1, h2, h3⟩ := h
  exact ⟨D', h1.on hb, But.trans h2 (But.below hb), h3⟩
theorem Knew.mono (h : Knew md es fails q X D w w1) (hXY : ∀ s, Y s → X s) : Knew md es fails q Y D w w1 := by
  obtain ⟨D', h1, h2, h3⟩ := h
  exact ⟨D', h1, h2, fun s hs => h3 s (hXY s hs)⟩
end
def lackX (es : List Ed) (q : List Jb) (u : Str) (s : Str) : Prop := rank es q u ≤ rank es q s
def ofX (es : List Ed) (q : List Jb) (u : Str) (s : Str) : Prop := rank es q u ≤ rank es q s ∧ s ≠ u
/-- What the call of a unit hands back. -/
def OfIs (B0 pf mj md : Nat) (An Ae : Option Addr) (nn cn ce : Nat) (Af : Option Addr) (cf : Nat) (es : List Ed) (fails : List Str) (q : List Jb) (u : Str) : Prop :=
  ∀ (j : Jb) (D : Str → Option Value) (w : World), jobOf q u = some j → FSt w B0 pf mj md An Ae nn cn ce Af cf es fails q → Known w md es fails q D → B0 ≤ w.heap.size →
    Calls Tryz.prog 57 #[.pointer (some ⟨pf, 0, none⟩), sv u] w fun e w' => e = .returned (jbV (factJ es fails q j)) ∧ Knew md es fails q (ofX es q u) D w w'
def zJ : Value := .agg #[.string ⟨#[]⟩, .int .i64 0, .int .i64 0, .int .i64 0]
theorem zeroJ (w : World) : (zeroValue 48).run Tryz.prog w = .ok zJ w := Tryz.zeroValue48 w
theorem okS_needs {es : List Ed} (h : OkE es) {u o : Str} (ho : o ∈ needsU es u) : okS o := by
  obtain ⟨h1, _⟩ := mem_needsU.1 ho
  rw [Bool.or_eq_true, hasE_iff, hasE_iff] at h1
  rcases h1 with h1 | h1
  · exact (h _ h1).2
  · exact (h _ h1).2
theorem fact_end {es : List Ed} (hi : isB es = true) {fails : List Str} {q : List Jb} (hd : DQ q) {j : Jb} (hj : j ∈ q) : (factJ es fails q j).2.2.2 = endU es fails q j.1 := by
  unfold factJ
  split
  · rename_i h3
    rw [endU_eq hi hd hj]; unfold endF1; rw [if_pos h3]
  · rfl
theorem fld3 (a b c d : Value) (w : World) : (Instr.field 48 (.agg #[a, b, c, d]) 3).run Tryz.prog w = .ok d w := by kernel_rfl
section
variable (B0 pf mj md : Nat) (An Ae : Option Addr) (nn cn ce : Nat) (Af : Option Addr) (cf : Nat) (es : List Ed) (fails : List Str) (q : List Jb)
set_option maxRecDepth 100000 in
set_option maxHeartbeats 4000000 in
theorem lacks1F_any (pa : Nat) (u s : Str) (D : Str → Option Value) (w : World) (hi : isB es = true) (hm : mayQ q = true) (hs : s ∈ needsU es u) (hok : okS s)
    (hof : OfIs B0 pf mj md An Ae nn cn ce Af cf es fails q s) (hF : FSt w B0 pf mj md An Ae nn cn ce Af cf es fails q) (hK : Known w md es fails q D) (hz : B0 ≤ w.heap.size) (ha : w.cell? ⟨pa, 0, none⟩ = some (.pointer (some ⟨pf, 0, none⟩))) :
    Calls Tryz.prog 144 #[sv s, .pointer (some ⟨pa, 0, none⟩)] w fun e w' => e = .returned (.bool (lackF (endU es fails q) q s)) ∧ Knew md es fails q (lackX es q u) D w w' := by
  have c2 := hF.c2
  have hlt := hF.lt
  have hpa : pa < w.heap.size := cell_blk ha
  have HF := Lib.hid hF
  have HK := Lib.hid hK
  have HOf := Lib.hid hof
  obtain ⟨f, hf⟩ : ∃ f : Str → Option Value, f = fun s => (jobOf q s).map jbV := ⟨_, rfl⟩
  have HJ : Hid (MapIs strK w mj q.length f) := by rw [hf]; exact hF.jm
  have hfs : f s = (jobOf q s).map jbV := by rw [hf]
  have hrk := rank_lt hi (q := q) (o := s) (u := u)
  have hah := (mem_needsU.1 hs).2
  have HRk := Lib.hid (And.intro hrk hah)
  clear hF hK hof hf hrk hah hs
  cases hj : jobOf q s with
  | none =>
    have HL := Lib.hid (show lackF (endU es fails q) q s = false by unfold lackF; rw [hj])
    rw [hj] at hfs
    simp only [Option.map_none] at hfs
    go_enter Tryz.func144, Tryz.ntmps144
    go_wp2_with (first
      | (at_lookup; refine wpList_lookOk_is _ (by rfl) (.tmp 10) (.tmp 11) 77 (by rfl) 48 Tryz.underlying77 zJ (zeroJ _) mj _ f (by rfl) HJ.out s (by rfl) hok ?_; rw [hfs]; simp only [Option.getD_none, Option.isSome_none, zJ])
      | fail)
    go_ret
    exact ⟨ret_bool (by rw [HL.out]), (Knew.refl HK.out).on (by repeat (first | exact Below.refl _ _ | assumption | refine Below.alloc ?_ (by first | omega | (simp <;> omega)) _ | refine Below.setCell ?_ (by first | omega | (simp <;> omega)) _ | refine Below.drew ?_))⟩
  | some j =>
    obtain ⟨s', t, r, d⟩ := j
    have hjm := jobOf_mem hj
    obtain ⟨hjq, hjs⟩ := hjm
    simp only at hjs
    subst hjs
    rw [hj] at hfs
    simp only [Option.map_some] at hfs
    have HL := Lib.hid (show lackF (endU es fails q) q s' = (startsB (s', t, r, d) && endU es fails q s' != 1) by unfold lackF; rw [hj])
    have HE := Lib.hid (show (factJ es fails q (s', t, r, d)).2.2.2 = endU es fails q s' from fact_end hi (mayQ.dq hm) hjq)
    have HR := Lib.hid (HRk.out.1 (jobOf_unit hj) HRk.out.2)
    have HJj := Lib.hid hj
    clear hj hjq HRk
    go_enter Tryz.func144, Tryz.ntmps144
    go_wp2_with (first
      | (at_lookup; refine wpList_lookOk_is _ (by rfl) (.tmp 10) (.tmp 11) 77 (by rfl) 48 Tryz.underlying77 zJ (zeroJ _) mj _ f (by rfl) HJ.out s' (by rfl) hok ?_; rw [hfs]; simp only [Option.getD_some, Option.isSome_some, jbV])
      | fail)
    first | (refine wp_named ?_; intro W1 hW) | (refine calls_named ?_; intro W1 hW)
    have B1 : Below w.heap.size w W1 := by rw [hW]; exact (by repeat (first | exact Below.refl _ _ | assumption | refine Below.alloc ?_ (by first | omega | (simp <;> omega)) _ | refine Below.setCell ?_ (by first | omega | (simp <;> omega)) _ | refine Below.drew ?_))
    replace ha := cellAt ha B1 (by omega)
    replace HF := Lib.hid (HF.out.on B1)
    replace HK := Lib.hid (HK.out.on B1)
    replace hlt : pf < W1.heap.size := ltAt hlt B1
    replace hpa : pa < W1.heap.size := ltAt hpa B1
    clear hW
    have HB := Lib.hid B1
    clear B1
    refine (Starts_any s' t r d W1).mono ?_
    rintro e w2 ⟨rfl, hb⟩
    replace ha := cellAt ha hb (by omega)
    replace HF := Lib.hid (HF.out.on hb)
    replace HK := Lib.hid (HK.out.on hb)
    replace hlt : pf < w2.heap.size := ltAt hlt hb
    replace hpa : pa < w2.heap.size := ltAt hpa hb
    replace HB := Lib.hid (lift HB.out hb)
    clear hb
    cases hst : startsB (s', t, r, d)
    · have HS := Lib.hid hst
      go_wp2_with fail
      go_ret
      have hk2 := HK.out
      exact ⟨ret_bool (by rw [HL.out, HS.out]; rfl), (Knew.refl hk2).after HB.out⟩
    · have HS := Lib.hid hst
      have hz2 : B0 ≤ w2.heap.size := Nat.le_trans hz HB.out.size
      go_wp2_with fail
      refine (HOf.out _ D w2 HJj.out HF.out HK.out hz2).mono ?_
      rintro e w3 ⟨rfl, hkn⟩
      have HKn := Lib.hid ((hkn.after HB.out).mono (Y := lackX es q u) (fun x hx => ⟨by have := HR.out; unfold lackX at hx; omega, fun e => by have := HR.out; subst e; unfold lackX at hx; omega⟩))
      have HE2 := HE.out
      generalize factJ es fails q (s', t, r, d) = z at HE2 ⊢
      obtain ⟨z0, z1, z2, z3⟩ := z
      simp only at HE2
      have HE3 := Lib.hid HE2
      clear hkn HE HE2
      have hfl := fld3 (sv z0) (.int .i64 z1) (.int .i64 z2) (.int .i64 z3)
      cases h1 : (z3 != 1)
      · have H1 := Lib.hid h1
        go_wp2_with fail
        go_ret
        exact ⟨ret_bool (by rw [HL.out, HS.out, ← HE3.out, H1.out]; rfl), HKn.out⟩
      · have H1 := Lib.hid h1
        go_wp2_with fail
        go_ret
        exact ⟨ret_bool (by rw [HL.out, HS.out, ← HE3.out, H1.out]; rfl), HKn.out⟩
theorem Rd.but {w W : World} {B md k n : Nat} {A : Option Addr} {xs : List Value} (h : Rd w w.heap.size k A n xs) (hf : FreshA B A n) (hB : md < B) (hk : Keeps (But w md) w W) : Rd W W.heap.size k A n xs :=
  ⟨h.1, fun hn => by
    obtain ⟨b, o, e, hb, hc⟩ := h.open hn
    have h1 := hf hn _ e
    simp only at h1
    exact ⟨_, e, Nat.lt_of_lt_of_le hb hk.size, rfl, fun j hj => (World.cell?_of_block (a := ⟨b, o + j, none⟩) (hk.block b ⟨hb, by omega⟩)).trans (hc j hj)⟩⟩
theorem says_lacksF (pa : Nat) (u : Str) (D : Str → Option Value) (w : World) (hi : isB es = true) (hm : mayQ q = true) (oke : OkE es)
    (hof : ∀ o ∈ needsU es u, OfIs B0 pf mj md An Ae nn cn ce Af cf es fails q o) (hF : FSt w B0 pf mj md An Ae nn cn ce Af cf es fails q) (hz : B0 ≤ w.heap.size) (ha : w.cell? ⟨pa, 0, none⟩ = some (.pointer (some ⟨pf, 0, none⟩))) (hne : pa ≠ md) :
    SaysI 144 #[.pointer (some ⟨pa, 0, none⟩)] (lackF (endU es fails q) q) (needsU es u) (Knew md es fails q (lackX es q u) D w) where
  enters := enters_of Tryz.func144 (by kernel_rfl) rfl
  says := fun W s hs hI => by
    obtain ⟨D', h1, h2, h3⟩ := hI
    have hpa : pa < w.heap.size := cell_blk ha
    refine (lacks1F_any B0 pf mj md An Ae nn cn ce Af cf es fails q pa u s D' W hi hm hs (okS_needs oke hs) (hof s hs) (hF.kept h2) h1 (Nat.le_trans hz h2.size) ((World.cell?_of_block (a := ⟨pa, 0, none⟩) (h2.block pa ⟨hpa, hne⟩)).trans ha)).mono ?_
    rintro e w' ⟨he, D2, g1, g2, g3⟩
    exact ⟨he, D2, g1, But.trans h2 g2, fun s hs => (g3 s hs).trans (h3 s hs)⟩
set_option maxRecDepth 100000 in
set_option maxHeartbeats 4000000 in
theorem lacksF_any (u : Str) (D : Str → Option Value) (w : World) (hi : isB es = true) (hm : mayQ q = true) (oke : OkE es) (hl : es.length ≤ 100000)
    (hof : ∀ o ∈ needsU es u, OfIs B0 pf mj md An Ae nn cn ce Af cf es fails q o) (hF : FSt w B0 pf mj md An Ae nn cn ce Af cf es fails q) (hK : Known w md es fails q D) (hz : B0 ≤ w.heap.size) :
    Calls Tryz.prog 116 #[.pointer (some ⟨pf, 0, none⟩), sv u] w fun e w' => e = .returned (.bool (lacksF es (endU es fails q) q u)) ∧ Knew md es fails q (lackX es q u) D w w' := by
  have c0 := hF.c0
  have c1 := hF.c1
  have hlt := hF.lt
  have hmd : md < w.heap.size := hK.dm.lt
  have hne : w.heap.size ≠ md := by omega
  have HF := Lib.hid hF
  have HK := Lib.hid hK
  have HOf := Lib.hid hof
  have hnl : (needsU es u).length ≤ 1000000 := by
    have l1 := outS_le es u 1
    have l4 := outS_le es u 4
    have := List.length_filter_le (fun o => Ah es o u) (outS es u 1 ++ outS es u 4)
    rw [List.length_append] at this
    show ((outS es u 1 ++ outS es u 4).filter (fun o => Ah es o u)).length ≤ 1000000
    omega
  clear hF hK hof
  go_enter Tryz.func116, Tryz.ntmps116
  go_wp2_with fail
  first | (refine wp_named ?_; intro W1 hW) | (refine calls_named ?_; intro W1 hW)
  have B1 : Below w.heap.size w W1 := by rw [hW]; exact (by repeat (first | exact Below.refl _ _ | assumption | refine Below.alloc ?_ (by first | omega | (simp <;> omega)) _ | refine Below.setCell ?_ (by first | omega | (simp <;> omega)) _ | refine Below.drew ?_))
  replace c0 := cellAt c0 B1 (by omega)
  replace c1 := cellAt c1 B1 (by omega)
  replace HF := Lib.hid (HF.out.on B1)
  replace HK := Lib.hid (HK.out.on B1)
  replace hlt : pf < W1.heap.size := ltAt hlt B1
  replace hmd : md < W1.heap.size := ltAt hmd B1
  have n1 : w.heap.size < W1.heap.size := by rw [hW]; simp <;> omega
  have x0 : W1.cell? ⟨w.heap.size, 0, none⟩ = some (.pointer (some ⟨pf, 0, none⟩)) := by rw [hW]; go_simp
  clear hW
  have HB := Lib.hid B1
  clear B1
  have hz1 : B0 ≤ W1.heap.size := Nat.le_trans hz HB.out.size
  refine (Needs_any An Ae nn cn ce es u W1 (HF.out.re.more hz1) hl).mono ?_
  rintro e w2 ⟨A2, c2, rfl, ho2, hb⟩
  have HR2 := Lib.hid (own_rd' ho2)
  have HFr := Lib.hid (own_fresh ho2)
  have hmd1 := hmd
  replace c0 := cellAt c0 hb (by omega)
  replace c1 := cellAt c1 hb (by omega)
  replace x0 := cellAt x0 hb (by omega)
  replace HF := Lib.hid (HF.out.on hb)
  replace HK := Lib.hid (HK.out.on hb)
  replace hlt : pf < w2.heap.size := ltAt hlt hb
  replace hmd : md < w2.heap.size := ltAt hmd hb
  replace n1 : w.heap.size < w2.heap.size := ltAt n1 hb
  replace HB := Lib.hid (lift HB.out hb)
  clear hb ho2
  have hz2 : B0 ≤ w2.heap.size := Nat.le_trans hz HB.out.size
  go_wp2_with fail
  refine (ContainsFuncSI A2 c2 (needsU es u) _ _ (lackF (endU es fails q) q) (Knew md es fails q (lackX es q u) D w2) w2 (Knew.refl HK.out) (fun W hI => by obtain ⟨_, _, h2, _⟩ := hI; exact Rd.but HR2.out HFr.out hmd1 h2) hnl
    (says_lacksF B0 pf mj md An Ae nn cn ce Af cf es fails q w.heap.size u D w2 hi hm oke HOf.out HF.out hz2 x0 hne)).mono ?_
  rintro e w3 ⟨rfl, hkn⟩
  have HKn := Lib.hid (hkn.after HB.out)
  clear hkn
  go_wp2_with fail
  go_ret
  exact ⟨rfl, HKn.out⟩
theorem below_eq {w w' : World} (h : w' = w) : Below w.heap.size w w' := by subst h; exact Below.refl _ _
set_option maxRecDepth 100000 in
set_option maxHeartbeats 8000000 in
theorem endF_any (s : Str) (t r d : Int) (D : Str → Option Value) (w : World) (hi : isB es = true) (hm : mayQ q = true) (oke : OkE es) (hl : es.length ≤ 100000) (hlf : fails.length ≤ 140737488355328) (hj : (s, t, r, d) ∈ q) (h3 : r ≠ 3)
    (hof : ∀ o ∈ needsU es s, OfIs B0 pf mj md An Ae nn cn ce Af cf es fails q o) (hF : FSt w B0 pf mj md An Ae nn cn ce Af cf es fails q) (hK : Known w md es fails q D) (hz : B0 ≤ w.heap.size) :
    Calls Tryz.prog 83 #[.pointer (some ⟨pf, 0, none⟩), jbV (s, t, r, d)] w fun e w' => e = .returned (.int .i64 (endU es fails q s)) ∧ Knew md es fails q (lackX es q s) D w w' := by
  have c3 := hF.c3
  have hlt := hF.lt
  have HF := Lib.hid hF
  have HK := Lib.hid hK
  have HOf := Lib.hid hof
  have HE := Lib.hid (end_open hi (fails := fails) (mayQ.dq hm) hj h3)
  simp only at HE
  clear hF hK hof hj
  go_enter Tryz.func83, Tryz.ntmps83
  go_wp2_with fail
  first | (refine wp_named ?_; intro W1 hW) | (refine calls_named ?_; intro W1 hW)
  have B1 : Below w.heap.size w W1 := by rw [hW]; exact (by repeat (first | exact Below.refl _ _ | assumption | refine Below.alloc ?_ (by first | omega | (simp <;> omega)) _ | refine Below.setCell ?_ (by first | omega | (simp <;> omega)) _ | refine Below.drew ?_))
  replace c3 := cellAt c3 B1 (by omega)
  replace HF := Lib.hid (HF.out.on B1)
  replace HK := Lib.hid (HK.out.on B1)
  replace hlt : pf < W1.heap.size := ltAt hlt B1
  have n1 : w.heap.size < W1.heap.size := by rw [hW]; simp <;> omega
  have x0 : W1.cell? ⟨w.heap.size, 0, none⟩ = some (sv s) := by rw [hW]; go_simp
  have x1 : W1.cell? ⟨w.heap.size, 1, none⟩ = some (.int .i64 t) := by rw [hW]; go_simp
  have x2 : W1.cell? ⟨w.heap.size, 2, none⟩ = some (.int .i64 r) := by rw [hW]; go_simp
  have x3 : W1.cell? ⟨w.heap.size, 3, none⟩ = some (.int .i64 d) := by rw [hW]; go_simp
  clear hW
  have HB := Lib.hid B1
  clear B1
  have hz1 : B0 ≤ W1.heap.size := Nat.le_trans hz HB.out.size
  try go_wp2_with fail
  refine wp_region_held_drew (S := fun w' => Below W1.heap.size W1 w') (by kernel_rfl) (Below.drew (Below.refl _ _)) (fun hHeld => ?_)
  refine tY (i := 0) (v := ?_) rfl ?_ hHeld ?_; rotate_left 1; focus (intro w' hSw; clear hSw; go_simp; try with_reducible rfl)
  (try simp only [Act.put, zn1, zn2, zn3])
  refine tY (i := 1) (v := ?_) rfl ?_ hHeld ?_; rotate_left 1; focus (intro w' hSw; clear hSw; go_simp; try with_reducible rfl)
  (try simp only [Act.put, zn1, zn2, zn3])
  refine tY (i := 2) (v := ?_) rfl ?_ hHeld ?_; rotate_left 1; focus (intro w' hSw; clear hSw; go_simp; try with_reducible rfl)
  (try simp only [Act.put, zn1, zn2, zn3])
  refine tY (i := 3) (v := ?_) rfl ?_ hHeld ?_; rotate_left 1; focus (intro w' hSw; have hCell := fun (b o : Nat) (h : b < W1.heap.size) => hSw.cell (p := ⟨b, o, none⟩) h; clear hSw; go_simp; try with_reducible rfl)
  (try simp only [Act.put, zn1, zn2, zn3])
  refine tY (i := 4) (v := ?_) rfl ?_ hHeld ?_; rotate_left 1; focus (intro w' hSw; clear hSw; go_simp; try with_reducible rfl)
  (try simp only [Act.put, zn1, zn2, zn3])
  refine tY (i := 5) (v := ?_) rfl ?_ hHeld ?_; rotate_left 1; focus (intro w' hSw; have hCell := fun (b o : Nat) (h : b < W1.heap.size) => hSw.cell (p := ⟨b, o, none⟩) h; clear hSw; go_simp; try with_reducible rfl)
  (try simp only [Act.put, zn1, zn2, zn3])
  refine ready_one (i := 6) rfl (by kernel_rfl) (fun K hK => ?_)
  go_simp
  refine (containsS_big Af cf fails s _ ((HF.out.on hHeld).rf.more (Nat.le_trans hz1 hHeld.size)) hlf).mono ?_
  rintro e w2 ⟨rfl, hw2⟩
  have hb := below_eq hw2
  clear hw2
  refine hK.out _ _ ?_ (fun hHeld2 => ?_)
  · (try dsimp only); first | exact Below.trans hHeld (Below.mono hb hHeld.size) | exact hHeld | exact Below.drew hHeld | exact (by repeat (first | exact Below.refl _ _ | assumption | refine Below.alloc ?_ (by first | omega | (simp <;> omega)) _ | refine Below.setCell ?_ (by first | omega | (simp <;> omega)) _ | refine Below.drew ?_))
  clear hK K hHeld; have hHeld := hHeld2; clear hHeld2; (try simp only [Act.put, zn1, zn2, zn3])
  refine tY (i := 7) (v := ?_) rfl ?_ hHeld ?_; rotate_left 1; focus (intro w' hSw; clear hSw; go_simp; try with_reducible rfl)
  (try simp only [Act.put, zn1, zn2, zn3])
  refine wpAnyH_done (by kernel_rfl) ?_ _
  replace c3 := cellAt c3 hHeld (by omega)
  replace x0 := cellAt x0 hHeld (by omega)
  replace x1 := cellAt x1 hHeld (by omega)
  replace x2 := cellAt x2 hHeld (by omega)
  replace x3 := cellAt x3 hHeld (by omega)
  replace HF := Lib.hid (HF.out.on hHeld)
  replace HK := Lib.hid (HK.out.on hHeld)
  replace hlt : pf < w2.heap.size := ltAt hlt hHeld
  replace n1 : w.heap.size < w2.heap.size := ltAt n1 hHeld
  replace HB := Lib.hid (lift HB.out hHeld)
  clear hHeld
  have hz2 : B0 ≤ w2.heap.size := Nat.le_trans hz HB.out.size
  by_cases t2 : t = 2
  · subst t2
    go_wp2_with fail
    go_ret
    exact ⟨ret_int (by rw [HE.out]; rfl), (Knew.refl HK.out).after HB.out⟩
  · have b2 : (t == 2) = false := by simpa using t2
    have T2 := Lib.hid t2
    clear t2
    go_wp2_with fail
    refine (Starts_any s t r d w2).mono ?_
    rintro e w3 ⟨rfl, hb⟩
    replace c3 := cellAt c3 hb (by omega)
    replace x0 := cellAt x0 hb (by omega)
    replace x1 := cellAt x1 hb (by omega)
    replace x2 := cellAt x2 hb (by omega)
    replace x3 := cellAt x3 hb (by omega)
    replace HF := Lib.hid (HF.out.on hb)
    replace HK := Lib.hid (HK.out.on hb)
    replace hlt : pf < w3.heap.size := ltAt hlt hb
    replace n1 : w.heap.size < w3.heap.size := ltAt n1 hb
    replace HB := Lib.hid (lift HB.out hb)
    clear hb
    have hz3 : B0 ≤ w3.heap.size := Nat.le_trans hz HB.out.size
    cases hst : startsB (s, t, r, d)
    · have HS := Lib.hid hst
      cases hd : decide (s ∈ fails)
      · have HD := Lib.hid hd
        go_wp2_with fail
        go_ret
        exact ⟨ret_int (by rw [HE.out]; simp only [T2.out, HS.out, if_false, Bool.false_and, Bool.false_eq_true]; simpa using HD.out), (Knew.refl HK.out).after HB.out⟩
      · have HD := Lib.hid hd
        go_wp2_with fail
        go_ret
        exact ⟨ret_int (by rw [HE.out]; simp only [T2.out, HS.out, if_false, Bool.false_and, Bool.false_eq_true]; simpa using HD.out), (Knew.refl HK.out).after HB.out⟩
    · have HS := Lib.hid hst
      by_cases t3 : t = 3
      · subst t3
        go_wp2_with fail
        refine (lacksF_any B0 pf mj md An Ae nn cn ce Af cf es fails q s D w3 hi hm oke hl HOf.out HF.out HK.out hz3).mono ?_
        rintro e w4 ⟨rfl, hkn⟩
        have HKn := Lib.hid (hkn.after HB.out)
        clear hkn
        cases hL : lacksF es (endU es fails q) q s
        · have HL := Lib.hid hL
          cases hd : decide (s ∈ fails)
          · have HD := Lib.hid hd
            go_wp2_with fail
            go_ret
            exact ⟨ret_int (by rw [HE.out]; simp only [HL.out, T2.out, HS.out, if_false, Bool.true_and, Bool.false_eq_true, Bool.and_false]; simpa using HD.out), HKn.out⟩
          · have HD := Lib.hid hd
            go_wp2_with fail
            go_ret
            exact ⟨ret_int (by rw [HE.out]; simp only [HL.out, T2.out, HS.out, if_false, Bool.true_and, Bool.false_eq_true, Bool.and_false]; simpa using HD.out), HKn.out⟩
        · have HL := Lib.hid hL
          go_wp2_with fail
          go_ret
          exact ⟨ret_int (by rw [HE.out]; simp [HL.out, T2.out, HS.out, if_false, Bool.true_and, Bool.false_eq_true, Bool.and_false]), HKn.out⟩
      · have b3 : (t == 3) = false := by simpa using t3
        by_cases r1 : r = 1
        · subst r1
          go_wp2_with fail
          refine (lacksF_any B0 pf mj md An Ae nn cn ce Af cf es fails q s D w3 hi hm oke hl HOf.out HF.out HK.out hz3).mono ?_
          rintro e w4 ⟨rfl, hkn⟩
          have HKn := Lib.hid (hkn.after HB.out)
          clear hkn
          cases hL : lacksF es (endU es fails q) q s
          · have HL := Lib.hid hL
            cases hd : decide (s ∈ fails)
            · have HD := Lib.hid hd
              go_wp2_with fail
              go_ret
              exact ⟨ret_int (by rw [HE.out]; simp only [HL.out, T2.out, HS.out, if_false, Bool.true_and, Bool.false_eq_true, Bool.and_false]; simpa using HD.out), HKn.out⟩
            · have HD := Lib.hid hd
              go_wp2_with fail
              go_ret
              exact ⟨ret_int (by rw [HE.out]; simp only [HL.out, T2.out, HS.out, if_false, Bool.true_and, Bool.false_eq_true, Bool.and_false]; simpa using HD.out), HKn.out⟩
          · have HL := Lib.hid hL
            go_wp2_with fail
            go_ret
            exact ⟨ret_int (by rw [HE.out]; simp [HL.out, T2.out, HS.out, if_false, Bool.true_and, Bool.false_eq_true, Bool.and_false]), HKn.out⟩
        · have b1 : (r == 1) = false := by simpa using r1
          cases hd : decide (s ∈ fails)
          · have HD := Lib.hid hd
            go_wp2_with fail
            go_ret
            exact ⟨ret_int (by rw [HE.out]; simp only [T2.out, HS.out, b3, b1, if_false, Bool.true_and, Bool.false_eq_true, Bool.false_and, Bool.and_false, Bool.or_false]; simpa using HD.out), (Knew.refl HK.out).after HB.out⟩
          · have HD := Lib.hid hd
            go_wp2_with fail
            go_ret
            exact ⟨ret_int (by rw [HE.out]; simp only [T2.out, HS.out, b3, b1, if_false, Bool.true_and, Bool.false_eq_true, Bool.false_and, Bool.and_false, Bool.or_false]; simpa using HD.out), (Knew.refl HK.out).after HB.out⟩
end
end Od
end Go.Proofs.YtmlogmcnblgnbaaGreat
end

section
/- The walk of wave's fact.of; what becomes of each job. (bel2) -/
namespace Go.Proofs.YtmlogmcnblgnbaaGreat
open Go.RowKit Go.Sort Go.Maps
set_option linter.unusedSimpArgs false

namespace Od
theorem cellK {w w' : World} {md b o : Nat} {v : Value} (c : w.cell? ⟨b, o, none⟩ = some v) (hk : Keeps (But w md) w w') (h : b < w.heap.size) (hne : ¬ b = md) : w'.cell? ⟨b, o, none⟩ = some v := (World.cell?_of_block (a := ⟨b, o, none⟩) (hk.block b ⟨h, hne⟩)).trans c
theorem froK {w w' : World} {md b o : Nat} (c : w.frozen? ⟨b, o, none⟩ = false) (hk : Keeps (But w md) w w') (h : b < w.heap.size) (hne : ¬ b = md) : w'.frozen? ⟨b, o, none⟩ = false := (World.frozen?_of_block (a := ⟨b, o, none⟩) (hk.block b ⟨h, hne⟩)).trans c
theorem But.grown {w w' : World} {md : Nat} (hg : w.grownBy w' (some md)) : Keeps (But w md) w w' := ⟨hg.os, hg.tape, hg.output, hg.size, fun j hj => hg.block j hj.1 (fun e => hj.2 (by injection e))⟩
section
variable {md : Nat} {es : List Ed} {fails : List Str} {q : List Jb} {X : Str → Prop} {D : Str → Option Value} {w w1 : World}
theorem Knew.setCell (h : Knew md es fails q X D w w1) {p j : Nat} {v : Value} (hp : w.heap.size ≤ p) (hne : p ≠ md) : Knew md es fails q X D w (w1.setCell ⟨p, j, none⟩ v) := by
  obtain ⟨D', h1, h2, h3⟩ := h
  have hh : ∀ b, b ≠ p → (w1.setCell ⟨p, j, none⟩ v).heap[b]? = w1.heap[b]? := fun b hb => Below.heap_setCell w1 ⟨p, j, none⟩ v b hb
  exact ⟨D', ⟨h1.dm.same (hh md (fun e => hne e.symm)), h1.ok⟩, ⟨h2.os, h2.tape, h2.output, by have := h2.size; simpa using this, fun b hb => (hh b (by have := hb.1; omega)).trans (h2.block b hb)⟩, h3⟩
end
section
variable (B0 pf mj md : Nat) (An Ae : Option Addr) (nn cn ce : Nat) (Af : Option Addr) (cf : Nat) (es : List Ed) (fails : List Str) (q : List Jb)
set_option maxRecDepth 100000 in
set_option maxHeartbeats 16000000 in
theorem ofF_step (u : Str) (hi : isB es = true) (hm : mayQ q = true) (oke : OkE es) (hl : es.length ≤ 100000) (hlq : q.length ≤ 1000000) (hlf : fails.length ≤ 140737488355328) (hokq : OkJs q)
    (hof : ∀ o ∈ needsU es u, OfIs B0 pf mj md An Ae nn cn ce Af cf es fails q o) : OfIs B0 pf mj md An Ae nn cn ce Af cf es fails q u := by
  intro j D w hj hF hK hz
  obtain ⟨s, t, r, d⟩ := j
  obtain ⟨hjq, hjs⟩ := jobOf_mem hj
  simp only at hjs
  subst hjs
  have hok : okS s := by have := hokq _ hjq; unfold okS maxLen; simp only at this; omega
  have c2 := hF.c2
  have c4 := hF.c4
  have hlt := hF.lt
  have hmd : md < w.heap.size := hK.dm.lt
  have hne : w.heap.size ≠ md := by omega
  have hne1 : ¬ w.heap.size = md := by omega
  have hne2 : ¬ w.heap.size + 1 + 1 = md := by omega
  have hpm : ¬ pf = md := hF.pm
  have HF := Lib.hid hF
  have HK := Lib.hid hK
  have HOf := Lib.hid hof
  have HQ := Lib.hid hjq
  have HJj := Lib.hid hj
  obtain ⟨f, hf⟩ : ∃ f : Str → Option Value, f = fun s => (jobOf q s).map jbV := ⟨_, rfl⟩
  have HJ : Hid (MapIs strK w mj q.length f) := by rw [hf]; exact hF.jm
  have hfs : f s = some (.agg #[sv s, .int .i64 t, .int .i64 r, .int .i64 d]) := by rw [hf]; show (jobOf q s).map jbV = _; rw [hj]; rfl
  clear hF hK hof hjq hj hf
  cases hD : D s with
  | some v =>
    obtain ⟨j', hj', hv⟩ := HK.out.ok s v hD
    have hjj : j' = (s, t, r, d) := Option.some.inj (hj'.symm.trans HJj.out)
    subst hjj
    subst hv
    generalize hz : factJ es fails q (s, t, r, d) = z at hD ⊢
    obtain ⟨v0, v1, v2, v3⟩ := z
    have hD' : D s = some (.agg #[sv v0, .int .i64 v1, .int .i64 v2, .int .i64 v3]) := hD
    clear hD hj' hz
    go_enter Tryz.func57, Tryz.ntmps57
    go_wp2_with (first
      | (at_lookup; refine wpList_lookOk_is _ (by rfl) (.tmp 12) (.tmp 13) 77 (by rfl) 48 Tryz.underlying77 zJ (zeroJ _) md _ D (by rfl) (HK.out.dm.alloc _) s (by rfl) hok ?_; rw [hD']; simp only [Option.getD_some, Option.isSome_some, zJ])
      | fail)
    refine bodyPost_ret (v := jbV (v0, v1, v2, v3)) ?_ rfl ⟨rfl, (Knew.refl HK.out).on (by repeat (first | exact Below.refl _ _ | assumption | refine Below.alloc ?_ (by first | omega | (simp <;> omega)) _ | refine Below.setCell ?_ (by first | omega | (simp <;> omega)) _ | refine Below.drew ?_))⟩
    simp [results, Tryz.results57, go_sem, jbV]
  | none =>
    have HD := Lib.hid hD
    by_cases r3 : r = 3
    · subst r3
      have HV := Lib.hid (show factJ es fails q (s, t, 3, d) = (s, t, 3, d) from factJ_ended rfl)
      go_enter Tryz.func57, Tryz.ntmps57
      go_wp2_with (first
        | (at_lookup; refine wpList_lookOk_is _ (by rfl) (.tmp 12) (.tmp 13) 77 (by rfl) 48 Tryz.underlying77 zJ (zeroJ _) md _ D (by rfl) (HK.out.dm.alloc _) s (by rfl) hok ?_; rw [hD]; simp only [Option.getD_none, Option.isSome_none, zJ])
        | (at_lookup; refine wpList_lookup_is _ (by rfl) (.tmp 22) (.tmp 23) 77 (by rfl) 48 Tryz.underlying77 zJ (zeroJ _) mj _ f (by rfl) (HJ.out.on (by repeat (first | exact Below.refl _ _ | assumption | refine Below.alloc ?_ (by first | omega | (simp <;> omega)) _ | refine Below.setCell ?_ (by first | omega | (simp <;> omega)) _ | refine Below.drew ?_))) s (by rfl) hok ?_; rw [hfs]; simp only [Option.getD_some])
        | fail)
      first | (refine wp_named ?_; intro W3 hW) | (refine calls_named ?_; intro W3 hW)
      have y0 : W3.cell? ⟨w.heap.size + 1 + 1, 0, none⟩ = some (sv s) := by rw [hW]; go_simp
      have y1 : W3.cell? ⟨w.heap.size + 1 + 1, 1, none⟩ = some (.int .i64 t) := by rw [hW]; go_simp
      have y2 : W3.cell? ⟨w.heap.size + 1 + 1, 2, none⟩ = some (.int .i64 3) := by rw [hW]; go_simp
      have y3 : W3.cell? ⟨w.heap.size + 1 + 1, 3, none⟩ = some (.int .i64 d) := by rw [hW]; go_simp
      have z0 : W3.cell? ⟨w.heap.size, 0, none⟩ = some (.string ⟨#[]⟩) := by rw [hW]; go_simp
      have z1 : W3.cell? ⟨w.heap.size, 1, none⟩ = some (.int .i64 0) := by rw [hW]; go_simp
      have z2 : W3.cell? ⟨w.heap.size, 2, none⟩ = some (.int .i64 0) := by rw [hW]; go_simp
      have z3 : W3.cell? ⟨w.heap.size, 3, none⟩ = some (.int .i64 0) := by rw [hW]; go_simp
      have u0 : W3.frozen? ⟨w.heap.size, 0, none⟩ = false := by rw [hW]; go_simp
      have u1 : W3.frozen? ⟨w.heap.size, 1, none⟩ = false := by rw [hW]; go_simp
      have u2 : W3.frozen? ⟨w.heap.size, 2, none⟩ = false := by rw [hW]; go_simp
      have u3 : W3.frozen? ⟨w.heap.size, 3, none⟩ = false := by rw [hW]; go_simp
      have e4 : W3.cell? ⟨pf, 4, none⟩ = some (.map (some md)) := by rw [hW]; exact cellAt c4 (by repeat (first | exact Below.refl _ _ | assumption | refine Below.alloc ?_ (by first | omega | (simp <;> omega)) _ | refine Below.setCell ?_ (by first | omega | (simp <;> omega)) _ | refine Below.drew ?_)) hlt
      have l1 : w.heap.size < W3.heap.size := by rw [hW]; simp <;> omega
      have l3 : w.heap.size + 1 + 1 < W3.heap.size := by rw [hW]; simp <;> omega
      have l5 : pf < W3.heap.size := by rw [hW]; simp <;> omega
      have hkw : Knew md es fails q (lackX es q s) D w W3 := by rw [hW]; exact (Knew.refl HK.out).on (by repeat (first | exact Below.refl _ _ | assumption | refine Below.alloc ?_ (by first | omega | (simp <;> omega)) _ | refine Below.setCell ?_ (by first | omega | (simp <;> omega)) _ | refine Below.drew ?_))
      have HKw := Lib.hid hkw
      clear hW hkw
      obtain ⟨D2, hk2, hkeep, hsame⟩ := HKw.out
      have HK2 := Lib.hid hk2
      have HKp := Lib.hid hkeep
      have HSm := Lib.hid hsame
      have hcn := cntD_le q D2
      have hcm := Lib.hid (show cntD q D2 < maxLen by unfold maxLen; omega)
      clear hk2 hkeep hsame HKw hcn
      try go_wp2_with fail
      refine wp_region_held_drew (S := fun w' => Keeps (But W3 md) W3 w') (by kernel_rfl) (But.below (Below.drew (Below.refl _ _))) (fun hHeld => ?_)
      refine tY (i := 0) (v := ?_) rfl ?_ hHeld ?_; rotate_left 1; focus (intro w' hSw; clear hSw; go_simp; try with_reducible rfl)
      (try simp only [Act.put, zn1, zn2, zn3])
      refine tY (i := 1) (v := ?_) rfl ?_ hHeld ?_; rotate_left 1; focus (intro w' hSw; clear hSw; go_simp; try with_reducible rfl)
      (try simp only [Act.put, zn1, zn2, zn3])
      refine tY (i := 2) (v := ?_) rfl ?_ hHeld ?_; rotate_left 1; focus (intro w' hSw; clear hSw; go_simp; try with_reducible rfl)
      (try simp only [Act.put, zn1, zn2, zn3])
      refine tY (i := 3) (v := ?_) rfl ?_ hHeld ?_; rotate_left 1; focus (intro w' hSw; have hCell := fun (b o : Nat) (h : b < W3.heap.size) (h2 : ¬ b = md) => World.cell?_of_block (a := ⟨b, o, none⟩) (hSw.block b ⟨h, h2⟩); clear hSw; go_simp; try with_reducible rfl)
      (try simp only [Act.put, zn1, zn2, zn3])
      refine tY (i := 4) (v := ?_) rfl ?_ hHeld ?_; rotate_left 1; focus (intro w' hSw; clear hSw; go_simp; try with_reducible rfl)
      (try simp only [Act.put, zn1, zn2, zn3])
      refine tY (i := 5) (v := ?_) rfl ?_ hHeld ?_; rotate_left 1; focus (intro w' hSw; have hCell := fun (b o : Nat) (h : b < W3.heap.size) (h2 : ¬ b = md) => World.cell?_of_block (a := ⟨b, o, none⟩) (hSw.block b ⟨h, h2⟩); clear hSw; go_simp; try with_reducible rfl)
      (try simp only [Act.put, zn1, zn2, zn3])
      refine ready_one (i := 6) rfl (by kernel_rfl) (fun K hK => ?_)
      refine step_update_is _ (by rfl) (.tmp 40) (.tmp 41) (.tmp 42) 77 (by rfl) 48 Tryz.underlying77 md _ D2 (by rfl) HK2.out.dm hcm.out s (.agg #[sv s, .int .i64 t, .int .i64 3, .int .i64 d]) (by rfl) (by rfl) hok ?_
      intro w5 hm5 hg5
      have hS := But.trans hHeld (But.grown hg5)
      have HM5 := Lib.hid (show ∃ D3, MapIs strK w5 md (cntD q D2 + 1) D3 ∧ D3 s = some (.agg #[sv s, .int .i64 t, .int .i64 3, .int .i64 d]) ∧ ∀ x, x ≠ s → D3 x = D2 x from ⟨_, hm5, by simp, fun x hx => by simp [hx]⟩)
      clear hm5 hg5
      refine hK.out _ _ ?_ (fun hHeld2 => ?_)
      · (try dsimp only); exact hS
      clear hK K hHeld; have hHeld := hHeld2; clear hHeld2; (try simp only [Act.put, zn1, zn2, zn3])
      refine wpAnyH_done (by kernel_rfl) ?_ _
      have y0' := cellK y0 hHeld l3 (by omega)
      have y1' := cellK y1 hHeld l3 (by omega)
      have y2' := cellK y2 hHeld l3 (by omega)
      have y3' := cellK y3 hHeld l3 (by omega)
      have z0' := cellK z0 hHeld l1 (by omega)
      have z1' := cellK z1 hHeld l1 (by omega)
      have z2' := cellK z2 hHeld l1 (by omega)
      have z3' := cellK z3 hHeld l1 (by omega)
      have u0' := froK u0 hHeld l1 (by omega)
      have u1' := froK u1 hHeld l1 (by omega)
      have u2' := froK u2 hHeld l1 (by omega)
      have u3' := froK u3 hHeld l1 (by omega)
      have HH := Lib.hid hHeld
      have m1 : w.heap.size < w5.heap.size := Nat.lt_of_lt_of_le l1 HH.out.size
      have m3 : w.heap.size + 1 + 1 < w5.heap.size := Nat.lt_of_lt_of_le l3 HH.out.size
      clear y0 y1 y2 y3 z0 z1 z2 z3 u0 u1 u2 u3 hHeld
      have hfin : Knew md es fails q (ofX es q s) D w w5 := by
        obtain ⟨D3, g1, g2, g3⟩ := HM5.out
        have hD2 : D2 s = none := (HSm.out s (Nat.le_refl _)).trans HD.out
        have hcnt := cntD_put (D' := D3) HQ.out hD2 (by show (D3 s).isSome = true; rw [g2]; rfl) (fun x hx => g3 x hx)
        refine ⟨D3, ⟨g1.mono hcnt, fun x v hv => ?_⟩, But.trans HKp.out HH.out, fun x hx => (g3 x hx.2).trans (HSm.out x hx.1)⟩
        by_cases hx : x = s
        · subst hx
          rw [g2] at hv
          injection hv with hv
          exact ⟨_, HJj.out, by rw [HV.out, ← hv] <;> rfl⟩
        · rw [g3 x hx] at hv
          exact HK2.out.ok x v hv
      have HFin := Lib.hid hfin
      clear hfin
      go_wp2_with fail
      refine bodyPost_ret (v := jbV (s, t, 3, d)) ?_ rfl ⟨by rw [HV.out], (((HFin.out.setCell (Nat.le_refl _) hne).setCell (Nat.le_refl _) hne).setCell (Nat.le_refl _) hne).setCell (Nat.le_refl _) hne⟩
      simp [results, Tryz.results57, go_sem, z0', z1', z2', z3', jbV]
    · have b3 : (r != 3) = true := by simpa using r3
      have b3' : (r == 3) = false := by simpa using r3
      have HV0 := Lib.hid (show factJ es fails q (s, t, r, d) = (s, if t = 3 then 1 else t, 3, endU es fails q s) from factJ_open r3)
      have R3 := Lib.hid r3
      clear r3
      go_enter Tryz.func57, Tryz.ntmps57
      go_wp2_with (first
        | (at_lookup; refine wpList_lookOk_is _ (by rfl) (.tmp 12) (.tmp 13) 77 (by rfl) 48 Tryz.underlying77 zJ (zeroJ _) md _ D (by rfl) (HK.out.dm.alloc _) s (by rfl) hok ?_; rw [hD]; simp only [Option.getD_none, Option.isSome_none, zJ])
        | (at_lookup; refine wpList_lookup_is _ (by rfl) (.tmp 22) (.tmp 23) 77 (by rfl) 48 Tryz.underlying77 zJ (zeroJ _) mj _ f (by rfl) (HJ.out.on (by repeat (first | exact Below.refl _ _ | assumption | refine Below.alloc ?_ (by first | omega | (simp <;> omega)) _ | refine Below.setCell ?_ (by first | omega | (simp <;> omega)) _ | refine Below.drew ?_))) s (by rfl) hok ?_; rw [hfs]; simp only [Option.getD_some])
        | fail)
      first | (refine wp_named ?_; intro W1 hW) | (refine calls_named ?_; intro W1 hW)
      have B1 : Below w.heap.size w W1 := by rw [hW]; exact (by repeat (first | exact Below.refl _ _ | assumption | refine Below.alloc ?_ (by first | omega | (simp <;> omega)) _ | refine Below.setCell ?_ (by first | omega | (simp <;> omega)) _ | refine Below.drew ?_))
      replace c4 := cellAt c4 B1 (by omega)
      replace HF := Lib.hid (HF.out.on B1)
      replace HK := Lib.hid (HK.out.on B1)
      replace hlt : pf < W1.heap.size := ltAt hlt B1
      have n1 : w.heap.size < W1.heap.size := by rw [hW]; simp <;> omega
      have n3 : w.heap.size + 1 + 1 < W1.heap.size := by rw [hW]; simp <;> omega
      have z0 : W1.cell? ⟨w.heap.size, 0, none⟩ = some (.string ⟨#[]⟩) := by rw [hW]; go_simp
      have z1 : W1.cell? ⟨w.heap.size, 1, none⟩ = some (.int .i64 0) := by rw [hW]; go_simp
      have z2 : W1.cell? ⟨w.heap.size, 2, none⟩ = some (.int .i64 0) := by rw [hW]; go_simp
      have z3 : W1.cell? ⟨w.heap.size, 3, none⟩ = some (.int .i64 0) := by rw [hW]; go_simp
      have y0 : W1.cell? ⟨w.heap.size + 1 + 1, 0, none⟩ = some (sv s) := by rw [hW]; go_simp
      have y1 : W1.cell? ⟨w.heap.size + 1 + 1, 1, none⟩ = some (.int .i64 t) := by rw [hW]; go_simp
      have y2 : W1.cell? ⟨w.heap.size + 1 + 1, 2, none⟩ = some (.int .i64 r) := by rw [hW]; go_simp
      have y3 : W1.cell? ⟨w.heap.size + 1 + 1, 3, none⟩ = some (.int .i64 d) := by rw [hW]; go_simp
      have u0 : W1.frozen? ⟨w.heap.size, 0, none⟩ = false := by rw [hW]; go_simp
      have u1 : W1.frozen? ⟨w.heap.size, 1, none⟩ = false := by rw [hW]; go_simp
      have u2 : W1.frozen? ⟨w.heap.size, 2, none⟩ = false := by rw [hW]; go_simp
      have u3 : W1.frozen? ⟨w.heap.size, 3, none⟩ = false := by rw [hW]; go_simp
      have v0 : W1.frozen? ⟨w.heap.size + 1 + 1, 0, none⟩ = false := by rw [hW]; go_simp
      have v1 : W1.frozen? ⟨w.heap.size + 1 + 1, 1, none⟩ = false := by rw [hW]; go_simp
      have v2 : W1.frozen? ⟨w.heap.size + 1 + 1, 2, none⟩ = false := by rw [hW]; go_simp
      have v3 : W1.frozen? ⟨w.heap.size + 1 + 1, 3, none⟩ = false := by rw [hW]; go_simp
      clear hW
      have HB := Lib.hid B1
      have hz1 : B0 ≤ W1.heap.size := Nat.le_trans hz B1.size
      clear B1
      refine (endF_any B0 pf mj md An Ae nn cn ce Af cf es fails q s t r d D W1 hi hm oke hl hlf HQ.out R3.out HOf.out HF.out HK.out hz1).mono ?_
      rintro e w2 ⟨rfl, hkn⟩
      have HKn := Lib.hid (hkn.after HB.out)
      have hkp : Keeps (But W1 md) W1 w2 := by obtain ⟨_, _, h, _⟩ := hkn; exact h
      clear hkn HB
      replace c4 := cellK c4 hkp (by omega) (by omega)
      replace z0 := cellK z0 hkp (by omega) (by omega)
      replace z1 := cellK z1 hkp (by omega) (by omega)
      replace z2 := cellK z2 hkp (by omega) (by omega)
      replace z3 := cellK z3 hkp (by omega) (by omega)
      replace y0 := cellK y0 hkp (by omega) (by omega)
      replace y1 := cellK y1 hkp (by omega) (by omega)
      replace y2 := cellK y2 hkp (by omega) (by omega)
      replace y3 := cellK y3 hkp (by omega) (by omega)
      replace u0 := froK u0 hkp (by omega) (by omega)
      replace u1 := froK u1 hkp (by omega) (by omega)
      replace u2 := froK u2 hkp (by omega) (by omega)
      replace u3 := froK u3 hkp (by omega) (by omega)
      replace v0 := froK v0 hkp (by omega) (by omega)
      replace v1 := froK v1 hkp (by omega) (by omega)
      replace v2 := froK v2 hkp (by omega) (by omega)
      replace v3 := froK v3 hkp (by omega) (by omega)
      replace hlt : pf < w2.heap.size := Nat.lt_of_lt_of_le hlt (Keeps.size hkp)
      replace n1 : w.heap.size < w2.heap.size := Nat.lt_of_lt_of_le n1 (Keeps.size hkp)
      replace n3 : w.heap.size + 1 + 1 < w2.heap.size := Nat.lt_of_lt_of_le n3 (Keeps.size hkp)
      clear hkp HF HK
      by_cases t3 : t = 3
      · subst t3
        have HV := Lib.hid (show factJ es fails q (s, 3, r, d) = (s, 1, 3, endU es fails q s) from HV0.out)
        generalize endU es fails q s = de at HV ⊢
        go_wp2_with fail
        first | (refine wp_named ?_; intro W3 hW) | (refine calls_named ?_; intro W3 hW)
        have y0 : W3.cell? ⟨w.heap.size + 1 + 1, 0, none⟩ = some (sv s) := by rw [hW]; go_simp
        have y1 : W3.cell? ⟨w.heap.size + 1 + 1, 1, none⟩ = some (.int .i64 1) := by rw [hW]; go_simp
        have y2 : W3.cell? ⟨w.heap.size + 1 + 1, 2, none⟩ = some (.int .i64 3) := by rw [hW]; go_simp
        have y3 : W3.cell? ⟨w.heap.size + 1 + 1, 3, none⟩ = some (.int .i64 de) := by rw [hW]; go_simp
        have z0 : W3.cell? ⟨w.heap.size, 0, none⟩ = some (.string ⟨#[]⟩) := by rw [hW]; go_simp
        have z1 : W3.cell? ⟨w.heap.size, 1, none⟩ = some (.int .i64 0) := by rw [hW]; go_simp
        have z2 : W3.cell? ⟨w.heap.size, 2, none⟩ = some (.int .i64 0) := by rw [hW]; go_simp
        have z3 : W3.cell? ⟨w.heap.size, 3, none⟩ = some (.int .i64 0) := by rw [hW]; go_simp
        have u0 : W3.frozen? ⟨w.heap.size, 0, none⟩ = false := by rw [hW]; go_simp
        have u1 : W3.frozen? ⟨w.heap.size, 1, none⟩ = false := by rw [hW]; go_simp
        have u2 : W3.frozen? ⟨w.heap.size, 2, none⟩ = false := by rw [hW]; go_simp
        have u3 : W3.frozen? ⟨w.heap.size, 3, none⟩ = false := by rw [hW]; go_simp
        have e4 : W3.cell? ⟨pf, 4, none⟩ = some (.map (some md)) := by rw [hW]; go_simp
        have l1 : w.heap.size < W3.heap.size := by rw [hW]; simp <;> omega
        have l3 : w.heap.size + 1 + 1 < W3.heap.size := by rw [hW]; simp <;> omega
        have l5 : pf < W3.heap.size := by rw [hW]; simp <;> omega
        have hkw : Knew md es fails q (lackX es q s) D w W3 := by rw [hW]; exact (((HKn.out.setCell (by omega) (by omega)).setCell (by omega) (by omega)).setCell (by omega) (by omega))
        have HKw := Lib.hid hkw
        clear hW hkw
        obtain ⟨D2, hk2, hkeep, hsame⟩ := HKw.out
        have HK2 := Lib.hid hk2
        have HKp := Lib.hid hkeep
        have HSm := Lib.hid hsame
        have hcn := cntD_le q D2
        have hcm := Lib.hid (show cntD q D2 < maxLen by unfold maxLen; omega)
        clear hk2 hkeep hsame HKw hcn
        try go_wp2_with fail
        refine wp_region_held_drew (S := fun w' => Keeps (But W3 md) W3 w') (by kernel_rfl) (But.below (Below.drew (Below.refl _ _))) (fun hHeld => ?_)
        refine tY (i := 0) (v := ?_) rfl ?_ hHeld ?_; rotate_left 1; focus (intro w' hSw; clear hSw; go_simp; try with_reducible rfl)
        (try simp only [Act.put, zn1, zn2, zn3])
        refine tY (i := 1) (v := ?_) rfl ?_ hHeld ?_; rotate_left 1; focus (intro w' hSw; clear hSw; go_simp; try with_reducible rfl)
        (try simp only [Act.put, zn1, zn2, zn3])
        refine tY (i := 2) (v := ?_) rfl ?_ hHeld ?_; rotate_left 1; focus (intro w' hSw; clear hSw; go_simp; try with_reducible rfl)
        (try simp only [Act.put, zn1, zn2, zn3])
        refine tY (i := 3) (v := ?_) rfl ?_ hHeld ?_; rotate_left 1; focus (intro w' hSw; have hCell := fun (b o : Nat) (h : b < W3.heap.size) (h2 : ¬ b = md) => World.cell?_of_block (a := ⟨b, o, none⟩) (hSw.block b ⟨h, h2⟩); clear hSw; go_simp; try with_reducible rfl)
        (try simp only [Act.put, zn1, zn2, zn3])
        refine tY (i := 4) (v := ?_) rfl ?_ hHeld ?_; rotate_left 1; focus (intro w' hSw; clear hSw; go_simp; try with_reducible rfl)
        (try simp only [Act.put, zn1, zn2, zn3])
        refine tY (i := 5) (v := ?_) rfl ?_ hHeld ?_; rotate_left 1; focus (intro w' hSw; have hCell := fun (b o : Nat) (h : b < W3.heap.size) (h2 : ¬ b = md) => World.cell?_of_block (a := ⟨b, o, none⟩) (hSw.block b ⟨h, h2⟩); clear hSw; go_simp; try with_reducible rfl)
        (try simp only [Act.put, zn1, zn2, zn3])
        refine ready_one (i := 6) rfl (by kernel_rfl) (fun K hK => ?_)
        refine step_update_is _ (by rfl) (.tmp 40) (.tmp 41) (.tmp 42) 77 (by rfl) 48 Tryz.underlying77 md _ D2 (by rfl) HK2.out.dm hcm.out s (.agg #[sv s, .int .i64 1, .int .i64 3, .int .i64 de]) (by rfl) (by rfl) hok ?_
        intro w5 hm5 hg5
        have hS := But.trans hHeld (But.grown hg5)
        have HM5 := Lib.hid (show ∃ D3, MapIs strK w5 md (cntD q D2 + 1) D3 ∧ D3 s = some (.agg #[sv s, .int .i64 1, .int .i64 3, .int .i64 de]) ∧ ∀ x, x ≠ s → D3 x = D2 x from ⟨_, hm5, by simp, fun x hx => by simp [hx]⟩)
        clear hm5 hg5
        refine hK.out _ _ ?_ (fun hHeld2 => ?_)
        · (try dsimp only); exact hS
        clear hK K hHeld; have hHeld := hHeld2; clear hHeld2; (try simp only [Act.put, zn1, zn2, zn3])
        refine wpAnyH_done (by kernel_rfl) ?_ _
        have y0' := cellK y0 hHeld l3 (by omega)
        have y1' := cellK y1 hHeld l3 (by omega)
        have y2' := cellK y2 hHeld l3 (by omega)
        have y3' := cellK y3 hHeld l3 (by omega)
        have z0' := cellK z0 hHeld l1 (by omega)
        have z1' := cellK z1 hHeld l1 (by omega)
        have z2' := cellK z2 hHeld l1 (by omega)
        have z3' := cellK z3 hHeld l1 (by omega)
        have u0' := froK u0 hHeld l1 (by omega)
        have u1' := froK u1 hHeld l1 (by omega)
        have u2' := froK u2 hHeld l1 (by omega)
        have u3' := froK u3 hHeld l1 (by omega)
        have HH := Lib.hid hHeld
        have m1 : w.heap.size < w5.heap.size := Nat.lt_of_lt_of_le l1 HH.out.size
        have m3 : w.heap.size + 1 + 1 < w5.heap.size := Nat.lt_of_lt_of_le l3 HH.out.size
        clear y0 y1 y2 y3 z0 z1 z2 z3 u0 u1 u2 u3 hHeld
        have hfin : Knew md es fails q (ofX es q s) D w w5 := by
          obtain ⟨D3, g1, g2, g3⟩ := HM5.out
          have hD2 : D2 s = none := (HSm.out s (Nat.le_refl _)).trans HD.out
          have hcnt := cntD_put (D' := D3) HQ.out hD2 (by show (D3 s).isSome = true; rw [g2]; rfl) (fun x hx => g3 x hx)
          refine ⟨D3, ⟨g1.mono hcnt, fun x v hv => ?_⟩, But.trans HKp.out HH.out, fun x hx => (g3 x hx.2).trans (HSm.out x hx.1)⟩
          by_cases hx : x = s
          · subst hx
            rw [g2] at hv
            injection hv with hv
            exact ⟨_, HJj.out, by rw [HV.out, ← hv] <;> rfl⟩
          · rw [g3 x hx] at hv
            exact HK2.out.ok x v hv
        have HFin := Lib.hid hfin
        clear hfin
        go_wp2_with fail
        refine bodyPost_ret (v := jbV (s, 1, 3, de)) ?_ rfl ⟨by rw [HV.out], (((HFin.out.setCell (Nat.le_refl _) hne).setCell (Nat.le_refl _) hne).setCell (Nat.le_refl _) hne).setCell (Nat.le_refl _) hne⟩
        simp [results, Tryz.results57, go_sem, z0', z1', z2', z3', jbV]
      · have b4 : (t == 3) = false := by simpa using t3
        have HV := Lib.hid (show factJ es fails q (s, t, r, d) = (s, t, 3, endU es fails q s) by rw [HV0.out, if_neg t3])
        clear t3
        generalize endU es fails q s = de at HV ⊢
        go_wp2_with fail
        first | (refine wp_named ?_; intro W3 hW) | (refine calls_named ?_; intro W3 hW)
        have y0 : W3.cell? ⟨w.heap.size + 1 + 1, 0, none⟩ = some (sv s) := by rw [hW]; go_simp
        have y1 : W3.cell? ⟨w.heap.size + 1 + 1, 1, none⟩ = some (.int .i64 t) := by rw [hW]; go_simp
        have y2 : W3.cell? ⟨w.heap.size + 1 + 1, 2, none⟩ = some (.int .i64 3) := by rw [hW]; go_simp
        have y3 : W3.cell? ⟨w.heap.size + 1 + 1, 3, none⟩ = some (.int .i64 de) := by rw [hW]; go_simp
        have z0 : W3.cell? ⟨w.heap.size, 0, none⟩ = some (.string ⟨#[]⟩) := by rw [hW]; go_simp
        have z1 : W3.cell? ⟨w.heap.size, 1, none⟩ = some (.int .i64 0) := by rw [hW]; go_simp
        have z2 : W3.cell? ⟨w.heap.size, 2, none⟩ = some (.int .i64 0) := by rw [hW]; go_simp
        have z3 : W3.cell? ⟨w.heap.size, 3, none⟩ = some (.int .i64 0) := by rw [hW]; go_simp
        have u0 : W3.frozen? ⟨w.heap.size, 0, none⟩ = false := by rw [hW]; go_simp
        have u1 : W3.frozen? ⟨w.heap.size, 1, none⟩ = false := by rw [hW]; go_simp
        have u2 : W3.frozen? ⟨w.heap.size, 2, none⟩ = false := by rw [hW]; go_simp
        have u3 : W3.frozen? ⟨w.heap.size, 3, none⟩ = false := by rw [hW]; go_simp
        have e4 : W3.cell? ⟨pf, 4, none⟩ = some (.map (some md)) := by rw [hW]; go_simp
        have l1 : w.heap.size < W3.heap.size := by rw [hW]; simp <;> omega
        have l3 : w.heap.size + 1 + 1 < W3.heap.size := by rw [hW]; simp <;> omega
        have l5 : pf < W3.heap.size := by rw [hW]; simp <;> omega
        have hkw : Knew md es fails q (lackX es q s) D w W3 := by rw [hW]; exact ((HKn.out.setCell (by omega) (by omega)).setCell (by omega) (by omega))
        have HKw := Lib.hid hkw
        clear hW hkw
        obtain ⟨D2, hk2, hkeep, hsame⟩ := HKw.out
        have HK2 := Lib.hid hk2
        have HKp := Lib.hid hkeep
        have HSm := Lib.hid hsame
        have hcn := cntD_le q D2
        have hcm := Lib.hid (show cntD q D2 < maxLen by unfold maxLen; omega)
        clear hk2 hkeep hsame HKw hcn
        try go_wp2_with fail
        refine wp_region_held_drew (S := fun w' => Keeps (But W3 md) W3 w') (by kernel_rfl) (But.below (Below.drew (Below.refl _ _))) (fun hHeld => ?_)
        refine tY (i := 0) (v := ?_) rfl ?_ hHeld ?_; rotate_left 1; focus (intro w' hSw; clear hSw; go_simp; try with_reducible rfl)
        (try simp only [Act.put, zn1, zn2, zn3])
        refine tY (i := 1) (v := ?_) rfl ?_ hHeld ?_; rotate_left 1; focus (intro w' hSw; clear hSw; go_simp; try with_reducible rfl)
        (try simp only [Act.put, zn1, zn2, zn3])
        refine tY (i := 2) (v := ?_) rfl ?_ hHeld ?_; rotate_left 1; focus (intro w' hSw; clear hSw; go_simp; try with_reducible rfl)
        (try simp only [Act.put, zn1, zn2, zn3])
        refine tY (i := 3) (v := ?_) rfl ?_ hHeld ?_; rotate_left 1; focus (intro w' hSw; have hCell := fun (b o : Nat) (h : b < W3.heap.size) (h2 : ¬ b = md) => World.cell?_of_block (a := ⟨b, o, none⟩) (hSw.block b ⟨h, h2⟩); clear hSw; go_simp; try with_reducible rfl)
        (try simp only [Act.put, zn1, zn2, zn3])
        refine tY (i := 4) (v := ?_) rfl ?_ hHeld ?_; rotate_left 1; focus (intro w' hSw; clear hSw; go_simp; try with_reducible rfl)
        (try simp only [Act.put, zn1, zn2, zn3])
        refine tY (i := 5) (v := ?_) rfl ?_ hHeld ?_; rotate_left 1; focus (intro w' hSw; have hCell := fun (b o : Nat) (h : b < W3.heap.size) (h2 : ¬ b = md) => World.cell?_of_block (a := ⟨b, o, none⟩) (hSw.block b ⟨h, h2⟩); clear hSw; go_simp; try with_reducible rfl)
        (try simp only [Act.put, zn1, zn2, zn3])
        refine ready_one (i := 6) rfl (by kernel_rfl) (fun K hK => ?_)
        refine step_update_is _ (by rfl) (.tmp 40) (.tmp 41) (.tmp 42) 77 (by rfl) 48 Tryz.underlying77 md _ D2 (by rfl) HK2.out.dm hcm.out s (.agg #[sv s, .int .i64 t, .int .i64 3, .int .i64 de]) (by rfl) (by rfl) hok ?_
        intro w5 hm5 hg5
        have hS := But.trans hHeld (But.grown hg5)
        have HM5 := Lib.hid (show ∃ D3, MapIs strK w5 md (cntD q D2 + 1) D3 ∧ D3 s = some (.agg #[sv s, .int .i64 t, .int .i64 3, .int .i64 de]) ∧ ∀ x, x ≠ s → D3 x = D2 x from ⟨_, hm5, by simp, fun x hx => by simp [hx]⟩)
        clear hm5 hg5
        refine hK.out _ _ ?_ (fun hHeld2 => ?_)
        · (try dsimp only); exact hS
        clear hK K hHeld; have hHeld := hHeld2; clear hHeld2; (try simp only [Act.put, zn1, zn2, zn3])
        refine wpAnyH_done (by kernel_rfl) ?_ _
        have y0' := cellK y0 hHeld l3 (by omega)
        have y1' := cellK y1 hHeld l3 (by omega)
        have y2' := cellK y2 hHeld l3 (by omega)
        have y3' := cellK y3 hHeld l3 (by omega)
        have z0' := cellK z0 hHeld l1 (by omega)
        have z1' := cellK z1 hHeld l1 (by omega)
        have z2' := cellK z2 hHeld l1 (by omega)
        have z3' := cellK z3 hHeld l1 (by omega)
        have u0' := froK u0 hHeld l1 (by omega)
        have u1' := froK u1 hHeld l1 (by omega)
        have u2' := froK u2 hHeld l1 (by omega)
        have u3' := froK u3 hHeld l1 (by omega)
        have HH := Lib.hid hHeld
        have m1 : w.heap.size < w5.heap.size := Nat.lt_of_lt_of_le l1 HH.out.size
        have m3 : w.heap.size + 1 + 1 < w5.heap.size := Nat.lt_of_lt_of_le l3 HH.out.size
        clear y0 y1 y2 y3 z0 z1 z2 z3 u0 u1 u2 u3 hHeld
        have hfin : Knew md es fails q (ofX es q s) D w w5 := by
          obtain ⟨D3, g1, g2, g3⟩ := HM5.out
          have hD2 : D2 s = none := (HSm.out s (Nat.le_refl _)).trans HD.out
          have hcnt := cntD_put (D' := D3) HQ.out hD2 (by show (D3 s).isSome = true; rw [g2]; rfl) (fun x hx => g3 x hx)
          refine ⟨D3, ⟨g1.mono hcnt, fun x v hv => ?_⟩, But.trans HKp.out HH.out, fun x hx => (g3 x hx.2).trans (HSm.out x hx.1)⟩
          by_cases hx : x = s
          · subst hx
            rw [g2] at hv
            injection hv with hv
            exact ⟨_, HJj.out, by rw [HV.out, ← hv] <;> rfl⟩
          · rw [g3 x hx] at hv
            exact HK2.out.ok x v hv
        have HFin := Lib.hid hfin
        clear hfin
        go_wp2_with fail
        refine bodyPost_ret (v := jbV (s, t, 3, de)) ?_ rfl ⟨by rw [HV.out], (((HFin.out.setCell (Nat.le_refl _) hne).setCell (Nat.le_refl _) hne).setCell (Nat.le_refl _) hne).setCell (Nat.le_refl _) hne⟩
        simp [results, Tryz.results57, go_sem, z0', z1', z2', z3', jbV]
theorem ofF_any (hi : isB es = true) (hm : mayQ q = true) (oke : OkE es) (hl : es.length ≤ 100000) (hlq : q.length ≤ 1000000) (hlf : fails.length ≤ 140737488355328) (hokq : OkJs q) :
    ∀ (n : Nat) (u : Str), rank es q u < n → OfIs B0 pf mj md An Ae nn cn ce Af cf es fails q u
  | 0, _, h => by omega
  | n + 1, u, h => by
    refine ofF_step B0 pf mj md An Ae nn cn ce Af cf es fails q u hi hm oke hl hlq hlf hokq fun o ho => ?_
    intro j D w hj hF hK hz
    have hr := rank_lt hi (q := q) (jobOf_unit hj) (mem_needsU.1 ho).2
    exact ofF_any hi hm oke hl hlq hlf hokq n o (by omega) j D w hj hF hK hz
end
end Od
end Go.Proofs.YtmlogmcnblgnbaaGreat
end

section
/- The walk of wave.Fact. (bel2) -/
namespace Go.Proofs.YtmlogmcnblgnbaaGreat
open Go.RowKit Go.Sort Go.Maps
set_option linter.unusedSimpArgs false

namespace Od
theorem jobs_put {q : List Jb} (hd : DQ q) {m : Nat} (hm : m < q.length) {f : Str → Option Value} {w : World} {mj n : Nat} (h : MapIs strK w mj n f) (hs : f q[m].1 = some (jbV q[m])) (hr : ∀ x, x ≠ q[m].1 → f x = (jobOf (q.take m) x).map jbV) : MapIs strK w mj n (fun s => (jobOf (q.take (m + 1)) s).map jbV) := by
  have : f = fun s => (jobOf (q.take (m + 1)) s).map jbV := by
    funext x
    rw [jobOf_take_succ hd hm]
    by_cases hx : x = q[m].1
    · rw [if_pos hx, hx, hs]; rfl
    · rw [if_neg hx, hr x hx]
  rw [← this]; exact h
theorem But.row {w w1 w2 : World} {md : Nat} {v : Value} (h : Keeps (But w md) w w1) (hg : w1.grownBy w2 v.ownBlock) (hv : ∀ b, v.ownBlock = some b → w.heap.size ≤ b) : Keeps (But w md) w w2 :=
  ⟨hg.os.trans h.os, hg.tape.trans h.tape, hg.output.trans h.output, Nat.le_trans h.size hg.size, fun j hj => (hg.block j (Nat.lt_of_lt_of_le hj.1 h.size) (fun e => by have := hv j e.symm; have := hj.1; omega)).trans (h.block j hj)⟩
theorem But.rd {w W : World} {md B k n : Nat} {A : Option Addr} {xs : List Value} (h : Rd w B k A n xs) (hB : B ≤ md) (hB2 : B ≤ w.heap.size) (hk : Keeps (But w md) w W) : Rd W B k A n xs :=
  h.keep fun p hp => World.cell?_of_block (hk.block p.block ⟨by omega, by omega⟩)
theorem But.two {w w1 w2 : World} {mj : Nat} (h : Keeps (But w mj) w w1) (hb : Below w1.heap.size w1 w2) : Keeps (But w mj) w w2 := But.trans h (But.below hb)
theorem But.low {w0 w w1 : World} {md : Nat} (hb : Below w0.heap.size w0 w) (h : Keeps (But w md) w w1) (hm : w0.heap.size ≤ md) : Below w0.heap.size w0 w1 :=
  ⟨h.os.trans hb.os, h.tape.trans hb.tape, h.output.trans hb.output, Nat.le_trans hb.size h.size, fun j hj => (h.block j ⟨Nat.lt_of_lt_of_le hj hb.size, by omega⟩).trans (hb.block j hj)⟩
theorem one_jbV (s : Str) (t r d : Int) : ∀ u ∈ ([sv s, .int .i64 t, .int .i64 r, .int .i64 d] : List Value), u.oneCell' = true := fun u hu => by
  simp only [List.mem_cons, List.not_mem_nil, or_false] at hu
  rcases hu with rfl | rfl | rfl | rfl <;> rfl
theorem factQ_take {es : List Ed} {fails : List Str} {q : List Jb} {m : Nat} (h : m < q.length) : (factQ es fails q).take (m + 1) = (factQ es fails q).take m ++ [factJ es fails q q[m]] := by
  unfold factQ
  rw [List.take_succ_eq_append_getElem (by simpa using h)]
  simp
set_option maxRecDepth 100000 in
set_option maxHeartbeats 16000000 in
theorem FactW_any (An Ae : Option Addr) (cn ce : Nat) (ns : List Nd) (es : List Ed) (A : Option Addr) (c : Nat) (q : List Jb) (Af : Option Addr) (cf : Nat) (fails : List Str) (w : World) (hg : GIq w An Ae ns es) (hq : QIn w A c q) (hf : Rd w w.heap.size 1 Af fails.length (svs fails)) (hlq : q.length ≤ 1000) (hlf : fails.length ≤ 140737488355328) :
    Calls Tryz.prog 27 #[gV An ns.length cn Ae es.length ce, .slice A q.length c, .slice Af fails.length cf] w (RdIs 4 (facR ns es fails q).length (jbsC (facR ns es fails q)) w) := by
  obtain ⟨i0, hi, hz0, hz1, hz2⟩ := info_parts infoJb
  have HG := Lib.hid hg
  have HQ := Lib.hid hq
  have HFl := Lib.hid hf
  clear hg hq hf
  go_enter Tryz.func27, Tryz.ntmps27
  go_wp2_with fail
  first | (refine wp_named ?_; intro W1 hW) | (refine calls_named ?_; intro W1 hW)
  have B1 : Below w.heap.size w W1 := by rw [hW]; exact (by repeat (first | exact Below.refl _ _ | assumption | refine Below.alloc ?_ (by first | omega | (simp <;> omega)) _ | refine Below.setCell ?_ (by first | omega | (simp <;> omega)) _ | refine Below.drew ?_))
  replace HG := Lib.hid (HG.out.at B1)
  replace HQ := Lib.hid (HQ.out.at B1)
  replace HFl := Lib.hid (HFl.out.at B1)
  have n1 : w.heap.size < W1.heap.size := by rw [hW]; simp <;> omega
  have g0 : W1.cell? ⟨w.heap.size, 0, none⟩ = some (.slice An ns.length cn) := by rw [hW]; go_simp
  have g1 : W1.cell? ⟨w.heap.size, 1, none⟩ = some (.slice Ae es.length ce) := by rw [hW]; go_simp
  clear hW
  have HB := Lib.hid B1
  clear B1
  refine (SoundQ_any An Ae cn ce ns es A c q W1 HG.out HQ.out (by omega)).mono ?_
  rintro e w2 ⟨rfl, hb⟩
  replace g0 := cellAt g0 hb (by omega)
  replace g1 := cellAt g1 hb (by omega)
  replace HG := Lib.hid (HG.out.at hb)
  replace HQ := Lib.hid (HQ.out.at hb)
  replace HFl := Lib.hid (HFl.out.at hb)
  replace n1 : w.heap.size < w2.heap.size := ltAt n1 hb
  replace HB := Lib.hid (lift HB.out hb)
  clear hb
  cases hs : soundQ ns es q
  · have HE := Lib.hid (show facR ns es fails q = [] by unfold facR; rw [hs]; rfl)
    go_wp2_with fail
    go_ret
    rw [HE.out]
    exact ⟨none, 0, rfl, Nat.le_refl _, Rd.none_, HB.out⟩
  · obtain ⟨hm, hib⟩ := sound_ends hs
    have HE := Lib.hid (show facR ns es fails q = factQ es fails q by unfold facR; rw [hs]; rfl)
    have HM := Lib.hid hm
    have HI := Lib.hid hib
    have HD := Lib.hid (mayQ.dq hm)
    clear hm hib hs
    have hmm : ∀ (t : TypeId) (w : World), (Instr.makeMap t none).run Tryz.prog w = .ok (.map (some w.heap.size)) (w.alloc (.map #[] 0)) := fun _ _ => rfl
    have HGe := Lib.hid (And.intro HG.out.oke (show es.length ≤ 100000 by have := HG.out.le; omega))
    have HG2 := HG
    have HQ2 := HQ
    have HFl2 := HFl
    have HB2 := HB
    go_wp2_with fail
    first | (refine wp_named ?_; intro w3 hW) | (refine calls_named ?_; intro w3 hW)
    have b23 : Below w2.heap.size w2 w3 := by rw [hW]; exact (by repeat (first | exact Below.refl _ _ | assumption | refine Below.alloc ?_ (by first | omega | (simp <;> omega)) _ | refine Below.setCell ?_ (by first | omega | (simp <;> omega)) _ | refine Below.drew ?_))
    have c0 : w3.cell? ⟨w2.heap.size + 1 + 1, 0, none⟩ = some (.slice An ns.length cn) := by rw [hW]; go_simp
    have c1 : w3.cell? ⟨w2.heap.size + 1 + 1, 1, none⟩ = some (.slice Ae es.length ce) := by rw [hW]; go_simp
    have c2 : w3.cell? ⟨w2.heap.size + 1 + 1, 2, none⟩ = some (.map (some w2.heap.size)) := by rw [hW]; go_simp
    have c3 : w3.cell? ⟨w2.heap.size + 1 + 1, 3, none⟩ = some (.slice Af fails.length cf) := by rw [hW]; go_simp
    have c4 : w3.cell? ⟨w2.heap.size + 1 + 1, 4, none⟩ = some (.map (some (w2.heap.size + 1))) := by rw [hW]; go_simp
    have l3 : w2.heap.size + 1 + 1 < w3.heap.size := by rw [hW]; simp
    have mj0 : MapIs strK w3 w2.heap.size 0 (fun _ => none) := by rw [hW]; exact ((MapIs.made strK w2).alloc _).alloc _
    have md0 : MapIs strK w3 (w2.heap.size + 1) 0 (fun _ => none) := by rw [hW]; have h := fun o => (MapIs.made strK (w2.alloc (.map #[] 0))).alloc o; simp only [World.size_alloc] at h; exact h _
    clear hW
    have HMj := Lib.hid mj0
    have HMd := Lib.hid md0
    have HB23 := Lib.hid b23
    clear mj0 md0 b23
    go_wp2_with fail
    go_loopw [25] (fun i wr => ∃ m : Nat, m ≤ q.length ∧ i = .int .i64 m ∧ Hid (MapIs strK wr w2.heap.size m (fun s => (jobOf (q.take m) s).map jbV)) ∧ Hid (Keeps (But w3 w2.heap.size) w3 wr)) (fun i _ => q.length - (intOf i).toNat)
    case atStart => exact ⟨0, Nat.zero_le _, rfl, HMj, But.below (Below.refl _ _)⟩
    case round =>
      obtain ⟨m, hmq, rfl, HMm, HK⟩ := hrel
      have hsz3 : w3.heap.size ≤ wr.heap.size := HK.out.size
      by_cases hlt : m < q.length
      · have hq3 : QIn w3 A c q := HQ2.out.at HB23.out
        obtain ⟨b2, o2, hA, hB2, x0, x1, x2, x3⟩ := (HQ2.out.rq.job hlt)
        have hB3 : b2 < w3.heap.size := Nat.lt_of_lt_of_le hB2 HB23.out.size
        have hblk : ∀ j, wr.cell? ⟨b2, j, none⟩ = w2.cell? ⟨b2, j, none⟩ := fun j => (World.cell?_of_block (a := ⟨b2, j, none⟩) (HK.out.block b2 ⟨hB3, by omega⟩)).trans (HB23.out.cell (p := ⟨b2, j, none⟩) hB2)
        replace x0 := (hblk _).trans x0
        replace x1 := (hblk _).trans x1
        replace x2 := (hblk _).trans x2
        replace x3 := (hblk _).trans x3
        have hbr : b2 < wr.heap.size := by omega
        have e2 := cellK c2 HK.out l3 (by omega)
        have lp : w2.heap.size + 1 + 1 < wr.heap.size := by omega
        have hput := fun f W mj n => @jobs_put q HD.out m hlt f W mj n
        have hok : okS q[m].1 := by have := HQ2.out.ok _ (List.getElem_mem hlt); unfold okS maxLen; omega
        subst hA
        generalize q[m] = x at x0 x1 x2 x3 hput hok
        obtain ⟨s, t, r, d⟩ := x
        simp only at x0 x1 x2 x3 hput hok
        have HPut := Lib.hid hput
        have m1 : (0 : Int) ≤ (m : Int) := by omega
        have m2 : (m : Int) < (q.length : Int) := by omega
        have hml := Lib.hid (show m < maxLen by unfold maxLen; omega)
        clear hput hblk hq3
        go_wp2_with fail
        first | (refine wp_named ?_; intro W4 hW) | (refine calls_named ?_; intro W4 hW)
        have b34 : Below wr.heap.size wr W4 := by rw [hW]; exact (by repeat (first | exact Below.refl _ _ | assumption | refine Below.alloc ?_ (by first | omega | (simp <;> omega)) _ | refine Below.setCell ?_ (by first | omega | (simp <;> omega)) _ | refine Below.drew ?_))
        have y0 : W4.cell? ⟨wr.heap.size, 0, none⟩ = some (sv s) := by rw [hW]; go_simp
        have y1 : W4.cell? ⟨wr.heap.size, 1, none⟩ = some (.int .i64 t) := by rw [hW]; go_simp
        have y2 : W4.cell? ⟨wr.heap.size, 2, none⟩ = some (.int .i64 r) := by rw [hW]; go_simp
        have y3 : W4.cell? ⟨wr.heap.size, 3, none⟩ = some (.int .i64 d) := by rw [hW]; go_simp
        have l4 : wr.heap.size < W4.heap.size := by rw [hW]; simp
        clear hW
        have f2 : W4.cell? ⟨w2.heap.size + 1 + 1, 2, none⟩ = some (.map (some w2.heap.size)) := cellAt e2 b34 lp
        have lp4 : w2.heap.size + 1 + 1 < W4.heap.size := by omega
        have HM4 := Lib.hid (HMm.out.on b34)
        have HK4 := Lib.hid (But.two HK.out b34)
        clear b34 e2 x0 x1 x2 x3 HMm HK
        have nn1 : ¬ w2.heap.size + 1 + 1 = w2.heap.size := by omega
        have nn2 : ¬ wr.heap.size = w2.heap.size := by omega
        try go_wp2_with fail
        refine wp_region_held_drew (S := fun w' => Keeps (But W4 w2.heap.size) W4 w') (by kernel_rfl) (But.below (Below.drew (Below.refl _ _))) (fun hHeld => ?_)
        refine tY (i := 0) (v := ?_) rfl ?_ hHeld ?_; rotate_left 1; focus (intro w' hSw; clear hSw; go_simp; try with_reducible rfl)
        (try simp only [Act.put, zn1, zn2, zn3])
        refine tY (i := 1) (v := ?_) rfl ?_ hHeld ?_; rotate_left 1; focus (intro w' hSw; clear hSw; go_simp; try with_reducible rfl)
        (try simp only [Act.put, zn1, zn2, zn3])
        refine tY (i := 2) (v := ?_) rfl ?_ hHeld ?_; rotate_left 1; focus (intro w' hSw; clear hSw; go_simp; try with_reducible rfl)
        (try simp only [Act.put, zn1, zn2, zn3])
        refine tY (i := 3) (v := ?_) rfl ?_ hHeld ?_; rotate_left 1; focus (intro w' hSw; have hCell := fun (b o : Nat) (h : b < W4.heap.size) (h2 : ¬ b = w2.heap.size) => World.cell?_of_block (a := ⟨b, o, none⟩) (hSw.block b ⟨h, h2⟩); clear hSw; go_simp; try with_reducible rfl)
        (try simp only [Act.put, zn1, zn2, zn3])
        refine tY (i := 4) (v := ?_) rfl ?_ hHeld ?_; rotate_left 1; focus (intro w' hSw; clear hSw; go_simp; try with_reducible rfl)
        (try simp only [Act.put, zn1, zn2, zn3])
        refine tY (i := 5) (v := ?_) rfl ?_ hHeld ?_; rotate_left 1; focus (intro w' hSw; have hCell := fun (b o : Nat) (h : b < W4.heap.size) (h2 : ¬ b = w2.heap.size) => World.cell?_of_block (a := ⟨b, o, none⟩) (hSw.block b ⟨h, h2⟩); clear hSw; go_simp; try with_reducible rfl)
        (try simp only [Act.put, zn1, zn2, zn3])
        refine tY (i := 6) (v := ?_) rfl ?_ hHeld ?_; rotate_left 1; focus (intro w' hSw; have hCell := fun (b o : Nat) (h : b < W4.heap.size) (h2 : ¬ b = w2.heap.size) => World.cell?_of_block (a := ⟨b, o, none⟩) (hSw.block b ⟨h, h2⟩); clear hSw; go_simp; try with_reducible rfl)
        (try simp only [Act.put, zn1, zn2, zn3])
        refine ready_one (i := 7) rfl (by kernel_rfl) (fun K hK => ?_)
        refine step_update_is _ (by rfl) (.tmp 32) (.tmp 34) (.tmp 35) 77 (by rfl) 48 Tryz.underlying77 w2.heap.size _ _ (by rfl) HM4.out hml.out s (.agg #[sv s, .int .i64 t, .int .i64 r, .int .i64 d]) (by rfl) (by rfl) hok ?_
        intro w5 hm5 hg5
        have hS := But.trans hHeld (But.grown hg5)
        have HM5 := Lib.hid (HPut.out _ _ _ _ hm5 (by simp) (fun x hx => by simp [hx]))
        clear hm5 hg5
        refine hK.out _ _ ?_ (fun hHeld2 => ?_)
        · (try dsimp only); exact hS
        clear hK K hHeld; have hHeld := hHeld2; clear hHeld2; (try simp only [Act.put, zn1, zn2, zn3])
        refine wpAnyH_done (by kernel_rfl) ?_ _
        have HK5 := Lib.hid (But.trans HK4.out hHeld)
        clear hHeld
        go_wp2_with fail
        go_roundw
        case rel => exact ⟨m + 1, by omega, by go_num, HM5, HK5⟩
        case measure => simp [intOf]; omega
      · obtain rfl : m = q.length := by omega
        have HMq : Hid (MapIs strK wr w2.heap.size q.length (fun s => (jobOf q s).map jbV)) := by have h := HMm.out; rw [List.take_length] at h; exact h
        have hst : FSt wr w2.heap.size (w2.heap.size + 1 + 1) w2.heap.size (w2.heap.size + 1) An Ae ns.length cn ce Af cf es fails q := by
          have l3' := l3
          exact ⟨cellK c0 HK.out l3 (by omega), cellK c1 HK.out l3 (by omega), cellK c2 HK.out l3 (by omega), cellK c3 HK.out l3 (by omega), cellK c4 HK.out l3 (by omega), by omega, by omega, by omega, by omega,
            But.rd (HG2.out.re.below HB23.out) (Nat.le_refl _) (by omega) HK.out, But.rd (HFl2.out.below HB23.out) (Nat.le_refl _) (by omega) HK.out, HMq.out⟩
        have hkn : Known wr (w2.heap.size + 1) es fails q (fun _ => none) := ⟨(HMd.out.same (HK.out.block _ ⟨by omega, by omega⟩)).mono (Nat.zero_le _), fun s v h => by cases h⟩
        have hqr : QIn wr A c q := ⟨(But.rd (HQ2.out.rq.below HB23.out) (Nat.le_refl _) (by omega) HK.out).more (by omega), HQ2.out.ok, HQ2.out.cap⟩
        have HQl := Lib.hid (But.rd (HQ2.out.rq.below HB23.out) (Nat.le_refl _) (by omega) HK.out)
        have hlow : Below w.heap.size w wr := But.low (lift HB2.out HB23.out) HK.out HB2.out.size
        have HSt := Lib.hid hst
        have HKn := Lib.hid hkn
        have HQr := Lib.hid hqr
        have HLow := Lib.hid hlow
        have hzr : w2.heap.size + 1 + 1 < wr.heap.size := by omega
        have hz2w : w.heap.size ≤ w2.heap.size := HB2.out.size
        clear hst hkn hqr hlow HMm HK HMq HMj HMd HB23 HB2 c0 c1 c2 c3 c4 l3 hsz3 HG HQ HFl HG2 HQ2 HFl2 HB g0 g1 n1
        obtain ⟨w9, rfl⟩ : ∃ wo : World, wo = wr := ⟨_, rfl⟩
        go_wp2_with fail
        go_loopw [10, 39] (fun v i wr => ∃ (m : Nat) (A9 : Option Addr) (c9 : Nat), m ≤ q.length ∧ i = .int .i64 m ∧ v = .slice A9 ((factQ es fails q).take m).length c9 ∧ Hid (wr.ownsRow w9.heap.size 48 4 (.slice A9 ((factQ es fails q).take m).length c9) ((factQ es fails q).take m).length (jbsC ((factQ es fails q).take m))) ∧ Hid (∃ D, Known wr (w2.heap.size + 1) es fails q D) ∧ Hid (Keeps (But w9 (w2.heap.size + 1)) w9 wr)) (fun _ i _ => q.length - (intOf i).toNat)
        case atStart => exact ⟨0, none, 0, Nat.zero_le _, rfl, rfl, World.ownsRow_nil _ _ _ _, ⟨_, HKn.out⟩, But.below (Below.refl _ _)⟩
        case round =>
          obtain ⟨m, A9, c9, hmq, rfl, rfl, HO, HKD, HK⟩ := hrel
          have hszr : w9.heap.size ≤ wr.heap.size := HK.out.size
          by_cases hlt : m < q.length
          · have hqk : QIn wr A c q := ⟨(But.rd HQl.out (by omega) (by omega) HK.out).more (by omega), HQr.out.ok, HQr.out.cap⟩
            obtain ⟨D, hD⟩ := HKD.out
            have HKw := Lib.hid hD
            have HSr := Lib.hid (HSt.out.kept HK.out)
            obtain ⟨b2, o2, hA, hB2, x0, x1, x2, x3⟩ := hqk.rq.job hlt
            have hft := factQ_take (es := es) (fails := fails) hlt
            have hjo := jobOf_of HD.out (List.getElem_mem hlt)
            have hlen : ((factQ es fails q).take m).length ≤ 1000 := by simp [fact_len]; omega
            subst hA
            generalize q[m] = x at x0 x1 x2 x3 hft hjo
            obtain ⟨s, t, r, d⟩ := x
            simp only at x0 x1 x2 x3 hjo
            generalize (factQ es fails q).take m = L at HO hlen hft ⊢
            have HFt := Lib.hid hft
            have HJo := Lib.hid hjo
            have m1 : (0 : Int) ≤ (m : Int) := by omega
            have m2 : (m : Int) < (q.length : Int) := by omega
            have h63 := Lib.hid (show L.length + 1 ≤ maxLen by unfold maxLen; omega)
            have hby := Lib.hid (show (L.length + 1) * 40 ≤ 140737488355328 by omega)
            clear hft hjo hqk hD
            go_wp2_with fail
            first | (refine wp_named ?_; intro W4 hW) | (refine calls_named ?_; intro W4 hW)
            have b34 : Below wr.heap.size wr W4 := by rw [hW]; exact (by repeat (first | exact Below.refl _ _ | assumption | refine Below.alloc ?_ (by first | omega | (simp <;> omega)) _ | refine Below.setCell ?_ (by first | omega | (simp <;> omega)) _ | refine Below.drew ?_))
            clear hW
            have HB4 := Lib.hid b34
            have hz4 : w2.heap.size ≤ W4.heap.size := by have := b34.size; omega
            clear b34 x0 x1 x2 x3
            refine (ofF_any w2.heap.size (w2.heap.size + 1 + 1) w2.heap.size (w2.heap.size + 1) An Ae ns.length cn ce Af cf es fails q HI.out HM.out HGe.out.1 HGe.out.2 (by omega) hlf HQr.out.ok _ s (Nat.lt_succ_self _) _ D W4 HJo.out (HSr.out.on HB4.out) (HKw.out.on HB4.out) hz4).mono ?_
            rintro e w5 ⟨rfl, D2, hk5, hkp5, _⟩
            have HK5 := Lib.hid (But.trans (But.two HK.out HB4.out) hkp5)
            have HKn5 := Lib.hid hk5
            have HO5 := Lib.hid (hkp5.own (own_on HO.out HB4.out) (fun g hg => ⟨((own_on HO.out HB4.out).lt g hg).2, fun e => by have := (HO.out.lt g hg).1; omega⟩))
            have hz5 : w9.heap.size ≤ w5.heap.size := HK5.out.size
            clear hk5 hkp5 HK HB4 HKw HSr
            generalize factJ es fails q (s, t, r, d) = z at HFt ⊢
            obtain ⟨s', t', r', d'⟩ := z
            go_wp2_with (first | (at_builtin; refine wpList_append_rd (w5.alloc (.cells #[sv s', .int .i64 t', .int .i64 r', .int .i64 d'] 48)) (by rfl) (.tmp 43) (.tmp 48) 26 (by rfl) w9.heap.size 48 i0 _ 4 40 Tryz.underlying26 hi hz0 hz1 hz2 rfl (by decide) _ _ _ (by rfl) (own_alloc HO5.out _) _ (some ⟨w5.heap.size, 0, none⟩) 1 1 [sv s', .int .i64 t', .int .i64 r', .int .i64 d'] (by rfl) (Rd.lit w5 [sv s', .int .i64 t', .int .i64 r', .int .i64 d'] 48 4 1 rfl) (one_jbV s' t' r' d') h63.out hby.out (by simp; omega) ?_; intro A8 c8 w8 hown8 hg8 hat8; have HO8 := Lib.hid hown8; have HG8 := Lib.hid hg8; clear hown8 hg8 hat8) | fail)
            go_roundw
            case rel =>
              have hll : ((factQ es fails q).take (m + 1)).length = L.length + 1 := by rw [HFt.out]; simp
              refine ⟨m + 1, A8, c8, by omega, by go_num, by rw [hll], ?_, ⟨D2, ⟨((HKn5.out.dm.alloc _).kept HG8.out (fun e => by have := (HO5.out.lt _ e.symm).1; omega)), HKn5.out.ok⟩⟩, But.row (But.two HK5.out ((Below.refl _ _).alloc (Nat.le_refl _) _)) HG8.out (fun b hb => (HO5.out.lt b hb).1)⟩
              rw [hll, HFt.out]
              simpa [jbsC, jbC, Hid] using HO8.out
            case measure => simp [intOf]; omega
          · have hmq : m = q.length := by omega
            have hft : (factQ es fails q).take m = factQ es fails q := List.take_of_length_le (by rw [fact_len]; omega)
            rw [hft] at HO ⊢
            have HR := Lib.hid (own_rd' HO.out)
            have HC := Lib.hid (own_cap HO.out).1
            have HLow2 := Lib.hid (But.low HLow.out HK.out (by omega))
            go_wp2_with fail
            go_ret
            rw [HE.out]
            exact ⟨A9, c9, rfl, HC.out, HR.out, HLow2.out⟩
end Od
end Go.Proofs.YtmlogmcnblgnbaaGreat
end
