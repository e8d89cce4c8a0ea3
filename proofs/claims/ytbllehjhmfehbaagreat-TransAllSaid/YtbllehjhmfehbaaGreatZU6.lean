/- My texts, joined for the claim: PSortPl PAllW TPul PGI TMath QWords TLaws. -/
import Derived.Test.YtbllehjhmfehbaaGreatZU5
import Derived.Test.YtbllehjhmfehbaaGreatZU1
import Derived.Test.YtbllehjhmfehbaaGreatZU4
import Derived.Test.YtbllehjhmfehbaaGreatZU2
import Derived.Test.YtbllehjhmfehbaaGreatZU3

section
/- slices.SortFunc at pulls of the call's own, by unit and type. (bel2) -/
namespace Go.Proofs.YtbllehjhmfehbaaGreat
open Go.RowKit Go.Sort Go.Lib Go.Shelf
set_option linter.unusedSimpArgs false
namespace Od
theorem grow_drewN (w : World) (os : Array Obj) (q : Nat) : (grow w os).drewN q = grow (w.drewN q) os := rfl
def plCmp (p q : Pl) : Int := jpCmp (p.1, p.2.1) (q.1, q.2.1)
set_option maxRecDepth 100000 in
set_option maxHeartbeats 1000000 in
theorem all1_any (a a' b b' : Str) (t t' : Int) (n n' : Bool) (w : World) :
  Calls Tryz.prog 47 #[.agg #[sv a, .int .i64 t, .bool n, sv b], .agg #[sv a', .int .i64 t', .bool n', sv b']] w (GrowInt (jpCmp (a, t) (a', t')) w) := by
 go_enter Tryz.func47, Tryz.ntmps47
 go_wp2_with fail
 refine (compareJ_any a t a' t' _).mono ?_
 rintro e w' ⟨rfl, d, os, rfl⟩
 go_wp2_with fail
 go_ret
 exact ⟨rfl, d, _, by rw [alloc_eq_grow, alloc_eq_grow, grow_grow, grow_drewN, grow_grow]⟩
theorem flatK_pls (ps : List Pl) : flatK plC 4 ps.toArray = (plsC ps).toArray := by
 refine ext_get! (by simp [plsC_len]) fun t ht => ?_
 have ht' : t < ps.length * 4 := by simpa using ht
 rw [get_flatK _ _ _ t (by simpa using ht')]
 have hi : t / 4 < ps.length := by omega
 have h := flat_at plC 4 plC_len ps (t / 4) (t % 4) hi (by omega)
 rw [show t / 4 * 4 + t % 4 = t by omega] at h
 have e1 : ps.toArray[t / 4]! = ps[t / 4] := by simp [hi]
 rw [e1]
 have e2 : (plsC ps).toArray[t]! = ((plsC ps)[t]?).getD default := by simp [List.getElem!_eq_getElem?_getD]
 rw [e2, show (plsC ps)[t]? = (plC ps[t / 4])[t % 4]? from h]
 simp [List.getElem!_eq_getElem?_getD]
theorem plCmp_fun : ltOf plCmp = fun p q : Pl => ltJ (p.1, p.2.1) (q.1, q.2.1) := by
 funext p q
 exact jpCmp_lt (p.1, p.2.1) (q.1, q.2.1)
theorem swoPl : SWO (ltOf plCmp) where
 irrefl x := by rw [plCmp_fun]; exact toJ.irrefl _
 trans x y z h1 h2 := by rw [plCmp_fun] at *; exact toJ.trans h1 h2
 ntrans x y z h1 h2 := by
  have h := swoJp.ntrans (x := (x.1, x.2.1)) (y := (y.1, y.2.1)) (z := (z.1, z.2.1))
  rw [jpCmp_fun] at h
  rw [plCmp_fun] at *
  exact h h1 h2
set_option maxHeartbeats 1000000 in
theorem sortPl_own (base c : Nat) (A : Option Addr) (ps : List Pl) (w : World) (h : w.ownsRow base 37 4 (.slice A ps.length c) ps.length (plsC ps)) (hsz : ps.length ≤ 1000000) :
  Calls Tryz.prog 46 #[.slice A ps.length c, .func (.func 47) #[] #[]] w fun e w' => e = .returned (.tuple #[]) ∧ ∃ S : List Pl, S.Perm ps ∧ S.Pairwise (fun a b => ltJ (keyP b) (keyP a) = false) ∧ w'.ownsRow base 37 4 (.slice A ps.length c) ps.length (plsC S) ∧ w.grownBy w' (Value.slice A ps.length c).ownBlock := by
 rcases h.2 with ⟨hv, hn⟩ | ⟨g, cap, cur, hv, hg, hb, h1, h2, h3, h4⟩
 ·have hnil : ps = [] := List.length_eq_zero_iff.1 hn
  subst hnil
  refine (show Calls Tryz.prog 46 _ w _ from AnyF.slices_SortFunc_none Tryz.sortPull A c _ w).mono ?_
  rintro e w' ⟨rfl, rfl⟩
  exact ⟨rfl, [], .refl _, List.Pairwise.nil, h, World.grownBy.refl _ _⟩
 ·injection hv with e1 _ e3
  subst e1 e3
  have hgl : g < w.heap.size := (Array.getElem?_eq_some_iff.1 hb).1
  have hlen := plsC_len ps
  have eg : ∀ args w, (callFunc 47 args).run Tryz.prog w = .ok (.enter 47 args) w := enters_of Tryz.func47 (by kernel_rfl) rfl
  have hH : HoldsK plC 4 w g 0 ps.toArray := by
   unfold HoldsK
   rw [flatK_pls]
   exact holds_row hb (by rw [hlen]; exact h4)
  have hcon := AnyQ.slices_SortFunc (P := Tryz.prog) Tryz.sortPull 4 (by intro w; exact Tryz.isAgg37 w) (by intro w; exact Tryz.sizeOf37 w) plC plC_len (fun x v hv => one_plC x v hv) plCmp swoPl 47 #[] g 0 c ps.toArray w eg
   (fun _ _ _ _ x y => all1_any x.1 y.1 x.2.2.2 y.2.2.2 x.2.1 y.2.1 x.2.2.1 y.2.2.1 _) hH hgl (by simp; omega)
  change Calls Tryz.prog 46 _ _ _ at hcon
  simp only [List.size_toArray] at hcon
  refine hcon.mono ?_
  rintro e w' ⟨rfl, d', n, os, ⟨hs1, _, hs2⟩, hso, rfl⟩
  have hs1' : d'.size = ps.length := by simpa using hs1
  have hperm : d'.toList.Perm ps := by
   have a1 : d'.extract 0 ps.length = d' := by rw [← hs1']; exact Array.extract_size
   have a2 : (ps.toArray).extract 0 ps.length = ps.toArray := by
    simp
   rw [a1, a2] at hs2
   exact hs2
  have hup : d'.toList.Pairwise (fun a b => ltJ (keyP b) (keyP a) = false) := by
   refine List.pairwise_iff_getElem.2 fun i j hi hj hij => ?_
   have hi' : i < d'.size := by simpa using hi
   have hj' : j < d'.size := by simpa using hj
   have h5 := hso i j (Nat.zero_le _) hij (by omega)
   rw [getElem!_pos d' j hj', getElem!_pos d' i hi', plCmp_fun] at h5
   exact h5
  have hd' : d' = d'.toList.toArray := by simp
  rw [hd']
  unfold sortWorldK putRowK
  rw [flatK_pls]
  have hl2 : (plsC d'.toList).length = ps.length * 4 := by rw [plsC_len, hperm.length_eq]
  refine ⟨rfl, d'.toList, hperm, hup, ⟨hl2, .inr ⟨g, c, _, rfl, hg, heap_row _ hb, h1, h2, by simp [putCells, h3], ?_⟩⟩, grownBy_row _⟩
  rw [← hl2]
  exact take_putCellsI cur _ (by omega)
end Od
end Go.Proofs.YtbllehjhmfehbaaGreat
end

section
/- pull.All: a job that is asked for, and all that comes along. (bel2) -/
namespace Go.Proofs.YtbllehjhmfehbaaGreat
open Go.RowKit Go.Sort Go.Maps
set_option linter.unusedSimpArgs false
namespace Od
/-- All blocks but the one that v owns. -/
def OffB (w : World) (v : Value) (b : Nat) : Prop := b < w.heap.size ∧ v.ownBlock ≠ some b
section
variable {w w' w'' : World} {v : Value}
theorem OffB.below (hb : Below w.heap.size w w') : Keeps (OffB w v) w w' := ⟨hb.os, hb.tape, hb.output, hb.size, fun j hj => hb.block j hj.1⟩
theorem OffB.alloc (h : Keeps (OffB w v) w w') (o : Obj) : Keeps (OffB w v) w (w'.alloc o) := h.then (fun _ hj => hj.1) ((Below.refl _ _).alloc (Nat.le_refl _) _)
theorem OffB.grown (h : Keeps (OffB w v) w w') (hg : w'.grownBy w'' v.ownBlock) : Keeps (OffB w v) w w'' :=
 ⟨hg.os.trans h.os, hg.tape.trans h.tape, hg.output.trans h.output, Nat.le_trans h.size hg.size, fun j hj => (hg.block j (Nat.lt_of_lt_of_le hj.1 h.size) (fun e => hj.2 e.symm)).trans (h.block j hj)⟩
end
theorem byV_of {m : Ms} {k : Jp} {v : Value} (h : byV m k = some v) : v = sv (byOf m k) ∧ k ∈ keysP m := by
 unfold byV at h
 have h2 := byF_getD m k
 have h3 := byF_some m k
 cases hb : byF m k with
 | none => rw [hb] at h; cases h
 | some b =>
  rw [hb] at h h2 h3
  simp only [Option.map_some, Option.some.injEq, Option.getD_some, Option.isSome_some] at h h2 h3
  exact ⟨by rw [← h2, h], knownP_iff.1 h3.symm⟩
theorem byV_some_false {m : Ms} {k : Jp} (h : (byV m k).isSome = false) : k ∉ keysP m := fun hk => by
 have h3 := byF_some m k
 rw [knownP_iff.2 hk] at h3
 unfold byV at h
 rw [Option.isSome_map, h3] at h
 cases h
theorem pull_keys_ok {es : List Ed} {up half : List Str} {first : Jp} {wo : List Pl} (hok : ∀ k ∈ candB es, okJ k) (hof : okJ first) : ∀ k ∈ keysP (pullM es up half first wo), okJ k := fun k hk => by
 cases mem_pullM.1 hk with
 | one => exact hof
 | more _ hb _ => exact hok _ (bring_cand _ _ hb)
theorem need_known {es : List Ed} {up half : List Str} {first : Jp} {wo : List Pl} {N : List Jp} (h : NeedQ (bringB es up half) (outF (outB wo) first) first N N.length) (k : Jp) : N.contains k = knownP (needM es up half first wo) k := by
 rw [Bool.eq_iff_iff, List.contains_iff_mem, knownP_iff, mem_needM, h.iff, Rj_first]
theorem step_lay {es : List Ed} {up half : List Str} {first : Jp} {wo : List Pl} : layP (bringB es up half) (outF (outB wo) first) (6 * es.length + 1) [(first, [])] [first] = pullM es up half first wo :=
 layP_first _ _ _ (by simp [keysP])
set_option maxRecDepth 100000 in
set_option maxHeartbeats 16000000 in
theorem PAll_any (An Ae Au Ah Aw : Option Addr) (cn ce cu ch cw : Nat) (ns : List Nd) (es : List Ed) (up half : List Str) (wo : List Pl) (u : Str) (t : Int) (w : World)
  (hn : Rd w w.heap.size 3 An ns.length (ndsC ns)) (hnl : ns.length ≤ 1000000) (hr : Rd w w.heap.size 3 Ae es.length (edsC es)) (hl : es.length ≤ 10000) (hu : SIn w Au up) (hh : SIn w Ah half) (hw : Rd w w.heap.size 4 Aw wo.length (plsC wo)) (hwl : wo.length ≤ 1000000)
  (hok : OkE es) (hof : okJ (u, t)) (how : ∀ p ∈ wo, okJ (p.1, p.2.1)) :
  Calls Tryz.prog 18 #[gV An ns.length cn Ae es.length ce, nowV Au up.length cu Ah half.length ch, sv u, .int .i64 t, .slice Aw wo.length cw] w (OwnPl (pullQ ns es up half (u, t) wo) w) := by
 obtain ⟨i0, hi, hz0, hz1, hz2⟩ := info_parts infoPl
 have hmm : ∀ (t : TypeId) (w : World), (Instr.makeMap t none).run Tryz.prog w = .ok (.map (some w.heap.size)) (w.alloc (.map #[] 0)) := fun _ _ => rfl
 have Hn := Lib.hid hn
 have Hr := Lib.hid hr
 have Hu := Lib.hid hu
 have Hh := Lib.hid hh
 have Hw := Lib.hid hw
 have HOk := Lib.hid (okJ_cand hok)
 have HOw := Lib.hid how
 have H0n := Lib.hid hn
 have H0r := Lib.hid hr
 have H0u := Lib.hid hu
 have H0h := Lib.hid hh
 have H0w := Lib.hid hw
 have HOf := Lib.hid hof
 clear hn hr hu hh hw hok how
 go_enter Tryz.func18, Tryz.ntmps18
 go_wp2_with fail
 first | (refine wp_named ?_; intro W1 hW) | (refine calls_named ?_; intro W1 hW)
 have B1 : Below w.heap.size w W1 := by rw [hW]; exact bq2
 replace Hn := Lib.hid (Hn.out.at B1)
 replace Hr := Lib.hid (Hr.out.at B1)
 replace Hu := Lib.hid (Hu.out.at B1)
 replace Hh := Lib.hid (Hh.out.at B1)
 replace Hw := Lib.hid (Hw.out.at B1)
 have n1 : w.heap.size < W1.heap.size := by rw [hW]; simp <;> omega
 have n2 : (w.heap.size + 1) < W1.heap.size := by rw [hW]; simp <;> omega
 have g0 : W1.cell? ⟨w.heap.size, 0, none⟩ = some (.slice An ns.length cn) := by rw [hW]; go_simp
 have g1 : W1.cell? ⟨w.heap.size, 1, none⟩ = some (.slice Ae es.length ce) := by rw [hW]; go_simp
 have h0 : W1.cell? ⟨(w.heap.size + 1), 0, none⟩ = some (.slice Au up.length cu) := by rw [hW]; go_simp
 have h1 : W1.cell? ⟨(w.heap.size + 1), 1, none⟩ = some (.slice Ah half.length ch) := by rw [hW]; go_simp
 clear hW
 have HB1 := Lib.hid B1
 clear B1
 refine (Node_any An Ae es.length cn ce ns u W1 Hn.out hnl).mono ?_
 rintro e w2 ⟨rfl, hb⟩
 replace g0 := cellAt g0 hb (by omega)
 replace g1 := cellAt g1 hb (by omega)
 replace h0 := cellAt h0 hb (by omega)
 replace h1 := cellAt h1 hb (by omega)
 replace Hn := Lib.hid (Hn.out.at hb)
 replace Hr := Lib.hid (Hr.out.at hb)
 replace Hu := Lib.hid (Hu.out.at hb)
 replace Hh := Lib.hid (Hh.out.at hb)
 replace Hw := Lib.hid (Hw.out.at hb)
 replace n1 : w.heap.size < w2.heap.size := ltAt n1 hb
 replace n2 : (w.heap.size + 1) < w2.heap.size := ltAt n2 hb
 replace HB1 := Lib.hid (lift HB1.out hb)
 clear hb
 have hz2w := HB1.out.size
 cases hno : nodeOf ns u with
 | none =>
  have hq : pullQ ns es up half (u, t) wo = [] := by unfold pullQ asksB; rw [hno]; rfl
  have HQ := Lib.hid hq
  unfold nodeV
  go_wp2_with fail
  go_ret
  rw [HQ.out]
  exact ⟨none, 0, rfl, World.ownsRow_nil _ _ _ _, HB1.out.alloc (by have := HB1.out.size; omega) _⟩
 | some nd =>
  obtain ⟨s1, k1, r1⟩ := nd
  by_cases ht1 : t < 1
  ·have hq : pullQ ns es up half (u, t) wo = [] := by unfold pullQ asksB; rw [hno]; simp; omega
   have HQ := Lib.hid hq
   have hd1 : decide (t < 1) = true := by simpa using ht1
   unfold nodeV
   go_wp2_with fail
   go_ret
   rw [HQ.out]
   exact ⟨none, 0, rfl, World.ownsRow_nil _ _ _ _, HB1.out.alloc (by have := HB1.out.size; omega) _⟩
  by_cases ht4 : 4 < t
  ·have hq : pullQ ns es up half (u, t) wo = [] := by unfold pullQ asksB; rw [hno]; simp; omega
   have HQ := Lib.hid hq
   have hd1 : decide (t < 1) = false := by simpa using ht1
   have hd4 : decide (4 < t) = true := by simpa using ht4
   unfold nodeV
   go_wp2_with fail
   go_ret
   rw [HQ.out]
   exact ⟨none, 0, rfl, World.ownsRow_nil _ _ _ _, HB1.out.alloc (by have := HB1.out.size; omega) _⟩
  have hq : pullQ ns es up half (u, t) wo = allP es up half (u, t) wo := by
   unfold pullQ
   rw [if_pos]
   unfold asksB
   rw [hno]
   simp; omega
  have HQ := Lib.hid hq
  have hd1 : decide (t < 1) = false := by simpa using ht1
  have hd4 : decide (4 < t) = false := by simpa using ht4
  clear hq ht1 ht4 hno
  unfold nodeV
  go_wp2_with fail
  first | (refine wp_named ?_; intro W3 hW) | (refine calls_named ?_; intro W3 hW)
  have B3 : Below w2.heap.size w2 W3 := by rw [hW]; exact bq2
  replace g0 := cellAt g0 B3 (by omega)
  replace g1 := cellAt g1 B3 (by omega)
  replace h0 := cellAt h0 B3 (by omega)
  replace h1 := cellAt h1 B3 (by omega)
  replace Hn := Lib.hid (Hn.out.at B3)
  replace Hr := Lib.hid (Hr.out.at B3)
  replace Hu := Lib.hid (Hu.out.at B3)
  replace Hh := Lib.hid (Hh.out.at B3)
  replace Hw := Lib.hid (Hw.out.at B3)
  replace n1 : w.heap.size < W3.heap.size := ltAt n1 B3
  replace n2 : (w.heap.size + 1) < W3.heap.size := ltAt n2 B3
  replace HB1 := Lib.hid (lift HB1.out B3)
  have m0 : (w2.heap.size + 1 + 1 + 1 + 1 + 1) < W3.heap.size := by rw [hW]; simp <;> omega
  have m1 : (w2.heap.size + 1) < W3.heap.size := by rw [hW]; simp <;> omega
  have m2 : (w2.heap.size + 1 + 1) < W3.heap.size := by rw [hW]; simp <;> omega
  have a0 : W3.cell? ⟨(w2.heap.size + 1), 0, none⟩ = some (sv u) := by rw [hW]; go_simp
  have a1 : W3.cell? ⟨(w2.heap.size + 1), 1, none⟩ = some (.int .i64 t) := by rw [hW]; go_simp
  have c0 : W3.cell? ⟨(w2.heap.size + 1 + 1 + 1 + 1 + 1), 0, none⟩ = some (.slice An ns.length cn) := by rw [hW]; go_simp
  have c1 : W3.cell? ⟨(w2.heap.size + 1 + 1 + 1 + 1 + 1), 1, none⟩ = some (.slice Ae es.length ce) := by rw [hW]; go_simp
  have c2 : W3.cell? ⟨(w2.heap.size + 1 + 1 + 1 + 1 + 1), 2, none⟩ = some (.slice Au up.length cu) := by rw [hW]; go_simp
  have c3 : W3.cell? ⟨(w2.heap.size + 1 + 1 + 1 + 1 + 1), 3, none⟩ = some (.slice Ah half.length ch) := by rw [hW]; go_simp
  have c4 : W3.cell? ⟨(w2.heap.size + 1 + 1 + 1 + 1 + 1), 4, none⟩ = some (.map (some (w2.heap.size + 1 + 1))) := by rw [hW]; go_simp
  have c5 : W3.cell? ⟨(w2.heap.size + 1 + 1 + 1 + 1 + 1), 5, none⟩ = some (.map (some (w2.heap.size + 1 + 1 + 1))) := by rw [hW]; go_simp
  have c6 : W3.cell? ⟨(w2.heap.size + 1 + 1 + 1 + 1 + 1), 6, none⟩ = some (.map (some (w2.heap.size + 1 + 1 + 1 + 1))) := by rw [hW]; go_simp
  have hmaps : MapIs kindJ W3 (w2.heap.size + 1 + 1) 0 (fun _ => none) ∧ MapIs kindJ W3 (w2.heap.size + 1 + 1 + 1) 0 (fun _ => none) ∧ MapIs kindJ W3 (w2.heap.size + 1 + 1 + 1 + 1) 0 (fun _ => none) := by
   rw [hW]; exact three_maps kindJ _ _ _ (by simp)
  clear hW
  clear B3
  have hmw0 : w.heap.size ≤ w2.heap.size + 1 := by omega
  generalize hmw : w2.heap.size + 1 + 1 = mw at *
  have hmw1 : w2.heap.size + 2 ≤ mw := by omega
  clear hmw
  have hsz := HB1.out.size
  have HMp := Lib.hid hmaps
  clear hmaps
  go_loopw [49] (fun i wr => ∃ k : Nat, k ≤ wo.length ∧ i = .int .i64 k ∧ Hid (MapIs kindJ wr mw k (outV (outB (wo.take k)))) ∧ Hid (Keeps (But W3 mw) W3 wr)) (fun i _ => wo.length - (intOf i).toNat)
  case atStart => exact ⟨0, Nat.zero_le _, rfl, by show MapIs _ _ _ _ _; rw [List.take_zero, ← outV_nil]; exact HMp.out.1, But.below (Below.refl _ _)⟩
  case round =>
   obtain ⟨k, hk, rfl, HMk, HKk⟩ := hrel
   have hz3 := HKk.out.size
   have y1 : ¬ mw + 1 + 1 + 1 = mw := by omega
   have y2 : ¬ w2.heap.size + 1 = mw := by omega
   have d4 := cellK c4 HKk.out m0 y1
   by_cases hlt : k < wo.length
   ·have hlow := But.low HB1.out HKk.out (by omega)
    obtain ⟨b2, o2, hA, hB2, x0, x1, x2, x3⟩ := (H0w.out.below hlow).pl hlt
    have htk := List.take_succ_eq_append_getElem hlt
    have how := HOw.out _ (List.getElem_mem hlt)
    subst hA
    generalize wo[k] = p at x0 x1 x2 x3 htk how
    obtain ⟨s, t', n', b'⟩ := p
    simp only at x0 x1 x2 x3 how
    have HTk := Lib.hid htk
    have i1 : (0 : Int) ≤ (k : Int) := by omega
    have i2 : (k : Int) < (wo.length : Int) := by omega
    have hkm : k < maxLen := by unfold maxLen; omega
    have HKm := Lib.hid hkm
    have l0 : mw + 1 + 1 + 1 < wr.heap.size := by omega
    have l1 : b2 < wr.heap.size := by omega
    clear htk hlow hkm
    go_wp2_with fail
    first | (refine wp_named ?_; intro W4 hW) | (refine calls_named ?_; intro W4 hW)
    have B4 : Below wr.heap.size wr W4 := by rw [hW]; exact bq2
    replace d4 := cellAt d4 B4 (by omega)
    replace HMk := Lib.hid (HMk.out.on B4)
    replace HKk := Lib.hid (But.two HKk.out B4)
    replace l0 : (mw + 1 + 1 + 1) < W4.heap.size := ltAt l0 B4
    have n4 : wr.heap.size < W4.heap.size := by rw [hW]; simp <;> omega
    have v0 : W4.cell? ⟨wr.heap.size, 0, none⟩ = some (sv s) := by rw [hW]; go_simp
    have v1 : W4.cell? ⟨wr.heap.size, 1, none⟩ = some (.int .i64 t') := by rw [hW]; go_simp
    clear hW
    clear B4 x0 x1 x2 x3
    have y3 : ¬ wr.heap.size = mw := by omega
    try go_wp2_with fail
    refine wp_region_held_drew (S := fun w' => Keeps (But W4 mw) W4 w') (by kernel_rfl) (But.below (Below.drew (Below.refl _ _))) (fun hHeld => ?_)
    refine tV 0 ?_ ?zq ?_; (case zq => rintro _ -; go_simp; try with_reducible rfl); try simp only [Act.put, zn1, zn2, zn3]
    refine tV 1 ?_ ?zq ?_; (case zq => rintro _ -; go_simp; try with_reducible rfl); try simp only [Act.put, zn1, zn2, zn3]
    refine tV 2 ?_ ?zq ?_; (case zq => rintro _ -; go_simp; try with_reducible rfl); try simp only [Act.put, zn1, zn2, zn3]
    refine tV 3 ?_ ?zq ?_; (case zq => intro w' hSw; have hCell := fun (b o : Nat) (h : b < W4.heap.size) (h2 : ¬ b = mw) => World.cell?_of_block (a := ⟨b, o, none⟩) (hSw.block b ⟨h, h2⟩); clear hSw; go_simp; try with_reducible rfl); try simp only [Act.put, zn1, zn2, zn3]
    refine tV 4 ?_ ?zq ?_; (case zq => rintro _ -; go_simp; try with_reducible rfl); try simp only [Act.put, zn1, zn2, zn3]
    refine tV 5 ?_ ?zq ?_; (case zq => intro w' hSw; have hCell := fun (b o : Nat) (h : b < W4.heap.size) (h2 : ¬ b = mw) => World.cell?_of_block (a := ⟨b, o, none⟩) (hSw.block b ⟨h, h2⟩); clear hSw; go_simp; try with_reducible rfl); try simp only [Act.put, zn1, zn2, zn3]
    refine tV 6 ?_ ?zq ?_; (case zq => rintro _ -; go_simp; try with_reducible rfl); try simp only [Act.put, zn1, zn2, zn3]
    refine tV 7 ?_ ?zq ?_; (case zq => intro w' hSw; have hCell := fun (b o : Nat) (h : b < W4.heap.size) (h2 : ¬ b = mw) => World.cell?_of_block (a := ⟨b, o, none⟩) (hSw.block b ⟨h, h2⟩); clear hSw; go_simp; try with_reducible rfl); try simp only [Act.put, zn1, zn2, zn3]
    refine ready_one (i := 8) rfl (by kernel_rfl) (fun K hK => ?_)
    go_simp
    refine hK.out _ _ ?_ (fun hHeld2 => ?_)
    ·(try dsimp only); first | exact hHeld | exact bq2
    clear hK K hHeld; have hHeld := hHeld2; clear hHeld2; (try simp only [Act.put, zn1, zn2, zn3])
    refine ready_one (i := 9) rfl (by kernel_rfl) (fun K hK => ?_)
    refine step_update_is _ (by rfl) (.tmp 56) (.tmp 61) (.const (.bool true)) 77 (by rfl) 4 Tryz.underlying77 mw _ _ (by rfl) HMk.out HKm.out (s, t') (.bool true) (by rfl) (by rfl) how ?_
    intro w5 hm5 hg5
    have hS := But.trans hHeld (But.grown hg5)
    have HM5 := Lib.hid (MapIs.if_ hm5)
    clear hm5 hg5
    refine hK.out _ _ ?_ (fun hHeld2 => ?_)
    ·(try dsimp only); exact hS
    clear hK K hHeld; have hHeld := hHeld2; clear hHeld2; (try simp only [Act.put, zn1, zn2, zn3])
    refine wpAnyH_done (by kernel_rfl) ?_ _
    have HK5 := Lib.hid (But.trans HKk.out hHeld)
    have hm6 := HM5.out
    rw [outV_put _ (s, t', n', b'), ← HTk.out] at hm6
    have HM6 := Lib.hid hm6
    clear hHeld hS hm6 HM5
    go_wp2_with fail
    go_roundw
    case rel => exact ⟨k + 1, by omega, by go_num, HM6, HK5⟩
    case measure => simp [intOf]; omega
   ·obtain rfl : k = wo.length := by omega
    rw [List.take_length] at HMk
    obtain ⟨w9, rfl⟩ : ∃ wo : World, wo = wr := ⟨_, rfl⟩
    have hlow := But.low HB1.out HKk.out (by omega)
    have HLow := Lib.hid hlow
    have e0 := cellK c0 HKk.out m0 y1
    have e1 := cellK c1 HKk.out m0 y1
    have e2 := cellK c2 HKk.out m0 y1
    have e3 := cellK c3 HKk.out m0 y1
    have e5 := cellK c5 HKk.out m0 y1
    have e6 := cellK c6 HKk.out m0 y1
    have f0 := cellK a0 HKk.out m1 y2
    have f1 := cellK a1 HKk.out m1 y2
    have l0 : mw + 1 + 1 + 1 < w9.heap.size := by omega
    have l1 : w2.heap.size + 1 < w9.heap.size := by omega
    have HMy := Lib.hid (HMp.out.2.1.same (HKk.out.block (mw + 1) ⟨by omega, by omega⟩))
    have HMz := Lib.hid (HMp.out.2.2.same (HKk.out.block (mw + 1 + 1) ⟨by omega, by omega⟩))
    clear hlow c0 c1 c2 c3 c4 c5 c6 a0 a1
    try go_wp2_with fail
    refine wp_region_held_drew (S := fun w' => Keeps (But w9 mw) w9 w') (by kernel_rfl) (But.below (Below.drew (Below.refl _ _))) (fun hHeld => ?_)
    refine tV 0 ?_ ?zq ?_; (case zq => rintro _ -; go_simp; try with_reducible rfl); try simp only [Act.put, zn1, zn2, zn3]
    refine tV 1 ?_ ?zq ?_; (case zq => rintro _ -; go_simp; try with_reducible rfl); try simp only [Act.put, zn1, zn2, zn3]
    refine tV 2 ?_ ?zq ?_; (case zq => rintro _ -; go_simp; try with_reducible rfl); try simp only [Act.put, zn1, zn2, zn3]
    refine tV 3 ?_ ?zq ?_; (case zq => intro w' hSw; have hCell := fun (b o : Nat) (h : b < w9.heap.size) (h2 : ¬ b = mw) => World.cell?_of_block (a := ⟨b, o, none⟩) (hSw.block b ⟨h, h2⟩); clear hSw; go_simp; try with_reducible rfl); try simp only [Act.put, zn1, zn2, zn3]
    refine tV 4 ?_ ?zq ?_; (case zq => intro w' hSw; have hCell := fun (b o : Nat) (h : b < w9.heap.size) (h2 : ¬ b = mw) => World.cell?_of_block (a := ⟨b, o, none⟩) (hSw.block b ⟨h, h2⟩); clear hSw; go_simp; try with_reducible rfl); try simp only [Act.put, zn1, zn2, zn3]
    refine ready_one (i := 5) rfl (by kernel_rfl) (fun K hK => ?_)
    refine step_drop_is _ (by rfl) (.tmp 66) (.tmp 67) 77 (by rfl) 4 Tryz.underlying77 mw _ _ (by rfl) HMk.out (u, t) (by rfl) hof ?_
    intro w6 hm6 hg6
    have hS := But.trans hHeld (But.grown hg6)
    have HM6 := Lib.hid (MapIs.if_ hm6)
    clear hm6 hg6
    refine hK.out _ _ ?_ (fun hHeld2 => ?_)
    ·(try dsimp only); exact hS
    clear hK K hHeld; have hHeld := hHeld2; clear hHeld2; (try simp only [Act.put, zn1, zn2, zn3])
    refine wpAnyH_done (by kernel_rfl) ?_ _
    replace d4 := cellK d4 hHeld (by omega) (by omega)
    replace e0 := cellK e0 hHeld (by omega) (by omega)
    replace e1 := cellK e1 hHeld (by omega) (by omega)
    replace e2 := cellK e2 hHeld (by omega) (by omega)
    replace e3 := cellK e3 hHeld (by omega) (by omega)
    replace e5 := cellK e5 hHeld (by omega) (by omega)
    replace e6 := cellK e6 hHeld (by omega) (by omega)
    replace f0 := cellK f0 hHeld (by omega) (by omega)
    replace f1 := cellK f1 hHeld (by omega) (by omega)
    replace l0 : (mw + 1 + 1 + 1) < w6.heap.size := Nat.lt_of_lt_of_le l0 (Keeps.size hHeld)
    replace l1 : (w2.heap.size + 1) < w6.heap.size := Nat.lt_of_lt_of_le l1 (Keeps.size hHeld)
    replace HLow := Lib.hid (But.low HLow.out hHeld (by omega))
    replace HMy := Lib.hid (HMy.out.same (hHeld.block (mw + 1) ⟨HMy.out.lt, by omega⟩))
    replace HMz := Lib.hid (HMz.out.same (hHeld.block (mw + 1 + 1) ⟨HMz.out.lt, by omega⟩))
    have hm6 := HM6.out
    rw [outV_drop] at hm6
    have hcl : ClosAt w6 (mw + 1 + 1 + 1) mw w.heap.size An Ae Au Ah ns.length cn ce cu ch es up half (outF (outB wo) (u, t)) :=
     ⟨e0, e1, e2, e3, d4, ⟨_, hm6⟩, H0r.out.below HLow.out, hl, H0u.out.rd.below HLow.out, H0u.out.len, H0h.out.rd.below HLow.out, H0h.out.len, HLow.out.size⟩
    have HC := Lib.hid hcl
    clear hm6 hcl HM6 hHeld hS
    go_wp2_with fail
    refine (steps_any (mw + 1 + 1 + 1) mw (mw + 1) w.heap.size An Ae Au Ah ns.length cn ce cu ch es up half (outF (outB wo) (u, t)) u t w6 HC.out e5 HMy.out (by omega) (by omega) (by omega) HOk.out HOf.out).mono ?_
    rintro e w7 ⟨rfl, hm7, hk7⟩
    rw [step_lay] at hm7
    have HMy7 := Lib.hid hm7
    have HC7 := Lib.hid (HC.out.but hk7 (by omega) (by omega) (by omega))
    have f07 := cellK f0 hk7 l1 (by omega)
    have f17 := cellK f1 hk7 l1 (by omega)
    have e57 := cellK e5 hk7 l0 (by omega)
    have e67 := cellK e6 hk7 l0 (by omega)
    have HMz7 := Lib.hid (HMz.out.same (hk7.block (mw + 1 + 1) ⟨HMz.out.lt, by omega⟩))
    have HLow7 := Lib.hid (But.low HLow.out hk7 (by omega))
    have l07 := Nat.lt_of_lt_of_le l0 hk7.size
    have l17 := Nat.lt_of_lt_of_le l1 hk7.size
    clear hm7 hk7 HC HMy HMz HLow e0 e1 e2 e3 e5 e6 d4 f0 f1
    go_wp2_with fail
    refine (needs_any (mw + 1 + 1 + 1) mw (mw + 1 + 1) w.heap.size An Ae Au Ah ns.length cn ce cu ch es up half (outF (outB wo) (u, t)) u t w7 HC7.out e67 HMz7.out (by omega) (by omega) (by omega) HOk.out HOf.out).mono ?_
    rintro e w8 ⟨rfl, ⟨N, hN, hm8⟩, hk8⟩
    have HN := Lib.hid hN
    have HMz8 := Lib.hid hm8
    have HMy8 := Lib.hid (HMy7.out.same (hk8.block (mw + 1) ⟨HMy7.out.lt, by omega⟩))
    have e58 := cellK e57 hk8 l07 (by omega)
    have e68 := cellK e67 hk8 l07 (by omega)
    have HLow8 := Lib.hid (But.low HLow7.out hk8 (by omega))
    have l08 := Nat.lt_of_lt_of_le l07 hk8.size
    clear hN hm8 hk8 HMz7 HMy7 HLow7 HC7 f07 f17 e57 e67
    go_wp2_with (first
     | (at_range; refine wpList_range_is _ (by rfl) (.tmp 77) 78 (by rfl) 9 Tryz.underlying78 (mw + 1) _ _ (by rfl) HMy8.out ?_; intro w3' cnt hr3 hg3 hs3; have HR3 := Lib.hid hr3; have HG3 := Lib.hid hg3; clear hr3 hg3)
     | fail)
    have HNd := Lib.hid (pullM_ok es up half (u, t) wo).nd
    have HMk := Lib.hid (pull_keys_ok (es := es) (up := up) (half := half) (first := (u, t)) (wo := wo) HOk.out HOf.out)
    have hml := pullM_len es up half (u, t) wo
    have HNk := Lib.hid (need_known HN.out)
    have HAll := Lib.hid (show allP es up half (u, t) wo = (canon ltJ (keysP (pullM es up half (u, t) wo))).map (plOf (pullM es up half (u, t) wo) (needM es up half (u, t) wo)) from rfl)
    clear HN
    generalize pullM es up half (u, t) wo = m at *
    generalize needM es up half (u, t) wo = nn at *
    have hz8 := HLow8.out.size
    have hy8 := HMy8.out.lt
    go_frame
    go_loopw [17] (fun v wr => ∃ (left : Jp → Bool) (cnt : Nat) (L : List Jp) (R : List Pl), RangeIs kindJ wr (mw + 1) w8.heap.size (List.length m) (byV m) left cnt ∧ Hid (R = L.map (plOf m nn)) ∧ List.Nodup L ∧ Hid (∀ k, k ∈ L ↔ k ∈ keysP m ∧ left k = false) ∧ wr.ownsRow (w8.heap.size + 1) 37 4 v (List.length R) (plsC R) ∧ Below w8.heap.size w8 wr ∧ w8.heap.size < wr.heap.size) (fun _ wr => wr.rangeLeft (mw + 1) w8.heap.size)
    case atStart =>
     have hb3 : Below w8.heap.size w8 w3' := (Below.refl _ _).grown HG3.out (Nat.le_refl _) (fun g hg => by cases hg)
     exact ⟨_, cnt, [], [], HR3.out, rfl, List.nodup_nil, fun k => ⟨fun h => (by cases h), fun h => absurd h.1 (byV_some_false h.2)⟩, World.ownsRow_nil _ _ _ _, hb3, by omega⟩
    case round =>
     obtain ⟨left, cnt', L, R, hrg, HRL, hnd, hL, hown, hbel, hwz⟩ := hrel
     obtain ⟨A, c, rfl, _⟩ := own_rd hown
     have hmz : wr.rangeLeft (mw + 1) w8.heap.size = cnt' := hrg.left_eq
     have hRl : R.length ≤ 6 * es.length + 1 := by
      rw [HRL.out, List.length_map]
      have h1 := nodup_len hnd (cand := keysP m) fun k hk => ((hL.out k).1 hk).1
      have h2 : (keysP m).length = m.length := by simp [keysP]
      omega
     have HL := Lib.hid (And.intro hnd hL.out)
     have HB := Lib.hid hbel
     have HM := Lib.hid hmz
     have HRg := Lib.hid hrg
     have HO3 := Lib.hid hown
     have h63 := Lib.hid (show R.length + 1 ≤ maxLen by unfold maxLen; omega)
     have hby := Lib.hid (show (R.length + 1) * 48 ≤ 140737488355328 by omega)
     clear hbel hmz hrg hnd hL hown
     go_wp2_with (first
      | (at_next; refine wpList_next_is _ (by rfl) (.tmp 78) (by rfl) (mw + 1) w8.heap.size _ (byV m) left cnt' (by rfl) HRg.out ?_ ?_)
      | fail)
     ·intro hdone
      have hmem : ∀ k, k ∈ L ↔ k ∈ keysP m := fun k => by
       rw [HL.out.2]
       exact ⟨fun h => h.1, fun h => ⟨h, hdone k.1 k.2 (HMk.out k h)⟩⟩
      have hperm : L.Perm (keysP m) := (List.perm_ext_iff_of_nodup HL.out.1 HNd.out).2 hmem
      have hpr : R.Perm ((keysP m).map (plOf m nn)) := by rw [HRL.out]; exact hperm.map _
      have HPr := Lib.hid hpr
      clear hdone hmem hperm hpr
      go_wp2_with fail
      refine (sortPl_own _ c A R _ HO3.out (by omega)).mono ?_
      rintro e w6' ⟨rfl, S, hS1, hS2, ho6, hg6⟩
      have hSe := sort_all HNd.out HPr.out hS1 hS2
      rw [← HAll.out] at hSe
      have hSl : S.length = R.length := hS1.length_eq
      have HS := Lib.hid (And.intro hSe hSl)
      have HO6 := Lib.hid ho6
      have HG6 := Lib.hid hg6
      clear hS1 hS2 hSe hSl ho6 hg6
      go_wp2_with fail
      go_ret
      rw [HQ.out, ← HS.out.1]
      refine ⟨A, c, by rw [HS.out.2]; rfl, ?_, ?_⟩
      ·rw [HS.out.2]; exact own_base HO6.out (by omega)
      ·exact ((lift HLow8.out HB.out)).grown HG6.out (by omega) (fun j hj => by have := (HO3.out.lt j hj).1; omega)
     ·intro s t' v' w4 cnt3 hx hlx hfx hrg3 hlt3 hg3 hs4 hen
      obtain ⟨hv', hxm⟩ := byV_of hfx
      subst hv'
      rw [show kindJ.val (s, t') = .agg #[sv s, .int .i64 t'] from rfl] at hen ⊢
      have hb4 : Below w8.heap.size w8 w4 := HB.out.grown hg3 (by omega) (fun g hg => by cases hg; exact Nat.le_refl _)
      have ho4 : w4.ownsRow (w8.heap.size + 1) 37 4 (.slice A R.length c) R.length (plsC R) := by
       refine HO3.out.kept hg3 ?_
       cases hv : (Value.slice A R.length c).ownBlock with
       | none => exact .inl rfl
       | some g => exact .inr (fun e => by cases e; exact absurd (HO3.out.lt _ hv).1 (by omega))
      have HR4 := Lib.hid hrg3
      have HB4 := Lib.hid hb4
      have HO4 := Lib.hid ho4
      have HX := Lib.hid (And.intro hlx hxm)
      have HLt := Lib.hid hlt3
      have hs4' : wr.heap.size ≤ w4.heap.size := by omega
      have HOl := Lib.hid HO3.out.lt
      have e59 := cellAt e58 hb4 l08
      have e69 := cellAt e68 hb4 l08
      have l09 := Nat.lt_of_lt_of_le l08 hb4.size
      have hz4 : w8.heap.size < w4.heap.size := by omega
      have HMz4 := Lib.hid (HMz8.out.on hb4)
      generalize hbo : byOf m (s, t') = bo at *
      have HBo := Lib.hid hbo
      clear hrg3 hb4 ho4 hg3 hlx hfx hxm hlt3 hs4 hbo
      go_wp2_with fail
      first | (refine wp_named ?_; intro W4 hW) | (refine calls_named ?_; intro W4 hW)
      have B4 : Below w4.heap.size w4 W4 := by rw [hW]; exact bq2
      replace e59 := cellAt e59 B4 (by omega)
      replace e69 := cellAt e69 B4 (by omega)
      replace HB4 := Lib.hid ((Below.trans HB4.out (Below.mono B4 (by omega))))
      replace HR4 := Lib.hid (RangeIs.on HR4.out B4)
      replace HO4 := Lib.hid (own_on HO4.out B4)
      replace HMz4 := Lib.hid (HMz4.out.on B4)
      replace l09 : (mw + 1 + 1 + 1) < W4.heap.size := ltAt l09 B4
      replace hz4 : w8.heap.size < W4.heap.size := ltAt hz4 B4
      have j9 : w4.heap.size < W4.heap.size := by rw [hW]; simp <;> omega
      have j0 : W4.cell? ⟨w4.heap.size, 0, none⟩ = some (sv s) := by rw [hW]; go_simp
      have j1 : W4.cell? ⟨w4.heap.size, 1, none⟩ = some (.int .i64 t') := by rw [hW]; go_simp
      clear hW
      have hz5 := B4.size
      clear B4
      have hrb : ∀ b, (Value.slice A R.length c).ownBlock = some b → w8.heap.size + 1 ≤ b ∧ b < w4.heap.size := fun b hb => ⟨(HO4.out.lt b hb).1, by have := (HOl.out b hb).2; omega⟩
      obtain ⟨ovr, hovr⟩ : ∃ v, v = Value.slice A R.length c := ⟨_, rfl⟩
      rw [← hovr] at hrb
      have o1 : ¬ ovr.ownBlock = some (mw + 1 + 1 + 1) := fun e => by have := (hrb _ e).1; omega
      have o2 : ¬ ovr.ownBlock = some w4.heap.size := fun e => by have := (hrb _ e).2; omega
      have o3 : ¬ ovr.ownBlock = some (mw + 1 + 1) := fun e => by have := (hrb _ e).1; omega
      have o4 : ¬ ovr.ownBlock = some (mw + 1) := fun e => by have := (hrb _ e).1; omega
      have o5 : ¬ ovr.ownBlock = some w8.heap.size := fun e => by have := (hrb _ e).1; omega
      have HOv := Lib.hid hovr
      have HRb := Lib.hid hrb
      have hba := Lib.hid (show w8.heap.size + 1 ≤ (W4.drew.alloc (.cells (plC (s, t', knownP nn (s, t'), bo)).toArray 37)).heap.size by simp; omega)
      have HZl := Lib.hid HMz4.out.lt
      clear hovr hrb
      try go_wp2_with fail
      refine wp_region_held_drew (S := fun w' => Keeps (OffB W4 ovr) W4 w') (by kernel_rfl) (OffB.below (Below.drew (Below.refl _ _))) (fun hHeld => ?_)
      refine tV 0 ?_ ?zq ?_; (case zq => rintro _ -; go_simp; try with_reducible rfl); try simp only [Act.put, zn1, zn2, zn3]
      refine tV 1 ?_ ?zq ?_; (case zq => rintro _ -; go_simp; try with_reducible rfl); try simp only [Act.put, zn1, zn2, zn3]
      refine tV 2 ?_ ?zq ?_; (case zq => intro w' hSw; have hCell := fun (b o : Nat) (h : b < W4.heap.size) (h2 : ¬ ovr.ownBlock = some b) => World.cell?_of_block (a := ⟨b, o, none⟩) (hSw.block b ⟨h, h2⟩); clear hSw; go_simp; try with_reducible rfl); try simp only [Act.put, zn1, zn2, zn3]
      refine tV 3 ?_ ?zq ?_; (case zq => rintro _ -; go_simp; try with_reducible rfl); try simp only [Act.put, zn1, zn2, zn3]
      refine tV 4 ?_ ?zq ?_; (case zq => intro w' hSw; have hCell := fun (b o : Nat) (h : b < W4.heap.size) (h2 : ¬ ovr.ownBlock = some b) => World.cell?_of_block (a := ⟨b, o, none⟩) (hSw.block b ⟨h, h2⟩); clear hSw; go_simp; try with_reducible rfl); try simp only [Act.put, zn1, zn2, zn3]
      refine tV 5 ?_ ?zq ?_; (case zq => rintro _ -; go_simp; try with_reducible rfl); try simp only [Act.put, zn1, zn2, zn3]
      refine tV 6 ?_ ?zq ?_; (case zq => rintro _ -; go_simp; try with_reducible rfl); try simp only [Act.put, zn1, zn2, zn3]
      refine tV 7 ?_ ?zq ?_; (case zq => rintro _ -; go_simp; try with_reducible rfl); try simp only [Act.put, zn1, zn2, zn3]
      refine tV 8 ?_ ?zq ?_; (case zq => intro w' hSw; have hCell := fun (b o : Nat) (h : b < W4.heap.size) (h2 : ¬ ovr.ownBlock = some b) => World.cell?_of_block (a := ⟨b, o, none⟩) (hSw.block b ⟨h, h2⟩); clear hSw; go_simp; try with_reducible rfl); try simp only [Act.put, zn1, zn2, zn3]
      refine tV 9 ?_ ?zq ?_; (case zq => intro w' hSw; have hCell := fun (b o : Nat) (h : b < W4.heap.size) (h2 : ¬ ovr.ownBlock = some b) => World.cell?_of_block (a := ⟨b, o, none⟩) (hSw.block b ⟨h, h2⟩); clear hSw; go_simp; try with_reducible rfl); try simp only [Act.put, zn1, zn2, zn3]
      refine tV 11 ?_ ?zq ?_; (case zq => rintro _ -; go_simp; try with_reducible rfl); try simp only [Act.put, zn1, zn2, zn3]
      refine ready_one (i := 10) rfl (by kernel_rfl) (fun K hK => ?_)
      refine step_lookup_is _ (by rfl) (.tmp 92) (.tmp 93) 77 (by rfl) 4 Tryz.underlying77 (.bool false) (zeroB _) (mw + 1 + 1) _ _ (by rfl) (HMz4.out.same (hHeld.block (mw + 1 + 1) ⟨HZl.out, o3⟩)) (s, t') (by rfl) hx ?_
      rw [inV_get, HNk.out]
      have hS := hHeld
      refine hK.out _ _ ?_ (fun hHeld2 => ?_)
      ·(try dsimp only); exact hS
      clear hK K hHeld; have hHeld := hHeld2; clear hHeld2; (try simp only [Act.put, zn1, zn2, zn3])
      refine ready_one (i := 12) rfl (by kernel_rfl) (fun K hK => ?_)
      go_simp
      refine hK.out _ _ ?_ (fun hHeld2 => ?_)
      ·(try dsimp only); first | exact hHeld | exact OffB.alloc hHeld _
      clear hK K hHeld; have hHeld := hHeld2; clear hHeld2; (try simp only [Act.put, zn1, zn2, zn3])
      refine ready_one (i := 13) rfl (by kernel_rfl) (fun K hK => ?_)
      go_simp
      refine hK.out _ _ ?_ (fun hHeld2 => ?_)
      ·(try dsimp only); first | exact hHeld | exact OffB.alloc hHeld _
      clear hK K hHeld; have hHeld := hHeld2; clear hHeld2; (try simp only [Act.put, zn1, zn2, zn3])
      refine ready_one (i := 14) rfl (by kernel_rfl) (fun K hK => ?_)
      refine step_append_rd _ (by rfl) (.tmp 84) (.tmp 97) 29 (by rfl) (w8.heap.size + 1) 37 i0 _ 4 48 Tryz.underlying29 hi hz0 hz1 hz2 rfl (by decide) _ R.length (plsC R) (by rfl) (own_alloc (w := W4.drew) HO4.out _) _ (some ⟨W4.heap.size, 0, none⟩) 1 1 (plC (s, t', knownP nn (s, t'), bo)) (by rfl) (Rd.lit W4.drew (plC (s, t', knownP nn (s, t'), bo)) 37 4 1 rfl) (one_plC _) h63.out hby.out hba.out ?_
      intro A7 c7 w7 ho7 hg7 hat7
      rw [← HOv.out] at hg7
      have hS := OffB.grown hHeld hg7
      have HO7 := Lib.hid ho7
      clear ho7 hg7 hat7
      refine hK.out _ _ ?_ (fun hHeld2 => ?_)
      ·(try dsimp only); exact hS
      clear hK K hHeld; have hHeld := hHeld2; clear hHeld2; (try simp only [Act.put, zn1, zn2, zn3])
      refine tV 15 ?_ ?zq ?_; (case zq => rintro _ -; go_simp; try with_reducible rfl); try simp only [Act.put, zn1, zn2, zn3]
      refine wpAnyH_done (by kernel_rfl) ?_ _
      have hz7 := hHeld.size
      have hrg7 := HR4.out.same (hHeld.block (mw + 1) ⟨HR4.out.map.lt, o4⟩) (hHeld.block w8.heap.size ⟨HR4.out.lt, o5⟩)
      have HR7 := Lib.hid hrg7
      have HB7 := Lib.hid (HB4.out.trans (hHeld.below (B := w8.heap.size) (fun j hj => ⟨by omega, fun e => by have := (HRb.out _ e).1; omega⟩)))
      clear hrg7 hHeld hS
      go_wp2_with fail
      have hxL : ¬ (s, t') ∈ L := fun h => by have := ((HL.out.2 _).1 h).2; rw [HX.out.1] at this; cases this
      refine ⟨⟨_, cnt3, L ++ [(s, t')], R ++ [(s, t', knownP nn (s, t'), bo)], HR7.out, ?_, ?_, ?_, ?_, HB7.out, by omega⟩, ?_⟩
      ·show R ++ _ = _
       rw [HRL.out, List.map_append]
       simp [plOf, HBo.out]
      ·exact List.nodup_append.2 ⟨HL.out.1, List.pairwise_singleton _ _, fun a ha b hb e => by
        have : b = (s, t') := by simpa using hb
        subst this; subst e; exact hxL ha⟩
      ·intro k
       rw [List.mem_append, List.mem_singleton, HL.out.2]
       constructor
       ·rintro (⟨h1, h2⟩ | rfl)
        ·exact ⟨h1, by simp [h2]⟩
        ·exact ⟨HX.out.2, by simp⟩
       ·rintro ⟨h1, h2⟩
        by_cases e : k = (s, t')
        ·exact .inr e
        ·exact .inl ⟨h1, by simpa [e] using h2⟩
      ·rw [List.length_append, plsC_app, plsC_one]
       exact HO7.out
      ·rw [HM.out, HR7.out.left_eq]
       exact HLt.out
end Od
end Go.Proofs.YtbllehjhmfehbaaGreat
end

section
/- slices.IndexFunc, DeleteFunc and Clone at pulls. (bel2) -/
namespace Go.Proofs.YtbllehjhmfehbaaGreat
open Go.RowKit Go.Sort
set_option linter.unusedSimpArgs false
theorem eql_slice_noneT {P : Program} {t e : TypeId} (h : P.underlying t = some (.slice e)) (a : Option Addr) (n c : Nat) (w : World) : (binOp .eql t (.slice a n c) (.slice none 0 0)).run P w = .ok (.bool a.isNone) w := by
 simp only [binOp]
 simp [run_equal_slice_nil w t e a n c h]
namespace Od
structure SaysPl (g : Nat) (caps : Array Value) (p : Pl → Bool) (base : Nat) (w0 : World) : Prop where
 enters : ∀ (args : Array Value) (W : World), (callFunc g args).run Tryz.prog W = .ok (.enter g args) W
 says : ∀ (W : World) (s : Str) (t : Int) (n : Bool) (b : Str), Below base w0 W → Calls Tryz.prog g (#[.agg #[sv s, .int .i64 t, .bool n, sv b]] ++ caps) W fun e w' => e = .returned (.bool (p (s, t, n, b))) ∧ Below W.heap.size W w'
set_option maxRecDepth 100000 in
set_option maxHeartbeats 1000000 in
theorem IndexFuncP (A : Option Addr) (c : Nat) (ss : List Pl) (g : Nat) (caps : Array Value) (p : Pl → Bool) (base : Nat) (w0 w : World) (hr : Rd w w.heap.size 4 A ss.length (plsC ss)) (hl : ss.length ≤ 1000000) (hp : SaysPl g caps p base w0) (hb0 : Below base w0 w) (hbase : base ≤ w.heap.size) :
  Calls Tryz.prog 197 #[.slice A ss.length c, .func (.func g) #[] caps] w (FindIdx ss p w) := by
 have Hr := Lib.hid hr
 have Hp := Lib.hid hp
 have Hb0 := Lib.hid hb0
 have eg := hp.enters
 clear hr hp hb0
 go_enter Tryz.func197, Tryz.ntmps197
 go_wp2_with fail
 go_loopw [8] (fun i wr => ∃ k : Nat, k ≤ ss.length ∧ i = .int .i64 k ∧ Hid ((ss.take k).any p = false) ∧ Below w.heap.size w wr) (fun i _ => ss.length - (intOf i).toNat)
 case atStart => exact ⟨0, Nat.zero_le _, rfl, by simp [Hid], Below.refl _ _⟩
 case round =>
  obtain ⟨k, hk, rfl, hall, hbel⟩ := hrel
  by_cases hlt : k < ss.length
  ·obtain ⟨bb, o, rfl, hB, hc0, hc1, hc2, hc3⟩ := (Hr.out.on (Nat.le_refl _) hbel).pl hlt
   have Hbel := Lib.hid hbel
   clear hbel
   generalize hx : ss[k] = x at hc0 hc1 hc2 hc3
   obtain ⟨s, t, n, b⟩ := x
   have Hx := Lib.hid hx
   clear hx
   simp only at hc0 hc1 hc2 hc3
   have hcall := Hp.out.says wr s t n b (Hb0.out.trans (Hbel.out.mono hbase))
   have Hcall := Lib.hid hcall
   clear hcall
   go_wp2_with fail
   refine Hcall.out.mono ?_
   rintro e w2 ⟨rfl, hb2⟩
   have Hb2 := Lib.hid (Hbel.out.trans (hb2.mono Hbel.out.size))
   clear hb2
   cases hpx : p (s, t, n, b)
   ·have Hpx := Lib.hid hpx
    go_wp2_with fail
    go_roundw
    case rel => exact ⟨k + 1, by omega, by go_num, by show _ = false; rw [any_take_succ hlt, hall.out, Hx.out, Hpx.out]; rfl, Hb2.out⟩
    case measure => simp [intOf]; omega
   ·have Hpx := Lib.hid hpx
    go_wp2_with fail
    go_ret
    exact ⟨k, rfl, .inr ⟨k, hlt, rfl, find_at hlt hall.out (by rw [Hx.out]; exact Hpx.out), by rw [Hx.out]; exact Hpx.out, fun j hj => take_any_at hk hall.out hj⟩, Hb2.out⟩
  ·have ha := hall.out
   rw [List.take_of_length_le (by omega)] at ha
   have Ha := Lib.hid ha
   clear ha
   go_wp2_with fail
   go_ret
   exact ⟨-1, rfl, .inl ⟨rfl, find_none_take Ha.out⟩, hbel⟩
set_option maxRecDepth 100000 in
set_option maxHeartbeats 1000000 in
theorem cloneP_own (A : Option Addr) (c : Nat) (q : List Pl) (w : World) (hr : Rd w w.heap.size 4 A q.length (plsC q)) (hl : q.length ≤ 1000000) :
  Calls Tryz.prog 195 #[.slice A q.length c] w (OwnPl q w) := by
 obtain ⟨i0, hi, hz0, hz1, hz2⟩ := info_parts infoPl
 have Hr := Lib.hid hr
 clear hr
 cases A with
 | none =>
  have hn : q.length = 0 := by
   rcases Nat.eq_zero_or_pos q.length with h | h
   ·exact h
   ·obtain ⟨ad, h, _⟩ := Hr.out.2 h; cases h
  have HN := Lib.hid hn
  clear hn
  have hq : ∀ w, (binOp .eql 29 (.slice none q.length c) (.slice none 0 0)).run Tryz.prog w = .ok (.bool true) w := eql_slice_noneT Tryz.underlying29 _ _ _
  go_enter Tryz.func195, Tryz.ntmps195
  go_wp2_with fail
  go_ret
  have h0 := List.length_eq_zero_iff.1 HN.out
  subst h0
  exact ⟨none, 0, rfl, World.ownsRow_nil _ _ _ _, Below.refl _ _⟩
 | some ad =>
  have h63 : 0 + q.length ≤ maxLen := by unfold maxLen; omega
  have hby : (0 + q.length) * 48 ≤ 140737488355328 := by omega
  have hq : ∀ w, (binOp .eql 29 (.slice (some ad) q.length c) (.slice none 0 0)).run Tryz.prog w = .ok (.bool false) w := eql_slice_noneT Tryz.underlying29 _ _ _
  have h0 : (w.alloc (.cells #[] 37)).ownsRow w.heap.size 37 4 (.slice (some ⟨w.heap.size, 0, none⟩) 0 0) 0 [] :=
   ⟨rfl, .inr ⟨w.heap.size, 0, #[], rfl, Nat.le_refl _, by show (w.heap.push _)[w.heap.size]? = _; simp, Nat.le_refl _, by decide, rfl, rfl⟩⟩
  have H0 := Lib.hid h0
  clear h0
  go_enter Tryz.func195, Tryz.ntmps195
  go_wp2_with (first
   | (at_builtin; refine wpList_append_rd _ (by rfl) (.tmp 5) (.tmp 6) 29 (by rfl) w.heap.size 37 i0 _ 4 48 Tryz.underlying29 hi hz0 hz1 hz2 rfl (by decide) (.slice (some ⟨w.heap.size, 0, none⟩) 0 0) 0 [] (by rfl) H0.out _ (some ad) q.length c (plsC q) (by rfl) (Hr.out.alloc (Nat.le_refl _) _) (one_plsC q) h63 hby (by simp) ?_; intro A1 c1 w1 ho1 hg1 hat1)
   | fail)
  go_ret
  exact ⟨A1, c1, rfl, by simpa using ho1, ((Below.refl _ _).alloc (Nat.le_refl _) _).grown hg1 (by simp) (fun j hj => by simp [Value.ownBlock] at hj; omega)⟩
theorem filter_all_pl {p : Pl → Bool} {L : List Pl} (h : L.find? p = none) : L.filter (fun s => !p s) = L := by
 rw [List.filter_eq_self]
 intro s hs
 have := List.find?_eq_none.1 h s hs
 simpa using this
theorem filter_first_pl {p : Pl → Bool} {L : List Pl} {k : Nat} (hk : k < L.length) (h1 : p L[k] = true) (h0 : ∀ j, ∀ hj : j < k, p (L[j]'(by omega)) = false) : (L.take (k + 1)).filter (fun s => !p s) = L.take k := by
 rw [List.take_succ_eq_append_getElem hk, List.filter_append]
 have e1 : [L[k]].filter (fun s => !p s) = [] := by simp [h1]
 rw [e1, List.append_nil, List.filter_eq_self]
 intro s hs
 obtain ⟨j, hj, rfl⟩ := List.mem_iff_getElem.1 hs
 have hj' : j < k := by simp at hj; omega
 have := h0 j hj'
 simp only [List.getElem_take]
 simpa using this
theorem ownPl_put {w : World} {base c g n : Nat} {M : List Pl} (h : w.ownsRow base 37 4 (.slice (some ⟨g, 0, none⟩) n c) n (plsC M)) {i : Nat} (hi : i < M.length) (s : Str) (t : Int) (b : Bool) (y : Str) :
  ((((w.setCell ⟨g, i * 4, none⟩ (sv s)).setCell ⟨g, i * 4 + 1, none⟩ (.int .i64 t)).setCell ⟨g, i * 4 + 2, none⟩ (.bool b)).setCell ⟨g, i * 4 + 3, none⟩ (sv y)).ownsRow base 37 4 (.slice (some ⟨g, 0, none⟩) n c) n (plsC (M.set i (s, t, b, y))) := by
 have set1 : ∀ {w : World} {M : List Pl}, w.ownsRow base 37 4 (.slice (some ⟨g, 0, none⟩) n c) n (plsC M) → ∀ (hi : i < M.length) (u : Nat) (_ : u < 4) (y : Pl) (v : Value), plC y = (plC M[i]).set u v →
   (w.setCell ⟨g, i * 4 + u, none⟩ v).ownsRow base 37 4 (.slice (some ⟨g, 0, none⟩) n c) n (plsC (M.set i y)) := fun h hi u hu y v hy => by
  have h1 := own_set h (j := i * 4 + u) v
  rw [show (plsC _).set (i * 4 + u) v = plsC _ from flat_set plC 4 plC_len u y v hu _ i hi hy] at h1
  exact h1
 have h0 := set1 h hi 0 (by omega) (s, M[i].2.1, M[i].2.2.1, M[i].2.2.2) (sv s) rfl
 have h1 := set1 h0 (by simpa using hi) 1 (by omega) (s, t, M[i].2.2.1, M[i].2.2.2) (.int .i64 t) (by rw [List.getElem_set_self]; rfl)
 have h2 := set1 h1 (by simpa using hi) 2 (by omega) (s, t, b, M[i].2.2.2) (.bool b) (by rw [List.getElem_set_self]; rfl)
 have h3 := set1 h2 (by simpa using hi) 3 (by omega) (s, t, b, y) (sv y) (by rw [List.getElem_set_self]; rfl)
 simpa using h3
theorem zero_pl (n : Nat) : ∀ v ∈ (Builtin.zeroCells (Value.agg #[.string ⟨#[]⟩, .int .i64 0, .bool false, .string ⟨#[]⟩]).cells n).toList, v.oneCell' = true := fun v hv => by
 unfold Builtin.zeroCells at hv
 simp only [Value.cells, Array.toList_map, List.mem_map] at hv
 obtain ⟨i, _, rfl⟩ := hv
 have h3 : i % 4 = 0 ∨ i % 4 = 1 ∨ i % 4 = 2 ∨ i % 4 = 3 := by omega
 rcases h3 with h | h | h | h <;> simp [h, Value.oneCell']
set_option maxRecDepth 100000 in
set_option maxHeartbeats 8000000 in
theorem DeleteFuncP_own (base c n : Nat) (A : Option Addr) (L : List Pl) (g : Nat) (caps : Array Value) (p : Pl → Bool) (w0 w : World) (h : w.ownsRow base 37 4 (.slice A n c) n (plsC L)) (hL : L.length = n) (hn : n ≤ 1000000) (hp : SaysPl g caps p base w0) (hb0 : Below base w0 w) (hbase : base ≤ w.heap.size) :
  Calls Tryz.prog 194 #[.slice A n c, .func (.func g) #[] caps] w fun e w' => ∃ A' c', e = .returned (.slice A' (L.filter (fun s => !p s)).length c') ∧ w'.ownsRow base 37 4 (.slice A' (L.filter (fun s => !p s)).length c') (L.filter (fun s => !p s)).length (plsC (L.filter (fun s => !p s))) ∧ Below base w0 w' := by
 obtain ⟨i0, hi, hz0, hz1, hz2⟩ := info_parts infoPl
 have Ho := Lib.hid h
 have Hp := Lib.hid hp
 have Hb0 := Lib.hid hb0
 have eg := hp.enters
 have hr := own_rd' h
 have hcap := own_cap h
 subst hL
 have Hr := Lib.hid hr
 clear h hp hb0 hr
 go_enter Tryz.func194, Tryz.ntmps194
 go_wp2_with fail
 refine (IndexFuncP A c L g caps p base w0 w Hr.out hn Hp.out Hb0.out hbase).mono ?_
 rintro e w2 ⟨r, rfl, hcase, hb⟩
 have HO2 := Lib.hid (own_on Ho.out hb)
 have HB2 := Lib.hid (Hb0.out.trans (hb.mono hbase))
 have hbase2 : base ≤ w2.heap.size := Nat.le_trans hbase hb.size
 clear hb Ho Hr Hb0
 rcases hcase with ⟨rfl, hnone⟩ | ⟨k, hk, rfl, _, hpk, hbef⟩
 ·have HF := Lib.hid (filter_all_pl hnone)
  go_wp2_with fail
  go_ret
  rw [HF.out]
  exact ⟨A, c, rfl, HO2.out, HB2.out⟩
 ·have hfirst := filter_first_pl hk hpk hbef
  have HF := Lib.hid hfirst
  clear hfirst hpk hbef
  obtain ⟨gb, rfl, hgb, hgl, _⟩ := own_open HO2.out (by omega)
  have hneq : ((k : Int) == -1) = false := by rw [beq_eq_false_iff_ne]; omega
  have hw1 : IntKind.i64.wrap ((k : Int) + 1) = (k : Int) + 1 := IntWalk.i64_in _ (by omega)
  go_wp2_with fail
  go_loopw [5, 6] (fun iv jv wr => ∃ (i j : Nat) (M : List Pl), iv = .int .i64 i ∧ jv = .int .i64 j ∧ i < j ∧ j ≤ L.length ∧ M.length = L.length ∧ M.take i = (L.take j).filter (fun s => !p s) ∧ M.drop j = L.drop j ∧ wr.ownsRow base 37 4 (.slice (some ⟨gb, 0, none⟩) L.length c) L.length (plsC M) ∧ Below base w0 wr) (fun _ jv _ => L.length - (intOf jv).toNat)
  case atStart => exact ⟨k, k + 1, L, rfl, by simp, by omega, hk, rfl, HF.out.symm, rfl, HO2.out, HB2.out⟩
  case round =>
   obtain ⟨i, j, M, rfl, rfl, hij, hj, hM, htk, hdr, ho, hb⟩ := hrel
   have HOr := Lib.hid ho
   have HBr := Lib.hid hb
   have hglr : gb < wr.heap.size := (ho.lt gb rfl).2
   have hzr : base ≤ wr.heap.size := Nat.le_of_lt (Nat.lt_of_le_of_lt hgb hglr)
   clear ho hb HO2 HB2
   by_cases hlt : j < L.length
   ·have hxM : M[j]'(by omega) = L[j] := by
     have h1 : (M.drop j)[0]'(by simp; omega) = (L.drop j)[0]'(by simp; omega) := by congr 1
     simpa using h1
    have hrd : Rd wr wr.heap.size 4 (some ⟨gb, 0, none⟩) M.length (plsC M) := by rw [hM]; exact own_rd' HOr.out
    obtain ⟨b1, o1, hA1, _, hc0, hc1, hc2, hc3⟩ := hrd.pl (i := j) (by omega)
    injection hA1 with hA1
    injection hA1 with hA1 hA2
    subst hA1 hA2
    rw [hxM] at hc0 hc1 hc2 hc3
    simp only [Nat.zero_add] at hc0 hc1 hc2 hc3
    have hft : (L.take (j + 1)).filter (fun s => !p s) = (L.take j).filter (fun s => !p s) ++ (if (!p L[j]) = true then [L[j]] else []) := filter_take_succ hlt
    have hdr2 : M.drop (j + 1) = L.drop (j + 1) := by rw [← List.drop_drop, ← List.drop_drop, hdr]
    generalize L[j] = x at hc0 hc1 hc2 hc3 hft
    obtain ⟨s, t, b, y⟩ := x
    simp only at hc0 hc1 hc2 hc3
    have HFt := Lib.hid hft
    have HTk := Lib.hid htk
    have HDr := Lib.hid hdr2
    clear hft htk hdr hdr2 hxM hrd
    have j1 : (0 : Int) ≤ (j : Int) := by omega
    have j2 : (j : Int) < (L.length : Int) := by omega
    have j3 : (0 : Int) ≤ (i : Int) := by omega
    have j4 : (i : Int) < (L.length : Int) := by omega
    have hwj : IntKind.i64.wrap ((j : Int) + 1) = (j : Int) + 1 := IntWalk.i64_in _ (by omega)
    have hwi : IntKind.i64.wrap ((i : Int) + 1) = (i : Int) + 1 := IntWalk.i64_in _ (by omega)
    go_wp2_with fail
    first | (refine wp_named ?_; intro W1 hW) | (refine calls_named ?_; intro W1 hW)
    have B1 : Below wr.heap.size wr W1 := by rw [hW]; exact bq2
    replace HOr := Lib.hid (own_on HOr.out B1)
    replace hglr : gb < W1.heap.size := ltAt hglr B1
    have n1 : wr.heap.size < W1.heap.size := by rw [hW]; simp <;> omega
    have e0 : W1.cell? ⟨wr.heap.size, 0, none⟩ = some (sv s) := by rw [hW]; go_simp
    have e1 : W1.cell? ⟨wr.heap.size, 1, none⟩ = some (.int .i64 t) := by rw [hW]; go_simp
    have e2 : W1.cell? ⟨wr.heap.size, 2, none⟩ = some (.bool b) := by rw [hW]; go_simp
    have e3 : W1.cell? ⟨wr.heap.size, 3, none⟩ = some (sv y) := by rw [hW]; go_simp
    clear hW
    have HB1 := Lib.hid (HBr.out.trans (B1.mono hzr))
    have hz1' : base ≤ W1.heap.size := Nat.le_trans hzr B1.size
    clear B1 hc0 hc1 hc2 hc3
    refine (Hp.out.says W1 s t b y HB1.out).mono ?_
    rintro e w5 ⟨rfl, hb5⟩
    have HB5 := Lib.hid (HB1.out.trans (hb5.mono hz1'))
    replace e0 := cellAt e0 hb5 (by omega)
    replace e1 := cellAt e1 hb5 (by omega)
    replace e2 := cellAt e2 hb5 (by omega)
    replace e3 := cellAt e3 hb5 (by omega)
    replace HOr := Lib.hid (own_on HOr.out hb5)
    replace hglr : gb < w5.heap.size := ltAt hglr hb5
    replace n1 : wr.heap.size < w5.heap.size := ltAt n1 hb5
    clear hb5
    cases hpx : p (s, t, b, y)
    ·have HF2 := Lib.hid (show (L.take (j + 1)).filter (fun s => !p s) = (L.take j).filter (fun s => !p s) ++ [(s, t, b, y)] by rw [HFt.out, hpx]; simp)
     have f0 := own_fro HOr.out (j := i * 4)
     have f1 := own_fro HOr.out (j := i * 4 + 1)
     have f2 := own_fro HOr.out (j := i * 4 + 2)
     have f3 := own_fro HOr.out (j := i * 4 + 3)
     have hl3 : (plsC M).length = L.length * 4 := by rw [plsC_len, hM]
     have d0 := own_cell HOr.out (j := i * 4) (by omega)
     have d1 := own_cell HOr.out (j := i * 4 + 1) (by omega)
     have d2 := own_cell HOr.out (j := i * 4 + 2) (by omega)
     have d3 := own_cell HOr.out (j := i * 4 + 3) (by omega)
     generalize (plsC M)[i * 4]'(by omega) = v0 at d0
     generalize (plsC M)[i * 4 + 1]'(by omega) = v1 at d1
     generalize (plsC M)[i * 4 + 2]'(by omega) = v2 at d2
     generalize (plsC M)[i * 4 + 3]'(by omega) = v3 at d3
     go_wp2_with fail
     go_roundw
     case rel =>
      have ho6 := ownPl_put HOr.out (i := i) (by omega) s t b y
      refine ⟨i + 1, j + 1, M.set i (s, t, b, y), by go_num, by go_num, by omega, by omega, by simp [hM], ?_, ?_, ho6, (((HB5.out.setCell hgb _).setCell hgb _).setCell hgb _).setCell hgb _⟩
      ·rw [HF2.out, ← HTk.out, List.take_succ_eq_append_getElem (by simp; omega), List.take_set_of_le (Nat.le_refl _)]
       simp
      ·rw [List.drop_set_of_lt (by omega)]; exact HDr.out
     case measure => simp [intOf]; omega
    ·have HF2 := Lib.hid (show (L.take (j + 1)).filter (fun s => !p s) = (L.take j).filter (fun s => !p s) by rw [HFt.out, hpx]; simp)
     go_wp2_with fail
     go_roundw
     case rel => exact ⟨i, j + 1, M, rfl, by go_num, by omega, by omega, hM, by rw [HF2.out]; exact HTk.out, HDr.out, HOr.out, HB5.out⟩
     case measure => simp [intOf]; omega
   ·have hjL : j = L.length := by omega
    subst hjL
    rw [List.take_length] at htk
    have hs2 := run_slice_tail (P := Tryz.prog) Tryz.underlying29 hi (some ⟨gb, 0, none⟩) L.length c i (by omega)
    rw [hz1] at hs2
    have hAd : dropA (some ⟨gb, 0, none⟩) c i 4 = some ⟨gb, i * 4, none⟩ := by
     unfold dropA
     rw [if_neg (by omega)]
     simp [Addr.add]
     try (intro h; omega)
    rw [hAd] at hs2
    have hl3 : (plsC M).length = L.length * 4 := by rw [plsC_len, hM]
    have hclr := fun ty => run_clear_rows (P := Tryz.prog) (n := L.length - i) wr 29 37 ty (.agg #[.string ⟨#[]⟩, .int .i64 0, .bool false, .string ⟨#[]⟩]) Tryz.underlying29 (fun w => Tryz.zeroValue37 w) (zero_pl _) gb (i * 4) (c - i) (by omega)
     (fun m hm => by
      have hm' : m < (L.length - i) * 4 := hm
      rw [own_cell HOr.out (j := i * 4 + m) (by omega)]; rfl) (fun m hm => own_fro HOr.out)
    have hil : i ≤ L.length := by omega
    have HTk := Lib.hid htk
    obtain ⟨w9, hw9⟩ : ∃ w9, w9 = wr.setCells gb (i * 4) (Builtin.zeroCells (Value.agg #[.string ⟨#[]⟩, .int .i64 0, .bool false, .string ⟨#[]⟩]).cells (L.length - i)).toList := ⟨_, rfl⟩
    rw [← hw9] at hclr
    have hb9 : Below base w0 w9 := by rw [hw9]; exact below_setCells _ _ _ hgb HBr.out
    have ho9 := own_setCells (i := i * 4) (Builtin.zeroCells (Value.agg #[.string ⟨#[]⟩, .int .i64 0, .bool false, .string ⟨#[]⟩]).cells (L.length - i)).toList (i * 4) wr _ (Nat.le_refl _) HOr.out
    rw [← hw9] at ho9
    obtain ⟨xs', ho9, ht9⟩ := ho9
    have ho10 := own_cut ho9 hil
    rw [ht9, show (plsC M).take (i * 4) = plsC (M.take i) from (flat_take plC 4 plC_len M i).symm, htk] at ho10
    have hml : (L.filter (fun s => !p s)).length = i := by rw [← htk, List.length_take, hM]; omega
    have HO10 := Lib.hid ho10
    have HB9 := Lib.hid hb9
    have HML := Lib.hid hml
    clear htk hdr ho9 ht9 ho10 hb9 hml hw9 hl3
    have j3 : (0 : Int) ≤ (i : Int) := by omega
    go_wp2_with fail
    go_ret
    rw [HML.out]
    exact ⟨some ⟨gb, 0, none⟩, c, rfl, HO10.out, HB9.out⟩
end Od
end Go.Proofs.YtbllehjhmfehbaaGreat
end

section
/- A graph that came in, of any size, and who is up; graph.May of any graph; layer 17's own word small. (bel2) -/
namespace Go.Proofs.YtbllehjhmfehbaaGreat
open Go.RowKit Go.Sort
set_option linter.unusedSimpArgs false
namespace Od
structure GIw (w : World) (An Ae : Option Addr) (ns : List Nd) (es : List Ed) : Prop where
 rn : Rd w w.heap.size 3 An ns.length (ndsC ns)
 re : Rd w w.heap.size 3 Ae es.length (edsC es)
 okn : OkNs ns
 oke : OkE es
theorem GIw.at {w w' : World} {An Ae : Option Addr} {ns : List Nd} {es : List Ed} (h : GIw w An Ae ns es) (hb : Below w.heap.size w w') : GIw w' An Ae ns es := ⟨h.rn.at hb, h.re.at hb, h.okn, h.oke⟩
theorem okS_of {s : Str} (h : s.length ≤ 140737488351232) : okS s := by unfold okS maxLen; omega
/-- Who is up, who is half. -/
structure NIn (w : World) (Au Ah : Option Addr) (up half : List Str) : Prop where
 u : SIn w Au up
 h : SIn w Ah half
theorem NIn.at {w w' : World} {Au Ah : Option Addr} {up half : List Str} (h : NIn w Au Ah up half) (hb : Below w.heap.size w w') : NIn w' Au Ah up half := ⟨h.u.at hb, h.h.at hb⟩
set_option maxHeartbeats 1000000 in
theorem MayGB_any (An Ae : Option Addr) (cn ce : Nat) (ns : List Nd) (es : List Ed) (w : World) (hg : GIw w An Ae ns es) (hl : es.length ≤ 1000000) :
  Calls Tryz.prog 23 #[gV An ns.length cn Ae es.length ce] w fun e w' => e = .returned (.bool (mayG ns es)) ∧ Below w.heap.size w w' := by
 by_cases h64 : (64 : Int) < (ns.length : Int)
 ·have h1 : decide ((64 : Int) < (ns.length : Int)) = true := by simpa using h64
  have hm : mayG ns es = false := by unfold mayG; rw [h1]; rfl
  have HM := Lib.hid hm
  clear hg hm
  go_enter Tryz.func23, Tryz.ntmps23
  go_wp2_with fail
  go_ret
  exact ⟨ret_bool (by rw [HM.out]), bq2⟩
 ·exact MayG_any An Ae cn ce ns es w hg.rn hg.re (by omega) hl hg.okn
/-! The graph that the laws begin with -/
def nmA : Str := [97, 46, 116, 97, 114, 103, 101, 116]
def nmB : Str := [98, 46, 116, 97, 114, 103, 101, 116]
def nmC : Str := [99, 46, 116, 97, 114, 103, 101, 116]
def nmD : Str := [100, 46, 116, 97, 114, 103, 101, 116]
def GraphIs (ns : List Nd) (es : List Ed) (w : World) (e : Ending) (w' : World) : Prop := ∃ An cn Ae ce, e = .returned (gV An ns.length cn Ae es.length ce) ∧ ns.length ≤ cn ∧ es.length ≤ ce ∧
 Rd w' w'.heap.size 3 An ns.length (ndsC ns) ∧ Rd w' w'.heap.size 3 Ae es.length (edsC es) ∧ Below w.heap.size w w'
end Od
end Go.Proofs.YtbllehjhmfehbaaGreat
end

section
/- What a transaction is, of lists: which job goes next, what is left, what is to be done of each unit. No program. -/
namespace Go.Proofs.YtbllehjhmfehbaaGreat
set_option linter.unusedSimpArgs false
namespace Od
/-! The three faults -/
def stN (ns : List Nd) (u : Str) : Int := match nodeOf ns u with | some n => n.2.2 | none => 0
def beginsP (p : Pl) : Bool := p.2.1 == 1 || p.2.1 == 3
def sickP (ns : List Nd) (p : Pl) : Bool := beginsP p && stN ns p.1 != 1
def sickE (ns : List Nd) (u : Str) : Int := if stN ns u = 2 then 6 else if stN ns u = 3 then 15 else 16
def startL (l : List Pl) (u : Str) : Bool := l.any (fun p => p.1 == u && beginsP p)
def stopL (l : List Pl) (u : Str) : Bool := l.any (fun p => p.1 == u && p.2.1 == 2)
def missU (up : List Str) (l : List Pl) (rel : Int) (v : Str) : Bool := (!startL l v && !hasB up v) || (stopL l v && (rel == 3 || !startL l v))
def missP (es : List Ed) (up : List Str) (l : List Pl) (u : Str) : Bool := (outS es u 3).any (missU up l 3) || ((outS es u 1).any (missU up l 1) || (outS es u 4).any (missU up l 4))
def lackP (es : List Ed) (up : List Str) (l : List Pl) (p : Pl) : Bool := beginsP p && missP es up l p.1
def othersL (l : List Pl) (u : Str) : List Pl := l.filter (fun p => p.1 == u && p.2.1 != 2)
def bothP (l : List Pl) (p : Pl) : Bool := p.2.1 == 2 && !(othersL l p.1).isEmpty
def clashOf (l : List Pl) : Option Pl := match l.find? (bothP l) with
 | none => none
 | some p => match (othersL l p.1).find? (fun q => !q.2.2.1) with
  | some q => some q
  | none => some p
def badP (ns : List Nd) (es : List Ed) (up : List Str) (l : List Pl) : Option (Pl × Int) := match l.find? (sickP ns) with
 | some p => some (p, sickE ns p.1)
 | none => match l.find? (lackP es up l) with
  | some p => some (p, 19)
  | none => match clashOf l with
   | some p => some (p, 18)
   | none => none
structure Tr where
 err : Int
 l : List Pl
 gone : List Pl
section
variable (ns : List Nd) (es : List Ed) (up half : List Str) (first : Jp)
def goT : Nat → List Pl → Tr
 | 0, gone => ⟨0, [], gone⟩
 | n + 1, gone => match badP ns es up (pullQ ns es up half first gone) with
  | none => ⟨0, pullQ ns es up half first gone, gone⟩
  | some (p, e) => if p.2.2.1 = true then ⟨e, [], []⟩ else goT n (gone ++ [p])
def wrongT : Int := if mayG ns es = false then 1 else if ¬ (1 ≤ first.2 ∧ first.2 ≤ 4) then 3 else if (nodeOf ns first.1).isSome = false then 6 else if (first.2 == 4 && !hasB up first.1) = true then 20 else 0
def fuelT : Nat := 6 * es.length + 2
def madeT : Tr := if wrongT ns es up first = 0 then goT ns es up half first (fuelT es) [] else ⟨wrongT ns es up first, [], []⟩
end
theorem clash_mem {l : List Pl} {p : Pl} (h : clashOf l = some p) : p ∈ l := by
 unfold clashOf at h
 split at h
 ·cases h
 ·rename_i q hq
  split at h
  ·rename_i r hr
   injection h with h
   subst h
   exact (List.mem_filter.1 (List.mem_of_find?_eq_some hr)).1
  ·injection h with h
   subst h
   exact List.mem_of_find?_eq_some hq
theorem bad_mem {ns : List Nd} {es : List Ed} {up : List Str} {l : List Pl} {p : Pl} {e : Int} (h : badP ns es up l = some (p, e)) : p ∈ l := by
 unfold badP at h
 split at h
 ·rename_i q hq
  injection h with h; injection h with h _
  subst h
  exact List.mem_of_find?_eq_some hq
 ·split at h
  ·rename_i q hq
   injection h with h; injection h with h _
   subst h
   exact List.mem_of_find?_eq_some hq
  ·split at h
   ·rename_i q hq
    injection h with h; injection h with h _
    subst h
    exact clash_mem hq
   ·cases h
theorem bad_err {ns : List Nd} {es : List Ed} {up : List Str} {l : List Pl} {p : Pl} {e : Int} (h : badP ns es up l = some (p, e)) : e ≠ 0 := by
 unfold badP at h
 split at h
 ·injection h with h; injection h with _ h
  subst h
  unfold sickE; split
  ·decide
  ·split <;> decide
 ·split at h
  ·injection h with h; injection h with _ h
   subst h; decide
  ·split at h
   ·injection h with h; injection h with _ h
    subst h; decide
   ·cases h
/-! It ends -/
theorem first_need {ns : List Nd} {es : List Ed} {up half : List Str} {first : Jp} {wo : List Pl} {p : Pl} (hp : p ∈ pullQ ns es up half first wo) (h : p.2.2.1 ≠ true) : keyP p ≠ first ∧ outB wo (keyP p) = false ∧ keyP p ∈ candB es := by
 obtain ⟨_, h2⟩ := mem_pullQ.1 hp
 obtain ⟨h3, h4, _⟩ := mem_allP.1 h2
 have hne : keyP p ≠ first := fun e => h (h4.2 (by rw [show (p.1, p.2.1) = first from e]; exact .one))
 refine ⟨hne, ?_, ?_⟩
 ·rcases by_cases_ h3 with ⟨e, _⟩ | ⟨_, ho, _⟩
  ·exact absurd e hne
  ·exact ho
 ·rcases by_cases_ h3 with ⟨e, _⟩ | ⟨_, _, j, _, _, b, hb, e⟩
  ·exact absurd e hne
  ·have := bring_cand j b hb
   rw [e] at this
   exact this
/-- The jobs that went so far: none twice, each of those that may come. -/
structure GoneOk (es : List Ed) (first : Jp) (gone : List Pl) : Prop where
 nd : (gone.map keyP).Nodup
 cand : ∀ p ∈ gone, keyP p ∈ candB es
 free : ∀ p ∈ gone, p.2.2.1 = false
 notf : ∀ p ∈ gone, keyP p ≠ first
theorem GoneOk.nil (es : List Ed) (first : Jp) : GoneOk es first [] := ⟨by simp, (fun _ h => by cases h), (fun _ h => by cases h), (fun _ h => by cases h)⟩
theorem outB_iff {wo : List Pl} {k : Jp} : outB wo k = true ↔ k ∈ wo.map keyP := by
 unfold outB keyP
 rw [List.any_eq_true, List.mem_map]
 constructor
 ·rintro ⟨p, h, e⟩
  rw [Bool.and_eq_true, beq_iff_eq, beq_iff_eq] at e
  exact ⟨p, h, Prod.ext e.1 e.2⟩
 ·rintro ⟨p, h, e⟩
  refine ⟨p, h, ?_⟩
  rw [← e]; simp
theorem GoneOk.push {ns : List Nd} {es : List Ed} {up half : List Str} {first : Jp} {gone : List Pl} {p : Pl} (h : GoneOk es first gone) (hp : p ∈ pullQ ns es up half first gone) (hn : p.2.2.1 ≠ true) : GoneOk es first (gone ++ [p]) := by
 obtain ⟨h1, h2, h3⟩ := first_need hp hn
 refine ⟨?_, fun q hq => ?_, fun q hq => ?_, fun q hq => ?_⟩
 ·rw [List.map_append, List.nodup_append]
  refine ⟨h.nd, by simp, fun a ha b hb e => ?_⟩
  simp only [List.map_cons, List.map_nil, List.mem_singleton] at hb
  have := outB_iff.2 ha
  rw [e, hb, h2] at this
  cases this
 ·rcases List.mem_append.1 hq with hq | hq
  ·exact h.cand q hq
  ·rw [List.mem_singleton.1 hq]; exact h3
 ·rcases List.mem_append.1 hq with hq | hq
  ·exact h.free q hq
  ·rw [List.mem_singleton.1 hq]; simpa using hn
 ·rcases List.mem_append.1 hq with hq | hq
  ·exact h.notf q hq
  ·rw [List.mem_singleton.1 hq]; exact h1
theorem GoneOk.len {es : List Ed} {first : Jp} {gone : List Pl} (h : GoneOk es first gone) : gone.length ≤ 6 * es.length := by
 have := nodup_len h.nd (cand := candB es) (fun k hk => by
  obtain ⟨p, hp, rfl⟩ := List.mem_map.1 hk
  exact h.cand p hp)
 rw [candB_len, List.length_map] at this
 exact this
/-- What a transaction that comes about is: nothing is wrong with what is left. -/
theorem go_ok {ns : List Nd} {es : List Ed} {up half : List Str} {first : Jp} : ∀ (n : Nat) (gone : List Pl), GoneOk es first gone → fuelT es ≤ n + gone.length → (goT ns es up half first n gone).err = 0 →
  (goT ns es up half first n gone).l = pullQ ns es up half first (goT ns es up half first n gone).gone ∧ badP ns es up (goT ns es up half first n gone).l = none ∧ GoneOk es first (goT ns es up half first n gone).gone
 | 0, gone, h, hf, _ => by
  have := h.len
  unfold fuelT at hf
  omega
 | n + 1, gone, h, hf, he => by
  have e1 : goT ns es up half first (n + 1) gone = (match badP ns es up (pullQ ns es up half first gone) with
   | none => ⟨0, pullQ ns es up half first gone, gone⟩
   | some (p, e) => if p.2.2.1 = true then ⟨e, [], []⟩ else goT ns es up half first n (gone ++ [p])) := rfl
  rcases hb : badP ns es up (pullQ ns es up half first gone) with _ | ⟨p, e⟩
  ·rw [e1, hb]
   exact ⟨rfl, hb, h⟩
  ·rw [e1, hb] at he ⊢
   simp only at he ⊢
   by_cases hn : p.2.2.1 = true
   ·rw [if_pos hn] at he
    exact absurd he (bad_err hb)
   ·rw [if_neg hn] at he ⊢
    exact go_ok n (gone ++ [p]) (h.push (bad_mem hb) hn) (by rw [List.length_append]; simp only [List.length_cons, List.length_nil]; omega) he
theorem made_ok {ns : List Nd} {es : List Ed} {up half : List Str} {first : Jp} (h : (madeT ns es up half first).err = 0) :
  wrongT ns es up first = 0 ∧ (madeT ns es up half first).l = pullQ ns es up half first (madeT ns es up half first).gone ∧ badP ns es up (madeT ns es up half first).l = none ∧ GoneOk es first (madeT ns es up half first).gone := by
 unfold madeT at h ⊢
 by_cases hw : wrongT ns es up first = 0
 ·rw [if_pos hw] at h ⊢
  exact ⟨hw, go_ok _ [] (GoneOk.nil _ _) (by simp) h⟩
 ·rw [if_neg hw] at h
  exact absurd h hw
theorem made_bad {ns : List Nd} {es : List Ed} {up half : List Str} {first : Jp} : ∀ (n : Nat) (gone : List Pl), (goT ns es up half first n gone).err ≠ 0 → (goT ns es up half first n gone).l = [] ∧ (goT ns es up half first n gone).gone = []
 | 0, _, h => absurd rfl h
 | n + 1, gone, h => by
  have e1 : goT ns es up half first (n + 1) gone = (match badP ns es up (pullQ ns es up half first gone) with
   | none => ⟨0, pullQ ns es up half first gone, gone⟩
   | some (p, e) => if p.2.2.1 = true then ⟨e, [], []⟩ else goT ns es up half first n (gone ++ [p])) := rfl
  rcases hb : badP ns es up (pullQ ns es up half first gone) with _ | ⟨p, e⟩
  ·rw [e1, hb] at h
   exact absurd rfl h
  ·rw [e1, hb] at h ⊢
   simp only at h ⊢
   by_cases hn : p.2.2.1 = true
   ·rw [if_pos hn]; exact ⟨rfl, rfl⟩
   ·rw [if_neg hn] at h ⊢; exact made_bad n _ h
theorem made_none {ns : List Nd} {es : List Ed} {up half : List Str} {first : Jp} (h : (madeT ns es up half first).err ≠ 0) : (madeT ns es up half first).l = [] ∧ (madeT ns es up half first).gone = [] := by
 unfold madeT at h ⊢
 by_cases hw : wrongT ns es up first = 0
 ·rw [if_pos hw] at h ⊢; exact made_bad _ _ h
 ·rw [if_neg hw]; exact ⟨rfl, rfl⟩
end Od
end Go.Proofs.YtbllehjhmfehbaaGreat
end

section
/- Jobs as data: how they lie in cells. No program. -/
namespace Go.Proofs.YtbllehjhmfehbaaGreat
open Go.RowKit

/-- A unit, the type of its job, its state, its end. -/
abbrev Jb := Str × Int × Int × Int
def jbC (j : Jb) : List Value := [sv j.1, .int .i64 j.2.1, .int .i64 j.2.2.1, .int .i64 j.2.2.2]
def jbsC (l : List Jb) : List Value := l.flatMap jbC
abbrev jbV (j : Jb) : Value := .agg #[sv j.1, .int .i64 j.2.1, .int .i64 j.2.2.1, .int .i64 j.2.2.2]
theorem jbC_len (j : Jb) : (jbC j).length = 4 := rfl
theorem jbsC_len (l : List Jb) : (jbsC l).length = l.length * 4 := flat_len jbC 4 jbC_len l
theorem jbsC_app (a b : List Jb) : jbsC (a ++ b) = jbsC a ++ jbsC b := by simp [jbsC]
theorem jbsC_one (j : Jb) : jbsC [j] = jbC j := by simp [jbsC]
theorem one_jbC (j : Jb) : ∀ u ∈ jbC j, u.oneCell' = true := fun u hu => by
 simp only [jbC, List.mem_cons, List.not_mem_nil, or_false] at hu
 rcases hu with rfl | rfl | rfl | rfl <;> rfl
/-- The four cells of a job. -/
theorem Rd.job {w : World} {B : Nat} {A : Option Addr} {q : List Jb} (h : Rd w B 4 A q.length (jbsC q)) {i : Nat} (hi : i < q.length) :
  ∃ b o : Nat, A = some ⟨b, o, none⟩ ∧ b < B ∧ w.cell? ⟨b, o + i * 4, none⟩ = some (sv q[i].1) ∧ w.cell? ⟨b, o + i * 4 + 1, none⟩ = some (.int .i64 q[i].2.1) ∧ w.cell? ⟨b, o + i * 4 + 2, none⟩ = some (.int .i64 q[i].2.2.1) ∧
   w.cell? ⟨b, o + i * 4 + 3, none⟩ = some (.int .i64 q[i].2.2.2) := by
 obtain ⟨b, o, e, hb, hc⟩ := h.open (by omega)
 have h0 := flat_at jbC 4 jbC_len q i 0 hi (by omega)
 have h1 := flat_at jbC 4 jbC_len q i 1 hi (by omega)
 have h2 := flat_at jbC 4 jbC_len q i 2 hi (by omega)
 have h3 := flat_at jbC 4 jbC_len q i 3 hi (by omega)
 refine ⟨b, o, e, hb, ?_, ?_, ?_, ?_⟩
 ·exact (hc (i * 4) (by omega)).trans h0
 ·exact (hc (i * 4 + 1) (by omega)).trans h1
 ·exact (hc (i * 4 + 2) (by omega)).trans h2
 ·exact (hc (i * 4 + 3) (by omega)).trans h3
end Go.Proofs.YtbllehjhmfehbaaGreat
end

section
/- What the laws of trans say, of lists. No program. -/
namespace Go.Proofs.YtbllehjhmfehbaaGreat
set_option linter.unusedSimpArgs false
namespace Od
/-! What is needed never goes -/
def NeedT (es : List Ed) (up half : List Str) (first k : Jp) : Prop := Rj (needJ (bringB es up half)) (outB []) first k
structure GoneN (es : List Ed) (up half : List Str) (first : Jp) (gone : List Pl) : Prop where
 need : ∀ p ∈ gone, ¬ NeedT es up half first (keyP p)
 by_ : ∀ p ∈ gone, p.2.2.2 ≠ []
 stop : ∀ p ∈ gone, p.2.1 = 2 → ∃ q : Jp, q.1 = p.1 ∧ (q.2 = 1 ∨ q.2 = 3) ∧ NeedT es up half first q
theorem GoneN.nil (es : List Ed) (up half : List Str) (first : Jp) : GoneN es up half first [] := ⟨(fun _ h => by cases h), (fun _ h => by cases h), (fun _ h => by cases h)⟩
theorem need_same {es : List Ed} {up half : List Str} {first : Jp} {gone : List Pl} (h : GoneN es up half first gone) {k : Jp} : Rj (needJ (bringB es up half)) (outB gone) first k ↔ NeedT es up half first k := by
 constructor
 ·intro hk
  induction hk with
  | one => exact .one
  | more _ hb _ ih => exact .more ih hb rfl
 ·intro hk
  induction hk with
  | one => exact .one
  | @more j b hj hb ho ih =>
   refine .more ih hb ?_
   cases hc : outB gone b.1
   ·rfl
   ·obtain ⟨p, hp, e⟩ := List.mem_map.1 (outB_iff.1 hc)
    exact absurd (by rw [e]; exact Rj.more hj hb ho) (h.need p hp)
theorem reach_four {es : List Ed} {up half : List Str} {first : Jp} {out : Jp → Bool} (h4 : first.2 = 4) {k : Jp} (h : Rj (bringB es up half) out first k) : k = first := by
 induction h with
 | one => rfl
 | more _ hb _ ih =>
  exfalso
  subst ih
  rcases mem_bringB.1 hb with ⟨h, _⟩ | ⟨h, _⟩ <;> omega
theorem reach_type {es : List Ed} {up half : List Str} {first : Jp} {out : Jp → Bool} {k : Jp} (h : Rj (bringB es up half) out first k) (hne : k ≠ first) : k.2 = 1 ∨ k.2 = 2 ∨ k.2 = 3 := by
 cases h with
 | one => exact absurd rfl hne
 | more _ hb _ => exact (bring_edge hb).2
theorem clash_stop {l : List Pl} {p : Pl} (h : clashOf l = some p) (h2 : p.2.1 = 2) : ∃ q ∈ l, q.1 = p.1 ∧ q.2.1 ≠ 2 ∧ q.2.2.1 = true := by
 unfold clashOf at h
 split at h
 ·cases h
 ·rename_i s hs
  split at h
  ·rename_i r hr
   injection h with h
   subst h
   have := (List.mem_filter.1 (List.mem_of_find?_eq_some hr)).2
   rw [Bool.and_eq_true] at this
   exact absurd h2 (by simpa using this.2)
  ·rename_i hn
   injection h with h
   subst h
   have hb := List.find?_some hs
   unfold bothP at hb
   rw [Bool.and_eq_true] at hb
   have hne : othersL l s.1 ≠ [] := by
    intro e; rw [e] at hb; simp at hb
   obtain ⟨q, hq⟩ := List.exists_mem_of_ne_nil _ hne
   have h3 := List.find?_eq_none.1 hn q hq
   obtain ⟨h4, h5⟩ := List.mem_filter.1 hq
   rw [Bool.and_eq_true] at h5
   exact ⟨q, h4, by simpa using h5.1, by simpa using h5.2, by simpa using h3⟩
theorem bad_stop {ns : List Nd} {es : List Ed} {up : List Str} {l : List Pl} {p : Pl} {e : Int} (h : badP ns es up l = some (p, e)) (h2 : p.2.1 = 2) : clashOf l = some p := by
 unfold badP at h
 split at h
 ·rename_i q hq
  injection h with h; injection h with h _
  subst h
  have := List.find?_some hq
  unfold sickP beginsP at this
  rw [h2] at this; simp at this
 ·split at h
  ·rename_i q hq
   injection h with h; injection h with h _
   subst h
   have := List.find?_some hq
   unfold lackP beginsP at this
   rw [h2] at this; simp at this
  ·split at h
   ·rename_i q hq
    injection h with h; injection h with h _
    subst h
    exact hq
   ·cases h
theorem GoneN.push {ns : List Nd} {es : List Ed} {up half : List Str} {first : Jp} {gone : List Pl} {p : Pl} {e : Int} (hm : mayG ns es = true) (h : GoneN es up half first gone) (hb : badP ns es up (pullQ ns es up half first gone) = some (p, e)) (hn : p.2.2.1 ≠ true) : GoneN es up half first (gone ++ [p]) := by
 have hp := bad_mem hb
 obtain ⟨h0, hpl⟩ := mem_pullQ.1 hp
 obtain ⟨h1, h2, _⟩ := mem_allP.1 hpl
 obtain ⟨hne, _, _⟩ := first_need hp hn
 refine ⟨fun q hq => ?_, fun q hq => ?_, fun q hq ht => ?_⟩
 ·rcases List.mem_append.1 hq with hq | hq
  ·exact h.need q hq
  ·rw [List.mem_singleton.1 hq]
   exact fun hk => hn (h2.2 ((need_same h).2 hk))
 ·rcases List.mem_append.1 hq with hq | hq
  ·exact h.by_ q hq
  ·rw [List.mem_singleton.1 hq]
   exact fun he => hne ((pull_by hm hp).1.1 he)
 ·rcases List.mem_append.1 hq with hq | hq
  ·exact h.stop q hq ht
  ·rw [List.mem_singleton.1 hq] at ht ⊢
   obtain ⟨r, hr, hr1, hr2, hr3⟩ := clash_stop (bad_stop hb ht) ht
   obtain ⟨_, hrl⟩ := mem_pullQ.1 hr
   obtain ⟨g1, g2, _⟩ := mem_allP.1 hrl
   refine ⟨keyP r, hr1, ?_, (need_same h).1 (g2.1 hr3)⟩
   have hfour : first.2 ≠ 4 := fun h4 => by
    have := reach_four h4 h1
    have h5 : p.2.1 = first.2 := by rw [← this]
    omega
   by_cases hrf : (r.1, r.2.1) = first
   ·obtain ⟨_, a1, a2⟩ := asksB_iff.1 h0
    have h5 : r.2.1 = first.2 := by rw [← hrf]
    show r.2.1 = 1 ∨ r.2.1 = 3
    omega
   ·have := reach_type g1 hrf
    simp only at this
    show r.2.1 = 1 ∨ r.2.1 = 3
    omega
theorem go_needN {ns : List Nd} {es : List Ed} {up half : List Str} {first : Jp} (hm : mayG ns es = true) : ∀ (n : Nat) (gone : List Pl), GoneN es up half first gone → (goT ns es up half first n gone).err = 0 → GoneN es up half first (goT ns es up half first n gone).gone
 | 0, _, h, _ => h
 | n + 1, gone, h, he => by
  have e1 : goT ns es up half first (n + 1) gone = (match badP ns es up (pullQ ns es up half first gone) with
   | none => ⟨0, pullQ ns es up half first gone, gone⟩
   | some (p, e) => if p.2.2.1 = true then ⟨e, [], []⟩ else goT ns es up half first n (gone ++ [p])) := rfl
  rcases hb : badP ns es up (pullQ ns es up half first gone) with _ | ⟨p, e⟩
  ·rw [e1, hb]; exact h
  ·rw [e1, hb] at he ⊢
   simp only at he ⊢
   by_cases hn : p.2.2.1 = true
   ·rw [if_pos hn] at he
    exact absurd he (bad_err hb)
   ·rw [if_neg hn] at he ⊢
    exact go_needN hm n _ (h.push hm hb hn) he
theorem wrong_ok {ns : List Nd} {es : List Ed} {up : List Str} {first : Jp} (h : wrongT ns es up first = 0) : mayG ns es = true ∧ 1 ≤ first.2 ∧ first.2 ≤ 4 ∧ (nodeOf ns first.1).isSome = true := by
 unfold wrongT at h
 split at h
 ·cases h
 ·rename_i h1
  split at h
  ·cases h
  ·rename_i h2
   split at h
   ·cases h
   ·rename_i h3
    have h2' : 1 ≤ first.2 ∧ first.2 ≤ 4 := Classical.not_not.1 h2
    exact ⟨by simpa using h1, h2'.1, h2'.2, by cases hh : (nodeOf ns first.1).isSome <;> simp_all⟩
/-! What is left when nothing is wrong -/
structure Left (ns : List Nd) (es : List Ed) (up half : List Str) (first : Jp) (gone l : List Pl) : Prop where
 may : mayG ns es = true
 asks : asksB ns first = true
 eq : l = pullQ ns es up half first gone
 sick : ∀ p ∈ l, beginsP p = true → stN ns p.1 = 1
 lack : ∀ p ∈ l, beginsP p = true → missP es up l p.1 = false
 both : ∀ p ∈ l, p.2.1 = 2 → ∀ q ∈ l, q.1 = p.1 → q.2.1 = 2
 gn : GoneN es up half first gone
 ok : GoneOk es first gone
theorem made_left {ns : List Nd} {es : List Ed} {up half : List Str} {first : Jp} (h : (madeT ns es up half first).err = 0) : Left ns es up half first (madeT ns es up half first).gone (madeT ns es up half first).l := by
 obtain ⟨h1, h2, h3, h4⟩ := made_ok h
 obtain ⟨w1, w2, w3, w4⟩ := wrong_ok h1
 have hg : GoneN es up half first (madeT ns es up half first).gone := by
  unfold madeT at h ⊢
  rw [if_pos h1] at h ⊢
  exact go_needN w1 _ [] (GoneN.nil _ _ _ _) h
 generalize (madeT ns es up half first).gone = gone at *
 generalize (madeT ns es up half first).l = l at *
 unfold badP at h3
 split at h3
 ·cases h3
 ·rename_i hs
  split at h3
  ·cases h3
  ·rename_i hl
   split at h3
   ·cases h3
   ·rename_i hc
    refine ⟨w1, asksB_iff.2 ⟨w4, w2, w3⟩, h2, fun p hp hb => ?_, fun p hp hb => ?_, fun p hp h5 q hq he => ?_, hg, h4⟩
    ·have := List.find?_eq_none.1 hs p hp
     unfold sickP at this
     rw [hb] at this
     simpa using this
    ·have := List.find?_eq_none.1 hl p hp
     unfold lackP at this
     rw [hb] at this
     simpa using this
    ·unfold clashOf at hc
     split at hc
     ·rename_i hn
      have h6 := List.find?_eq_none.1 hn p hp
      unfold bothP at h6
      rw [h5] at h6
      by_cases hq2 : q.2.1 = 2
      ·exact hq2
      ·exfalso
       have h7 : q ∈ othersL l p.1 := List.mem_filter.2 ⟨hq, by rw [he]; simp [hq2]⟩
       cases ho : othersL l p.1 with
       | nil => rw [ho] at h7; cases h7
       | cons a r => rw [ho] at h6; simp at h6
     ·split at hc <;> cases hc
/-! The types of what is left of a unit -/
def isT (t : Int) : Bool := decide (1 ≤ t) && decide (t ≤ 4)
def jnT (a b : Int) (up : Bool) : Int × Bool :=
 if isT a = false ∨ isT b = false then (0, false)
 else if a = b then (a, true)
 else if a = 2 ∨ b = 2 then (0, false)
 else if a = 3 ∨ b = 3 then (3, true)
 else if up then (4, true) else (1, true)
def setT (t state : Int) : Int :=
 if isT t = false ∨ state < 0 ∨ 2 < state then 0
 else if (t = 1 ∧ state = 1) ∨ (t = 2 ∧ state = 0) ∨ (t = 4 ∧ ¬ state = 1) then 0
 else if t = 3 ∧ state = 0 then 1
 else t
def nowS (up half : List Str) (u : Str) : Int := if hasB up u = true then 1 else if hasB half u = true then 2 else 0
def foldT (up : Bool) : List Pl → Int
 | [] => 0
 | p :: r => r.foldl (fun t q => (jnT t q.2.1 up).1) p.2.1
def tyU (up : List Str) (l : List Pl) (u : Str) : Int := foldT (hasB up u) (l.filter (fun p => p.1 == u))
def setU (up half : List Str) (l : List Pl) (u : Str) : Int := setT (tyU up l u) (nowS up half u)
def unitsL (l : List Pl) : List Str := canon ltS (l.map (·.1))
def jobsT (up half : List Str) (l : List Pl) : List Jb := (unitsL l).filterMap (fun u => if setU up half l u = 0 then none else some (u, setU up half l u, 1, 0))
theorem isT_iff {t : Int} : isT t = true ↔ 1 ≤ t ∧ t ≤ 4 := by unfold isT; simp
/-- Types other than stop make such a type; a restart or, of a unit that is not up, a start among them shows. -/
theorem fold_free {up : Bool} : ∀ (r : List Pl) (t : Int), (t = 1 ∨ t = 3 ∨ t = 4) → (∀ q ∈ r, q.2.1 = 1 ∨ q.2.1 = 3 ∨ q.2.1 = 4) →
  let x := r.foldl (fun t q => (jnT t q.2.1 up).1) t
  (x = 1 ∨ x = 3 ∨ x = 4) ∧ ((x = 1 ∨ x = 3) → (t = 1 ∨ t = 3) ∨ ∃ q ∈ r, q.2.1 = 1 ∨ q.2.1 = 3) ∧ (up = false → ((t = 1 ∨ t = 3) ∨ ∃ q ∈ r, q.2.1 = 1 ∨ q.2.1 = 3) → x = 1 ∨ x = 3)
 | [], t, ht, _ => ⟨ht, fun h => .inl h, fun _ h => by
   rcases h with h | ⟨q, hq, _⟩
   ·exact h
   ·cases hq⟩
 | p :: r, t, ht, hr => by
  have hp := hr p (.head _)
  have hj : (jnT t p.2.1 up).1 = 1 ∨ (jnT t p.2.1 up).1 = 3 ∨ (jnT t p.2.1 up).1 = 4 := by
   rcases ht with rfl | rfl | rfl <;> rcases hp with e | e | e <;> rw [e] <;> cases up <;> simp [jnT, isT]
  have hj2 : ((jnT t p.2.1 up).1 = 1 ∨ (jnT t p.2.1 up).1 = 3) → (t = 1 ∨ t = 3) ∨ (p.2.1 = 1 ∨ p.2.1 = 3) := by
   rcases ht with rfl | rfl | rfl <;> rcases hp with e | e | e <;> rw [e] <;> cases up <;> simp [jnT, isT]
  have hj3 : up = false → ((t = 1 ∨ t = 3) ∨ (p.2.1 = 1 ∨ p.2.1 = 3)) → (jnT t p.2.1 up).1 = 1 ∨ (jnT t p.2.1 up).1 = 3 := by
   intro hu
   subst hu
   rcases ht with rfl | rfl | rfl <;> rcases hp with e | e | e <;> rw [e] <;> simp [jnT, isT]
  obtain ⟨h1, h2, h3⟩ := fold_free (up := up) r (jnT t p.2.1 up).1 hj (fun q hq => hr q (.tail _ hq))
  refine ⟨h1, fun hx => ?_, fun hu hx => ?_⟩
  ·rcases h2 hx with h | ⟨q, hq, h⟩
   ·rcases hj2 h with h | h
    ·exact .inl h
    ·exact .inr ⟨p, .head _, h⟩
   ·exact .inr ⟨q, .tail _ hq, h⟩
  ·refine h3 hu ?_
   rcases hx with h | ⟨q, hq, h⟩
   ·exact .inl (hj3 hu (.inl h))
   ·rcases List.mem_cons.1 hq with e | hq
    ·subst e; exact .inl (hj3 hu (.inr h))
    ·exact .inr ⟨q, hq, h⟩
section
variable {ns : List Nd} {es : List Ed} {up half : List Str} {first : Jp} {gone l : List Pl}
theorem Left.reach (h : Left ns es up half first gone l) {p : Pl} (hp : p ∈ l) : Rj (bringB es up half) (outB gone) first (keyP p) := by
 rw [h.eq] at hp
 exact (mem_allP.1 (mem_pullQ.1 hp).2).1
theorem Left.type (h : Left ns es up half first gone l) {p : Pl} (hp : p ∈ l) : (nodeOf ns p.1).isSome = true ∧ 1 ≤ p.2.1 ∧ p.2.1 ≤ 4 := reach_node h.may h.asks (h.reach hp)
theorem Left.has (h : Left ns es up half first gone l) {k : Jp} (hk : Rj (bringB es up half) (outB gone) first k) : ∃ p ∈ l, keyP p = k := by
 obtain ⟨p, hp, e, _⟩ := mem_pull h.asks hk
 exact ⟨p, by rw [h.eq]; exact hp, e⟩
/-- A unit without a stop: what its jobs make. -/
theorem Left.free (h : Left ns es up half first gone l) {u : Str} (hu : ∃ p ∈ l, p.1 = u) (hs : ∀ p ∈ l, p.1 = u → p.2.1 ≠ 2) :
  (tyU up l u = 1 ∨ tyU up l u = 3 ∨ tyU up l u = 4) ∧ ((tyU up l u = 1 ∨ tyU up l u = 3) → ∃ q ∈ l, q.1 = u ∧ (q.2.1 = 1 ∨ q.2.1 = 3)) ∧ (hasB up u = false → (∃ q ∈ l, q.1 = u ∧ (q.2.1 = 1 ∨ q.2.1 = 3)) → tyU up l u = 1 ∨ tyU up l u = 3) := by
 have hty : ∀ q ∈ l.filter (fun p => p.1 == u), (q ∈ l ∧ q.1 = u) ∧ (q.2.1 = 1 ∨ q.2.1 = 3 ∨ q.2.1 = 4) := fun q hq => by
  obtain ⟨h1, h2⟩ := List.mem_filter.1 hq
  have h2' : q.1 = u := by simpa using h2
  have h3 := h.type h1
  have h4 := hs q h1 h2'
  exact ⟨⟨h1, h2'⟩, by omega⟩
 have hmem : ∀ q ∈ l, q.1 = u → q ∈ l.filter (fun p => p.1 == u) := fun q hq e => List.mem_filter.2 ⟨hq, by simpa using e⟩
 unfold tyU
 obtain ⟨p0, hp0, e0⟩ := hu
 have hne := hmem p0 hp0 e0
 generalize l.filter (fun p => p.1 == u) = f at hty hmem hne
 cases f with
 | nil => cases hne
 | cons p r =>
  obtain ⟨h1, h2, h3⟩ := fold_free (up := hasB up u) r p.2.1 (hty p (.head _)).2 (fun q hq => (hty q (.tail _ hq)).2)
  refine ⟨h1, fun hx => ?_, fun hu hx => h3 hu ?_⟩
  ·rcases h2 hx with g | ⟨q, hq, g⟩
   ·exact ⟨p, (hty p (.head _)).1.1, (hty p (.head _)).1.2, g⟩
   ·exact ⟨q, (hty q (.tail _ hq)).1.1, (hty q (.tail _ hq)).1.2, g⟩
  ·obtain ⟨q, hq, hq1, g⟩ := hx
   rcases List.mem_cons.1 (hmem q hq hq1) with e | hq
   ·subst e; exact .inl g
   ·exact .inr ⟨q, hq, g⟩
/-- A unit with a stop: it alone. -/
theorem Left.stop (h : Left ns es up half first gone l) {u : Str} {p : Pl} (hp : p ∈ l) (hu : p.1 = u) (h2 : p.2.1 = 2) : tyU up l u = 2 := by
 have hty : ∀ q ∈ l.filter (fun p => p.1 == u), q.2.1 = 2 := fun q hq => by
  obtain ⟨h1, h3⟩ := List.mem_filter.1 hq
  exact h.both p hp h2 q h1 (by rw [hu]; simpa using h3)
 have hne : p ∈ l.filter (fun p => p.1 == u) := List.mem_filter.2 ⟨hp, by simpa using hu⟩
 unfold tyU
 generalize l.filter (fun p => p.1 == u) = f at hty hne
 cases f with
 | nil => cases hne
 | cons a r =>
  have ha := hty a (.head _)
  have hr : ∀ q ∈ r, q.2.1 = 2 := fun q hq => hty q (.tail _ hq)
  show r.foldl (fun t q => (jnT t q.2.1 (hasB up u)).1) a.2.1 = 2
  rw [ha]
  clear hty hne ha
  induction r with
  | nil => rfl
  | cons b r ih =>
   rw [List.foldl_cons, hr b (.head _)]
   rw [show (jnT 2 2 (hasB up u)).1 = 2 by simp [jnT, isT]]
   exact ih fun q hq => hr q (.tail _ hq)
end
theorem setT_cases {t s : Int} (h : setT t s ≠ 0) : 1 ≤ setT t s ∧ setT t s ≤ 4 ∧ 0 ≤ s ∧ s ≤ 2 ∧ ((setT t s = 1 ∨ setT t s = 3) → (t = 1 ∨ t = 3)) ∧ (setT t s = 2 → t = 2) ∧ setT (setT t s) s = setT t s := by
 unfold setT at h ⊢
 split at h
 ·exact absurd rfl h
 ·rename_i h1
  rw [if_neg h1]
  have h1' : isT t = true ∧ 0 ≤ s ∧ s ≤ 2 := by
   simp only [not_or] at h1
   exact ⟨by cases hh : isT t <;> simp_all, by omega, by omega⟩
  obtain ⟨g1, g2, g3⟩ := h1'
  have g1' := isT_iff.1 g1
  split at h
  ·exact absurd rfl h
  ·rename_i h2
   rw [if_neg h2]
   split
   ·rename_i h3
    have h4 : s = 0 := h3.2
    subst h4
    simp [isT]
    omega
   ·rename_i h3
    refine ⟨by omega, by omega, g2, g3, fun hx => by omega, fun hx => hx, ?_⟩
    simp only [h1, h2, h3, if_false]
theorem nowS_is (up half : List Str) (u : Str) : nowS up half u = 0 ∨ nowS up half u = 1 ∨ nowS up half u = 2 := by
 unfold nowS
 split
 ·exact .inr (.inl rfl)
 ·split
  ·exact .inr (.inr rfl)
  ·exact .inl rfl
theorem nowS_one {up half : List Str} {u : Str} (h : nowS up half u = 1) : hasB up u = true := by
 unfold nowS at h
 split at h
 ·assumption
 ·split at h <;> omega
theorem setT_two {t s : Int} (h : setT t s = 2) : t = 2 := by
 have := setT_cases (t := t) (s := s) (by omega)
 exact this.2.2.2.2.2.1 h
theorem mem_unitsL {l : List Pl} {u : Str} : u ∈ unitsL l ↔ ∃ p ∈ l, p.1 = u := by
 unfold unitsL
 rw [mem_canon toS, List.mem_map]
/-- What the jobs say of a unit. -/
theorem mem_jobsT {up half : List Str} {l : List Pl} {j : Jb} : j ∈ jobsT up half l ↔ (∃ p ∈ l, p.1 = j.1) ∧ setU up half l j.1 ≠ 0 ∧ j = (j.1, setU up half l j.1, 1, 0) := by
 unfold jobsT
 rw [List.mem_filterMap]
 constructor
 ·rintro ⟨u, hu, h⟩
  split at h
  ·cases h
  ·rename_i h0
   injection h with h
   subst h
   exact ⟨mem_unitsL.1 hu, h0, rfl⟩
 ·rintro ⟨hu, h0, h⟩
  refine ⟨j.1, mem_unitsL.2 hu, ?_⟩
  rw [if_neg h0, ← h]
theorem jobsT_up (up half : List Str) (l : List Pl) : (jobsT up half l).Pairwise (fun a b => ltS a.1 b.1 = true) := by
 unfold jobsT
 refine List.Pairwise.filterMap _ (R := fun x y => ltS x y = true) ?_ (canon_ss toS _)
 intro a b hab x hx y hy
 split at hx
 ·cases hx
 ·split at hy
  ·cases hy
  ·injection hx with hx
   injection hy with hy
   subst hx; subst hy
   exact hab
theorem tyU_none {up : List Str} {l : List Pl} {u : Str} (h : ¬ ∃ p ∈ l, p.1 = u) : tyU up l u = 0 := by
 unfold tyU
 have : l.filter (fun p => p.1 == u) = [] := List.filter_eq_nil_iff.2 fun p hp he => h ⟨p, hp, by simpa using he⟩
 rw [this]; rfl
section
variable {ns : List Nd} {es : List Ed} {up half : List Str} {first : Jp} {gone l : List Pl}
/-- Of each job: its unit is there; what begins is loaded; it is to be done. -/
theorem Left.job (h : Left ns es up half first gone l) {j : Jb} (hj : j ∈ jobsT up half l) :
  j.2.2.1 = 1 ∧ j.2.2.2 = 0 ∧ (nodeOf ns j.1).isSome = true ∧ ((j.2.1 = 1 ∨ j.2.1 = 3) → stN ns j.1 = 1) ∧ setT j.2.1 (nowS up half j.1) = j.2.1 := by
 obtain ⟨hu, h0, e⟩ := mem_jobsT.1 hj
 obtain ⟨c1, c2, c3, c4, c5, c6, c7⟩ := setT_cases (t := tyU up l j.1) (s := nowS up half j.1) h0
 have e1 : j.2.1 = setU up half l j.1 := by rw [e]
 have e2 : j.2.2.1 = 1 := by rw [e]
 have e3 : j.2.2.2 = 0 := by rw [e]
 refine ⟨e2, e3, ?_, fun hb => ?_, ?_⟩
 ·obtain ⟨p, hp, hpu⟩ := hu
  rw [← hpu]; exact (h.type hp).1
 ·rw [e1] at hb
  have h5 := c5 hb
  have hs : ∀ p ∈ l, p.1 = j.1 → p.2.1 ≠ 2 := fun p hp hpu h2 => by
   have := h.stop hp hpu h2
   omega
  obtain ⟨q, hq, hqu, hqt⟩ := (h.free hu hs).2.1 h5
  rw [← hqu]
  exact h.sick q hq (by unfold beginsP; rcases hqt with e | e <;> rw [e] <;> rfl)
 ·rw [e1]; exact c7
/-- What went: not needed, brought by another. -/
theorem Left.went (h : Left ns es up half first gone l) {p : Pl} (hp : p ∈ gone) : p.2.2.1 = false ∧ p.2.2.2 ≠ [] := ⟨h.ok.free p hp, h.gn.by_ p hp⟩
/-- Whom a unit that begins requires. -/
theorem Left.needs (h : Left ns es up half first gone l) {p : Pl} (hp : p ∈ l) (hb : p.2.1 = 1 ∨ p.2.1 = 3) {v : Str} (hv : (p.1, v, 1) ∈ es ∨ (p.1, v, 4) ∈ es) :
  setU up half l v ≠ 2 ∧ (setU up half l v = 0 → hasB up v = true) := by
 have hbp : beginsP p = true := by unfold beginsP; rcases hb with e | e <;> rw [e] <;> rfl
 have hm := h.lack p hp hbp
 have hmiss : ∃ rel : Int, missU up l rel v = false := by
  unfold missP at hm
  rw [Bool.or_eq_false_iff, Bool.or_eq_false_iff] at hm
  rcases hv with hv | hv
  ·refine ⟨1, ?_⟩
   have := List.any_eq_false.1 hm.2.1 v (mem_outS.2 hv)
   simpa using this
  ·refine ⟨4, ?_⟩
   have := List.any_eq_false.1 hm.2.2 v (mem_outS.2 hv)
   simpa using this
 obtain ⟨rel, hmiss⟩ := hmiss
 unfold missU at hmiss
 rw [Bool.or_eq_false_iff] at hmiss
 obtain ⟨m1, m2⟩ := hmiss
 have hstart : startL l v = true → ∃ q ∈ l, q.1 = v ∧ (q.2.1 = 1 ∨ q.2.1 = 3) := fun hs => by
  unfold startL at hs
  obtain ⟨q, hq, hq2⟩ := List.any_eq_true.1 hs
  rw [Bool.and_eq_true] at hq2
  refine ⟨q, hq, by simpa using hq2.1, ?_⟩
  have := hq2.2
  unfold beginsP at this
  simpa using this
 have hs : ∀ q ∈ l, q.1 = v → q.2.1 ≠ 2 := fun q hq hqv h2 => by
  have hstop : stopL l v = true := List.any_eq_true.2 ⟨q, hq, by rw [hqv, h2]; simp⟩
  rw [hstop] at m2
  have hst : startL l v = true := by
   cases hh : startL l v
   ·rw [hh] at m2; simp at m2
   ·rfl
  obtain ⟨r, hr, hrv, hrt⟩ := hstart hst
  have := h.both q hq h2 r hr (by rw [hrv, hqv])
  omega
 refine ⟨fun h2 => ?_, fun h0 => ?_⟩
 ·have h3 := setT_two h2
  by_cases hu : ∃ p ∈ l, p.1 = v
  ·have := (h.free hu hs).1
   omega
  ·rw [tyU_none hu] at h3
   omega
 ·cases hup : hasB up v
  ·exfalso
   rw [hup] at m1
   have hst : startL l v = true := by
    cases hh : startL l v
    ·rw [hh] at m1; simp at m1
    ·rfl
   obtain ⟨r, hr, hrv, hrt⟩ := hstart hst
   have ht := (h.free ⟨r, hr, hrv⟩ hs).2.2 hup ⟨r, hr, hrv, hrt⟩
   have hn : nowS up half v = 0 ∨ nowS up half v = 2 := by
    rcases nowS_is up half v with e | e | e
    ·exact .inl e
    ·have := nowS_one e
     rw [hup] at this; cases this
    ·exact .inr e
   unfold setU at h0
   rcases ht with e | e <;> rcases hn with e2 | e2 <;> rw [e, e2] at h0 <;> simp [setT, isT] at h0
  ·rfl
end
end Od
end Go.Proofs.YtbllehjhmfehbaaGreat
end
