/- My texts, joined for the claim: SortPull PSortPl PAllW. -/
import Derived.Shelf.SlSortCmp.NoneTotal
import Derived.Ground.SlsfProg
import Derived.Test.YtbllehjhmfehbaaGreatProg
import Derived.Test.YtbllehjhmfehbaaGreatZB12
import Derived.Test.YtbllehjhmfehbaaGreatZB13
import Derived.Test.YtbllehjhmfehbaaGreatZB0

section
/-
  DERIVED: THE SHELF's CONTRACTS AT THIS DUMP, IN PLAIN WORDS (tools/lay-plain.mjs out of 'TryzSortPull.lean', which tools/lay-shelf.mjs wrote): THE SAME DECLARATIONS UNDER THE SAME NAMES: 'import', 'namespace', 'open', 'def', 'theorem' AND NOTHING ELSE: no command of the shelf's: FOR A HAND-IN. Each laying: the table of numbers ('.._ren') and one theorem, a field a fact of the dump's own or the kernel's comparison; each contract: ONE APPLICATION.
-/
namespace Go.Proofs.YtbllehjhmfehbaaGreat
open Go.Shelf
def Tryz.sortPull_ren : Go.Shelf.Ren := ⟨fun | 6 => 46 | 15 => 92 | 14 => 91 | 28 => 134 | 29 => 135 | 20 => 126 | 21 => 127 | 22 => 128 | 23 => 129 | 24 => 130 | 25 => 131 | 26 => 132 | 27 => 133 | 46 => 181 | 47 => 182 | 48 => 183 | 49 => 184 | 50 => 185 | 57 => 215 | n => n, fun | 22 => 29 | 24 => 37 | 25 => 84 | 3 => 3 | 39 => 150 | 0 => 0 | 53 => 185 | 55 => 187 | 4 => 4 | 46 => 179 | 45 => 178 | 50 => 63 | 5 => 5 | 9 => 9 | 66 => 222 | 70 => 226 | 76 => 247 | 77 => 248 | n => n, fun | n => n⟩
theorem Tryz.sortPull : Go.Proofs.SlLaysF0.n6 Tryz.prog Tryz.sortPull_ren := {
  mixed := by kernel_rfl
  f6 := ⟨Tryz.f46.name, by decide, Tryz.func46.trans (congrArg some (by kernel_rfl))⟩
  f14 := ⟨Tryz.f91.name, by decide, Tryz.func91.trans (congrArg some (by kernel_rfl))⟩
  f15 := Tryz.func92.trans (congrArg some (by kernel_rfl))
  f20 := ⟨Tryz.f126.name, by decide, Tryz.func126.trans (congrArg some (by kernel_rfl))⟩
  f21 := ⟨Tryz.f127.name, by decide, Tryz.func127.trans (congrArg some (by kernel_rfl))⟩
  f22 := ⟨Tryz.f128.name, by decide, Tryz.func128.trans (congrArg some (by kernel_rfl))⟩
  f23 := ⟨Tryz.f129.name, by decide, Tryz.func129.trans (congrArg some (by kernel_rfl))⟩
  f24 := ⟨Tryz.f130.name, by decide, Tryz.func130.trans (congrArg some (by kernel_rfl))⟩
  f25 := ⟨Tryz.f131.name, by decide, Tryz.func131.trans (congrArg some (by kernel_rfl))⟩
  f26 := ⟨Tryz.f132.name, by decide, Tryz.func132.trans (congrArg some (by kernel_rfl))⟩
  f27 := ⟨Tryz.f133.name, by decide, Tryz.func133.trans (congrArg some (by kernel_rfl))⟩
  f28 := Tryz.func134.trans (congrArg some (by kernel_rfl))
  f29 := Tryz.func135.trans (congrArg some (by kernel_rfl))
  f46 := ⟨Tryz.f181.name, by decide, Tryz.func181.trans (congrArg some (by kernel_rfl))⟩
  f47 := Tryz.func182.trans (congrArg some (by kernel_rfl))
  f48 := Tryz.func183.trans (congrArg some (by kernel_rfl))
  f49 := ⟨Tryz.f184.name, by decide, Tryz.func184.trans (congrArg some (by kernel_rfl))⟩
  f50 := ⟨Tryz.f185.name, by decide, Tryz.func185.trans (congrArg some (by kernel_rfl))⟩
  f57 := ⟨Tryz.f215.name, by decide, Tryz.func215.trans (congrArg some (by kernel_rfl))⟩
  t0 := Tryz.underlying0
  a0 := Tryz.isAgg0
  z0 := Tryz.sizeOf0
  v0 := Tryz.zeroValue0
  t3 := Tryz.underlying3
  a3 := Tryz.isAgg3
  z3 := Tryz.sizeOf3
  v3 := Tryz.zeroValue3
  t4 := Tryz.underlying4
  a4 := Tryz.isAgg4
  z4 := Tryz.sizeOf4
  v4 := Tryz.zeroValue4
  t5 := Tryz.underlying5
  a5 := Tryz.isAgg5
  z5 := Tryz.sizeOf5
  v5 := Tryz.zeroValue5
  t9 := Tryz.underlying9
  a9 := Tryz.isAgg9
  z9 := Tryz.sizeOf9
  v9 := Tryz.zeroValue9
  t22 := Tryz.underlying29
  a22 := Tryz.isAgg29
  z22 := Tryz.sizeOf29
  v22 := Tryz.zeroValue29
  t25 := Tryz.underlying84
  a25 := Tryz.isAgg84
  z25 := Tryz.sizeOf84
  v25 := Tryz.zeroValue84
  t39 := Tryz.underlying150
  a39 := Tryz.isAgg150
  z39 := Tryz.sizeOf150
  v39 := Tryz.zeroValue150
  t45 := Tryz.underlying178
  a45 := Tryz.isAgg178
  z45 := Tryz.sizeOf178
  v45 := Tryz.zeroValue178
  t46 := Tryz.underlying179
  a46 := Tryz.isAgg179
  z46 := Tryz.sizeOf179
  v46 := Tryz.zeroValue179
  t50 := Tryz.underlying63
  a50 := Tryz.isAgg63
  z50 := Tryz.sizeOf63
  v50 := Tryz.zeroValue63
  t53 := Tryz.underlying185
  a53 := Tryz.isAgg185
  z53 := Tryz.sizeOf185
  v53 := Tryz.zeroValue185
  t55 := Tryz.underlying187
  a55 := Tryz.isAgg187
  z55 := Tryz.sizeOf187
  v55 := Tryz.zeroValue187
  t66 := Tryz.underlying222
  a66 := Tryz.isAgg222
  z66 := Tryz.sizeOf222
  v66 := Tryz.zeroValue222
  t70 := Tryz.underlying226
  a70 := Tryz.isAgg226
  z70 := Tryz.sizeOf226
  v70 := Tryz.zeroValue226
  t76 := Tryz.underlying247
  a76 := Tryz.isAgg247
  z76 := Tryz.sizeOf247
  v76 := Tryz.zeroValue247
  t77 := Tryz.underlying248
  a77 := Tryz.isAgg248
  z77 := Tryz.sizeOf248
  v77 := Tryz.zeroValue248 }
end Go.Proofs.YtbllehjhmfehbaaGreat
end

section
/- slices.SortFunc at pulls of the call's own, by unit and type. (bel2) -/
namespace Go.Proofs.YtbllehjhmfehbaaGreat
open Go.RowKit Go.Sort Go.Lib Go.Shelf
set_option linter.unusedSimpArgs false
namespace Od
theorem grow_drewN (w : World) (os : Array Obj) (q : Nat) : (grow w os).drewN q = grow (w.drewN q) os := rfl
def plCmp (p q : Pl) : Int := jpCmp (p.1, p.2.1) (q.1, q.2.1)
set_option maxRecDepth 100000 in
set_option maxHeartbeats 1000000 in
theorem all1_any (a a' b b' : Str) (t t' : Int) (n n' : Bool) (w : World) :
    Calls Tryz.prog 47 #[.agg #[sv a, .int .i64 t, .bool n, sv b], .agg #[sv a', .int .i64 t', .bool n', sv b']] w (GrowInt (jpCmp (a, t) (a', t')) w) := by
  go_enter Tryz.func47, Tryz.ntmps47
  go_wp2_with fail
  refine (compareJ_any a t a' t' _).mono ?_
  rintro e w' ⟨rfl, d, os, rfl⟩
  go_wp2_with fail
  go_ret
  exact ⟨rfl, d, _, by rw [alloc_eq_grow, alloc_eq_grow, grow_grow, grow_drewN, grow_grow]⟩
theorem flatK_pls (ps : List Pl) : flatK plC 4 ps.toArray = (plsC ps).toArray := by
  refine ext_get! (by simp [plsC_len]) fun t ht => ?_
  have ht' : t < ps.length * 4 := by simpa using ht
  rw [get_flatK _ _ _ t (by simpa using ht')]
  have hi : t / 4 < ps.length := by omega
  have h := flat_at plC 4 plC_len ps (t / 4) (t % 4) hi (by omega)
  rw [show t / 4 * 4 + t % 4 = t by omega] at h
  have e1 : ps.toArray[t / 4]! = ps[t / 4] := by simp [hi]
  rw [e1]
  have e2 : (plsC ps).toArray[t]! = ((plsC ps)[t]?).getD default := by simp [List.getElem!_eq_getElem?_getD]
  rw [e2, show (plsC ps)[t]? = (plC ps[t / 4])[t % 4]? from h]
  simp [List.getElem!_eq_getElem?_getD]
theorem plCmp_fun : ltOf plCmp = fun p q : Pl => ltJ (p.1, p.2.1) (q.1, q.2.1) := by
  funext p q
  exact jpCmp_lt (p.1, p.2.1) (q.1, q.2.1)
theorem swoPl : SWO (ltOf plCmp) where
  irrefl x := by rw [plCmp_fun]; exact toJ.irrefl _
  trans x y z h1 h2 := by rw [plCmp_fun] at *; exact toJ.trans h1 h2
  ntrans x y z h1 h2 := by
    have h := swoJp.ntrans (x := (x.1, x.2.1)) (y := (y.1, y.2.1)) (z := (z.1, z.2.1))
    rw [jpCmp_fun] at h
    rw [plCmp_fun] at *
    exact h h1 h2
set_option maxHeartbeats 1000000 in
theorem sortPl_own (base c : Nat) (A : Option Addr) (ps : List Pl) (w : World) (h : w.ownsRow base 37 4 (.slice A ps.length c) ps.length (plsC ps)) (hsz : ps.length ≤ 1000000) :
    Calls Tryz.prog 46 #[.slice A ps.length c, .func (.func 47) #[] #[]] w fun e w' => e = .returned (.tuple #[]) ∧ ∃ S : List Pl, S.Perm ps ∧ S.Pairwise (fun a b => ltJ (keyP b) (keyP a) = false) ∧ w'.ownsRow base 37 4 (.slice A ps.length c) ps.length (plsC S) ∧ w.grownBy w' (Value.slice A ps.length c).ownBlock := by
  rcases h.2 with ⟨hv, hn⟩ | ⟨g, cap, cur, hv, hg, hb, h1, h2, h3, h4⟩
  · have hnil : ps = [] := List.length_eq_zero_iff.1 hn
    subst hnil
    refine (show Calls Tryz.prog 46 _ w _ from AnyF.slices_SortFunc_none Tryz.sortPull A c _ w).mono ?_
    rintro e w' ⟨rfl, rfl⟩
    exact ⟨rfl, [], .refl _, List.Pairwise.nil, h, World.grownBy.refl _ _⟩
  · injection hv with e1 _ e3
    subst e1 e3
    have hgl : g < w.heap.size := (Array.getElem?_eq_some_iff.1 hb).1
    have hlen := plsC_len ps
    have eg : ∀ args w, (callFunc 47 args).run Tryz.prog w = .ok (.enter 47 args) w := enters_of Tryz.func47 (by kernel_rfl) rfl
    have hH : HoldsK plC 4 w g 0 ps.toArray := by
      unfold HoldsK
      rw [flatK_pls]
      exact holds_row hb (by rw [hlen]; exact h4)
    have hcon := AnyQ.slices_SortFunc (P := Tryz.prog) Tryz.sortPull 4 (by intro w; exact Tryz.isAgg37 w) (by intro w; exact Tryz.sizeOf37 w) plC plC_len (fun x v hv => one_plC x v hv) plCmp swoPl 47 #[] g 0 c ps.toArray w eg
      (fun _ _ _ _ x y => all1_any x.1 y.1 x.2.2.2 y.2.2.2 x.2.1 y.2.1 x.2.2.1 y.2.2.1 _) hH hgl (by simp; omega)
    change Calls Tryz.prog 46 _ _ _ at hcon
    simp only [List.size_toArray] at hcon
    refine hcon.mono ?_
    rintro e w' ⟨rfl, d', n, os, ⟨hs1, _, hs2⟩, hso, rfl⟩
    have hs1' : d'.size = ps.length := by simpa using hs1
    have hperm : d'.toList.Perm ps := by
      have a1 : d'.extract 0 ps.length = d' := by rw [← hs1']; exact Array.extract_size
      have a2 : (ps.toArray).extract 0 ps.length = ps.toArray := by
        simp
      rw [a1, a2] at hs2
      exact hs2
    have hup : d'.toList.Pairwise (fun a b => ltJ (keyP b) (keyP a) = false) := by
      refine List.pairwise_iff_getElem.2 fun i j hi hj hij => ?_
      have hi' : i < d'.size := by simpa using hi
      have hj' : j < d'.size := by simpa using hj
      have h5 := hso i j (Nat.zero_le _) hij (by omega)
      rw [getElem!_pos d' j hj', getElem!_pos d' i hi', plCmp_fun] at h5
      exact h5
    have hd' : d' = d'.toList.toArray := by simp
    rw [hd']
    unfold sortWorldK putRowK
    rw [flatK_pls]
    have hl2 : (plsC d'.toList).length = ps.length * 4 := by rw [plsC_len, hperm.length_eq]
    refine ⟨rfl, d'.toList, hperm, hup, ⟨hl2, .inr ⟨g, c, _, rfl, hg, heap_row _ hb, h1, h2, by simp [putCells, h3], ?_⟩⟩, grownBy_row _⟩
    rw [← hl2]
    exact take_putCellsI cur _ (by omega)
end Od
end Go.Proofs.YtbllehjhmfehbaaGreat
end

section
/- pull.All: a job that is asked for, and all that comes along. (bel2) -/
namespace Go.Proofs.YtbllehjhmfehbaaGreat
open Go.RowKit Go.Sort Go.Maps
set_option linter.unusedSimpArgs false
namespace Od
/-- All blocks but the one that v owns. -/
def OffB (w : World) (v : Value) (b : Nat) : Prop := b < w.heap.size ∧ v.ownBlock ≠ some b
section
variable {w w' w'' : World} {v : Value}
theorem OffB.below (hb : Below w.heap.size w w') : Keeps (OffB w v) w w' := ⟨hb.os, hb.tape, hb.output, hb.size, fun j hj => hb.block j hj.1⟩
theorem OffB.alloc (h : Keeps (OffB w v) w w') (o : Obj) : Keeps (OffB w v) w (w'.alloc o) := h.then (fun _ hj => hj.1) ((Below.refl _ _).alloc (Nat.le_refl _) _)
theorem OffB.grown (h : Keeps (OffB w v) w w') (hg : w'.grownBy w'' v.ownBlock) : Keeps (OffB w v) w w'' :=
  ⟨hg.os.trans h.os, hg.tape.trans h.tape, hg.output.trans h.output, Nat.le_trans h.size hg.size, fun j hj => (hg.block j (Nat.lt_of_lt_of_le hj.1 h.size) (fun e => hj.2 e.symm)).trans (h.block j hj)⟩
end
theorem byV_of {m : Ms} {k : Jp} {v : Value} (h : byV m k = some v) : v = sv (byOf m k) ∧ k ∈ keysP m := by
  unfold byV at h
  have h2 := byF_getD m k
  have h3 := byF_some m k
  cases hb : byF m k with
  | none => rw [hb] at h; cases h
  | some b =>
    rw [hb] at h h2 h3
    simp only [Option.map_some, Option.some.injEq, Option.getD_some, Option.isSome_some] at h h2 h3
    exact ⟨by rw [← h2, h], knownP_iff.1 h3.symm⟩
theorem byV_some_false {m : Ms} {k : Jp} (h : (byV m k).isSome = false) : k ∉ keysP m := fun hk => by
  have h3 := byF_some m k
  rw [knownP_iff.2 hk] at h3
  unfold byV at h
  rw [Option.isSome_map, h3] at h
  cases h
theorem pull_keys_ok {es : List Ed} {up half : List Str} {first : Jp} {wo : List Pl} (hok : ∀ k ∈ candB es, okJ k) (hof : okJ first) : ∀ k ∈ keysP (pullM es up half first wo), okJ k := fun k hk => by
  cases mem_pullM.1 hk with
  | one => exact hof
  | more _ hb _ => exact hok _ (bring_cand _ _ hb)
theorem need_known {es : List Ed} {up half : List Str} {first : Jp} {wo : List Pl} {N : List Jp} (h : NeedQ (bringB es up half) (outF (outB wo) first) first N N.length) (k : Jp) : N.contains k = knownP (needM es up half first wo) k := by
  rw [Bool.eq_iff_iff, List.contains_iff_mem, knownP_iff, mem_needM, h.iff, Rj_first]
theorem step_lay {es : List Ed} {up half : List Str} {first : Jp} {wo : List Pl} : layP (bringB es up half) (outF (outB wo) first) (6 * es.length + 1) [(first, [])] [first] = pullM es up half first wo :=
  layP_first _ _ _ (by simp [keysP])
set_option maxRecDepth 100000 in
set_option maxHeartbeats 16000000 in
theorem PAll_any (An Ae Au Ah Aw : Option Addr) (cn ce cu ch cw : Nat) (ns : List Nd) (es : List Ed) (up half : List Str) (wo : List Pl) (u : Str) (t : Int) (w : World)
    (hn : Rd w w.heap.size 3 An ns.length (ndsC ns)) (hnl : ns.length ≤ 1000000) (hr : Rd w w.heap.size 3 Ae es.length (edsC es)) (hl : es.length ≤ 10000) (hu : SIn w Au up) (hh : SIn w Ah half) (hw : Rd w w.heap.size 4 Aw wo.length (plsC wo)) (hwl : wo.length ≤ 1000000)
    (hok : OkE es) (hof : okJ (u, t)) (how : ∀ p ∈ wo, okJ (p.1, p.2.1)) :
    Calls Tryz.prog 18 #[gV An ns.length cn Ae es.length ce, nowV Au up.length cu Ah half.length ch, sv u, .int .i64 t, .slice Aw wo.length cw] w (OwnPl (pullQ ns es up half (u, t) wo) w) := by
  obtain ⟨i0, hi, hz0, hz1, hz2⟩ := info_parts infoPl
  have hmm : ∀ (t : TypeId) (w : World), (Instr.makeMap t none).run Tryz.prog w = .ok (.map (some w.heap.size)) (w.alloc (.map #[] 0)) := fun _ _ => rfl
  have Hn := Lib.hid hn
  have Hr := Lib.hid hr
  have Hu := Lib.hid hu
  have Hh := Lib.hid hh
  have Hw := Lib.hid hw
  have HOk := Lib.hid (okJ_cand hok)
  have HOw := Lib.hid how
  have H0n := Lib.hid hn
  have H0r := Lib.hid hr
  have H0u := Lib.hid hu
  have H0h := Lib.hid hh
  have H0w := Lib.hid hw
  have HOf := Lib.hid hof
  clear hn hr hu hh hw hok how
  go_enter Tryz.func18, Tryz.ntmps18
  go_wp2_with fail
  first | (refine wp_named ?_; intro W1 hW) | (refine calls_named ?_; intro W1 hW)
  have B1 : Below w.heap.size w W1 := by rw [hW]; exact (by repeat (first | exact Below.refl _ _ | assumption | refine Below.alloc ?_ (by first | omega | (simp <;> omega)) _ | refine Below.setCell ?_ (by first | omega | (simp <;> omega)) _ | refine Below.drew ?_))
  replace Hn := Lib.hid (Hn.out.at B1)
  replace Hr := Lib.hid (Hr.out.at B1)
  replace Hu := Lib.hid (Hu.out.at B1)
  replace Hh := Lib.hid (Hh.out.at B1)
  replace Hw := Lib.hid (Hw.out.at B1)
  have n1 : w.heap.size < W1.heap.size := by rw [hW]; simp <;> omega
  have n2 : (w.heap.size + 1) < W1.heap.size := by rw [hW]; simp <;> omega
  have g0 : W1.cell? ⟨w.heap.size, 0, none⟩ = some (.slice An ns.length cn) := by rw [hW]; go_simp
  have g1 : W1.cell? ⟨w.heap.size, 1, none⟩ = some (.slice Ae es.length ce) := by rw [hW]; go_simp
  have h0 : W1.cell? ⟨(w.heap.size + 1), 0, none⟩ = some (.slice Au up.length cu) := by rw [hW]; go_simp
  have h1 : W1.cell? ⟨(w.heap.size + 1), 1, none⟩ = some (.slice Ah half.length ch) := by rw [hW]; go_simp
  clear hW
  have HB1 := Lib.hid B1
  clear B1
  refine (Node_any An Ae es.length cn ce ns u W1 Hn.out hnl).mono ?_
  rintro e w2 ⟨rfl, hb⟩
  replace g0 := cellAt g0 hb (by omega)
  replace g1 := cellAt g1 hb (by omega)
  replace h0 := cellAt h0 hb (by omega)
  replace h1 := cellAt h1 hb (by omega)
  replace Hn := Lib.hid (Hn.out.at hb)
  replace Hr := Lib.hid (Hr.out.at hb)
  replace Hu := Lib.hid (Hu.out.at hb)
  replace Hh := Lib.hid (Hh.out.at hb)
  replace Hw := Lib.hid (Hw.out.at hb)
  replace n1 : w.heap.size < w2.heap.size := ltAt n1 hb
  replace n2 : (w.heap.size + 1) < w2.heap.size := ltAt n2 hb
  replace HB1 := Lib.hid (lift HB1.out hb)
  clear hb
  have hz2w := HB1.out.size
  cases hno : nodeOf ns u with
  | none =>
    have hq : pullQ ns es up half (u, t) wo = [] := by unfold pullQ asksB; rw [hno]; rfl
    have HQ := Lib.hid hq
    unfold nodeV
    go_wp2_with fail
    go_ret
    rw [HQ.out]
    exact ⟨none, 0, rfl, World.ownsRow_nil _ _ _ _, HB1.out.alloc (by have := HB1.out.size; omega) _⟩
  | some nd =>
    obtain ⟨s1, k1, r1⟩ := nd
    by_cases ht1 : t < 1
    · have hq : pullQ ns es up half (u, t) wo = [] := by unfold pullQ asksB; rw [hno]; simp; omega
      have HQ := Lib.hid hq
      have hd1 : decide (t < 1) = true := by simpa using ht1
      unfold nodeV
      go_wp2_with fail
      go_ret
      rw [HQ.out]
      exact ⟨none, 0, rfl, World.ownsRow_nil _ _ _ _, HB1.out.alloc (by have := HB1.out.size; omega) _⟩
    by_cases ht4 : 4 < t
    · have hq : pullQ ns es up half (u, t) wo = [] := by unfold pullQ asksB; rw [hno]; simp; omega
      have HQ := Lib.hid hq
      have hd1 : decide (t < 1) = false := by simpa using ht1
      have hd4 : decide (4 < t) = true := by simpa using ht4
      unfold nodeV
      go_wp2_with fail
      go_ret
      rw [HQ.out]
      exact ⟨none, 0, rfl, World.ownsRow_nil _ _ _ _, HB1.out.alloc (by have := HB1.out.size; omega) _⟩
    have hq : pullQ ns es up half (u, t) wo = allP es up half (u, t) wo := by
      unfold pullQ
      rw [if_pos]
      unfold asksB
      rw [hno]
      simp; omega
    have HQ := Lib.hid hq
    have hd1 : decide (t < 1) = false := by simpa using ht1
    have hd4 : decide (4 < t) = false := by simpa using ht4
    clear hq ht1 ht4 hno
    unfold nodeV
    go_wp2_with fail
    first | (refine wp_named ?_; intro W3 hW) | (refine calls_named ?_; intro W3 hW)
    have B3 : Below w2.heap.size w2 W3 := by rw [hW]; exact (by repeat (first | exact Below.refl _ _ | assumption | refine Below.alloc ?_ (by first | omega | (simp <;> omega)) _ | refine Below.setCell ?_ (by first | omega | (simp <;> omega)) _ | refine Below.drew ?_))
    replace g0 := cellAt g0 B3 (by omega)
    replace g1 := cellAt g1 B3 (by omega)
    replace h0 := cellAt h0 B3 (by omega)
    replace h1 := cellAt h1 B3 (by omega)
    replace Hn := Lib.hid (Hn.out.at B3)
    replace Hr := Lib.hid (Hr.out.at B3)
    replace Hu := Lib.hid (Hu.out.at B3)
    replace Hh := Lib.hid (Hh.out.at B3)
    replace Hw := Lib.hid (Hw.out.at B3)
    replace n1 : w.heap.size < W3.heap.size := ltAt n1 B3
    replace n2 : (w.heap.size + 1) < W3.heap.size := ltAt n2 B3
    replace HB1 := Lib.hid (lift HB1.out B3)
    have m0 : (w2.heap.size + 1 + 1 + 1 + 1 + 1) < W3.heap.size := by rw [hW]; simp <;> omega
    have m1 : (w2.heap.size + 1) < W3.heap.size := by rw [hW]; simp <;> omega
    have m2 : (w2.heap.size + 1 + 1) < W3.heap.size := by rw [hW]; simp <;> omega
    have a0 : W3.cell? ⟨(w2.heap.size + 1), 0, none⟩ = some (sv u) := by rw [hW]; go_simp
    have a1 : W3.cell? ⟨(w2.heap.size + 1), 1, none⟩ = some (.int .i64 t) := by rw [hW]; go_simp
    have c0 : W3.cell? ⟨(w2.heap.size + 1 + 1 + 1 + 1 + 1), 0, none⟩ = some (.slice An ns.length cn) := by rw [hW]; go_simp
    have c1 : W3.cell? ⟨(w2.heap.size + 1 + 1 + 1 + 1 + 1), 1, none⟩ = some (.slice Ae es.length ce) := by rw [hW]; go_simp
    have c2 : W3.cell? ⟨(w2.heap.size + 1 + 1 + 1 + 1 + 1), 2, none⟩ = some (.slice Au up.length cu) := by rw [hW]; go_simp
    have c3 : W3.cell? ⟨(w2.heap.size + 1 + 1 + 1 + 1 + 1), 3, none⟩ = some (.slice Ah half.length ch) := by rw [hW]; go_simp
    have c4 : W3.cell? ⟨(w2.heap.size + 1 + 1 + 1 + 1 + 1), 4, none⟩ = some (.map (some (w2.heap.size + 1 + 1))) := by rw [hW]; go_simp
    have c5 : W3.cell? ⟨(w2.heap.size + 1 + 1 + 1 + 1 + 1), 5, none⟩ = some (.map (some (w2.heap.size + 1 + 1 + 1))) := by rw [hW]; go_simp
    have c6 : W3.cell? ⟨(w2.heap.size + 1 + 1 + 1 + 1 + 1), 6, none⟩ = some (.map (some (w2.heap.size + 1 + 1 + 1 + 1))) := by rw [hW]; go_simp
    have hmaps : MapIs kindJ W3 (w2.heap.size + 1 + 1) 0 (fun _ => none) ∧ MapIs kindJ W3 (w2.heap.size + 1 + 1 + 1) 0 (fun _ => none) ∧ MapIs kindJ W3 (w2.heap.size + 1 + 1 + 1 + 1) 0 (fun _ => none) := by
      rw [hW]; exact three_maps kindJ _ _ _ (by simp)
    clear hW
    clear B3
    have hmw0 : w.heap.size ≤ w2.heap.size + 1 := by omega
    generalize hmw : w2.heap.size + 1 + 1 = mw at *
    have hmw1 : w2.heap.size + 2 ≤ mw := by omega
    clear hmw
    have hsz := HB1.out.size
    have HMp := Lib.hid hmaps
    clear hmaps
    go_loopw [49] (fun i wr => ∃ k : Nat, k ≤ wo.length ∧ i = .int .i64 k ∧ Hid (MapIs kindJ wr mw k (outV (outB (wo.take k)))) ∧ Hid (Keeps (But W3 mw) W3 wr)) (fun i _ => wo.length - (intOf i).toNat)
    case atStart => exact ⟨0, Nat.zero_le _, rfl, by show MapIs _ _ _ _ _; rw [List.take_zero, ← outV_nil]; exact HMp.out.1, But.below (Below.refl _ _)⟩
    case round =>
      obtain ⟨k, hk, rfl, HMk, HKk⟩ := hrel
      have hz3 := HKk.out.size
      have y1 : ¬ mw + 1 + 1 + 1 = mw := by omega
      have y2 : ¬ w2.heap.size + 1 = mw := by omega
      have d4 := cellK c4 HKk.out m0 y1
      by_cases hlt : k < wo.length
      · have hlow := But.low HB1.out HKk.out (by omega)
        obtain ⟨b2, o2, hA, hB2, x0, x1, x2, x3⟩ := (H0w.out.below hlow).pl hlt
        have htk := List.take_succ_eq_append_getElem hlt
        have how := HOw.out _ (List.getElem_mem hlt)
        subst hA
        generalize wo[k] = p at x0 x1 x2 x3 htk how
        obtain ⟨s, t', n', b'⟩ := p
        simp only at x0 x1 x2 x3 how
        have HTk := Lib.hid htk
        have i1 : (0 : Int) ≤ (k : Int) := by omega
        have i2 : (k : Int) < (wo.length : Int) := by omega
        have hkm : k < maxLen := by unfold maxLen; omega
        have HKm := Lib.hid hkm
        have l0 : mw + 1 + 1 + 1 < wr.heap.size := by omega
        have l1 : b2 < wr.heap.size := by omega
        clear htk hlow hkm
        go_wp2_with fail
        first | (refine wp_named ?_; intro W4 hW) | (refine calls_named ?_; intro W4 hW)
        have B4 : Below wr.heap.size wr W4 := by rw [hW]; exact (by repeat (first | exact Below.refl _ _ | assumption | refine Below.alloc ?_ (by first | omega | (simp <;> omega)) _ | refine Below.setCell ?_ (by first | omega | (simp <;> omega)) _ | refine Below.drew ?_))
        replace d4 := cellAt d4 B4 (by omega)
        replace HMk := Lib.hid (HMk.out.on B4)
        replace HKk := Lib.hid (But.two HKk.out B4)
        replace l0 : (mw + 1 + 1 + 1) < W4.heap.size := ltAt l0 B4
        have n4 : wr.heap.size < W4.heap.size := by rw [hW]; simp <;> omega
        have v0 : W4.cell? ⟨wr.heap.size, 0, none⟩ = some (sv s) := by rw [hW]; go_simp
        have v1 : W4.cell? ⟨wr.heap.size, 1, none⟩ = some (.int .i64 t') := by rw [hW]; go_simp
        clear hW
        clear B4 x0 x1 x2 x3
        have y3 : ¬ wr.heap.size = mw := by omega
        try go_wp2_with fail
        refine wp_region_held_drew (S := fun w' => Keeps (But W4 mw) W4 w') (by kernel_rfl) (But.below (Below.drew (Below.refl _ _))) (fun hHeld => ?_)
        refine tY (i := 0) (v := ?_) rfl ?_ hHeld ?_; rotate_left 1; focus (intro w' hSw; clear hSw; go_simp; try with_reducible rfl)
        (try simp only [Act.put, zn1, zn2, zn3])
        refine tY (i := 1) (v := ?_) rfl ?_ hHeld ?_; rotate_left 1; focus (intro w' hSw; clear hSw; go_simp; try with_reducible rfl)
        (try simp only [Act.put, zn1, zn2, zn3])
        refine tY (i := 2) (v := ?_) rfl ?_ hHeld ?_; rotate_left 1; focus (intro w' hSw; clear hSw; go_simp; try with_reducible rfl)
        (try simp only [Act.put, zn1, zn2, zn3])
        refine tY (i := 3) (v := ?_) rfl ?_ hHeld ?_; rotate_left 1; focus (intro w' hSw; have hCell := fun (b o : Nat) (h : b < W4.heap.size) (h2 : ¬ b = mw) => World.cell?_of_block (a := ⟨b, o, none⟩) (hSw.block b ⟨h, h2⟩); clear hSw; go_simp; try with_reducible rfl)
        (try simp only [Act.put, zn1, zn2, zn3])
        refine tY (i := 4) (v := ?_) rfl ?_ hHeld ?_; rotate_left 1; focus (intro w' hSw; clear hSw; go_simp; try with_reducible rfl)
        (try simp only [Act.put, zn1, zn2, zn3])
        refine tY (i := 5) (v := ?_) rfl ?_ hHeld ?_; rotate_left 1; focus (intro w' hSw; have hCell := fun (b o : Nat) (h : b < W4.heap.size) (h2 : ¬ b = mw) => World.cell?_of_block (a := ⟨b, o, none⟩) (hSw.block b ⟨h, h2⟩); clear hSw; go_simp; try with_reducible rfl)
        (try simp only [Act.put, zn1, zn2, zn3])
        refine tY (i := 6) (v := ?_) rfl ?_ hHeld ?_; rotate_left 1; focus (intro w' hSw; clear hSw; go_simp; try with_reducible rfl)
        (try simp only [Act.put, zn1, zn2, zn3])
        refine tY (i := 7) (v := ?_) rfl ?_ hHeld ?_; rotate_left 1; focus (intro w' hSw; have hCell := fun (b o : Nat) (h : b < W4.heap.size) (h2 : ¬ b = mw) => World.cell?_of_block (a := ⟨b, o, none⟩) (hSw.block b ⟨h, h2⟩); clear hSw; go_simp; try with_reducible rfl)
        (try simp only [Act.put, zn1, zn2, zn3])
        refine ready_one (i := 8) rfl (by kernel_rfl) (fun K hK => ?_)
        go_simp
        refine hK.out _ _ ?_ (fun hHeld2 => ?_)
        · (try dsimp only); first | exact hHeld | exact (by repeat (first | exact Below.refl _ _ | assumption | refine Below.alloc ?_ (by first | omega | (simp <;> omega)) _ | refine Below.setCell ?_ (by first | omega | (simp <;> omega)) _ | refine Below.drew ?_))
        clear hK K hHeld; have hHeld := hHeld2; clear hHeld2; (try simp only [Act.put, zn1, zn2, zn3])
        refine ready_one (i := 9) rfl (by kernel_rfl) (fun K hK => ?_)
        refine step_update_is _ (by rfl) (.tmp 56) (.tmp 61) (.const (.bool true)) 77 (by rfl) 4 Tryz.underlying77 mw _ _ (by rfl) HMk.out HKm.out (s, t') (.bool true) (by rfl) (by rfl) how ?_
        intro w5 hm5 hg5
        have hS := But.trans hHeld (But.grown hg5)
        have HM5 := Lib.hid (MapIs.if_ hm5)
        clear hm5 hg5
        refine hK.out _ _ ?_ (fun hHeld2 => ?_)
        · (try dsimp only); exact hS
        clear hK K hHeld; have hHeld := hHeld2; clear hHeld2; (try simp only [Act.put, zn1, zn2, zn3])
        refine wpAnyH_done (by kernel_rfl) ?_ _
        have HK5 := Lib.hid (But.trans HKk.out hHeld)
        have hm6 := HM5.out
        rw [outV_put _ (s, t', n', b'), ← HTk.out] at hm6
        have HM6 := Lib.hid hm6
        clear hHeld hS hm6 HM5
        go_wp2_with fail
        go_roundw
        case rel => exact ⟨k + 1, by omega, by go_num, HM6, HK5⟩
        case measure => simp [intOf]; omega
      · obtain rfl : k = wo.length := by omega
        rw [List.take_length] at HMk
        obtain ⟨w9, rfl⟩ : ∃ wo : World, wo = wr := ⟨_, rfl⟩
        have hlow := But.low HB1.out HKk.out (by omega)
        have HLow := Lib.hid hlow
        have e0 := cellK c0 HKk.out m0 y1
        have e1 := cellK c1 HKk.out m0 y1
        have e2 := cellK c2 HKk.out m0 y1
        have e3 := cellK c3 HKk.out m0 y1
        have e5 := cellK c5 HKk.out m0 y1
        have e6 := cellK c6 HKk.out m0 y1
        have f0 := cellK a0 HKk.out m1 y2
        have f1 := cellK a1 HKk.out m1 y2
        have l0 : mw + 1 + 1 + 1 < w9.heap.size := by omega
        have l1 : w2.heap.size + 1 < w9.heap.size := by omega
        have HMy := Lib.hid (HMp.out.2.1.same (HKk.out.block (mw + 1) ⟨by omega, by omega⟩))
        have HMz := Lib.hid (HMp.out.2.2.same (HKk.out.block (mw + 1 + 1) ⟨by omega, by omega⟩))
        clear hlow c0 c1 c2 c3 c4 c5 c6 a0 a1
        try go_wp2_with fail
        refine wp_region_held_drew (S := fun w' => Keeps (But w9 mw) w9 w') (by kernel_rfl) (But.below (Below.drew (Below.refl _ _))) (fun hHeld => ?_)
        refine tY (i := 0) (v := ?_) rfl ?_ hHeld ?_; rotate_left 1; focus (intro w' hSw; clear hSw; go_simp; try with_reducible rfl)
        (try simp only [Act.put, zn1, zn2, zn3])
        refine tY (i := 1) (v := ?_) rfl ?_ hHeld ?_; rotate_left 1; focus (intro w' hSw; clear hSw; go_simp; try with_reducible rfl)
        (try simp only [Act.put, zn1, zn2, zn3])
        refine tY (i := 2) (v := ?_) rfl ?_ hHeld ?_; rotate_left 1; focus (intro w' hSw; clear hSw; go_simp; try with_reducible rfl)
        (try simp only [Act.put, zn1, zn2, zn3])
        refine tY (i := 3) (v := ?_) rfl ?_ hHeld ?_; rotate_left 1; focus (intro w' hSw; have hCell := fun (b o : Nat) (h : b < w9.heap.size) (h2 : ¬ b = mw) => World.cell?_of_block (a := ⟨b, o, none⟩) (hSw.block b ⟨h, h2⟩); clear hSw; go_simp; try with_reducible rfl)
        (try simp only [Act.put, zn1, zn2, zn3])
        refine tY (i := 4) (v := ?_) rfl ?_ hHeld ?_; rotate_left 1; focus (intro w' hSw; have hCell := fun (b o : Nat) (h : b < w9.heap.size) (h2 : ¬ b = mw) => World.cell?_of_block (a := ⟨b, o, none⟩) (hSw.block b ⟨h, h2⟩); clear hSw; go_simp; try with_reducible rfl)
        (try simp only [Act.put, zn1, zn2, zn3])
        refine ready_one (i := 5) rfl (by kernel_rfl) (fun K hK => ?_)
        refine step_drop_is _ (by rfl) (.tmp 66) (.tmp 67) 77 (by rfl) 4 Tryz.underlying77 mw _ _ (by rfl) HMk.out (u, t) (by rfl) hof ?_
        intro w6 hm6 hg6
        have hS := But.trans hHeld (But.grown hg6)
        have HM6 := Lib.hid (MapIs.if_ hm6)
        clear hm6 hg6
        refine hK.out _ _ ?_ (fun hHeld2 => ?_)
        · (try dsimp only); exact hS
        clear hK K hHeld; have hHeld := hHeld2; clear hHeld2; (try simp only [Act.put, zn1, zn2, zn3])
        refine wpAnyH_done (by kernel_rfl) ?_ _
        replace d4 := cellK d4 hHeld (by omega) (by omega)
        replace e0 := cellK e0 hHeld (by omega) (by omega)
        replace e1 := cellK e1 hHeld (by omega) (by omega)
        replace e2 := cellK e2 hHeld (by omega) (by omega)
        replace e3 := cellK e3 hHeld (by omega) (by omega)
        replace e5 := cellK e5 hHeld (by omega) (by omega)
        replace e6 := cellK e6 hHeld (by omega) (by omega)
        replace f0 := cellK f0 hHeld (by omega) (by omega)
        replace f1 := cellK f1 hHeld (by omega) (by omega)
        replace l0 : (mw + 1 + 1 + 1) < w6.heap.size := Nat.lt_of_lt_of_le l0 (Keeps.size hHeld)
        replace l1 : (w2.heap.size + 1) < w6.heap.size := Nat.lt_of_lt_of_le l1 (Keeps.size hHeld)
        replace HLow := Lib.hid (But.low HLow.out hHeld (by omega))
        replace HMy := Lib.hid (HMy.out.same (hHeld.block (mw + 1) ⟨HMy.out.lt, by omega⟩))
        replace HMz := Lib.hid (HMz.out.same (hHeld.block (mw + 1 + 1) ⟨HMz.out.lt, by omega⟩))
        have hm6 := HM6.out
        rw [outV_drop] at hm6
        have hcl : ClosAt w6 (mw + 1 + 1 + 1) mw w.heap.size An Ae Au Ah ns.length cn ce cu ch es up half (outF (outB wo) (u, t)) :=
          ⟨e0, e1, e2, e3, d4, ⟨_, hm6⟩, H0r.out.below HLow.out, hl, H0u.out.rd.below HLow.out, H0u.out.len, H0h.out.rd.below HLow.out, H0h.out.len, HLow.out.size⟩
        have HC := Lib.hid hcl
        clear hm6 hcl HM6 hHeld hS
        go_wp2_with fail
        refine (steps_any (mw + 1 + 1 + 1) mw (mw + 1) w.heap.size An Ae Au Ah ns.length cn ce cu ch es up half (outF (outB wo) (u, t)) u t w6 HC.out e5 HMy.out (by omega) (by omega) (by omega) HOk.out HOf.out).mono ?_
        rintro e w7 ⟨rfl, hm7, hk7⟩
        rw [step_lay] at hm7
        have HMy7 := Lib.hid hm7
        have HC7 := Lib.hid (HC.out.but hk7 (by omega) (by omega) (by omega))
        have f07 := cellK f0 hk7 l1 (by omega)
        have f17 := cellK f1 hk7 l1 (by omega)
        have e57 := cellK e5 hk7 l0 (by omega)
        have e67 := cellK e6 hk7 l0 (by omega)
        have HMz7 := Lib.hid (HMz.out.same (hk7.block (mw + 1 + 1) ⟨HMz.out.lt, by omega⟩))
        have HLow7 := Lib.hid (But.low HLow.out hk7 (by omega))
        have l07 := Nat.lt_of_lt_of_le l0 hk7.size
        have l17 := Nat.lt_of_lt_of_le l1 hk7.size
        clear hm7 hk7 HC HMy HMz HLow e0 e1 e2 e3 e5 e6 d4 f0 f1
        go_wp2_with fail
        refine (needs_any (mw + 1 + 1 + 1) mw (mw + 1 + 1) w.heap.size An Ae Au Ah ns.length cn ce cu ch es up half (outF (outB wo) (u, t)) u t w7 HC7.out e67 HMz7.out (by omega) (by omega) (by omega) HOk.out HOf.out).mono ?_
        rintro e w8 ⟨rfl, ⟨N, hN, hm8⟩, hk8⟩
        have HN := Lib.hid hN
        have HMz8 := Lib.hid hm8
        have HMy8 := Lib.hid (HMy7.out.same (hk8.block (mw + 1) ⟨HMy7.out.lt, by omega⟩))
        have e58 := cellK e57 hk8 l07 (by omega)
        have e68 := cellK e67 hk8 l07 (by omega)
        have HLow8 := Lib.hid (But.low HLow7.out hk8 (by omega))
        have l08 := Nat.lt_of_lt_of_le l07 hk8.size
        clear hN hm8 hk8 HMz7 HMy7 HLow7 HC7 f07 f17 e57 e67
        go_wp2_with (first
          | (at_range; refine wpList_range_is _ (by rfl) (.tmp 77) 78 (by rfl) 9 Tryz.underlying78 (mw + 1) _ _ (by rfl) HMy8.out ?_; intro w3' cnt hr3 hg3 hs3; have HR3 := Lib.hid hr3; have HG3 := Lib.hid hg3; clear hr3 hg3)
          | fail)
        have HNd := Lib.hid (pullM_ok es up half (u, t) wo).nd
        have HMk := Lib.hid (pull_keys_ok (es := es) (up := up) (half := half) (first := (u, t)) (wo := wo) HOk.out HOf.out)
        have hml := pullM_len es up half (u, t) wo
        have HNk := Lib.hid (need_known HN.out)
        have HAll := Lib.hid (show allP es up half (u, t) wo = (canon ltJ (keysP (pullM es up half (u, t) wo))).map (plOf (pullM es up half (u, t) wo) (needM es up half (u, t) wo)) from rfl)
        clear HN
        generalize pullM es up half (u, t) wo = m at *
        generalize needM es up half (u, t) wo = nn at *
        have hz8 := HLow8.out.size
        have hy8 := HMy8.out.lt
        go_frame
        go_loopw [17] (fun v wr => ∃ (left : Jp → Bool) (cnt : Nat) (L : List Jp) (R : List Pl), RangeIs kindJ wr (mw + 1) w8.heap.size (List.length m) (byV m) left cnt ∧ Hid (R = L.map (plOf m nn)) ∧ List.Nodup L ∧ Hid (∀ k, k ∈ L ↔ k ∈ keysP m ∧ left k = false) ∧ wr.ownsRow (w8.heap.size + 1) 37 4 v (List.length R) (plsC R) ∧ Below w8.heap.size w8 wr ∧ w8.heap.size < wr.heap.size) (fun _ wr => wr.rangeLeft (mw + 1) w8.heap.size)
        case atStart =>
          have hb3 : Below w8.heap.size w8 w3' := (Below.refl _ _).grown HG3.out (Nat.le_refl _) (fun g hg => by cases hg)
          exact ⟨_, cnt, [], [], HR3.out, rfl, List.nodup_nil, fun k => ⟨fun h => (by cases h), fun h => absurd h.1 (byV_some_false h.2)⟩, World.ownsRow_nil _ _ _ _, hb3, by omega⟩
        case round =>
          obtain ⟨left, cnt', L, R, hrg, HRL, hnd, hL, hown, hbel, hwz⟩ := hrel
          obtain ⟨A, c, rfl, _⟩ := own_rd hown
          have hmz : wr.rangeLeft (mw + 1) w8.heap.size = cnt' := hrg.left_eq
          have hRl : R.length ≤ 6 * es.length + 1 := by
            rw [HRL.out, List.length_map]
            have h1 := nodup_len hnd (cand := keysP m) fun k hk => ((hL.out k).1 hk).1
            have h2 : (keysP m).length = m.length := by simp [keysP]
            omega
          have HL := Lib.hid (And.intro hnd hL.out)
          have HB := Lib.hid hbel
          have HM := Lib.hid hmz
          have HRg := Lib.hid hrg
          have HO3 := Lib.hid hown
          have h63 := Lib.hid (show R.length + 1 ≤ maxLen by unfold maxLen; omega)
          have hby := Lib.hid (show (R.length + 1) * 48 ≤ 140737488355328 by omega)
          clear hbel hmz hrg hnd hL hown
          go_wp2_with (first
            | (at_next; refine wpList_next_is _ (by rfl) (.tmp 78) (by rfl) (mw + 1) w8.heap.size _ (byV m) left cnt' (by rfl) HRg.out ?_ ?_)
            | fail)
          · intro hdone
            have hmem : ∀ k, k ∈ L ↔ k ∈ keysP m := fun k => by
              rw [HL.out.2]
              exact ⟨fun h => h.1, fun h => ⟨h, hdone k.1 k.2 (HMk.out k h)⟩⟩
            have hperm : L.Perm (keysP m) := (List.perm_ext_iff_of_nodup HL.out.1 HNd.out).2 hmem
            have hpr : R.Perm ((keysP m).map (plOf m nn)) := by rw [HRL.out]; exact hperm.map _
            have HPr := Lib.hid hpr
            clear hdone hmem hperm hpr
            go_wp2_with fail
            refine (sortPl_own _ c A R _ HO3.out (by omega)).mono ?_
            rintro e w6' ⟨rfl, S, hS1, hS2, ho6, hg6⟩
            have hSe := sort_all HNd.out HPr.out hS1 hS2
            rw [← HAll.out] at hSe
            have hSl : S.length = R.length := hS1.length_eq
            have HS := Lib.hid (And.intro hSe hSl)
            have HO6 := Lib.hid ho6
            have HG6 := Lib.hid hg6
            clear hS1 hS2 hSe hSl ho6 hg6
            go_wp2_with fail
            go_ret
            rw [HQ.out, ← HS.out.1]
            refine ⟨A, c, by rw [HS.out.2]; rfl, ?_, ?_⟩
            · rw [HS.out.2]; exact own_base HO6.out (by omega)
            · exact ((lift HLow8.out HB.out)).grown HG6.out (by omega) (fun j hj => by have := (HO3.out.lt j hj).1; omega)
          · intro s t' v' w4 cnt3 hx hlx hfx hrg3 hlt3 hg3 hs4 hen
            obtain ⟨hv', hxm⟩ := byV_of hfx
            subst hv'
            rw [show kindJ.val (s, t') = .agg #[sv s, .int .i64 t'] from rfl] at hen ⊢
            have hb4 : Below w8.heap.size w8 w4 := HB.out.grown hg3 (by omega) (fun g hg => by cases hg; exact Nat.le_refl _)
            have ho4 : w4.ownsRow (w8.heap.size + 1) 37 4 (.slice A R.length c) R.length (plsC R) := by
              refine HO3.out.kept hg3 ?_
              cases hv : (Value.slice A R.length c).ownBlock with
              | none => exact .inl rfl
              | some g => exact .inr (fun e => by cases e; exact absurd (HO3.out.lt _ hv).1 (by omega))
            have HR4 := Lib.hid hrg3
            have HB4 := Lib.hid hb4
            have HO4 := Lib.hid ho4
            have HX := Lib.hid (And.intro hlx hxm)
            have HLt := Lib.hid hlt3
            have hs4' : wr.heap.size ≤ w4.heap.size := by omega
            have HOl := Lib.hid HO3.out.lt
            have e59 := cellAt e58 hb4 l08
            have e69 := cellAt e68 hb4 l08
            have l09 := Nat.lt_of_lt_of_le l08 hb4.size
            have hz4 : w8.heap.size < w4.heap.size := by omega
            have HMz4 := Lib.hid (HMz8.out.on hb4)
            generalize hbo : byOf m (s, t') = bo at *
            have HBo := Lib.hid hbo
            clear hrg3 hb4 ho4 hg3 hlx hfx hxm hlt3 hs4 hbo
            go_wp2_with fail
            first | (refine wp_named ?_; intro W4 hW) | (refine calls_named ?_; intro W4 hW)
            have B4 : Below w4.heap.size w4 W4 := by rw [hW]; exact (by repeat (first | exact Below.refl _ _ | assumption | refine Below.alloc ?_ (by first | omega | (simp <;> omega)) _ | refine Below.setCell ?_ (by first | omega | (simp <;> omega)) _ | refine Below.drew ?_))
            replace e59 := cellAt e59 B4 (by omega)
            replace e69 := cellAt e69 B4 (by omega)
            replace HB4 := Lib.hid ((Below.trans HB4.out (Below.mono B4 (by omega))))
            replace HR4 := Lib.hid (RangeIs.on HR4.out B4)
            replace HO4 := Lib.hid (own_on HO4.out B4)
            replace HMz4 := Lib.hid (HMz4.out.on B4)
            replace l09 : (mw + 1 + 1 + 1) < W4.heap.size := ltAt l09 B4
            replace hz4 : w8.heap.size < W4.heap.size := ltAt hz4 B4
            have j9 : w4.heap.size < W4.heap.size := by rw [hW]; simp <;> omega
            have j0 : W4.cell? ⟨w4.heap.size, 0, none⟩ = some (sv s) := by rw [hW]; go_simp
            have j1 : W4.cell? ⟨w4.heap.size, 1, none⟩ = some (.int .i64 t') := by rw [hW]; go_simp
            clear hW
            have hz5 := B4.size
            clear B4
            have hrb : ∀ b, (Value.slice A R.length c).ownBlock = some b → w8.heap.size + 1 ≤ b ∧ b < w4.heap.size := fun b hb => ⟨(HO4.out.lt b hb).1, by have := (HOl.out b hb).2; omega⟩
            obtain ⟨ovr, hovr⟩ : ∃ v, v = Value.slice A R.length c := ⟨_, rfl⟩
            rw [← hovr] at hrb
            have o1 : ¬ ovr.ownBlock = some (mw + 1 + 1 + 1) := fun e => by have := (hrb _ e).1; omega
            have o2 : ¬ ovr.ownBlock = some w4.heap.size := fun e => by have := (hrb _ e).2; omega
            have o3 : ¬ ovr.ownBlock = some (mw + 1 + 1) := fun e => by have := (hrb _ e).1; omega
            have o4 : ¬ ovr.ownBlock = some (mw + 1) := fun e => by have := (hrb _ e).1; omega
            have o5 : ¬ ovr.ownBlock = some w8.heap.size := fun e => by have := (hrb _ e).1; omega
            have HOv := Lib.hid hovr
            have HRb := Lib.hid hrb
            have hba := Lib.hid (show w8.heap.size + 1 ≤ (W4.drew.alloc (.cells (plC (s, t', knownP nn (s, t'), bo)).toArray 37)).heap.size by simp; omega)
            have HZl := Lib.hid HMz4.out.lt
            clear hovr hrb
            try go_wp2_with fail
            refine wp_region_held_drew (S := fun w' => Keeps (OffB W4 ovr) W4 w') (by kernel_rfl) (OffB.below (Below.drew (Below.refl _ _))) (fun hHeld => ?_)
            refine tY (i := 0) (v := ?_) rfl ?_ hHeld ?_; rotate_left 1; focus (intro w' hSw; clear hSw; go_simp; try with_reducible rfl)
            (try simp only [Act.put, zn1, zn2, zn3])
            refine tY (i := 1) (v := ?_) rfl ?_ hHeld ?_; rotate_left 1; focus (intro w' hSw; clear hSw; go_simp; try with_reducible rfl)
            (try simp only [Act.put, zn1, zn2, zn3])
            refine tY (i := 2) (v := ?_) rfl ?_ hHeld ?_; rotate_left 1; focus (intro w' hSw; have hCell := fun (b o : Nat) (h : b < W4.heap.size) (h2 : ¬ ovr.ownBlock = some b) => World.cell?_of_block (a := ⟨b, o, none⟩) (hSw.block b ⟨h, h2⟩); clear hSw; go_simp; try with_reducible rfl)
            (try simp only [Act.put, zn1, zn2, zn3])
            refine tY (i := 3) (v := ?_) rfl ?_ hHeld ?_; rotate_left 1; focus (intro w' hSw; clear hSw; go_simp; try with_reducible rfl)
            (try simp only [Act.put, zn1, zn2, zn3])
            refine tY (i := 4) (v := ?_) rfl ?_ hHeld ?_; rotate_left 1; focus (intro w' hSw; have hCell := fun (b o : Nat) (h : b < W4.heap.size) (h2 : ¬ ovr.ownBlock = some b) => World.cell?_of_block (a := ⟨b, o, none⟩) (hSw.block b ⟨h, h2⟩); clear hSw; go_simp; try with_reducible rfl)
            (try simp only [Act.put, zn1, zn2, zn3])
            refine tY (i := 5) (v := ?_) rfl ?_ hHeld ?_; rotate_left 1; focus (intro w' hSw; clear hSw; go_simp; try with_reducible rfl)
            (try simp only [Act.put, zn1, zn2, zn3])
            refine tY (i := 6) (v := ?_) rfl ?_ hHeld ?_; rotate_left 1; focus (intro w' hSw; clear hSw; go_simp; try with_reducible rfl)
            (try simp only [Act.put, zn1, zn2, zn3])
            refine tY (i := 7) (v := ?_) rfl ?_ hHeld ?_; rotate_left 1; focus (intro w' hSw; clear hSw; go_simp; try with_reducible rfl)
            (try simp only [Act.put, zn1, zn2, zn3])
            refine tY (i := 8) (v := ?_) rfl ?_ hHeld ?_; rotate_left 1; focus (intro w' hSw; have hCell := fun (b o : Nat) (h : b < W4.heap.size) (h2 : ¬ ovr.ownBlock = some b) => World.cell?_of_block (a := ⟨b, o, none⟩) (hSw.block b ⟨h, h2⟩); clear hSw; go_simp; try with_reducible rfl)
            (try simp only [Act.put, zn1, zn2, zn3])
            refine tY (i := 9) (v := ?_) rfl ?_ hHeld ?_; rotate_left 1; focus (intro w' hSw; have hCell := fun (b o : Nat) (h : b < W4.heap.size) (h2 : ¬ ovr.ownBlock = some b) => World.cell?_of_block (a := ⟨b, o, none⟩) (hSw.block b ⟨h, h2⟩); clear hSw; go_simp; try with_reducible rfl)
            (try simp only [Act.put, zn1, zn2, zn3])
            refine tY (i := 11) (v := ?_) rfl ?_ hHeld ?_; rotate_left 1; focus (intro w' hSw; clear hSw; go_simp; try with_reducible rfl)
            (try simp only [Act.put, zn1, zn2, zn3])
            refine ready_one (i := 10) rfl (by kernel_rfl) (fun K hK => ?_)
            refine step_lookup_is _ (by rfl) (.tmp 92) (.tmp 93) 77 (by rfl) 4 Tryz.underlying77 (.bool false) (zeroB _) (mw + 1 + 1) _ _ (by rfl) (HMz4.out.same (hHeld.block (mw + 1 + 1) ⟨HZl.out, o3⟩)) (s, t') (by rfl) hx ?_
            rw [inV_get, HNk.out]
            have hS := hHeld
            refine hK.out _ _ ?_ (fun hHeld2 => ?_)
            · (try dsimp only); exact hS
            clear hK K hHeld; have hHeld := hHeld2; clear hHeld2; (try simp only [Act.put, zn1, zn2, zn3])
            refine ready_one (i := 12) rfl (by kernel_rfl) (fun K hK => ?_)
            go_simp
            refine hK.out _ _ ?_ (fun hHeld2 => ?_)
            · (try dsimp only); first | exact hHeld | exact OffB.alloc hHeld _
            clear hK K hHeld; have hHeld := hHeld2; clear hHeld2; (try simp only [Act.put, zn1, zn2, zn3])
            refine ready_one (i := 13) rfl (by kernel_rfl) (fun K hK => ?_)
            go_simp
            refine hK.out _ _ ?_ (fun hHeld2 => ?_)
            · (try dsimp only); first | exact hHeld | exact OffB.alloc hHeld _
            clear hK K hHeld; have hHeld := hHeld2; clear hHeld2; (try simp only [Act.put, zn1, zn2, zn3])
            refine ready_one (i := 14) rfl (by kernel_rfl) (fun K hK => ?_)
            refine step_append_rd _ (by rfl) (.tmp 84) (.tmp 97) 29 (by rfl) (w8.heap.size + 1) 37 i0 _ 4 48 Tryz.underlying29 hi hz0 hz1 hz2 rfl (by decide) _ R.length (plsC R) (by rfl) (own_alloc (w := W4.drew) HO4.out _) _ (some ⟨W4.heap.size, 0, none⟩) 1 1 (plC (s, t', knownP nn (s, t'), bo)) (by rfl) (Rd.lit W4.drew (plC (s, t', knownP nn (s, t'), bo)) 37 4 1 rfl) (one_plC _) h63.out hby.out hba.out ?_
            intro A7 c7 w7 ho7 hg7 hat7
            rw [← HOv.out] at hg7
            have hS := OffB.grown hHeld hg7
            have HO7 := Lib.hid ho7
            clear ho7 hg7 hat7
            refine hK.out _ _ ?_ (fun hHeld2 => ?_)
            · (try dsimp only); exact hS
            clear hK K hHeld; have hHeld := hHeld2; clear hHeld2; (try simp only [Act.put, zn1, zn2, zn3])
            refine tY (i := 15) (v := ?_) rfl ?_ hHeld ?_; rotate_left 1; focus (intro w' hSw; clear hSw; go_simp; try with_reducible rfl)
            (try simp only [Act.put, zn1, zn2, zn3])
            refine wpAnyH_done (by kernel_rfl) ?_ _
            have hz7 := hHeld.size
            have hrg7 := HR4.out.same (hHeld.block (mw + 1) ⟨HR4.out.map.lt, o4⟩) (hHeld.block w8.heap.size ⟨HR4.out.lt, o5⟩)
            have HR7 := Lib.hid hrg7
            have HB7 := Lib.hid (HB4.out.trans (hHeld.below (B := w8.heap.size) (fun j hj => ⟨by omega, fun e => by have := (HRb.out _ e).1; omega⟩)))
            clear hrg7 hHeld hS
            go_wp2_with fail
            have hxL : ¬ (s, t') ∈ L := fun h => by have := ((HL.out.2 _).1 h).2; rw [HX.out.1] at this; cases this
            refine ⟨⟨_, cnt3, L ++ [(s, t')], R ++ [(s, t', knownP nn (s, t'), bo)], HR7.out, ?_, ?_, ?_, ?_, HB7.out, by omega⟩, ?_⟩
            · show R ++ _ = _
              rw [HRL.out, List.map_append]
              simp [plOf, HBo.out]
            · exact List.nodup_append.2 ⟨HL.out.1, List.pairwise_singleton _ _, fun a ha b hb e => by
                have : b = (s, t') := by simpa using hb
                subst this; subst e; exact hxL ha⟩
            · intro k
              rw [List.mem_append, List.mem_singleton, HL.out.2]
              constructor
              · rintro (⟨h1, h2⟩ | rfl)
                · exact ⟨h1, by simp [h2]⟩
                · exact ⟨HX.out.2, by simp⟩
              · rintro ⟨h1, h2⟩
                by_cases e : k = (s, t')
                · exact .inr e
                · exact .inl ⟨h1, by simpa [e] using h2⟩
            · rw [List.length_append, plsC_app, plsC_one]
              exact HO7.out
            · rw [HM.out, HR7.out.left_eq]
              exact HLt.out
end Od
end Go.Proofs.YtbllehjhmfehbaaGreat
end
