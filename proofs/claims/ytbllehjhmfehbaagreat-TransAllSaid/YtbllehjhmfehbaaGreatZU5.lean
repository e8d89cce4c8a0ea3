/- My texts, joined for the claim: PEach SortRun PSort PSteps PNeeds1 PNeedsW PAllM PAllA SortPull. -/
import Derived.Test.YtbllehjhmfehbaaGreatZU1
import Derived.Test.YtbllehjhmfehbaaGreatZU4
import Derived.Shelf.SlSortCmp.NoneTotal
import Derived.Ground.SlsfProg
import Derived.Test.YtbllehjhmfehbaaGreatProg
import Derived.Test.YtbllehjhmfehbaaGreatZU3
import Derived.StillTailTactics

section
/- (*closure).each: what a job brings and is not left out is handed to a taker, whatever the taker keeps. (bel2) -/
namespace Go.Proofs.YtbllehjhmfehbaaGreat
open Go.RowKit Go.Sort Go.Maps
set_option linter.unusedSimpArgs false
namespace Od
def outV (out : Jp → Bool) (k : Jp) : Option Value := if out k = true then some (.bool true) else none
theorem outV_get (out : Jp → Bool) (k : Jp) : (outV out k).getD (.bool false) = .bool (out k) := by
 unfold outV; cases h : out k <;> simp
/-- A closure, and what it was asked with. -/
structure ClosAt (w : World) (cb mw B : Nat) (An Ae Au Ah : Option Addr) (nn cn ce cu ch : Nat) (es : List Ed) (up half : List Str) (out : Jp → Bool) : Prop where
 c0 : w.cell? ⟨cb, 0, none⟩ = some (.slice An nn cn)
 c1 : w.cell? ⟨cb, 1, none⟩ = some (.slice Ae es.length ce)
 c2 : w.cell? ⟨cb, 2, none⟩ = some (.slice Au up.length cu)
 c3 : w.cell? ⟨cb, 3, none⟩ = some (.slice Ah half.length ch)
 c4 : w.cell? ⟨cb, 4, none⟩ = some (.map (some mw))
 mp : ∃ n, MapIs kindJ w mw n (outV out)
 re : Rd w B 3 Ae es.length (edsC es)
 el : es.length ≤ 10000
 ru : Rd w B 1 Au up.length (svs up)
 ul : up.length ≤ 140737488355328
 rh : Rd w B 1 Ah half.length (svs half)
 hl : half.length ≤ 140737488355328
 lb : B ≤ w.heap.size
section
variable {w w' : World} {cb mw B : Nat} {An Ae Au Ah : Option Addr} {nn cn ce cu ch : Nat} {es : List Ed} {up half : List Str} {out : Jp → Bool}
theorem ClosAt.lt (h : ClosAt w cb mw B An Ae Au Ah nn cn ce cu ch es up half out) : cb < w.heap.size := cell_blk h.c0
theorem ClosAt.mlt (h : ClosAt w cb mw B An Ae Au Ah nn cn ce cu ch es up half out) : mw < w.heap.size := by obtain ⟨n, h⟩ := h.mp; exact h.lt
theorem ClosAt.kept (h : ClosAt w cb mw B An Ae Au Ah nn cn ce cu ch es up half out) {F F' : Nat → Prop} (hk : TookB F F' w w') (hF : ∀ k, F k → B ≤ k ∧ k ≠ cb ∧ k ≠ mw) : ClosAt w' cb mw B An Ae Au Ah nn cn ce cu ch es up half out := by
 have hc : ∀ o, w'.cell? ⟨cb, o, none⟩ = w.cell? ⟨cb, o, none⟩ := fun o => World.cell?_of_block (a := ⟨cb, o, none⟩) (hk.1.block cb ⟨h.lt, fun hf => (hF _ hf).2.1 rfl⟩)
 have hr : ∀ {k n : Nat} {A : Option Addr} {xs : List Value}, Rd w B k A n xs → Rd w' B k A n xs := fun hr => hr.keep fun p hp => World.cell?_of_block (hk.1.block p.block ⟨by have := h.lb; omega, fun hf => by have := (hF _ hf).1; omega⟩)
 obtain ⟨n, hm⟩ := h.mp
 exact ⟨(hc 0).trans h.c0, (hc 1).trans h.c1, (hc 2).trans h.c2, (hc 3).trans h.c3, (hc 4).trans h.c4, ⟨n, hm.same (hk.1.block mw ⟨hm.lt, fun hf => (hF _ hf).2.2 rfl⟩)⟩, hr h.re, h.el, hr h.ru, h.ul, hr h.rh, h.hl, Nat.le_trans h.lb hk.1.size⟩
theorem ClosAt.on (h : ClosAt w cb mw B An Ae Au Ah nn cn ce cu ch es up half out) (hb : Below w.heap.size w w') : ClosAt w' cb mw B An Ae Au Ah nn cn ce cu ch es up half out :=
 h.kept (F := fun _ => False) (TookB.below hb) (fun _ h => h.elim)
theorem ClosAt.rd (h : ClosAt w cb mw B An Ae Au Ah nn cn ce cu ch es up half out) : Rd w w.heap.size 3 Ae es.length (edsC es) := h.re.more h.lb
theorem ClosAt.sup (h : ClosAt w cb mw B An Ae Au Ah nn cn ce cu ch es up half out) : SIn w Au up := ⟨h.ru.more h.lb, h.ul⟩
theorem ClosAt.sha (h : ClosAt w cb mw B An Ae Au Ah nn cn ce cu ch es up half out) : SIn w Ah half := ⟨h.rh.more h.lb, h.hl⟩
end
/-- A taker: a state S of what it has taken (D), the blocks F that are its own, the world. -/
structure TakesB (g : Nat) (caps : Array Value) (cb mw B : Nat) (cand : List Jp) (S : List Bg → (Nat → Prop) → World → Prop) : Prop where
 enters : ∀ (args : Array Value) (W : World), (callFunc g args).run Tryz.prog W = .ok (.enter g args) W
 on : ∀ D F W W', S D F W → Below W.heap.size W W' → S D F W'
 low : ∀ D F W, S D F W → ∀ k, F k → (B ≤ k ∧ k ≠ cb ∧ k ≠ mw) ∧ k < W.heap.size
 says : ∀ D F W (s : Str) (t : Int) (n : Bool), S D F W → (s, t) ∈ cand → Calls Tryz.prog g (#[.agg #[sv s, .int .i64 t, .bool n]] ++ caps) W fun e w' => e = .returned (.tuple #[]) ∧ ∃ F', S (D ++ [((s, t), n)]) F' w' ∧ TookB F F' W w'
def EachRet (S : List Bg → (Nat → Prop) → World → Prop) (D : List Bg) (F : Nat → Prop) (w : World) (e : Ending) (w' : World) : Prop := e = .returned (.tuple #[]) ∧ ∃ F', S D F' w' ∧ TookB F F' w w'
theorem filter_take1 {α : Type} {p : α → Bool} {L : List α} {k : Nat} (h : k < L.length) : (L.take (k + 1)).filter p = (L.take k).filter p ++ (if p L[k] = true then [L[k]] else []) := by
 rw [List.take_succ_eq_append_getElem h, List.filter_append, List.filter_cons]
 split <;> simp
set_option maxRecDepth 100000 in
set_option maxHeartbeats 8000000 in
theorem each_any (g : Nat) (caps : Array Value) (S : List Bg → (Nat → Prop) → World → Prop) (cb mw B : Nat) (An Ae Au Ah : Option Addr) (nn cn ce cu ch : Nat) (es : List Ed) (up half : List Str) (out : Jp → Bool) (u : Str) (t : Int) (D : List Bg) (F : Nat → Prop) (w : World)
  (hp : TakesB g caps cb mw B (candB es) S) (hS : S D F w) (hcl : ClosAt w cb mw B An Ae Au Ah nn cn ce cu ch es up half out) (hok : ∀ k ∈ candB es, okJ k) :
  Calls Tryz.prog 88 #[.pointer (some ⟨cb, 0, none⟩), .agg #[sv u, .int .i64 t], .func (.func g) #[] caps] w (EachRet S (D ++ (bringB es up half (u, t)).filter (fun b => !out b.1)) F w) := by
 have HP := Lib.hid hp
 have HS := Lib.hid hS
 have HC := Lib.hid hcl
 have HK := Lib.hid hok
 have eg := hp.enters
 have hcl0 := hcl.lt
 have hml0 := hcl.mlt
 have c0 := hcl.c0
 have c1 := hcl.c1
 have c2 := hcl.c2
 have c3 := hcl.c3
 have c4 := hcl.c4
 have HLow := Lib.hid (hp.low D F w hS)
 clear hp hS hcl hok
 go_enter Tryz.func88, Tryz.ntmps88
 go_wp2_with fail
 first | (refine wp_named ?_; intro W1 hW) | (refine calls_named ?_; intro W1 hW)
 have B1 : Below w.heap.size w W1 := by rw [hW]; exact bq2
 replace c0 := cellAt c0 B1 (by omega)
 replace c1 := cellAt c1 B1 (by omega)
 replace c2 := cellAt c2 B1 (by omega)
 replace c3 := cellAt c3 B1 (by omega)
 replace c4 := cellAt c4 B1 (by omega)
 replace HS := Lib.hid ((HP.out.on _ _ _ _ HS.out B1))
 replace HC := Lib.hid (HC.out.on B1)
 replace hcl0 : cb < W1.heap.size := ltAt hcl0 B1
 replace hml0 : mw < W1.heap.size := ltAt hml0 B1
 have n1 : w.heap.size < W1.heap.size := by rw [hW]; simp <;> omega
 have r0 : W1.cell? ⟨w.heap.size, 0, none⟩ = some (sv u) := by rw [hW]; go_simp
 have r1 : W1.cell? ⟨w.heap.size, 1, none⟩ = some (.int .i64 t) := by rw [hW]; go_simp
 clear hW
 have HB1 := Lib.hid B1
 have hz1 := B1.size
 clear B1
 try go_wp2_with fail
 refine wp_region_held_drew (S := fun w' => Below W1.heap.size W1 w') (by kernel_rfl) (Below.drew (Below.refl _ _)) (fun hHeld => ?_)
 refine tV 0 ?_ ?zq ?_; (case zq => rintro _ -; go_simp; try with_reducible rfl); try simp only [Act.put, zn1, zn2, zn3]
 refine tV 1 ?_ ?zq ?_; (case zq => rintro _ -; go_simp; try with_reducible rfl); try simp only [Act.put, zn1, zn2, zn3]
 refine tV 2 ?_ ?zq ?_; (case zq => rintro _ -; go_simp; try with_reducible rfl); try simp only [Act.put, zn1, zn2, zn3]
 refine tV 3 ?_ ?zq ?_; (case zq => intro w' hSw; have hCell := fun (b o : Nat) (h : b < W1.heap.size) => hSw.cell (p := ⟨b, o, none⟩) h; clear hSw; go_simp; try with_reducible rfl); try simp only [Act.put, zn1, zn2, zn3]
 refine tV 4 ?_ ?zq ?_; (case zq => intro w' hSw; have hCell := fun (b o : Nat) (h : b < W1.heap.size) => hSw.cell (p := ⟨b, o, none⟩) h; clear hSw; go_simp; try with_reducible rfl); try simp only [Act.put, zn1, zn2, zn3]
 refine tV 7 ?_ ?zq ?_; (case zq => rintro _ -; go_simp; try with_reducible rfl); try simp only [Act.put, zn1, zn2, zn3]
 refine ready_one (i := 5) rfl (by kernel_rfl) (fun K hK => ?_)
 go_simp
 refine (brings_any An Ae Au Ah nn cn ce cu ch es up half u t _ (HC.out.on hHeld).rd HC.out.el (HC.out.on hHeld).sup (HC.out.on hHeld).sha).mono ?_
 rintro e w2 ⟨A2, c2', rfl, ho2, hb⟩
 have HO2 := Lib.hid (own_base ho2 hHeld.size)
 clear ho2
 refine hK.out _ _ ?_ (fun hHeld2 => ?_)
 ·(try dsimp only); first | exact Below.trans hHeld (Below.mono hb hHeld.size) | exact hHeld | exact Below.drew hHeld | exact bq2
 clear hK K hHeld; have hHeld := hHeld2; clear hHeld2; (try simp only [Act.put, zn1, zn2, zn3])
 refine tV 6 ?_ ?zq ?_; (case zq => rintro _ -; go_simp; try with_reducible rfl); try simp only [Act.put, zn1, zn2, zn3]
 refine wpAnyH_done (by kernel_rfl) ?_ _
 replace c0 := cellAt c0 hHeld (by omega)
 replace c1 := cellAt c1 hHeld (by omega)
 replace c2 := cellAt c2 hHeld (by omega)
 replace c3 := cellAt c3 hHeld (by omega)
 replace c4 := cellAt c4 hHeld (by omega)
 replace r0 := cellAt r0 hHeld (by omega)
 replace r1 := cellAt r1 hHeld (by omega)
 replace HS := Lib.hid ((HP.out.on _ _ _ _ HS.out hHeld))
 replace HC := Lib.hid (HC.out.on hHeld)
 replace hcl0 : cb < w2.heap.size := ltAt hcl0 hHeld
 replace hml0 : mw < w2.heap.size := ltAt hml0 hHeld
 replace n1 : w.heap.size < w2.heap.size := ltAt n1 hHeld
 have HB2 := Lib.hid (lift HB1.out hHeld)
 have hz2 := hHeld.size
 clear hHeld
 go_wp2_with fail
 have hbl := bringB_len es up half (u, t)
 have hel := HC.out.el
 have hcand : ∀ b ∈ bringB es up half (u, t), b.1 ∈ candB es := fun b hb => bring_cand (u, t) b hb
 have HCd := Lib.hid hcand
 clear hcand
 generalize hL : bringB es up half (u, t) = L at *
 have HLL := Lib.hid hL
 clear hL
 go_loopw [15] (fun i wr => ∃ (k : Nat) (F' : Nat → Prop), k ≤ L.length ∧ i = .int .i64 k ∧ Hid (S (D ++ (L.take k).filter (fun b => !out b.1)) F' wr) ∧ Hid (TookB F F' w2 wr)) (fun i _ => L.length - (intOf i).toNat)
 case atStart => exact ⟨0, F, Nat.zero_le _, rfl, by simpa [Hid] using HS.out, TookB.refl _ _⟩
 case round =>
  obtain ⟨k, F', hk, rfl, HSr, HTr⟩ := hrel
  have hFl : ∀ j, F j → (B ≤ j ∧ j ≠ cb ∧ j ≠ mw) ∧ j < w.heap.size := HLow.out
  have HCr := Lib.hid (HC.out.kept HTr.out (fun j hj => (hFl j hj).1))
  have hor : wr.ownsRow W1.heap.size 145 3 (.slice A2 L.length c2') L.length (brsC L) := HTr.out.1.own HO2.out fun j hj => by
   obtain ⟨h1, h2⟩ := HO2.out.lt j hj
   exact ⟨h2, fun hf => by have := (hFl j hf).2; omega⟩
  have hzr := HTr.out.1.size
  have d0 := HCr.out.c0
  have d1 := HCr.out.c1
  have d2 := HCr.out.c2
  have d3 := HCr.out.c3
  have d4 := HCr.out.c4
  have hclr := HCr.out.lt
  have hmlr := HCr.out.mlt
  clear c0 c1 c2 c3 c4
  by_cases hlt : k < L.length
  ·obtain ⟨bb, o, hA, hB, x0, x1, x2⟩ := (own_rd' hor).br hlt
   subst hA
   have hft := filter_take1 (p := fun b : Bg => !out b.1) hlt
   have hca := HCd.out _ (List.getElem_mem hlt)
   generalize L[k] = x at x0 x1 x2 hft hca
   obtain ⟨⟨s, t'⟩, n⟩ := x
   simp only at x0 x1 x2 hft hca
   have hoj := HK.out _ hca
   have HFt := Lib.hid hft
   have HCa := Lib.hid hca
   have m1 : (0 : Int) ≤ (k : Int) := by omega
   have m2 : (k : Int) < (L.length : Int) := by omega
   clear hft hca hor
   go_wp2_with fail
   first | (refine wp_named ?_; intro W4 hW) | (refine calls_named ?_; intro W4 hW)
   have B4 : Below wr.heap.size wr W4 := by rw [hW]; exact bq2
   replace d0 := cellAt d0 B4 (by omega)
   replace d1 := cellAt d1 B4 (by omega)
   replace d2 := cellAt d2 B4 (by omega)
   replace d3 := cellAt d3 B4 (by omega)
   replace d4 := cellAt d4 B4 (by omega)
   replace HSr := Lib.hid ((HP.out.on _ _ _ _ HSr.out B4))
   replace HCr := Lib.hid (HCr.out.on B4)
   replace HTr := Lib.hid (HTr.out.then B4)
   replace hclr : cb < W4.heap.size := ltAt hclr B4
   replace hmlr : mw < W4.heap.size := ltAt hmlr B4
   have n4 : wr.heap.size < W4.heap.size := by rw [hW]; simp <;> omega
   have y0 : W4.cell? ⟨wr.heap.size, 0, none⟩ = some (sv s) := by rw [hW]; go_simp
   have y1 : W4.cell? ⟨wr.heap.size, 1, none⟩ = some (.int .i64 t') := by rw [hW]; go_simp
   have y2 : W4.cell? ⟨wr.heap.size, 2, none⟩ = some (.bool n) := by rw [hW]; go_simp
   clear hW
   clear B4 x0 x1 x2
   obtain ⟨nm, hmp⟩ := HCr.out.mp
   have HMp := Lib.hid hmp
   clear hmp
   try go_wp2_with fail
   refine wp_region_held_drew (S := fun w' => Below W4.heap.size W4 w') (by kernel_rfl) (Below.drew (Below.refl _ _)) (fun hHeld => ?_)
   refine tV 0 ?_ ?zq ?_; (case zq => rintro _ -; go_simp; try with_reducible rfl); try simp only [Act.put, zn1, zn2, zn3]
   refine tV 1 ?_ ?zq ?_; (case zq => rintro _ -; go_simp; try with_reducible rfl); try simp only [Act.put, zn1, zn2, zn3]
   refine tV 2 ?_ ?zq ?_; (case zq => rintro _ -; go_simp; try with_reducible rfl); try simp only [Act.put, zn1, zn2, zn3]
   refine tV 3 ?_ ?zq ?_; (case zq => intro w' hSw; have hCell := fun (b o : Nat) (h : b < W4.heap.size) => hSw.cell (p := ⟨b, o, none⟩) h; clear hSw; go_simp; try with_reducible rfl); try simp only [Act.put, zn1, zn2, zn3]
   refine tV 4 ?_ ?zq ?_; (case zq => rintro _ -; go_simp; try with_reducible rfl); try simp only [Act.put, zn1, zn2, zn3]
   refine tV 5 ?_ ?zq ?_; (case zq => intro w' hSw; have hCell := fun (b o : Nat) (h : b < W4.heap.size) => hSw.cell (p := ⟨b, o, none⟩) h; clear hSw; go_simp; try with_reducible rfl); try simp only [Act.put, zn1, zn2, zn3]
   refine ready_one (i := 6) rfl (by kernel_rfl) (fun K hK => ?_)
   refine step_lookup_is _ (by rfl) (.tmp 22) (.tmp 24) 77 (by rfl) 4 Tryz.underlying77 (.bool false) (zeroB _) mw _ _ (by rfl) (HMp.out.on hHeld) (s, t') (by rfl) hoj ?_
   rw [outV_get]
   refine hK.out _ _ ?_ (fun hHeld2 => ?_)
   ·(try dsimp only); first | exact Below.trans hHeld (Below.mono hb hHeld.size) | exact hHeld | exact Below.drew hHeld | exact bq2
   clear hK K hHeld; have hHeld := hHeld2; clear hHeld2; (try simp only [Act.put, zn1, zn2, zn3])
   refine tV 7 ?_ ?zq ?_; (case zq => rintro _ -; go_simp; try with_reducible rfl); try simp only [Act.put, zn1, zn2, zn3]
   refine wpAnyH_done (by kernel_rfl) ?_ _
   cases ho : out (s, t')
   ·have HF2 := Lib.hid (show (L.take (k + 1)).filter (fun b => !out b.1) = (L.take k).filter (fun b => !out b.1) ++ [((s, t'), n)] by rw [HFt.out, ho]; rfl)
    go_wp2_with fail
    first | (refine wp_named ?_; intro W5 hW) | (refine calls_named ?_; intro W5 hW)
    have B5 : Below W4.heap.size W4 W5 := by rw [hW]; exact bq2
    replace d0 := cellAt d0 B5 (by omega)
    replace d1 := cellAt d1 B5 (by omega)
    replace d2 := cellAt d2 B5 (by omega)
    replace d3 := cellAt d3 B5 (by omega)
    replace d4 := cellAt d4 B5 (by omega)
    replace y0 := cellAt y0 B5 (by omega)
    replace y1 := cellAt y1 B5 (by omega)
    replace y2 := cellAt y2 B5 (by omega)
    replace HSr := Lib.hid ((HP.out.on _ _ _ _ HSr.out B5))
    replace HCr := Lib.hid (HCr.out.on B5)
    replace HTr := Lib.hid (HTr.out.then B5)
    replace hclr : cb < W5.heap.size := ltAt hclr B5
    replace hmlr : mw < W5.heap.size := ltAt hmlr B5
    replace n4 : wr.heap.size < W5.heap.size := ltAt n4 B5
    replace HMp := Lib.hid (MapIs.on HMp.out B5)
    clear hW
    clear B5 hHeld
    refine (HP.out.says _ _ W5 s t' n HSr.out HCa.out).mono ?_
    rintro e w6 ⟨rfl, F6, hs6, ht6⟩
    have HS6 := Lib.hid hs6
    have HT6 := Lib.hid (HTr.out.trans ht6)
    clear hs6 ht6
    go_wp2_with fail
    go_roundw
    case rel => exact ⟨k + 1, F6, by omega, by go_num, by rw [HF2.out, ← List.append_assoc]; exact HS6, HT6⟩
    case measure => simp [intOf]; omega
   ·have HF2 := Lib.hid (show (L.take (k + 1)).filter (fun b => !out b.1) = (L.take k).filter (fun b => !out b.1) by rw [HFt.out, ho]; simp)
    go_wp2_with fail
    go_roundw
    case rel => exact ⟨k + 1, F', by omega, by go_num, by rw [HF2.out]; exact HP.out.on _ _ _ _ HSr.out hHeld, HTr.out.then hHeld⟩
    case measure => simp [intOf]; omega
  ·have hkl : k = L.length := by omega
   subst hkl
   rw [List.take_length] at HSr
   go_wp2_with fail
   refine bodyPost_end (results_none rfl _ _ _) rfl ?_
   exact ⟨rfl, F', by rw [HLL.out]; exact HSr.out, (TookB.below HB2.out).trans HTr.out⟩
end Od
end Go.Proofs.YtbllehjhmfehbaaGreat
end

section
/-
 DERIVED: THE SHELF's CONTRACTS AT THIS DUMP, IN PLAIN WORDS (tools/lay-plain.mjs out of 'TryzSortRun.lean', which tools/lay-shelf.mjs wrote): THE SAME DECLARATIONS UNDER THE SAME NAMES: 'import', 'namespace', 'open', 'def', 'theorem' AND NOTHING ELSE: no command of the shelf's: FOR A HAND-IN. Each laying: the table of numbers ('.._ren') and one theorem, a field a fact of the dump's own or the kernel's comparison; each contract: ONE APPLICATION.
-/
namespace Go.Proofs.YtbllehjhmfehbaaGreat
open Go.Shelf
def Tryz.sortRun_ren : Go.Shelf.Ren := ⟨fun | 6 => 87 | 15 => 92 | 14 => 124 | 28 => 134 | 29 => 135 | 20 => 171 | 21 => 172 | 22 => 173 | 23 => 174 | 24 => 175 | 25 => 176 | 26 => 177 | 27 => 178 | 46 => 206 | 47 => 182 | 48 => 183 | 49 => 207 | 50 => 208 | 57 => 232 | n => n, fun | 22 => 141 | 24 => 73 | 25 => 83 | 3 => 3 | 39 => 150 | 0 => 0 | 53 => 185 | 55 => 187 | 4 => 4 | 46 => 179 | 45 => 178 | 50 => 63 | 5 => 5 | 9 => 9 | 66 => 222 | 70 => 226 | 76 => 247 | 77 => 248 | n => n, fun | n => n⟩
theorem Tryz.sortRun : Go.Proofs.SlLaysF0.n6 Tryz.prog Tryz.sortRun_ren := {
 mixed := by kernel_rfl
 f6 := ⟨Tryz.f87.name, by decide, Tryz.func87.trans (congrArg some (by kernel_rfl))⟩
 f14 := ⟨Tryz.f124.name, by decide, Tryz.func124.trans (congrArg some (by kernel_rfl))⟩
 f15 := Tryz.func92.trans (congrArg some (by kernel_rfl))
 f20 := ⟨Tryz.f171.name, by decide, Tryz.func171.trans (congrArg some (by kernel_rfl))⟩
 f21 := ⟨Tryz.f172.name, by decide, Tryz.func172.trans (congrArg some (by kernel_rfl))⟩
 f22 := ⟨Tryz.f173.name, by decide, Tryz.func173.trans (congrArg some (by kernel_rfl))⟩
 f23 := ⟨Tryz.f174.name, by decide, Tryz.func174.trans (congrArg some (by kernel_rfl))⟩
 f24 := ⟨Tryz.f175.name, by decide, Tryz.func175.trans (congrArg some (by kernel_rfl))⟩
 f25 := ⟨Tryz.f176.name, by decide, Tryz.func176.trans (congrArg some (by kernel_rfl))⟩
 f26 := ⟨Tryz.f177.name, by decide, Tryz.func177.trans (congrArg some (by kernel_rfl))⟩
 f27 := ⟨Tryz.f178.name, by decide, Tryz.func178.trans (congrArg some (by kernel_rfl))⟩
 f28 := Tryz.func134.trans (congrArg some (by kernel_rfl))
 f29 := Tryz.func135.trans (congrArg some (by kernel_rfl))
 f46 := ⟨Tryz.f206.name, by decide, Tryz.func206.trans (congrArg some (by kernel_rfl))⟩
 f47 := Tryz.func182.trans (congrArg some (by kernel_rfl))
 f48 := Tryz.func183.trans (congrArg some (by kernel_rfl))
 f49 := ⟨Tryz.f207.name, by decide, Tryz.func207.trans (congrArg some (by kernel_rfl))⟩
 f50 := ⟨Tryz.f208.name, by decide, Tryz.func208.trans (congrArg some (by kernel_rfl))⟩
 f57 := ⟨Tryz.f232.name, by decide, Tryz.func232.trans (congrArg some (by kernel_rfl))⟩
 t0 := Tryz.underlying0
 a0 := Tryz.isAgg0
 z0 := Tryz.sizeOf0
 v0 := Tryz.zeroValue0
 t3 := Tryz.underlying3
 a3 := Tryz.isAgg3
 z3 := Tryz.sizeOf3
 v3 := Tryz.zeroValue3
 t4 := Tryz.underlying4
 a4 := Tryz.isAgg4
 z4 := Tryz.sizeOf4
 v4 := Tryz.zeroValue4
 t5 := Tryz.underlying5
 a5 := Tryz.isAgg5
 z5 := Tryz.sizeOf5
 v5 := Tryz.zeroValue5
 t9 := Tryz.underlying9
 a9 := Tryz.isAgg9
 z9 := Tryz.sizeOf9
 v9 := Tryz.zeroValue9
 t22 := Tryz.underlying141
 a22 := Tryz.isAgg141
 z22 := Tryz.sizeOf141
 v22 := Tryz.zeroValue141
 t25 := Tryz.underlying83
 a25 := Tryz.isAgg83
 z25 := Tryz.sizeOf83
 v25 := Tryz.zeroValue83
 t39 := Tryz.underlying150
 a39 := Tryz.isAgg150
 z39 := Tryz.sizeOf150
 v39 := Tryz.zeroValue150
 t45 := Tryz.underlying178
 a45 := Tryz.isAgg178
 z45 := Tryz.sizeOf178
 v45 := Tryz.zeroValue178
 t46 := Tryz.underlying179
 a46 := Tryz.isAgg179
 z46 := Tryz.sizeOf179
 v46 := Tryz.zeroValue179
 t50 := Tryz.underlying63
 a50 := Tryz.isAgg63
 z50 := Tryz.sizeOf63
 v50 := Tryz.zeroValue63
 t53 := Tryz.underlying185
 a53 := Tryz.isAgg185
 z53 := Tryz.sizeOf185
 v53 := Tryz.zeroValue185
 t55 := Tryz.underlying187
 a55 := Tryz.isAgg187
 z55 := Tryz.sizeOf187
 v55 := Tryz.zeroValue187
 t66 := Tryz.underlying222
 a66 := Tryz.isAgg222
 z66 := Tryz.sizeOf222
 v66 := Tryz.zeroValue222
 t70 := Tryz.underlying226
 a70 := Tryz.isAgg226
 z70 := Tryz.sizeOf226
 v70 := Tryz.zeroValue226
 t76 := Tryz.underlying247
 a76 := Tryz.isAgg247
 z76 := Tryz.sizeOf247
 v76 := Tryz.zeroValue247
 t77 := Tryz.underlying248
 a77 := Tryz.isAgg248
 z77 := Tryz.sizeOf248
 v77 := Tryz.zeroValue248 }
end Go.Proofs.YtbllehjhmfehbaaGreat
end

section
/- pull.compare; the sort of a row of units with types of the call's own. -/
namespace Go.Proofs.YtbllehjhmfehbaaGreat
open Go.RowKit Go.Sort Go.Lib Go.Shelf

namespace Od
def jpCmp (p q : Jp) : Int := orI [cmpS p.1 q.1, cmpI p.2 q.2]
set_option maxRecDepth 100000 in
set_option maxHeartbeats 1000000 in
theorem compareJ_any (a : Str) (x : Int) (a' : Str) (y : Int) (w : World) :
  Calls Tryz.prog 48 #[.agg #[sv a, .int .i64 x], .agg #[sv a', .int .i64 y]] w (GrowInt (jpCmp (a, x) (a', y)) w) := by
 have h3 : Rd ((((w.alloc (.cells #[sv a, .int .i64 x] 73)).alloc (.cells #[sv a', .int .i64 y] 73)).alloc (.cells #[.int .i64 (cmpS a a'), .int .i64 (cmpI x y)] 3)).drew) ((((w.alloc (.cells #[sv a, .int .i64 x] 73)).alloc (.cells #[sv a', .int .i64 y] 73)).alloc (.cells #[.int .i64 (cmpS a a'), .int .i64 (cmpI x y)] 3)).drew).heap.size 1 (some ⟨w.heap.size + 1 + 1, 0, none⟩) 2 (ints [cmpS a a', cmpI x y]) := by
  have h := (Rd.lit ((w.alloc (.cells #[sv a, .int .i64 x] 73)).alloc (.cells #[sv a', .int .i64 y] 73)) (ints [cmpS a a', cmpI x y]) 3 1 2 rfl).drew
  simp only [World.size_alloc] at h
  exact h.more (by simp)
 have H3 := Lib.hid h3
 clear h3
 go_enter Tryz.func48, Tryz.ntmps48
 go_wp2_with fail
 go_region_held3 (fun w' => w'.cell? ⟨w.heap.size, 0, none⟩ = some (sv a) ∧ w'.cell? ⟨w.heap.size, 1, none⟩ = some (.int .i64 x) ∧ w'.cell? ⟨w.heap.size + 1, 0, none⟩ = some (sv a') ∧ w'.cell? ⟨w.heap.size + 1, 1, none⟩ = some (.int .i64 y)) (go_keep)
  (first | (go_at_call 68; refine (CompareS_any _ _ _).mono ?_; rintro e w' ⟨rfl, rfl⟩) | (go_at_call 94; refine (CompareI_any _ _ _).mono ?_; rintro e w' ⟨rfl, rfl⟩) | (go_at_call 93; refine (Or_any (some ⟨w.heap.size + 1 + 1, 0, none⟩) 2 [cmpS a a', cmpI x y] _ H3.out (by simp)).mono ?_; rintro e w' ⟨rfl, rfl⟩))
 go_wp2_with fail
 go_ret
 exact ⟨rfl, 1, _, by rw [alloc_eq_grow, alloc_eq_grow, alloc_eq_grow, grow_grow, grow_grow, grow_drew]; rfl⟩
theorem jpCmp_lt (p q : Jp) : ltOf jpCmp p q = ltJ p q := by
 unfold ltOf jpCmp ltJ
 have hs : ∀ a b : Str, cmpS a b = if ltS a b = true then -1 else if a = b then 0 else 1 := fun _ _ => rfl
 have hi : ∀ a b : Int, cmpI a b = if a < b then -1 else if b < a then 1 else 0 := fun _ _ => rfl
 rw [hs, hi]
 by_cases h1 : ltS p.1 q.1 = true
 ·simp [h1, orI]
 ·by_cases h2 : p.1 = q.1
  ·rw [h2] at h1
   by_cases h3 : p.2 < q.2
   ·simp [h1, h2, h3, orI]
   ·by_cases h4 : q.2 < p.2
    ·simp [h1, h2, h3, h4, orI]
    ·simp [h1, h2, h3, h4, orI]
  ·simp [h1, h2, orI]
theorem jpCmp_fun : ltOf jpCmp = ltJ := by funext p q; exact jpCmp_lt p q
theorem swoJp : SWO (ltOf jpCmp) where
 irrefl x := by rw [jpCmp_fun]; exact toJ.irrefl x
 trans x y z h1 h2 := by rw [jpCmp_fun] at *; exact toJ.trans h1 h2
 ntrans x y z h1 h2 := by
  rw [jpCmp_fun] at *
  cases h : ltJ x z
  ·rfl
  ·exfalso
   cases h3 : ltJ y x
   ·rw [toJ.total h1 h3] at h; rw [h] at h2; cases h2
   ·have := toJ.trans h3 h; rw [this] at h2; cases h2
theorem flatK_jps (ps : List Jp) : flatK jpC 2 ps.toArray = (jpsC ps).toArray := by
 refine ext_get! (by simp [jpsC_len]) fun t ht => ?_
 have ht' : t < ps.length * 2 := by simpa using ht
 rw [get_flatK _ _ _ t (by simpa using ht')]
 have hi : t / 2 < ps.length := by omega
 have h := flat_at jpC 2 jpC_len ps (t / 2) (t % 2) hi (by omega)
 rw [show t / 2 * 2 + t % 2 = t by omega] at h
 have e1 : ps.toArray[t / 2]! = ps[t / 2] := by simp [hi]
 rw [e1]
 have e2 : (jpsC ps).toArray[t]! = ((jpsC ps)[t]?).getD default := by simp [List.getElem!_eq_getElem?_getD]
 rw [e2, show (jpsC ps)[t]? = (jpC ps[t / 2])[t % 2]? from h]
 simp [List.getElem!_eq_getElem?_getD]
def sortR (ps : List Jp) : List Jp := ps.mergeSort fun x y => !ltJ y x
theorem sortR_len (ps : List Jp) : (sortR ps).length = ps.length := by simp [sortR]
theorem mem_sortR {ps : List Jp} {p : Jp} : p ∈ sortR ps ↔ p ∈ ps := (List.mergeSort_perm _ _).mem_iff
theorem sortR_le (ps : List Jp) : LE ltJ (sortR ps) := by
 have h := List.pairwise_mergeSort (le := fun x y => !ltJ y x) (fun a b c h1 h2 => by
  simp only [Bool.not_eq_true'] at *
  have := swoJp.ntrans (x := c) (y := b) (z := a)
  rw [jpCmp_fun] at this
  exact this h2 h1) (fun a b => by
  cases h1 : ltJ b a
  ·simp
  ·cases h2 : ltJ a b
   ·simp
   ·have := toJ.trans h1 h2; rw [toJ.irrefl] at this; cases this) ps
 exact h.imp fun {a b} hab => by simpa using hab
theorem sortR_canon {ps : List Jp} (h : ps.Nodup) : sortR ps = canon ltJ ps := by
 refine SS.eq_canon toJ ?_ fun _ => mem_sortR
 have hn : (sortR ps).Nodup := (List.mergeSort_perm _ _).nodup_iff.2 h
 unfold SS
 refine List.pairwise_iff_getElem.2 fun i j hi hj hij => ?_
 have h1 := List.pairwise_iff_getElem.1 (sortR_le ps) i j hi hj hij
 have h2 := List.pairwise_iff_getElem.1 hn i j hi hj hij
 cases h3 : ltJ (sortR ps)[i] (sortR ps)[j]
 ·exact absurd (toJ.total h3 h1) h2
 ·rfl
set_option maxHeartbeats 1000000 in
theorem sortR_own (base c : Nat) (A : Option Addr) (ps : List Jp) (w : World) (h : w.ownsRow base 73 2 (.slice A ps.length c) ps.length (jpsC ps)) (hsz : ps.length ≤ 1000000) :
  Calls Tryz.prog 87 #[.slice A ps.length c, .func (.func 48) #[] #[]] w fun e w' => e = .returned (.tuple #[]) ∧ w'.ownsRow base 73 2 (.slice A ps.length c) ps.length (jpsC (sortR ps)) ∧ w.grownBy w' (Value.slice A ps.length c).ownBlock := by
 rcases h.2 with ⟨hv, hn⟩ | ⟨g, cap, cur, hv, hg, hb, h1, h2, h3, h4⟩
 ·have hnil : ps = [] := List.length_eq_zero_iff.1 hn
  subst hnil
  refine (show Calls Tryz.prog 87 _ w _ from AnyF.slices_SortFunc_none Tryz.sortRun A c _ w).mono ?_
  rintro e w' ⟨rfl, rfl⟩
  exact ⟨rfl, by simpa [sortR] using h, World.grownBy.refl _ _⟩
 ·injection hv with e1 _ e3
  subst e1 e3
  have hgl : g < w.heap.size := (Array.getElem?_eq_some_iff.1 hb).1
  have hlen := jpsC_len ps
  have eg : ∀ args w, (callFunc 48 args).run Tryz.prog w = .ok (.enter 48 args) w := enters_of Tryz.func48 (by kernel_rfl) rfl
  have hH : HoldsK jpC 2 w g 0 ps.toArray := by
   unfold HoldsK
   rw [flatK_jps]
   exact holds_row hb (by rw [hlen]; exact h4)
  have hcon := AnyQ.slices_SortFunc_total (P := Tryz.prog) Tryz.sortRun 2 (by intro w; exact Tryz.isAgg73 w) (by intro w; exact Tryz.sizeOf73 w) jpC jpC_len (fun x v hv => one_jpC x v hv) jpCmp swoJp 48 #[] g 0 c ps.toArray w eg
   (fun _ _ _ _ x y => compareJ_any x.1 x.2 y.1 y.2 _) hH hgl (by simp; omega) (by intro x y hx hy; rw [jpCmp_fun] at hx hy; exact toJ.total hx hy)
  change Calls Tryz.prog 87 _ _ _ at hcon
  simp only [List.size_toArray] at hcon
  refine hcon.mono ?_
  rintro e w' ⟨rfl, n, os, rfl⟩
  have hsort : (ps.mergeSort fun x y => !(ltOf jpCmp) y x) = sortR ps := by rw [jpCmp_fun]; rfl
  unfold sortWorldK putRowK
  rw [hsort, flatK_jps]
  have hl2 : (jpsC (sortR ps)).length = ps.length * 2 := by rw [jpsC_len, sortR_len]
  refine ⟨rfl, ⟨hl2, .inr ⟨g, c, _, rfl, hg, heap_row _ hb, h1, h2, by simp [putCells, h3], ?_⟩⟩, grownBy_row _⟩
  rw [← hl2]
  exact take_putCellsI cur _ (by omega)
end Od
end Go.Proofs.YtbllehjhmfehbaaGreat
end

section
/- (*closure).steps: who brings what, fewest steps first. (bel2) -/
namespace Go.Proofs.YtbllehjhmfehbaaGreat
open Go.RowKit Go.Sort Go.Maps
set_option linter.unusedSimpArgs false
namespace Od
theorem ClosAt.but {w w' : World} {cb mw B yB : Nat} {An Ae Au Ah : Option Addr} {nn cn ce cu ch : Nat} {es : List Ed} {up half : List Str} {out : Jp → Bool} (h : ClosAt w cb mw B An Ae Au Ah nn cn ce cu ch es up half out) (hk : Keeps (But w yB) w w') (h1 : B ≤ yB) (h2 : yB ≠ cb) (h3 : yB ≠ mw) : ClosAt w' cb mw B An Ae Au Ah nn cn ce cu ch es up half out :=
 h.kept (F := fun k => k = yB) (F' := fun k => k = yB) ⟨⟨hk.os, hk.tape, hk.output, hk.size, fun j hj => hk.block j hj⟩, fun _ h => .inl h⟩ (fun k hk => by subst hk; exact ⟨h1, h2, h3⟩)
/-- What steps$1 keeps of what it has taken. -/
def StS (first : Jp) (cand : List Jp) (cB jB nB cb mw yB base : Nat) (u : Str) (s0 : Ms × List Jp) (D : List Bg) (F : Nat → Prop) (w : World) : Prop :=
 ∃ v, StT first cand cB nB cb mw yB base ((bysB u D).foldl (addP noO) s0) v w ∧ w.cell? ⟨jB, 0, none⟩ = some (sv u) ∧ v.ownBlock ≠ some jB ∧ F = StF yB nB v ∧ mw < w.heap.size ∧ base ≤ w.heap.size
theorem steps_takes {first : Jp} {cand : List Jp} {cB jB nB cb mw yB base B : Nat} {u : Str} {s0 : Ms × List Jp} (ha : StA cB nB cb mw yB) (hj1 : jB ≠ yB) (hj2 : jB ≠ nB) (hok : ∀ k ∈ cand, okJ k) (hcl : cand.length ≤ 1000000) (h1 : B ≤ yB) (h2 : B ≤ nB) (h3 : B ≤ base) :
  TakesB 89 #[.pointer (some ⟨cB, 0, none⟩), .pointer (some ⟨jB, 0, none⟩), .pointer (some ⟨nB, 0, none⟩)] cb mw B cand (StS first cand cB jB nB cb mw yB base u s0) where
 enters := enters_of Tryz.func89 (by kernel_rfl) rfl
 on := by
  rintro D F W W' ⟨v, hT, hc, hv, rfl, hm, hb⟩ hbel
  exact ⟨v, hT.on hbel, cellAt hc hbel (cell_blk hc), hv, rfl, Nat.lt_of_lt_of_le hm hbel.size, Nat.le_trans hb hbel.size⟩
 low := by
  rintro D F W ⟨v, hT, hc, hv, rfl, hm, hb⟩
  exact hT.low ha h1 h2 h3
 says := by
  rintro D F W s t n ⟨v, hT, hc, hv, rfl, hm, hb⟩ hca
  refine (steps1_any first cand cB jB nB cb mw yB base u _ v s t n W hT ha hc ⟨hj1, hj2, hv⟩ hca (hok _ hca) hcl hm hb).mono ?_
  rintro e w' ⟨rfl, v', hT', hk⟩
  have hl := cell_blk hc
  refine ⟨rfl, StF yB nB v', ⟨v', ?_, hk.cell hc hl ?_, ?_, rfl, Nat.lt_of_lt_of_le hm hk.1.size, Nat.le_trans hb hk.1.size⟩, hk⟩
  ·unfold bysB at *
   rw [List.map_append, List.foldl_append]
   exact hT'
  ·rintro (h | h | h)
   ·exact hj1 h
   ·exact hj2 h
   ·exact hv h
  ·intro e
   rcases hk.2 jB (.inr (.inr e)) with (h | h | h) | h
   ·exact hj1 h
   ·exact hj2 h
   ·exact hv h
   ·exact absurd hl (by simp only; omega)
/-- In the middle of a layer, k jobs done. -/
def midP (E : Jp → List Bg) (out : Jp → Bool) (m : Ms) (R : List Jp) (k : Nat) : Ms × List Jp := ((R.take k).flatMap (brP E)).foldl (addP out) (m, [])
theorem midP_succ {E : Jp → List Bg} {out : Jp → Bool} {m : Ms} {R : List Jp} {k : Nat} (h : k < R.length) : midP E out m R (k + 1) = (bysB R[k].1 ((E R[k]).filter (fun b => !out b.1))).foldl (addP noO) (midP E out m R k) := by
 unfold midP
 rw [List.take_succ_eq_append_getElem h, List.flatMap_append, List.foldl_append, bysB_filter, fold_no]
 simp [bysB, brP]
theorem midP_all (E : Jp → List Bg) (out : Jp → Bool) (m : Ms) (R : List Jp) : midP E out m R R.length = stepP E out m R := by
 unfold midP stepP
 rw [List.take_length]
set_option maxRecDepth 100000 in
set_option maxHeartbeats 16000000 in
theorem steps_any (cb mw yB B : Nat) (An Ae Au Ah : Option Addr) (nn cn ce cu ch : Nat) (es : List Ed) (up half : List Str) (out : Jp → Bool) (u : Str) (t : Int) (w : World)
  (hcl : ClosAt w cb mw B An Ae Au Ah nn cn ce cu ch es up half out) (c5 : w.cell? ⟨cb, 5, none⟩ = some (.map (some yB))) (hy : MapIs kindJ w yB 0 (fun _ => none)) (ha1 : yB ≠ cb) (ha2 : yB ≠ mw) (hBy : B ≤ yB) (hok : ∀ k ∈ candB es, okJ k) (hof : okJ (u, t)) :
  Calls Tryz.prog 44 #[.pointer (some ⟨cb, 0, none⟩), .agg #[sv u, .int .i64 t]] w fun e w' => e = .returned (.tuple #[]) ∧
   MapIs kindJ w' yB (layP (bringB es up half) out (6 * es.length + 1) [((u, t), [])] [(u, t)]).length (byV (layP (bringB es up half) out (6 * es.length + 1) [((u, t), [])] [(u, t)])) ∧ Keeps (But w yB) w w' := by
 have HC := Lib.hid hcl
 have HY := Lib.hid hy
 have HK := Lib.hid hok
 have hcl0 := hcl.lt
 have hml0 := hcl.mlt
 have hy0 := hy.lt
 have hyw := hy.lt
 have hcw := hcl.lt
 have hBw := hcl.lb
 have hmw := hcl.mlt
 have hel := hcl.el
 have hlb := hcl.lb
 clear hcl hy hok
 have hcand : (candB es).length = 6 * es.length := candB_len es
 have hhead : Head (bringB es up half) out (u, t) (candB es) (layP (bringB es up half) out (6 * es.length + 1) [((u, t), [])] [(u, t)]) (6 * es.length + 1) [((u, t), [])] [(u, t)] := by
  have := Head.zero (E := bringB es up half) (out := out) (first := (u, t)) (cand := candB es)
  rw [hcand] at this; exact this
 have HH0 := Lib.hid hhead
 clear hhead
 generalize layP (bringB es up half) out (6 * es.length + 1) [((u, t), [])] [(u, t)] = fin at *
 have HCd := Lib.hid (show ∀ j b, b ∈ bringB es up half j → b.1 ∈ candB es from bring_cand)
 have hcl6 : (candB es).length ≤ 60000 := by omega
 have HCl := Lib.hid hcl6
 clear hcl6
 have HCdl := Lib.hid hcand
 clear hcand
 generalize hE : bringB es up half = E at HH0 HCd
 have HE := Lib.hid hE
 clear hE
 go_enter Tryz.func44, Tryz.ntmps44
 go_wp2_with fail
 first | (refine wp_named ?_; intro W1 hW) | (refine calls_named ?_; intro W1 hW)
 have B1 : Below w.heap.size w W1 := by rw [hW]; exact bq2
 replace c5 := cellAt c5 B1 (by omega)
 replace HC := Lib.hid (HC.out.on B1)
 replace HY := Lib.hid (HY.out.on B1)
 replace hcl0 : cb < W1.heap.size := ltAt hcl0 B1
 replace hml0 : mw < W1.heap.size := ltAt hml0 B1
 replace hy0 : yB < W1.heap.size := ltAt hy0 B1
 replace hlb : B ≤ W1.heap.size := leAt hlb B1
 have n1 : w.heap.size < W1.heap.size := by rw [hW]; simp <;> omega
 have n2 : (w.heap.size + 1) < W1.heap.size := by rw [hW]; simp <;> omega
 have p0 : W1.cell? ⟨w.heap.size, 0, none⟩ = some (.pointer (some ⟨cb, 0, none⟩)) := by rw [hW]; go_simp
 have q0 : W1.cell? ⟨(w.heap.size + 1), 0, none⟩ = some (sv u) := by rw [hW]; go_simp
 have q1 : W1.cell? ⟨(w.heap.size + 1), 1, none⟩ = some (.int .i64 t) := by rw [hW]; go_simp
 have hzz : w.heap.size + 2 ≤ W1.heap.size := by rw [hW]; simp
 clear hW
 have HB1 := Lib.hid B1
 clear B1
 have x1 : ¬ w.heap.size = yB := by omega
 have x2 : ¬ w.heap.size + 1 = yB := by omega
 have x3 : ¬ cb = yB := fun e => ha1 e.symm
 have HC1 := Lib.hid HC.out
 have k5 := c5
 have l1 := n1
 have lc := hcl0
 have k0 := p0
 try go_wp2_with fail
 refine wp_region_held_drew (S := fun w' => Keeps (But W1 yB) W1 w') (by kernel_rfl) (But.below (Below.drew (Below.refl _ _))) (fun hHeld => ?_)
 refine tV 0 ?_ ?zq ?_; (case zq => intro w' hSw; have hCell := fun (b o : Nat) (h : b < W1.heap.size) (h2 : ¬ b = yB) => World.cell?_of_block (a := ⟨b, o, none⟩) (hSw.block b ⟨h, h2⟩); clear hSw; go_simp; try with_reducible rfl); try simp only [Act.put, zn1, zn2, zn3]
 refine tV 1 ?_ ?zq ?_; (case zq => rintro _ -; go_simp; try with_reducible rfl); try simp only [Act.put, zn1, zn2, zn3]
 refine tV 2 ?_ ?zq ?_; (case zq => rintro _ -; go_simp; try with_reducible rfl); try simp only [Act.put, zn1, zn2, zn3]
 refine tV 3 ?_ ?zq ?_; (case zq => intro w' hSw; have hCell := fun (b o : Nat) (h : b < W1.heap.size) (h2 : ¬ b = yB) => World.cell?_of_block (a := ⟨b, o, none⟩) (hSw.block b ⟨h, h2⟩); clear hSw; go_simp; try with_reducible rfl); try simp only [Act.put, zn1, zn2, zn3]
 refine tV 4 ?_ ?zq ?_; (case zq => intro w' hSw; have hCell := fun (b o : Nat) (h : b < W1.heap.size) (h2 : ¬ b = yB) => World.cell?_of_block (a := ⟨b, o, none⟩) (hSw.block b ⟨h, h2⟩); clear hSw; go_simp; try with_reducible rfl); try simp only [Act.put, zn1, zn2, zn3]
 refine ready_one (i := 5) rfl (by kernel_rfl) (fun K hK => ?_)
 refine step_update_is _ (by rfl) (.tmp 11) (.tmp 12) (.const (.string ⟨#[]⟩)) 78 (by rfl) 9 Tryz.underlying78 yB 0 _ (by rfl) HY.out (by decide) (u, t) (sv []) (by rfl) (by rfl) hof ?_
 intro w5 hm5 hg5
 have hS := But.trans hHeld (But.grown hg5)
 have HM5 := Lib.hid (MapIs.if_ hm5)
 clear hm5 hg5
 refine hK.out _ _ ?_ (fun hHeld2 => ?_)
 ·(try dsimp only); exact hS
 clear hK K hHeld; have hHeld := hHeld2; clear hHeld2; (try simp only [Act.put, zn1, zn2, zn3])
 refine wpAnyH_done (by kernel_rfl) ?_ _
 replace c5 := cellK c5 hHeld (by omega) (by omega)
 replace p0 := cellK p0 hHeld (by omega) (by omega)
 replace q0 := cellK q0 hHeld (by omega) (by omega)
 replace q1 := cellK q1 hHeld (by omega) (by omega)
 replace HC := Lib.hid ((HC.out.but hHeld hBy ha1 ha2))
 clear HY
 replace hcl0 : cb < w5.heap.size := Nat.lt_of_lt_of_le hcl0 (Keeps.size hHeld)
 replace hml0 : mw < w5.heap.size := Nat.lt_of_lt_of_le hml0 (Keeps.size hHeld)
 replace hy0 : yB < w5.heap.size := Nat.lt_of_lt_of_le hy0 (Keeps.size hHeld)
 replace hlb : B ≤ w5.heap.size := Nat.le_trans hlb (Keeps.size hHeld)
 replace n1 : w.heap.size < w5.heap.size := Nat.lt_of_lt_of_le n1 (Keeps.size hHeld)
 replace n2 : (w.heap.size + 1) < w5.heap.size := Nat.lt_of_lt_of_le n2 (Keeps.size hHeld)
 have HK5 := Lib.hid hHeld
 have hz5 := hHeld.size
 clear hHeld
 have HM6 := Lib.hid (show MapIs kindJ w5 yB 1 (byV [((u, t), [])]) by
  have h0 := HM5.out
  have e0 : (fun y => if y = (u, t) then some (sv []) else byV ([] : Ms) y) = byV ([] ++ [((u, t), [])]) := byV_push (m := []) rfl
  have h1 : MapIs kindJ w5 yB 1 (byV ([] ++ [((u, t), [])])) := by rw [← e0]; exact h0
  exact h1)
 clear HM5
 go_wp2_with fail
 first | (refine wp_named ?_; intro W6 hW) | (refine calls_named ?_; intro W6 hW)
 have B6 : Below w5.heap.size w5 W6 := by rw [hW]; exact bq2
 replace c5 := cellAt c5 B6 (by omega)
 replace p0 := cellAt p0 B6 (by omega)
 replace q0 := cellAt q0 B6 (by omega)
 replace q1 := cellAt q1 B6 (by omega)
 replace HC := Lib.hid (HC.out.on B6)
 replace hcl0 : cb < W6.heap.size := ltAt hcl0 B6
 replace hml0 : mw < W6.heap.size := ltAt hml0 B6
 replace hy0 : yB < W6.heap.size := ltAt hy0 B6
 replace hlb : B ≤ W6.heap.size := leAt hlb B6
 replace n1 : w.heap.size < W6.heap.size := ltAt n1 B6
 replace n2 : (w.heap.size + 1) < W6.heap.size := ltAt n2 B6
 replace HM6 := Lib.hid (HM6.out.on B6)
 replace HK5 := Lib.hid (But.two HK5.out B6)
 have ho6 : W6.ownsRow W1.heap.size 73 2 (.slice (some ⟨w5.heap.size, 0, none⟩) 1 1) 1 (jpsC [(u, t)]) := by rw [hW]; exact own_base (own_lit [sv u, .int .i64 t] rfl (by decide)) hz5
 clear hW
 clear B6
 have HO6 := Lib.hid ho6
 clear ho6 p0 q0 q1 c5
 go_loopg [4] (6 * es.length + 1) (fun g s4 wr => ∃ (m : Ms) (r : List Jp) (A : Option Addr) (c : Nat), s4 = .slice A r.length c ∧ Hid (Head E out (u, t) (candB es) fin g m r) ∧ Hid (wr.ownsRow W1.heap.size 73 2 (.slice A r.length c) r.length (jpsC r)) ∧ Hid (MapIs kindJ wr yB m.length (byV m)) ∧ Hid (Keeps (But W1 yB) W1 wr))
 case atStart => exact ⟨[((u, t), [])], [(u, t)], _, _, rfl, HH0, HO6, HM6, HK5⟩
 case round =>
  obtain ⟨m, r, A, c, rfl, HH, HO, HM, HKr⟩ := hrel
  obtain ⟨w9, rfl⟩ : ∃ wo : World, wo = wr := ⟨_, rfl⟩
  have hz9 := HKr.out.size
  have hz8 : w.heap.size + 2 ≤ w9.heap.size := by omega
  have e0 := cellK k0 HKr.out l1 x1
  have e5 := cellK k5 HKr.out lc x3
  have HC9 := Lib.hid (HC1.out.but HKr.out hBy ha1 ha2)
  have HRb := Lib.hid (show ∀ b, (Value.slice A r.length c).ownBlock = some b → W1.heap.size ≤ b ∧ b < w9.heap.size from HO.out.lt)
  have hrl := HH.out.rl
  have hrl2 : r.length ≤ 60001 := by have := HCl.out; omega
  clear hrl
  by_cases hr : r = []
  ·subst hr
   have hm : m = fin := HH.out.done
   subst hm
   go_wp2_with fail
   refine bodyPost_end (results_none rfl _ _ _) rfl ?_
   refine ⟨rfl, HM.out, ?_⟩
   have hk := HKr.out
   exact ⟨hk.os.trans HB1.out.os, hk.tape.trans HB1.out.tape, hk.output.trans HB1.out.output, Nat.le_trans HB1.out.size hk.size, fun j hj => (hk.block j ⟨Nat.lt_of_lt_of_le hj.1 HB1.out.size, hj.2⟩).trans (HB1.out.block j hj.1)⟩
  ·obtain ⟨g', hg', hnx⟩ := HH.out.next HCd.out hr
   subst hg'
   have HNx := Lib.hid hnx
   clear hnx
   have hsc := sortR_canon HH.out.nd
   have HSc := Lib.hid hsc
   clear hsc
   have hpos : 0 < r.length := List.length_pos_iff.2 hr
   have hd0 : decide (0 < r.length) = true := by simpa using hpos
   have hmid := HH.out.mid
   have HMid := Lib.hid hmid
   clear hmid
   have hR := sortR_len r
   rw [HSc.out] at hR
   have HR := Lib.hid hR
   clear hR
   have l9 : w.heap.size < w9.heap.size := by omega
   have c9 : cb < w9.heap.size := by omega
   have y9 : yB < w9.heap.size := by omega
   have m9 := HC9.out.mlt
   go_wp2_with fail
   first | (refine wp_named ?_; intro W2 hW) | (refine calls_named ?_; intro W2 hW)
   have B2 : Below w9.heap.size w9 W2 := by rw [hW]; exact bq2
   replace e0 := cellAt e0 B2 (by omega)
   replace e5 := cellAt e5 B2 (by omega)
   replace HC9 := Lib.hid (HC9.out.on B2)
   replace HM := Lib.hid (HM.out.on B2)
   replace HO := Lib.hid (own_on HO.out B2)
   replace HKr := Lib.hid (But.two HKr.out B2)
   replace l9 : w.heap.size < W2.heap.size := ltAt l9 B2
   replace c9 : cb < W2.heap.size := ltAt c9 B2
   replace y9 : yB < W2.heap.size := ltAt y9 B2
   replace m9 : mw < W2.heap.size := ltAt m9 B2
   have n9 : w9.heap.size < W2.heap.size := by rw [hW]; simp <;> omega
   have z0 : W2.cell? ⟨w9.heap.size, 0, none⟩ = some (.slice none 0 0) := by rw [hW]; go_simp
   have zf : W2.frozen? ⟨w9.heap.size, 0, none⟩ = false := by rw [hW]; go_simp
   clear hW
   clear B2
   refine (sortR_own W1.heap.size c A r W2 HO.out (by omega)).mono ?_
   rintro e W3 ⟨rfl, ho3, hg3⟩
   rw [HSc.out] at ho3
   have q0 : (Value.slice A r.length c).ownBlock ≠ some w.heap.size := fun e => by have := (HRb.out _ e).1; omega
   have q1 : (Value.slice A r.length c).ownBlock ≠ some cb := fun e => by have := (HRb.out _ e).1; omega
   have q2 : (Value.slice A r.length c).ownBlock ≠ some yB := fun e => by have := (HRb.out _ e).1; omega
   have q3 : (Value.slice A r.length c).ownBlock ≠ some w9.heap.size := fun e => by have := (HRb.out _ e).2; omega
   have hst : StT (u, t) (candB es) w.heap.size w9.heap.size cb mw yB W1.heap.size (m, []) (.slice none 0 0) W3 :=
    ⟨cell_kept e0 hg3 l9 q0, cell_kept e5 hg3 c9 q1, cell_kept z0 hg3 n9 q3, fro_kept zf hg3 n9 q3, World.ownsRow_nil _ _ _ _, HM.out.kept hg3 (fun e => q2 e.symm), HMid.out, fun b hb => by cases hb⟩
   have HSt := Lib.hid hst
   have hc3 : ClosAt W3 cb mw B An Ae Au Ah nn cn ce cu ch es up half out := HC9.out.kept (F := fun k => (Value.slice A r.length c).ownBlock = some k) (F' := fun _ => False) ⟨⟨hg3.os, hg3.tape, hg3.output, hg3.size, fun j hj => hg3.block j hj.1 (fun e => hj.2 e.symm)⟩, fun _ h => h.elim⟩ (fun k hk => by
    have h1 := HRb.out k hk
    have h2 := hcw
    exact ⟨by omega, by omega, by omega⟩)
   have HC3 := Lib.hid hc3
   have hk3 : Keeps (But W1 yB) W1 W3 := by
    have hk := HKr.out
    refine ⟨hg3.os.trans hk.os, hg3.tape.trans hk.tape, hg3.output.trans hk.output, Nat.le_trans hk.size hg3.size, fun j hj => (hg3.block j (Nat.lt_of_lt_of_le hj.1 hk.size) (fun e => ?_)).trans (hk.block j hj)⟩
    have := (HRb.out j e.symm).1
    have := hj.1
    omega
   have HK3 := Lib.hid hk3
   have hz3 := hg3.size
   have HO3 := Lib.hid ho3
   clear hst hc3 hk3 hg3 ho3 e0 e5 z0 zf HO HM HKr HC9
   generalize canon ltJ r = R at HO3 HNx HR HSc
   clear HSc
   have hnB : W1.heap.size ≤ w9.heap.size := hz9
   have hsa : StA w.heap.size w9.heap.size cb mw yB := ⟨by omega, by omega, ha1, by omega, by omega, by omega, ha2⟩
   have HSa := Lib.hid hsa
   clear hsa
   have z3 : w9.heap.size < W3.heap.size := by omega
   have y3 : yB < W3.heap.size := by omega
   have m3 : mw < W3.heap.size := by omega
   go_wp2_with fail
   go_loopw [22] (fun i wr => ∃ (k : Nat) (v : Value), k ≤ r.length ∧ i = .int .i64 k ∧ Hid (StT (u, t) (candB es) w.heap.size w9.heap.size cb mw yB W1.heap.size (midP E out m R k) v wr) ∧ Hid (TookB (StF yB w9.heap.size (.slice none 0 0)) (StF yB w9.heap.size v) W3 wr)) (fun i _ => r.length - (intOf i).toNat)
   case atStart => exact ⟨0, .slice none 0 0, Nat.zero_le _, rfl, HSt, TookB.refl _ _⟩
   case round =>
    obtain ⟨k, v, hk, rfl, HSx, HTx⟩ := hrel
    have hzr := HTx.out.1.size
    have e0 := HSx.out.cc
    have en := HSx.out.nc
    have fn := HSx.out.nf
    have l0 : w.heap.size < wr.heap.size := by omega
    have ln : w9.heap.size < wr.heap.size := by omega
    by_cases hlt : k < r.length
    ·have hox := HTx.out.own HO3.out (fun b hb => by
      have h1 := HRb.out b hb
      rintro (h | h | h)
      ·omega
      ·omega
      ·cases h)
     have hrd : Rd wr wr.heap.size 2 A R.length (jpsC R) := by rw [HR.out]; exact own_rd' hox
     have hcx := HC3.out.kept HTx.out (by
      rintro j (h | h | h)
      ·subst h; exact ⟨hBy, ha1, ha2⟩
      ·subst h; exact ⟨by omega, by omega, by omega⟩
      ·cases h)
     have HCx := Lib.hid hcx
     have hkR : k < R.length := by rw [HR.out]; exact hlt
     obtain ⟨bb, o, hA, hB, x0', x1'⟩ := hrd.jp hkR
     have hms := midP_succ (E := E) (out := out) (m := m) hkR
     have Hown := Lib.hid HSx.out.own.lt
     subst hA
     generalize R[k] = x at x0' x1' hms
     obtain ⟨s', t'⟩ := x
     simp only at x0' x1' hms
     have HMs := Lib.hid hms
     have m1 : (0 : Int) ≤ (k : Int) := by omega
     have m2 : (k : Int) < (r.length : Int) := by omega
     clear hms hox hrd hcx hkR
     go_wp2_with fail
     first | (refine wp_named ?_; intro W4 hW) | (refine calls_named ?_; intro W4 hW)
     have B4 : Below wr.heap.size wr W4 := by rw [hW]; exact bq2
     replace e0 := cellAt e0 B4 (by omega)
     replace HSx := Lib.hid (HSx.out.on B4)
     replace HCx := Lib.hid (HCx.out.on B4)
     replace HTx := Lib.hid (HTx.out.then B4)
     replace l0 : w.heap.size < W4.heap.size := ltAt l0 B4
     have n4 : wr.heap.size < W4.heap.size := by rw [hW]; simp <;> omega
     have j0 : W4.cell? ⟨wr.heap.size, 0, none⟩ = some (sv s') := by rw [hW]; go_simp
     clear hW
     have hz4 := B4.size
     clear B4 x0' x1'
     have htk := steps_takes (first := (u, t)) (cand := candB es) (cB := w.heap.size) (jB := wr.heap.size) (nB := w9.heap.size) (base := W1.heap.size) (B := B) (u := s') (s0 := midP E out m R k) HSa.out (by omega) (by omega) HK.out (by have := HCl.out; omega) hBy (by omega) (by omega)
     have HTk := Lib.hid htk
     have hS0 : StS (u, t) (candB es) w.heap.size wr.heap.size w9.heap.size cb mw yB W1.heap.size s' (midP E out m R k) [] (StF yB w9.heap.size v) W4 :=
      ⟨v, HSx.out, j0, fun e => by have := (Hown.out _ e).2; omega, rfl, by omega, by omega⟩
     have HS0 := Lib.hid hS0
     clear htk hS0
     refine (each_any _ _ _ cb mw B An Ae Au Ah nn cn ce cu ch es up half out s' t' [] _ W4 HTk.out HS0.out HCx.out HK.out).mono ?_
     rintro e W5 ⟨rfl, F', ⟨v', hT', -, -, rfl, -, -⟩, hk5⟩
     rw [List.nil_append, HE.out, ← HMs.out] at hT'
     have HS5 := Lib.hid hT'
     have HT5 := Lib.hid (HTx.out.trans hk5)
     clear hT' hk5
     go_wp2_with fail
     go_roundw
     case rel => exact ⟨k + 1, v', by omega, by go_num, HS5, HT5⟩
     case measure => simp [intOf]; omega
    ·obtain rfl : k = r.length := by omega
     rw [← HR.out, midP_all] at HSx
     obtain ⟨A', c', hv, _⟩ := own_rd HSx.out.own
     subst hv
     have hkp : Keeps (But W1 yB) W1 wr := by
      have h1 := HK3.out
      have h2 := HTx.out.1
      refine ⟨h2.os.trans h1.os, h2.tape.trans h1.tape, h2.output.trans h1.output, Nat.le_trans h1.size h2.size, fun j hj => (h2.block j ⟨Nat.lt_of_lt_of_le hj.1 h1.size, ?_⟩).trans (h1.block j hj)⟩
      rintro (h | h | h)
      ·exact hj.2 h
      ·have := hj.1; omega
      ·cases h
     have HKp := Lib.hid hkp
     clear hkp
     go_wp2_with fail
     go_roundg g'
     case measure => omega
     case rel => exact ⟨(stepP E out m R).1, (stepP E out m R).2, A', c', rfl, HNx, HSx.out.own, HSx.out.mp, HKp⟩
end Od
end Go.Proofs.YtbllehjhmfehbaaGreat
end

section
/- The closure of (*closure).needs: who is needed and new is put behind the row. (bel2) -/
namespace Go.Proofs.YtbllehjhmfehbaaGreat
open Go.RowKit Go.Sort Go.Maps
set_option linter.unusedSimpArgs false
namespace Od
def inV (N : List Jp) (k : Jp) : Option Value := if N.contains k = true then some (.bool true) else none
theorem inV_get (N : List Jp) (k : Jp) : (inV N k).getD (.bool false) = .bool (N.contains k) := by
 unfold inV; cases h : N.contains k <;> simp
theorem inV_push (N : List Jp) (k : Jp) : (fun y => if y = k then some (Value.bool true) else inV N y) = inV (N ++ [k]) := by
 funext y
 unfold inV
 by_cases e : y = k
 ·subst e; simp
 ·rw [if_neg e]
  have : (N ++ [k]).contains y = N.contains y := by
   rw [Bool.eq_iff_iff]
   simp [e]
  rw [this]
structure NMid (first : Jp) (cand N : List Jp) : Prop where
 nd : N.Nodup
 inC : ∀ k ∈ N, k ∈ first :: cand
theorem NMid.len {first : Jp} {cand N : List Jp} (h : NMid first cand N) : N.length ≤ cand.length + 1 := by
 have := nodup_len h.nd h.inC
 simpa using this
theorem NMid.push {first : Jp} {cand N : List Jp} (h : NMid first cand N) {k : Jp} (hk : N.contains k = false) (hc : k ∈ cand) : NMid first cand (N ++ [k]) := by
 have hk' : k ∉ N := by simpa using hk
 refine ⟨?_, fun j hj => ?_⟩
 ·rw [List.nodup_append]
  refine ⟨h.nd, by simp, fun a ha b hb e => ?_⟩
  rw [List.mem_singleton] at hb
  exact hk' (by rw [← hb, ← e]; exact ha)
 ·rcases List.mem_append.1 hj with hj | hj
  ·exact h.inC j hj
  ·rw [List.mem_singleton.1 hj]; exact .tail _ hc
/-- What the taker of needs finds. -/
structure NdT (first : Jp) (cand : List Jp) (cB tB cb mw yB base : Nat) (N : List Jp) (i : Nat) (v : Value) (w : World) : Prop where
 cc : w.cell? ⟨cB, 0, none⟩ = some (.pointer (some ⟨cb, 0, none⟩))
 c6 : w.cell? ⟨cb, 6, none⟩ = some (.map (some yB))
 tc : w.cell? ⟨tB, 0, none⟩ = some v
 tf : w.frozen? ⟨tB, 0, none⟩ = false
 row : Tail w base 2 v (N.drop i).length (jpsC (N.drop i))
 mp : MapIs kindJ w yB N.length (inV N)
 mid : NMid first cand N
 le : i ≤ N.length
 sep : ∀ b, v.ownBlock = some b → b ≠ yB ∧ b ≠ tB ∧ b ≠ cB ∧ b ≠ cb ∧ b ≠ mw
structure NdA (cB tB cb mw yB : Nat) : Prop where
 a1 : yB ≠ cB
 a2 : yB ≠ tB
 a3 : yB ≠ cb
 a4 : tB ≠ cB
 a5 : tB ≠ cb
 a6 : tB ≠ mw
 a7 : yB ≠ mw
def NdF (yB tB : Nat) (v : Value) (k : Nat) : Prop := k = yB ∨ k = tB ∨ v.ownBlock = some k
section
variable {first : Jp} {cand : List Jp} {cB tB cb mw yB base i : Nat} {N : List Jp} {v : Value} {w w' : World}
theorem NdT.on (h : NdT first cand cB tB cb mw yB base N i v w) (hb : Below w.heap.size w w') : NdT first cand cB tB cb mw yB base N i v w' := by
 have c : ∀ {b o : Nat} {x : Value}, w.cell? ⟨b, o, none⟩ = some x → w'.cell? ⟨b, o, none⟩ = some x := fun c => cellAt c hb (cell_blk c)
 have hl := cell_blk h.tc
 exact ⟨c h.cc, c h.c6, c h.tc, froAt h.tf hb hl, h.row.on hb, h.mp.on hb, h.mid, h.le, h.sep⟩
theorem NdT.low (h : NdT first cand cB tB cb mw yB base N i v w) (ha : NdA cB tB cb mw yB) {B : Nat} (h1 : B ≤ yB) (h2 : B ≤ tB) (h3 : B ≤ base) : ∀ k, NdF yB tB v k → (B ≤ k ∧ k ≠ cb ∧ k ≠ mw) ∧ k < w.heap.size := by
 rintro k (rfl | rfl | hk)
 ·exact ⟨⟨h1, ha.a3, ha.a7⟩, h.mp.lt⟩
 ·exact ⟨⟨h2, ha.a5, ha.a6⟩, cell_blk h.tc⟩
 ·have h5 := h.row.lt hk
  have h6 := h.sep k hk
  exact ⟨⟨by omega, h6.2.2.2.1, h6.2.2.2.2⟩, h5.2⟩
theorem NdT.put (h : NdT first cand cB tB cb mw yB base N i v w) (ha : NdA cB tB cb mw yB) {k : Jp} (hkn : N.contains k = false) (hc : k ∈ cand) {w5 w7 : World} {A8 : Option Addr} {c8 : Nat}
  (hm5 : MapIs kindJ w5 yB (N.length + 1) (fun y => if y = k then some (.bool true) else inV N y)) (hk5 : Keeps (But w yB) w w5)
  (hown : Tail w7 base 2 (.slice A8 ((N.drop i).length + 1) c8) ((N.drop i).length + 1) (jpsC (N.drop i) ++ jpC k)) (hg : w5.grownBy w7 v.ownBlock)
  (hat : (Value.slice A8 ((N.drop i).length + 1) c8).ownBlock = v.ownBlock ∨ (Value.slice A8 ((N.drop i).length + 1) c8).ownBlock = some (w5.heap.size + 1)) (hmw : mw < w.heap.size) :
  NdT first cand cB tB cb mw yB base (N ++ [k]) i (.slice A8 ((N.drop i).length + 1) c8) (w7.setCell ⟨tB, 0, none⟩ (.slice A8 ((N.drop i).length + 1) c8)) ∧
   TookB (NdF yB tB v) (NdF yB tB (.slice A8 ((N.drop i).length + 1) c8)) w (w7.setCell ⟨tB, 0, none⟩ (.slice A8 ((N.drop i).length + 1) c8)) := by
 have hl1 := cell_blk h.cc
 have hl2 := cell_blk h.c6
 have hl3 := cell_blk h.tc
 simp only at hl1 hl2 hl3
 have hly := h.mp.lt
 have hs5 := hk5.size
 have hs7 := hg.size
 have hsv := h.sep
 have hb : ∀ j, j < w.heap.size → j ≠ yB → j ≠ tB → v.ownBlock ≠ some j → (w7.setCell ⟨tB, 0, none⟩ (.slice A8 ((N.drop i).length + 1) c8)).heap[j]? = w.heap[j]? := fun j hj h1 h2 h3 => by
  rw [(grownBy_setCell w7 ⟨tB, 0, none⟩ (.slice A8 ((N.drop i).length + 1) c8)).block j (by omega) (fun e => h2 (by injection e)), hg.block j (by omega) (fun e => h3 e.symm), hk5.block j ⟨hj, h1⟩]
 have hc' : ∀ {b o : Nat} {x : Value}, w.cell? ⟨b, o, none⟩ = some x → b < w.heap.size → b ≠ yB → b ≠ tB → v.ownBlock ≠ some b → (w7.setCell ⟨tB, 0, none⟩ (.slice A8 ((N.drop i).length + 1) c8)).cell? ⟨b, o, none⟩ = some x := fun c h0 h1 h2 h3 => (World.cell?_of_block (a := ⟨_, _, none⟩) (hb _ h0 h1 h2 h3)).trans c
 have n1 : v.ownBlock ≠ some cB := fun e => (hsv _ e).2.2.1 rfl
 have n2 : v.ownBlock ≠ some cb := fun e => (hsv _ e).2.2.2.1 rfl
 have n3 : v.ownBlock ≠ some tB := fun e => (hsv _ e).2.1 rfl
 have n4 : v.ownBlock ≠ some yB := fun e => (hsv _ e).1 rfl
 have n5 : v.ownBlock ≠ some mw := fun e => (hsv _ e).2.2.2.2 rfl
 have c5 := cellK h.tc hk5 hl3 (fun e => ha.a2 e.symm)
 have f5 := froK h.tf hk5 hl3 (fun e => ha.a2 e.symm)
 have c7 := cell_kept c5 hg (by omega) n3
 have f7 := fro_kept f5 hg (by omega) n3
 have hnew : ∀ b, (Value.slice A8 ((N.drop i).length + 1) c8).ownBlock = some b → v.ownBlock = some b ∨ w.heap.size ≤ b := fun b hb => by
  rcases hat with h0 | h0
  ·exact .inl (h0 ▸ hb)
  ·rw [h0] at hb; injection hb with hb; exact .inr (by omega)
 have hne : (Value.slice A8 ((N.drop i).length + 1) c8).ownBlock ≠ some tB := fun e => by
  rcases hnew _ e with h0 | h0
  ·exact n3 h0
  ·omega
 have hdr : (N ++ [k]).drop i = N.drop i ++ [k] := by rw [List.drop_append_of_le_length h.le]
 refine ⟨⟨hc' h.cc hl1 (fun e => ha.a1 e.symm) (fun e => ha.a4 e.symm) n1, hc' h.c6 hl2 (fun e => ha.a3 e.symm) (fun e => ha.a5 e.symm) n2, World.cell?_setCell_same _ _ _ c7, by rw [World.frozen?_setCell]; exact f7, ?_, ?_, h.mid.push hkn hc, by rw [List.length_append]; have := h.le; omega, fun b hb => ?_⟩, ?_, ?_⟩
 ·have h0 := hown.kept (grownBy_setCell w7 ⟨tB, 0, none⟩ (.slice A8 ((N.drop i).length + 1) c8)) (fun g h1 h2 => hne (h1.trans h2))
  rw [hdr, List.length_append, jpsC_app, jpsC_one]
  exact h0
 ·rw [inV_push] at hm5
  have h0 := (hm5.kept hg (fun e => n4 e.symm)).kept (grownBy_setCell w7 ⟨tB, 0, none⟩ (.slice A8 ((N.drop i).length + 1) c8)) (fun e => ha.a2 (by injection e))
  rw [List.length_append]
  exact h0
 ·rcases hnew _ hb with h0 | h0
  ·exact hsv _ h0
  ·exact ⟨by omega, by omega, by omega, by omega, by omega⟩
 ·refine ⟨?_, ?_, ?_, ?_, fun j hj => hb j hj.1 (fun e => hj.2 (.inl e)) (fun e => hj.2 (.inr (.inl e))) (fun e => hj.2 (.inr (.inr e)))⟩
  ·exact hg.os.trans hk5.os
  ·exact hg.tape.trans hk5.tape
  ·exact hg.output.trans hk5.output
  ·simp only [World.size_setCell]; omega
 ·rintro b (h0 | h0 | h0)
  ·exact .inl (.inl h0)
  ·exact .inl (.inr (.inl h0))
  ·rcases hnew _ h0 with h1 | h1
   ·exact .inl (.inr (.inr h1))
   ·exact .inr h1
end
theorem addN_skip {N : List Jp} {b : Bg} (h : b.2 = false ∨ N.contains b.1 = true) : addN noO N b = N := by
 unfold addN noO
 rw [if_neg]
 rcases h with h | h
 ·rw [h]; simp
 ·rw [h]; simp
theorem addN_take {N : List Jp} {b : Bg} (h1 : b.2 = true) (h2 : N.contains b.1 = false) : addN noO N b = N ++ [b.1] := by
 unfold addN noO
 rw [h1, h2]; rfl
set_option maxRecDepth 100000 in
set_option maxHeartbeats 8000000 in
theorem needs1_any (first : Jp) (cand : List Jp) (cB tB cb mw yB base i : Nat) (N : List Jp) (v : Value) (s : Str) (t : Int) (n : Bool) (w : World)
  (h : NdT first cand cB tB cb mw yB base N i v w) (ha : NdA cB tB cb mw yB) (hc : (s, t) ∈ cand) (hok : okJ (s, t)) (hcl : cand.length ≤ 1000000) (hmw : mw < w.heap.size) (hbase : base ≤ w.heap.size) :
  Calls Tryz.prog 90 #[.agg #[sv s, .int .i64 t, .bool n], .pointer (some ⟨cB, 0, none⟩), .pointer (some ⟨tB, 0, none⟩)] w
   fun e w' => e = .returned (.tuple #[]) ∧ ∃ v', NdT first cand cB tB cb mw yB base (addN noO N ((s, t), n)) i v' w' ∧ TookB (NdF yB tB v) (NdF yB tB v') w w' := by
 obtain ⟨i0, hi, hz0, hz1, hz2⟩ := info_parts infoJp
 have hml := h.mid.len
 have hdl : (N.drop i).length ≤ N.length := by rw [List.length_drop]; omega
 have hlen : N.length < maxLen := by unfold maxLen; omega
 have h63 : (N.drop i).length + 1 ≤ maxLen := by unfold maxLen; omega
 have hby : ((N.drop i).length + 1) * 24 ≤ 140737488355328 := by omega
 have HL := Lib.hid (And.intro hlen (And.intro h63 hby))
 have HT := Lib.hid h
 have e0 := h.cc
 have e6 := h.c6
 have et := h.tc
 have l1 := cell_blk h.cc
 have l2 := cell_blk h.c6
 have l3 := cell_blk h.tc
 have ly := h.mp.lt
 simp only at l1 l2 l3
 have a1 : ¬ cB = yB := fun e => ha.a1 e.symm
 have a2 : ¬ cb = yB := fun e => ha.a3 e.symm
 have a3 : ¬ tB = yB := fun e => ha.a2 e.symm
 have hsz := Nat.le_refl w.heap.size
 have hyw := h.mp.lt
 clear h hlen h63 hby hml hdl
 go_enter Tryz.func90, Tryz.ntmps90
 go_wp2_with fail
 first | (refine wp_named ?_; intro W1 hW) | (refine calls_named ?_; intro W1 hW)
 have B1 : Below w.heap.size w W1 := by rw [hW]; exact bq2
 replace e0 := cellAt e0 B1 (by omega)
 replace e6 := cellAt e6 B1 (by omega)
 replace et := cellAt et B1 (by omega)
 replace HT := Lib.hid (HT.out.on B1)
 replace l1 : cB < W1.heap.size := ltAt l1 B1
 replace l2 : cb < W1.heap.size := ltAt l2 B1
 replace l3 : tB < W1.heap.size := ltAt l3 B1
 replace ly : yB < W1.heap.size := ltAt ly B1
 have n1 : w.heap.size < W1.heap.size := by rw [hW]; simp <;> omega
 have y0 : W1.cell? ⟨w.heap.size, 0, none⟩ = some (sv s) := by rw [hW]; go_simp
 have y1 : W1.cell? ⟨w.heap.size, 1, none⟩ = some (.int .i64 t) := by rw [hW]; go_simp
 have y2 : W1.cell? ⟨w.heap.size, 2, none⟩ = some (.bool n) := by rw [hW]; go_simp
 clear hW
 have HB1 := Lib.hid B1
 have hz1w := B1.size
 clear B1
 have a5 : ¬ w.heap.size = yB := by omega
 cases n
 ·skip
  try go_wp2_with fail
  refine wp_region_held_drew (S := fun w' => Below W1.heap.size W1 w') (by kernel_rfl) (Below.drew (Below.refl _ _)) (fun hHeld => ?_)
  refine tV 0 ?_ ?zq ?_; (case zq => rintro _ -; go_simp; try with_reducible rfl); try simp only [Act.put, zn1, zn2, zn3]
  refine tV 1 ?_ ?zq ?_; (case zq => intro w' hSw; have hCell := fun (b o : Nat) (h : b < W1.heap.size) => hSw.cell (p := ⟨b, o, none⟩) h; clear hSw; go_simp; try with_reducible rfl); try simp only [Act.put, zn1, zn2, zn3]
  refine tV 2 ?_ ?zq ?_; (case zq => rintro _ -; go_simp; try with_reducible rfl); try simp only [Act.put, zn1, zn2, zn3]
  refine tS (i := 3) rfl hHeld ?_; (try simp only [Act.put, zn1, zn2, zn3])
  refine tS (i := 4) rfl hHeld ?_; (try simp only [Act.put, zn1, zn2, zn3])
  refine tS (i := 5) rfl hHeld ?_; (try simp only [Act.put, zn1, zn2, zn3])
  refine tS (i := 6) rfl hHeld ?_; (try simp only [Act.put, zn1, zn2, zn3])
  refine tS (i := 7) rfl hHeld ?_; (try simp only [Act.put, zn1, zn2, zn3])
  refine tS (i := 8) rfl hHeld ?_; (try simp only [Act.put, zn1, zn2, zn3])
  refine tS (i := 9) rfl hHeld ?_; (try simp only [Act.put, zn1, zn2, zn3])
  refine tS (i := 10) rfl hHeld ?_; (try simp only [Act.put, zn1, zn2, zn3])
  refine tV 11 ?_ ?zq ?_; (case zq => rintro _ -; go_simp; try with_reducible rfl); try simp only [Act.put, zn1, zn2, zn3]
  refine wpAnyH_done (by kernel_rfl) ?_ _
  go_wp2_with fail
  refine bodyPost_end (results_none rfl _ _ _) rfl ?_
  have hb9 := lift HB1.out hHeld
  refine ⟨rfl, v, ?_, TookB.below hb9⟩
  rw [addN_skip (.inl rfl)]
  exact HT.out.on hHeld
 ·cases hkn : N.contains (s, t)
  ·skip
   try go_wp2_with fail
   refine wp_region_held_drew (S := fun w' => Below W1.heap.size W1 w') (by kernel_rfl) (Below.drew (Below.refl _ _)) (fun hHeld => ?_)
   refine tV 0 ?_ ?zq ?_; (case zq => rintro _ -; go_simp; try with_reducible rfl); try simp only [Act.put, zn1, zn2, zn3]
   refine tV 1 ?_ ?zq ?_; (case zq => intro w' hSw; have hCell := fun (b o : Nat) (h : b < W1.heap.size) => hSw.cell (p := ⟨b, o, none⟩) h; clear hSw; go_simp; try with_reducible rfl); try simp only [Act.put, zn1, zn2, zn3]
   refine tV 2 ?_ ?zq ?_; (case zq => rintro _ -; go_simp; try with_reducible rfl); try simp only [Act.put, zn1, zn2, zn3]
   refine tV 3 ?_ ?zq ?_; (case zq => intro w' hSw; have hCell := fun (b o : Nat) (h : b < W1.heap.size) => hSw.cell (p := ⟨b, o, none⟩) h; clear hSw; go_simp; try with_reducible rfl); try simp only [Act.put, zn1, zn2, zn3]
   refine tV 4 ?_ ?zq ?_; (case zq => rintro _ -; go_simp; try with_reducible rfl); try simp only [Act.put, zn1, zn2, zn3]
   refine tV 5 ?_ ?zq ?_; (case zq => rintro _ -; go_simp; try with_reducible rfl); try simp only [Act.put, zn1, zn2, zn3]
   refine tV 6 ?_ ?zq ?_; (case zq => intro w' hSw; have hCell := fun (b o : Nat) (h : b < W1.heap.size) => hSw.cell (p := ⟨b, o, none⟩) h; clear hSw; go_simp; try with_reducible rfl); try simp only [Act.put, zn1, zn2, zn3]
   refine tV 7 ?_ ?zq ?_; (case zq => rintro _ -; go_simp; try with_reducible rfl); try simp only [Act.put, zn1, zn2, zn3]
   refine tV 8 ?_ ?zq ?_; (case zq => intro w' hSw; have hCell := fun (b o : Nat) (h : b < W1.heap.size) => hSw.cell (p := ⟨b, o, none⟩) h; clear hSw; go_simp; try with_reducible rfl); try simp only [Act.put, zn1, zn2, zn3]
   refine ready_one (i := 9) rfl (by kernel_rfl) (fun K hK => ?_)
   refine step_lookup_is _ (by rfl) (.tmp 10) (.tmp 12) 77 (by rfl) 4 Tryz.underlying77 (.bool false) (zeroB _) yB _ _ (by rfl) (HT.out.mp.on hHeld) (s, t) (by rfl) hok ?_
   rw [inV_get, hkn]
   refine hK.out _ _ ?_ (fun hHeld2 => ?_)
   ·(try dsimp only); first | exact Below.trans hHeld (Below.mono hb hHeld.size) | exact hHeld | exact Below.drew hHeld | exact bq2
   clear hK K hHeld; have hHeld := hHeld2; clear hHeld2; (try simp only [Act.put, zn1, zn2, zn3])
   refine tV 10 ?_ ?zq ?_; (case zq => rintro _ -; go_simp; try with_reducible rfl); try simp only [Act.put, zn1, zn2, zn3]
   refine tV 11 ?_ ?zq ?_; (case zq => rintro _ -; go_simp; try with_reducible rfl); try simp only [Act.put, zn1, zn2, zn3]
   refine wpAnyH_done (by kernel_rfl) ?_ _
   go_wp2_with fail
   first | (refine wp_named ?_; intro W2 hW) | (refine calls_named ?_; intro W2 hW)
   have B2 : Below W1.heap.size W1 W2 := by rw [hW]; exact bq2
   replace e0 := cellAt e0 B2 (by omega)
   replace e6 := cellAt e6 B2 (by omega)
   replace et := cellAt et B2 (by omega)
   replace y0 := cellAt y0 B2 (by omega)
   replace y1 := cellAt y1 B2 (by omega)
   replace y2 := cellAt y2 B2 (by omega)
   replace HT := Lib.hid (HT.out.on B2)
   replace l1 : cB < W2.heap.size := ltAt l1 B2
   replace l2 : cb < W2.heap.size := ltAt l2 B2
   replace l3 : tB < W2.heap.size := ltAt l3 B2
   replace ly : yB < W2.heap.size := ltAt ly B2
   replace n1 : w.heap.size < W2.heap.size := ltAt n1 B2
   clear hW
   have HB2 := Lib.hid (lift HB1.out B2)
   clear B2 hHeld
   have HMp := Lib.hid HT.out.mp
   try go_wp2_with fail
   refine wp_region_held_drew (S := fun w' => Keeps (But W2 yB) W2 w') (by kernel_rfl) (But.below (Below.drew (Below.refl _ _))) (fun hHeld => ?_)
   refine tV 0 ?_ ?zq ?_; (case zq => intro w' hSw; have hCell := fun (b o : Nat) (h : b < W2.heap.size) (h2 : ¬ b = yB) => World.cell?_of_block (a := ⟨b, o, none⟩) (hSw.block b ⟨h, h2⟩); clear hSw; go_simp; try with_reducible rfl); try simp only [Act.put, zn1, zn2, zn3]
   refine tV 1 ?_ ?zq ?_; (case zq => rintro _ -; go_simp; try with_reducible rfl); try simp only [Act.put, zn1, zn2, zn3]
   refine tV 2 ?_ ?zq ?_; (case zq => rintro _ -; go_simp; try with_reducible rfl); try simp only [Act.put, zn1, zn2, zn3]
   refine tV 3 ?_ ?zq ?_; (case zq => intro w' hSw; have hCell := fun (b o : Nat) (h : b < W2.heap.size) (h2 : ¬ b = yB) => World.cell?_of_block (a := ⟨b, o, none⟩) (hSw.block b ⟨h, h2⟩); clear hSw; go_simp; try with_reducible rfl); try simp only [Act.put, zn1, zn2, zn3]
   refine tV 4 ?_ ?zq ?_; (case zq => rintro _ -; go_simp; try with_reducible rfl); try simp only [Act.put, zn1, zn2, zn3]
   refine tV 5 ?_ ?zq ?_; (case zq => intro w' hSw; have hCell := fun (b o : Nat) (h : b < W2.heap.size) (h2 : ¬ b = yB) => World.cell?_of_block (a := ⟨b, o, none⟩) (hSw.block b ⟨h, h2⟩); clear hSw; go_simp; try with_reducible rfl); try simp only [Act.put, zn1, zn2, zn3]
   refine ready_one (i := 6) rfl (by kernel_rfl) (fun K hK => ?_)
   refine step_update_is _ (by rfl) (.tmp 19) (.tmp 21) (.const (.bool true)) 77 (by rfl) 4 Tryz.underlying77 yB _ _ (by rfl) HMp.out HL.out.1 (s, t) (.bool true) (by rfl) (by rfl) hok ?_
   intro w5 hm5 hg5
   have hS := But.trans hHeld (But.grown hg5)
   have HM5 := Lib.hid (MapIs.if_ hm5)
   clear hm5 hg5
   refine hK.out _ _ ?_ (fun hHeld2 => ?_)
   ·(try dsimp only); exact hS
   clear hK K hHeld; have hHeld := hHeld2; clear hHeld2; (try simp only [Act.put, zn1, zn2, zn3])
   refine wpAnyH_done (by kernel_rfl) ?_ _
   have HT2 := Lib.hid HT.out
   have hs5 := hHeld.size
   have m3 := l3
   replace e0 := cellK e0 hHeld (by omega) (by omega)
   replace e6 := cellK e6 hHeld (by omega) (by omega)
   replace et := cellK et hHeld (by omega) (by omega)
   replace y0 := cellK y0 hHeld (by omega) (by omega)
   replace y1 := cellK y1 hHeld (by omega) (by omega)
   replace y2 := cellK y2 hHeld (by omega) (by omega)
   clear HT
   replace l1 : cB < w5.heap.size := Nat.lt_of_lt_of_le l1 (Keeps.size hHeld)
   replace l2 : cb < w5.heap.size := Nat.lt_of_lt_of_le l2 (Keeps.size hHeld)
   replace l3 : tB < w5.heap.size := Nat.lt_of_lt_of_le l3 (Keeps.size hHeld)
   replace ly : yB < w5.heap.size := Nat.lt_of_lt_of_le ly (Keeps.size hHeld)
   replace n1 : w.heap.size < w5.heap.size := Nat.lt_of_lt_of_le n1 (Keeps.size hHeld)
   have HK5 := Lib.hid hS
   have hvy : v.ownBlock ≠ some yB := fun e => (HT2.out.sep _ e).1 rfl
   have hvn : v.ownBlock ≠ some tB := fun e => (HT2.out.sep _ e).2.1 rfl
   have HO5 := Lib.hid (HT2.out.row.same hS.size (fun g hg => hS.block g ⟨(HT2.out.row.lt hg).2, fun e => hvy (by rw [hg, e])⟩))
   have f5 := froK HT2.out.tf hS m3 a3
   have hb5 : base ≤ w5.heap.size := by have := HB2.out.size; omega
   have HF := Lib.hid (And.intro hvn f5)
   have HV := Lib.hid hvy
   have hrd5 : Rd (w5.alloc (.cells #[sv s, .int .i64 t] 73)) (w5.alloc (.cells #[sv s, .int .i64 t] 73)).heap.size 2 (some ⟨w5.heap.size, 0, none⟩) 1 (jpC (s, t)) := Rd.lit w5 (jpC (s, t)) 73 2 1 rfl
   have HR5 := Lib.hid hrd5
   have HO6 := Lib.hid (HO5.out.alloc (.cells #[sv s, .int .i64 t] 73))
   have hb6 : base ≤ (w5.alloc (.cells #[sv s, .int .i64 t] 73)).heap.size := by simp; omega
   have HB6 := Lib.hid hb6
   clear hS hHeld hvy hvn f5 hrd5 hb6
   go_wp2_with (first
    | (at_builtin; refine wpList_append_tail (w5.alloc (.cells #[sv s, .int .i64 t] 73)) (by rfl) (.tmp 22) (.tmp 25) 141 (by rfl) base 73 i0 _ 2 24 Tryz.underlying141 hi hz0 hz1 hz2 rfl _ _ _ (by rfl) HO6.out _ 1 (jpC (s, t)) (by rfl) (src_rd (c := 1) Tryz.underlying141 HR5.out (one_jpC (s, t)) (fun e => by cases e)) HL.out.2.1 HL.out.2.2 HB6.out ?_; intro A8 c8 w7 hown7 hg7 hat7; have hg6 := World.grownBy.trans (World.grownBy_alloc w5 (.cells #[sv s, .int .i64 t] 73) _) hg7; have c7 := cell_kept et hg6 l3 HF.out.1; have f7 := fro_kept HF.out.2 hg6 l3 HF.out.1; have HO7 := Lib.hid hown7; have HG7 := Lib.hid (And.intro hg6 hat7); clear hown7 hg6 hg7 hat7)
    | fail)
   refine bodyPost_end (results_none rfl _ _ _) rfl ?_
   have hput := HT2.out.put ha hkn hc HM5.out HK5.out HO7.out HG7.out.1 (by simpa using HG7.out.2) (Nat.lt_of_lt_of_le hmw HB2.out.size)
   simp only [List.length_drop] at hput
   rw [addN_take rfl hkn]
   exact ⟨rfl, _, hput.1, (TookB.below HB2.out).trans hput.2⟩
  ·skip
   try go_wp2_with fail
   refine wp_region_held_drew (S := fun w' => Below W1.heap.size W1 w') (by kernel_rfl) (Below.drew (Below.refl _ _)) (fun hHeld => ?_)
   refine tV 0 ?_ ?zq ?_; (case zq => rintro _ -; go_simp; try with_reducible rfl); try simp only [Act.put, zn1, zn2, zn3]
   refine tV 1 ?_ ?zq ?_; (case zq => intro w' hSw; have hCell := fun (b o : Nat) (h : b < W1.heap.size) => hSw.cell (p := ⟨b, o, none⟩) h; clear hSw; go_simp; try with_reducible rfl); try simp only [Act.put, zn1, zn2, zn3]
   refine tV 2 ?_ ?zq ?_; (case zq => rintro _ -; go_simp; try with_reducible rfl); try simp only [Act.put, zn1, zn2, zn3]
   refine tV 3 ?_ ?zq ?_; (case zq => intro w' hSw; have hCell := fun (b o : Nat) (h : b < W1.heap.size) => hSw.cell (p := ⟨b, o, none⟩) h; clear hSw; go_simp; try with_reducible rfl); try simp only [Act.put, zn1, zn2, zn3]
   refine tV 4 ?_ ?zq ?_; (case zq => rintro _ -; go_simp; try with_reducible rfl); try simp only [Act.put, zn1, zn2, zn3]
   refine tV 5 ?_ ?zq ?_; (case zq => rintro _ -; go_simp; try with_reducible rfl); try simp only [Act.put, zn1, zn2, zn3]
   refine tV 6 ?_ ?zq ?_; (case zq => intro w' hSw; have hCell := fun (b o : Nat) (h : b < W1.heap.size) => hSw.cell (p := ⟨b, o, none⟩) h; clear hSw; go_simp; try with_reducible rfl); try simp only [Act.put, zn1, zn2, zn3]
   refine tV 7 ?_ ?zq ?_; (case zq => rintro _ -; go_simp; try with_reducible rfl); try simp only [Act.put, zn1, zn2, zn3]
   refine tV 8 ?_ ?zq ?_; (case zq => intro w' hSw; have hCell := fun (b o : Nat) (h : b < W1.heap.size) => hSw.cell (p := ⟨b, o, none⟩) h; clear hSw; go_simp; try with_reducible rfl); try simp only [Act.put, zn1, zn2, zn3]
   refine ready_one (i := 9) rfl (by kernel_rfl) (fun K hK => ?_)
   refine step_lookup_is _ (by rfl) (.tmp 10) (.tmp 12) 77 (by rfl) 4 Tryz.underlying77 (.bool false) (zeroB _) yB _ _ (by rfl) (HT.out.mp.on hHeld) (s, t) (by rfl) hok ?_
   rw [inV_get, hkn]
   refine hK.out _ _ ?_ (fun hHeld2 => ?_)
   ·(try dsimp only); first | exact Below.trans hHeld (Below.mono hb hHeld.size) | exact hHeld | exact Below.drew hHeld | exact bq2
   clear hK K hHeld; have hHeld := hHeld2; clear hHeld2; (try simp only [Act.put, zn1, zn2, zn3])
   refine tV 10 ?_ ?zq ?_; (case zq => rintro _ -; go_simp; try with_reducible rfl); try simp only [Act.put, zn1, zn2, zn3]
   refine tV 11 ?_ ?zq ?_; (case zq => rintro _ -; go_simp; try with_reducible rfl); try simp only [Act.put, zn1, zn2, zn3]
   refine wpAnyH_done (by kernel_rfl) ?_ _
   go_wp2_with fail
   refine bodyPost_end (results_none rfl _ _ _) rfl ?_
   have hb9 := lift HB1.out hHeld
   refine ⟨rfl, v, ?_, TookB.below hb9⟩
   rw [addN_skip (.inr hkn)]
   exact HT.out.on hHeld
end Od
end Go.Proofs.YtbllehjhmfehbaaGreat
end

section
/- (*closure).needs: what is needed. (bel2) -/
namespace Go.Proofs.YtbllehjhmfehbaaGreat
open Go.RowKit Go.Sort Go.Maps
set_option linter.unusedSimpArgs false
namespace Od
theorem tailJ_head {w : World} {base c : Nat} {A : Option Addr} {j : Jp} {T : List Jp} (h : Tail w base 2 (.slice A (j :: T).length c) (j :: T).length (jpsC (j :: T))) :
  ∃ g o, A = some ⟨g, o, none⟩ ∧ base ≤ g ∧ g < w.heap.size ∧ w.cell? ⟨g, o, none⟩ = some (sv j.1) ∧ w.cell? ⟨g, o + 1, none⟩ = some (.int .i64 j.2) := by
 rcases h.2 with ⟨_, h2⟩ | ⟨g, off, cap, h1, h3, h4, _, _, h7, _⟩
 ·simp at h2
 ·injection h1 with e1 _ e3
  subst e1
  refine ⟨g, off, rfl, h3, h4, ?_, ?_⟩
  ·have := h7 0 (by simp); simpa [jpsC, jpC] using this
  ·have := h7 1 (by simp; omega); simpa [jpsC, jpC] using this
theorem tailJ_next {w : World} {base c g o : Nat} {j : Jp} {T : List Jp} (h : Tail w base 2 (.slice (some ⟨g, o, none⟩) (j :: T).length c) (j :: T).length (jpsC (j :: T))) :
  Tail w base 2 (.slice (some ⟨g, o + 2, none⟩) T.length (c - 1)) T.length (jpsC T) := by
 rcases h.2 with ⟨_, h2⟩ | ⟨g, off, cap, h1, h3, h4, h5, h6, h7, h8⟩
 ·simp at h2
 ·injection h1 with e1 _ e3
  injection e1 with e1
  injection e1 with e1 e2
  subst e1 e2 e3
  simp only [List.length_cons] at h5 h7
  refine ⟨jpsC_len T, .inr ⟨_, o + 2, c - 1, rfl, h3, h4, by omega, by omega, fun i hi => ?_, fun i hi => ?_⟩⟩
  ·have := h7 (i + 2) (by omega)
   rw [show o + 2 + i = o + (i + 2) by omega, this]
   simp [jpsC, jpC]
  ·have := h8 (i + 2) (by omega)
   rwa [show o + (i + 2) = o + 2 + i by omega] at this
theorem tailJ_next0 {w : World} {base c g o : Nat} {j : Jp} {T : List Jp} (h : Tail w base 2 (.slice (some ⟨g, o, none⟩) (j :: T).length c) (j :: T).length (jpsC (j :: T))) (hc : c = 1) :
  Tail w base 2 (.slice (some ⟨g, o, none⟩) T.length 0) T.length (jpsC T) := by
 subst hc
 rcases h.2 with ⟨_, h2⟩ | ⟨g, off, cap, h1, h3, h4, h5, h6, h7, h8⟩
 ·simp at h2
 ·injection h1 with e1 _ e3
  injection e1 with e1
  injection e1 with e1 e2
  subst e1 e2 e3
  simp only [List.length_cons] at h5
  exact ⟨jpsC_len T, .inr ⟨_, o, 0, rfl, h3, h4, by omega, by omega, fun i hi => by omega, fun i hi => by omega⟩⟩
theorem NdT.next {first : Jp} {cand : List Jp} {cB tB tB' cb mw yB base i : Nat} {N T : List Jp} {j : Jp} {A A2 : Option Addr} {c c2 : Nat} {w w' : World} (h : NdT first cand cB tB cb mw yB base N i (.slice A (j :: T).length c) w) (hd : N.drop i = j :: T) (hb : Below w.heap.size w w')
  (hrow : Tail w base 2 (.slice A2 T.length c2) T.length (jpsC T)) (hown : (Value.slice A2 T.length c2).ownBlock = (Value.slice A (j :: T).length c).ownBlock) (hc : w'.cell? ⟨tB', 0, none⟩ = some (.slice A2 T.length c2)) (hf : w'.frozen? ⟨tB', 0, none⟩ = false) (htB : w.heap.size ≤ tB') :
  NdT first cand cB tB' cb mw yB base N (i + 1) (.slice A2 T.length c2) w' := by
 have h1 := h.on hb
 have hd2 : N.drop (i + 1) = T := by rw [← List.drop_drop, hd]; rfl
 have hi : i < N.length := by
  have := congrArg List.length hd
  rw [List.length_drop] at this
  simp only [List.length_cons] at this
  omega
 refine ⟨h1.cc, h1.c6, hc, hf, by rw [hd2]; exact hrow.on hb, h1.mp, h1.mid, hi, fun b hbk => ?_⟩
 rw [hown] at hbk
 have h2 := h.sep b hbk
 have h3 := (h.row.lt hbk).2
 exact ⟨h2.1, by omega, h2.2.2⟩
/-- What needs$1 keeps of what it has taken. -/
def NdS (first : Jp) (cand : List Jp) (cB tB cb mw yB base i : Nat) (N0 : List Jp) (D : List Bg) (F : Nat → Prop) (w : World) : Prop :=
 ∃ v, NdT first cand cB tB cb mw yB base (D.foldl (addN noO) N0) i v w ∧ F = NdF yB tB v ∧ mw < w.heap.size ∧ base ≤ w.heap.size
theorem needs_takes {first : Jp} {cand : List Jp} {cB tB cb mw yB base i B : Nat} {N0 : List Jp} (ha : NdA cB tB cb mw yB) (hok : ∀ k ∈ cand, okJ k) (hcl : cand.length ≤ 1000000) (h1 : B ≤ yB) (h2 : B ≤ tB) (h3 : B ≤ base) :
  TakesB 90 #[.pointer (some ⟨cB, 0, none⟩), .pointer (some ⟨tB, 0, none⟩)] cb mw B cand (NdS first cand cB tB cb mw yB base i N0) where
 enters := enters_of Tryz.func90 (by kernel_rfl) rfl
 on := by
  rintro D F W W' ⟨v, hT, rfl, hm, hb⟩ hbel
  exact ⟨v, hT.on hbel, rfl, Nat.lt_of_lt_of_le hm hbel.size, Nat.le_trans hb hbel.size⟩
 low := by
  rintro D F W ⟨v, hT, rfl, hm, hb⟩
  exact hT.low ha h1 h2 h3
 says := by
  rintro D F W s t n ⟨v, hT, rfl, hm, hb⟩ hca
  refine (needs1_any first cand cB tB cb mw yB base i _ v s t n W hT ha hca (hok _ hca) hcl hm hb).mono ?_
  rintro e w' ⟨rfl, v', hT', hk⟩
  refine ⟨rfl, NdF yB tB v', ⟨v', ?_, rfl, Nat.lt_of_lt_of_le hm hk.1.size, Nat.le_trans hb hk.1.size⟩, hk⟩
  rw [List.foldl_append]
  exact hT'
theorem addN_no {out : Jp → Bool} : ∀ (l : List Bg) (s : List Jp), (l.filter (fun b => !out b.1)).foldl (addN noO) s = l.foldl (addN out) s
 | [], _ => rfl
 | p :: l, s => by
  rw [List.filter_cons]
  by_cases h : out p.1 = true
  ·have e : addN out s p = s := by unfold addN; rw [h]; simp
   rw [show (!out p.1) = false by rw [h]; rfl, if_neg (by simp), List.foldl_cons, e]
   exact addN_no l s
  ·have h' : out p.1 = false := by simpa using h
   have e : addN noO s p = addN out s p := by unfold addN noO; rw [h']
   rw [show (!out p.1) = true by rw [h']; rfl, if_pos rfl, List.foldl_cons, List.foldl_cons, e]
   exact addN_no l _
theorem NeedQ.mid {E : Jp → List Bg} {out : Jp → Bool} {first : Jp} {N cand : List Jp} {i : Nat} (h : NeedQ E out first N i) (hc : ∀ j b, b ∈ E j → b.1 ∈ cand) : NMid first cand N :=
 ⟨h.nd, fun k hk => by
  cases h.all k hk with
  | one => exact .head _
  | more _ hb _ => exact .tail _ (hc _ _ (List.mem_filter.1 hb).1)⟩
set_option maxRecDepth 100000 in
set_option maxHeartbeats 16000000 in
theorem needs_any (cb mw yB B : Nat) (An Ae Au Ah : Option Addr) (nn cn ce cu ch : Nat) (es : List Ed) (up half : List Str) (out : Jp → Bool) (u : Str) (t : Int) (w : World)
  (hcl : ClosAt w cb mw B An Ae Au Ah nn cn ce cu ch es up half out) (c6 : w.cell? ⟨cb, 6, none⟩ = some (.map (some yB))) (hy : MapIs kindJ w yB 0 (fun _ => none)) (ha1 : yB ≠ cb) (ha2 : yB ≠ mw) (hBy : B ≤ yB) (hok : ∀ k ∈ candB es, okJ k) (hof : okJ (u, t)) :
  Calls Tryz.prog 45 #[.pointer (some ⟨cb, 0, none⟩), .agg #[sv u, .int .i64 t]] w fun e w' => e = .returned (.tuple #[]) ∧
   (∃ N, NeedQ (bringB es up half) out (u, t) N N.length ∧ MapIs kindJ w' yB N.length (inV N)) ∧ Keeps (But w yB) w w' := by
 have HC := Lib.hid hcl
 have HY := Lib.hid hy
 have HK := Lib.hid hok
 have hcl0 := hcl.lt
 have hml0 := hcl.mlt
 have hy0 := hy.lt
 have hyw := hy.lt
 have hcw := hcl.lt
 have hBw := hcl.lb
 have hmw := hcl.mlt
 have hel := hcl.el
 have hlb := hcl.lb
 clear hcl hy hok
 have hcand : (candB es).length = 6 * es.length := candB_len es
 have HCd := Lib.hid (show ∀ j b, b ∈ bringB es up half j → b.1 ∈ candB es from bring_cand)
 have hcl6 : (candB es).length ≤ 60000 := by omega
 have HCl := Lib.hid hcl6
 clear hcl6
 have HCdl := Lib.hid hcand
 clear hcand
 have HQ0 := Lib.hid (NeedQ.zero (E := bringB es up half) (out := out) (first := (u, t)))
 generalize hE : bringB es up half = E at HCd HQ0
 have HE := Lib.hid hE
 clear hE
 go_enter Tryz.func45, Tryz.ntmps45
 go_wp2_with fail
 first | (refine wp_named ?_; intro W1 hW) | (refine calls_named ?_; intro W1 hW)
 have B1 : Below w.heap.size w W1 := by rw [hW]; exact bq2
 replace c6 := cellAt c6 B1 (by omega)
 replace HC := Lib.hid (HC.out.on B1)
 replace HY := Lib.hid (HY.out.on B1)
 replace hcl0 : cb < W1.heap.size := ltAt hcl0 B1
 replace hml0 : mw < W1.heap.size := ltAt hml0 B1
 replace hy0 : yB < W1.heap.size := ltAt hy0 B1
 replace hlb : B ≤ W1.heap.size := leAt hlb B1
 have n1 : w.heap.size < W1.heap.size := by rw [hW]; simp <;> omega
 have n2 : (w.heap.size + 1) < W1.heap.size := by rw [hW]; simp <;> omega
 have p0 : W1.cell? ⟨w.heap.size, 0, none⟩ = some (.pointer (some ⟨cb, 0, none⟩)) := by rw [hW]; go_simp
 have q0 : W1.cell? ⟨(w.heap.size + 1), 0, none⟩ = some (sv u) := by rw [hW]; go_simp
 have q1 : W1.cell? ⟨(w.heap.size + 1), 1, none⟩ = some (.int .i64 t) := by rw [hW]; go_simp
 have hzz : w.heap.size + 2 ≤ W1.heap.size := by rw [hW]; simp
 clear hW
 have HB1 := Lib.hid B1
 clear B1
 have x1 : ¬ w.heap.size = yB := by omega
 have x2 : ¬ w.heap.size + 1 = yB := by omega
 have x3 : ¬ cb = yB := fun e => ha1 e.symm
 have HC1 := Lib.hid HC.out
 have k6 := c6
 have l1 := n1
 have lc := hcl0
 have k0 := p0
 try go_wp2_with fail
 refine wp_region_held_drew (S := fun w' => Keeps (But W1 yB) W1 w') (by kernel_rfl) (But.below (Below.drew (Below.refl _ _))) (fun hHeld => ?_)
 refine tV 0 ?_ ?zq ?_; (case zq => intro w' hSw; have hCell := fun (b o : Nat) (h : b < W1.heap.size) (h2 : ¬ b = yB) => World.cell?_of_block (a := ⟨b, o, none⟩) (hSw.block b ⟨h, h2⟩); clear hSw; go_simp; try with_reducible rfl); try simp only [Act.put, zn1, zn2, zn3]
 refine tV 1 ?_ ?zq ?_; (case zq => rintro _ -; go_simp; try with_reducible rfl); try simp only [Act.put, zn1, zn2, zn3]
 refine tV 2 ?_ ?zq ?_; (case zq => rintro _ -; go_simp; try with_reducible rfl); try simp only [Act.put, zn1, zn2, zn3]
 refine tV 3 ?_ ?zq ?_; (case zq => intro w' hSw; have hCell := fun (b o : Nat) (h : b < W1.heap.size) (h2 : ¬ b = yB) => World.cell?_of_block (a := ⟨b, o, none⟩) (hSw.block b ⟨h, h2⟩); clear hSw; go_simp; try with_reducible rfl); try simp only [Act.put, zn1, zn2, zn3]
 refine tV 4 ?_ ?zq ?_; (case zq => intro w' hSw; have hCell := fun (b o : Nat) (h : b < W1.heap.size) (h2 : ¬ b = yB) => World.cell?_of_block (a := ⟨b, o, none⟩) (hSw.block b ⟨h, h2⟩); clear hSw; go_simp; try with_reducible rfl); try simp only [Act.put, zn1, zn2, zn3]
 refine ready_one (i := 5) rfl (by kernel_rfl) (fun K hK => ?_)
 refine step_update_is _ (by rfl) (.tmp 8) (.tmp 9) (.const (.bool true)) 77 (by rfl) 4 Tryz.underlying77 yB 0 _ (by rfl) HY.out (by decide) (u, t) (.bool true) (by rfl) (by rfl) hof ?_
 intro w5 hm5 hg5
 have hS := But.trans hHeld (But.grown hg5)
 have HM5 := Lib.hid (MapIs.if_ hm5)
 clear hm5 hg5
 refine hK.out _ _ ?_ (fun hHeld2 => ?_)
 ·(try dsimp only); exact hS
 clear hK K hHeld; have hHeld := hHeld2; clear hHeld2; (try simp only [Act.put, zn1, zn2, zn3])
 refine wpAnyH_done (by kernel_rfl) ?_ _
 replace c6 := cellK c6 hHeld (by omega) (by omega)
 replace p0 := cellK p0 hHeld (by omega) (by omega)
 replace q0 := cellK q0 hHeld (by omega) (by omega)
 replace q1 := cellK q1 hHeld (by omega) (by omega)
 replace HC := Lib.hid ((HC.out.but hHeld hBy ha1 ha2))
 clear HY
 replace hcl0 : cb < w5.heap.size := Nat.lt_of_lt_of_le hcl0 (Keeps.size hHeld)
 replace hml0 : mw < w5.heap.size := Nat.lt_of_lt_of_le hml0 (Keeps.size hHeld)
 replace hy0 : yB < w5.heap.size := Nat.lt_of_lt_of_le hy0 (Keeps.size hHeld)
 replace hlb : B ≤ w5.heap.size := Nat.le_trans hlb (Keeps.size hHeld)
 replace n1 : w.heap.size < w5.heap.size := Nat.lt_of_lt_of_le n1 (Keeps.size hHeld)
 replace n2 : (w.heap.size + 1) < w5.heap.size := Nat.lt_of_lt_of_le n2 (Keeps.size hHeld)
 have HK5 := Lib.hid hHeld
 have hz5 := hHeld.size
 clear hHeld
 have HM6 := Lib.hid (show MapIs kindJ w5 yB 1 (inV [(u, t)]) by
  have h0 := HM5.out
  have e0 : (fun y => if y = (u, t) then some (Value.bool true) else inV [] y) = inV ([] ++ [(u, t)]) := inV_push [] (u, t)
  have h1 : MapIs kindJ w5 yB 1 (inV ([] ++ [(u, t)])) := by rw [← e0]; exact h0
  exact h1)
 clear HM5
 go_wp2_with fail
 first | (refine wp_named ?_; intro W6 hW) | (refine calls_named ?_; intro W6 hW)
 have B6 : Below w5.heap.size w5 W6 := by rw [hW]; exact bq2
 replace c6 := cellAt c6 B6 (by omega)
 replace p0 := cellAt p0 B6 (by omega)
 replace q0 := cellAt q0 B6 (by omega)
 replace q1 := cellAt q1 B6 (by omega)
 replace HC := Lib.hid (HC.out.on B6)
 replace hcl0 : cb < W6.heap.size := ltAt hcl0 B6
 replace hml0 : mw < W6.heap.size := ltAt hml0 B6
 replace hy0 : yB < W6.heap.size := ltAt hy0 B6
 replace hlb : B ≤ W6.heap.size := leAt hlb B6
 replace n1 : w.heap.size < W6.heap.size := ltAt n1 B6
 replace n2 : (w.heap.size + 1) < W6.heap.size := ltAt n2 B6
 replace HM6 := Lib.hid (HM6.out.on B6)
 replace HK5 := Lib.hid (But.two HK5.out B6)
 have n6 : (w5.heap.size + 1) < W6.heap.size := by rw [hW]; simp <;> omega
 have z0 : W6.cell? ⟨(w5.heap.size + 1), 0, none⟩ = some (.slice (some ⟨w5.heap.size, 0, none⟩) 1 1) := by rw [hW]; go_simp
 have zf : W6.frozen? ⟨(w5.heap.size + 1), 0, none⟩ = false := by rw [hW]; go_simp
 have ho6 : W6.ownsRow W1.heap.size 73 2 (.slice (some ⟨w5.heap.size, 0, none⟩) 1 1) 1 (jpsC [(u, t)]) := by
  rw [hW]
  exact (own_base (own_lit [sv u, .int .i64 t] rfl (by decide)) hz5).alloc _
 clear hW
 clear B6
 have hnd0 : NdT (u, t) (candB es) w.heap.size (w5.heap.size + 1) cb mw yB W1.heap.size [(u, t)] 0 (.slice (some ⟨w5.heap.size, 0, none⟩) 1 1) W6 :=
  ⟨p0, c6, z0, zf, Tail.own ho6, HM6.out, ⟨by simp, fun k hk => by rw [List.mem_singleton.1 hk]; exact .head _⟩, by simp, fun b hb => by
   have h1 : w5.heap.size = b := by simpa [Value.ownBlock] using hb
   exact ⟨by omega, by omega, by omega, by omega, by omega⟩⟩
 have HNd0 := Lib.hid hnd0
 clear hnd0 ho6 p0 q0 q1 c6 z0 zf hS
 go_loopg [4] (6 * es.length + 2) (fun g s4 wr => ∃ (N : List Jp) (i tB : Nat) (T : List Jp) (A : Option Addr) (c : Nat), s4 = .pointer (some ⟨tB, 0, none⟩) ∧ 6 * es.length + 2 ≤ g + i ∧ W1.heap.size ≤ tB ∧ Hid (N.drop i = T) ∧ Hid (NdT (u, t) (candB es) w.heap.size tB cb mw yB W1.heap.size N i (.slice A (List.length T) c) wr) ∧ Hid (NeedQ E out (u, t) N i) ∧ Hid (Keeps (But W1 yB) W1 wr))
 case atStart => exact ⟨[(u, t)], 0, w5.heap.size + 1, [(u, t)], _, _, rfl, by omega, by omega, rfl, HNd0, HQ0, HK5⟩
 case round =>
  obtain ⟨N, i, tB, T, A, c, rfl, hgi, htB, HT, HN, HQ, HKr⟩ := hrel
  have hz9 := HKr.out.size
  have hz8 : w.heap.size + 2 ≤ wr.heap.size := by omega
  have e0 := HN.out.cc
  have et := HN.out.tc
  have l0 : w.heap.size < wr.heap.size := by omega
  have lt := cell_blk et
  simp only at lt
  have HC9 := Lib.hid (HC1.out.but HKr.out hBy ha1 ha2)
  have hNl := HQ.out.len HCd.out
  rw [HCdl.out] at hNl
  cases T with
  | nil =>
   have hi : i = N.length := by
    have h1 := List.drop_eq_nil_iff.1 HT.out
    have h2 := HQ.out.le
    omega
   subst hi
   clear hNl hgi
   go_wp2_with fail
   refine bodyPost_end (results_none rfl _ _ _) rfl ?_
   have hk := HKr.out
   refine ⟨rfl, ⟨N, HQ.out, HN.out.mp⟩, ⟨hk.os.trans HB1.out.os, hk.tape.trans HB1.out.tape, hk.output.trans HB1.out.output, Nat.le_trans HB1.out.size hk.size, fun j hj => (hk.block j ⟨Nat.lt_of_lt_of_le hj.1 HB1.out.size, hj.2⟩).trans (HB1.out.block j hj.1)⟩⟩
  | cons j T =>
   have hiN : i < N.length := by
    have := congrArg List.length HT.out
    rw [List.length_drop] at this
    simp only [List.length_cons] at this
    omega
   have hj : N[i] = j := by
    have h1 := HT.out
    rw [List.drop_eq_getElem_cons hiN] at h1
    injection h1
   have hrow : Tail wr W1.heap.size 2 (.slice A (j :: T).length c) (j :: T).length (jpsC (j :: T)) := by
    have h1 := HN.out.row
    rw [HT.out] at h1
    exact h1
   obtain ⟨g0, o0, hA, hg0, hg1, x0, x1⟩ := tailJ_head hrow
   subst hA
   have hcap := hrow.cap
   obtain ⟨xs, hfold, hq'⟩ := HQ.out.step hiN
   rw [hj] at hfold
   obtain ⟨s', t'⟩ := j
   simp only at x0 x1
   have HFold := Lib.hid hfold
   have HQ' := Lib.hid hq'
   obtain ⟨g', rfl⟩ : ∃ g', gk = g' + 1 := ⟨gk - 1, by omega⟩
   have hlen' : (N ++ xs).length ≤ 6 * es.length + 1 := by have := hq'.len HCd.out; rw [HCdl.out] at this; exact this
   have HLn := Lib.hid hlen'
   have HNi := Lib.hid (And.intro hNl hiN)
   have HGi := Lib.hid hgi
   clear hrow hfold hq' hj hlen' hNl hiN hgi
   go_wp2_with fail
   go_still_tail 5, (by kernel_rfl)
   go_wp2_with fail
   first | (refine wp_named ?_; intro W4 hW) | (refine calls_named ?_; intro W4 hW)
   have B4 : Below wr.heap.size wr W4 := by rw [hW]; exact bq2
   replace HN := Lib.hid (HN.out.on B4)
   replace HC9 := Lib.hid (HC9.out.on B4)
   replace HKr := Lib.hid (But.two HKr.out B4)
   replace l0 : w.heap.size < W4.heap.size := ltAt l0 B4
   replace lt : tB < W4.heap.size := ltAt lt B4
   clear hW
   have hz4 := B4.size
   clear B4 x0 x1 e0 et
   have hsa : NdA w.heap.size tB cb mw yB := ⟨by omega, by omega, ha1, by omega, by omega, by omega, ha2⟩
   have HSa := Lib.hid hsa
   have htk := needs_takes (first := (u, t)) (cand := candB es) (cB := w.heap.size) (tB := tB) (base := W1.heap.size) (i := i) (B := B) (N0 := N) hsa HK.out (by have := HCl.out; omega) hBy (by omega) (by omega)
   have HTk := Lib.hid htk
   have hS0 : NdS (u, t) (candB es) w.heap.size tB cb mw yB W1.heap.size i N [] (NdF yB tB (.slice (some ⟨g0, o0, none⟩) ((s', t') :: T).length c)) W4 :=
    ⟨_, HN.out, rfl, by omega, by omega⟩
   have HS0 := Lib.hid hS0
   have HF0 := Lib.hid (HN.out.low hsa hBy (Nat.le_trans (by omega) htB) (show B ≤ W1.heap.size by omega))
   clear htk hS0 hsa
   refine (each_any _ _ _ cb mw B An Ae Au Ah nn cn ce cu ch es up half out s' t' [] _ W4 HTk.out HS0.out HC9.out HK.out).mono ?_
   rintro e W5 ⟨rfl, F', ⟨v', hT', rfl, -, -⟩, hk5⟩
   rw [List.nil_append, HE.out, addN_no, HFold.out] at hT'
   obtain ⟨A2, c2, hv2⟩ := hT'.row.shape
   subst hv2
   have hdr : (N ++ xs).drop i = (s', t') :: (T ++ xs) := by rw [List.drop_append_of_le_length (by have := HNi.out.2; omega), HT.out]; rfl
   rw [hdr] at hT'
   have HT5 := Lib.hid hT'
   have HD5 := Lib.hid hdr
   have hkk : Keeps (But W1 yB) W1 W5 := by
    have h1 := HKr.out
    have h2 := hk5.1
    refine ⟨h2.os.trans h1.os, h2.tape.trans h1.tape, h2.output.trans h1.output, Nat.le_trans h1.size h2.size, fun j hj => (h2.block j ⟨Nat.lt_of_lt_of_le hj.1 h1.size, ?_⟩).trans (h1.block j hj)⟩
    rintro (h | h | h)
    ·exact hj.2 h
    ·have := hj.1; omega
    ·have h3 : g0 = j := by simpa [Value.ownBlock] using h
     have := hj.1; omega
   have HK5' := Lib.hid hkk
   have hrow2 : Tail W5 W1.heap.size 2 (.slice A2 ((s', t') :: (T ++ xs)).length c2) ((s', t') :: (T ++ xs)).length (jpsC ((s', t') :: (T ++ xs))) := by
    have h1 := hT'.row
    rw [hdr] at h1
    exact h1
   have hcap2 := hrow2.cap
   obtain ⟨g2, o2, hA2, hg2, hg3, -, -⟩ := tailJ_head hrow2
   subst hA2
   have HR2 := Lib.hid hrow2
   have et := hT'.tc
   have tf := hT'.tf
   have lt5 := cell_blk et
   simp only at lt5
   have hcc : ((T ++ xs).length : Int) + 1 ≤ c2 := by have := hcap2.1; simp only [List.length_cons] at this; omega
   clear hT' hk5 hkk hrow2 hdr hcap hcap2 HN HKr
   generalize T ++ xs = T2 at *
   go_wp2_with fail
   all_goals
    go_roundg g'
    case measure => omega
    case rel =>
     have hb7 := fun o => (Below.refl W5.heap.size W5).alloc (Nat.le_refl _) o
     have hT2 : (N ++ xs).drop (i + 1) = T2 := by rw [← List.drop_drop, HD5.out]; rfl
     first
      | exact ⟨N ++ xs, i + 1, W5.heap.size, T2, some ⟨g2, o2, none⟩, 0, rfl, by have := HGi.out; omega, by omega, hT2, HT5.out.next HD5.out (hb7 _) (tailJ_next0 HR2.out (by assumption)) rfl (by go_simp) (by go_simp) (Nat.le_refl _), HQ', But.two HK5'.out (hb7 _)⟩
      | exact ⟨N ++ xs, i + 1, W5.heap.size, T2, some ⟨g2, o2 + 2, none⟩, c2 - 1, rfl, by have := HGi.out; omega, by omega, hT2, HT5.out.next HD5.out (hb7 _) (tailJ_next HR2.out) rfl (by go_simp) (by go_simp) (Nat.le_refl _), HQ', But.two HK5'.out (hb7 _)⟩
end Od
end Go.Proofs.YtbllehjhmfehbaaGreat
end

section
/- The rows that All sorts. No program. -/
namespace Go.Proofs.YtbllehjhmfehbaaGreat
set_option linter.unusedSimpArgs false
namespace Od
theorem keyP_plOf (m n : Ms) (k : Jp) : keyP (plOf m n k) = k := rfl
/-- Whatever the order in which the map gave them: sorted by unit and type they are all. -/
theorem sort_all {m n : Ms} {L S : List Pl} (hm : (keysP m).Nodup) (hL : L.Perm ((keysP m).map (plOf m n))) (hS : S.Perm L) (hle : S.Pairwise (fun a b => ltJ (keyP b) (keyP a) = false)) :
    S = (canon ltJ (keysP m)).map (plOf m n) := by
  have hp := hS.trans hL
  have hk : (S.map keyP).Perm (keysP m) := by
    have := hp.map keyP
    rw [List.map_map] at this
    have e : (keyP ∘ plOf m n) = id := by funext k; rfl
    rw [e, List.map_id] at this
    exact this
  have hn : (S.map keyP).Nodup := hk.nodup_iff.2 hm
  have hss : SS ltJ (S.map keyP) := by
    refine List.pairwise_map.2 ?_
    have h2 : S.Pairwise (fun a b => keyP a ≠ keyP b) := List.pairwise_map.1 hn
    refine (hle.and h2).imp fun {a b} h => ?_
    cases h3 : ltJ (keyP a) (keyP b)
    · exact absurd (toJ.total h3 h.1) h.2
    · rfl
  have hc : S.map keyP = canon ltJ (keysP m) := SS.eq_canon toJ hss fun _ => hk.mem_iff
  rw [← hc, List.map_map]
  symm
  calc S.map (plOf m n ∘ keyP) = S.map id := List.map_congr_left fun s hs => by
        obtain ⟨k, _, e⟩ := List.mem_map.1 (hp.mem_iff.1 hs)
        show plOf m n (keyP s) = s
        rw [← e, keyP_plOf]
    _ = S := List.map_id _
end Od
end Go.Proofs.YtbllehjhmfehbaaGreat
end

section
/- The words of pull.All: three maps of the call's own, what is left out, a delete at a step of a region. No program. (bel2) -/
namespace Go.Proofs.YtbllehjhmfehbaaGreat
open Go.RowKit Go.Sort Go.Maps
set_option linter.unusedSimpArgs false
section
variable {P : Program} {k : TypeId} {α : Type} {κ : KeyKind P k α} {ops : Array Oper} {o : Oper} {a : Act} {K : Act → World → Prop} {Q : Exit → Act → World → Prop} {E : Prop} (w : World)
open Classical in
theorem step_drop_is (hw : Region.wanted o (yielded ops a.tmps) = true) (m x : Operand) (t : TypeId) (hop : o.op = Op.call { callee := Callee.builtin Builtin.delete, args := #[m, x], argTypes := #[t, k] }) (e : TypeId) (ht : P.underlying t = some (.map k e))
  (b n : Nat) (f : α → Option Value) (hm : a.eval m = .map (some b)) (h : MapIs κ w b n f) (key : α) (hx : a.eval x = κ.val key) (hk : κ.ok key)
  (hK : ∀ w', MapIs κ w' b n (fun y => if y = key then none else f y) → w.grownBy w' (some b) → K (a.put o.dst (.tuple #[])) w') : if Region.wanted o (yielded ops a.tmps) = true then Oper.wp P o a w K Q else E := by
 rw [if_pos hw]
 obtain ⟨w', hrun, h1, h2⟩ := h.drop ht hk o.type
 unfold Oper.wp execOp
 simp only [hop, resolve, invoke, builtin, Sem.run_bind, Sem.run_pure, Result.andThen_ok, List.map_toArray, List.map_cons, List.map_nil, hm, hx, hrun]
 exact hK w' h1 h2
end
namespace Od
theorem three_maps {k : TypeId} {α : Type} (κ : KeyKind Tryz.prog k α) (w : World) (n : Nat) (o : Obj) (h : w.heap.size = n) :
  MapIs κ ((((w.alloc (.map #[] 0)).alloc (.map #[] 0)).alloc (.map #[] 0)).alloc o) n 0 (fun _ => none) ∧ MapIs κ ((((w.alloc (.map #[] 0)).alloc (.map #[] 0)).alloc (.map #[] 0)).alloc o) (n + 1) 0 (fun _ => none) ∧
   MapIs κ ((((w.alloc (.map #[] 0)).alloc (.map #[] 0)).alloc (.map #[] 0)).alloc o) (n + 1 + 1) 0 (fun _ => none) := by
 subst h
 have h1 := MapIs.made κ w
 have h2 := MapIs.made κ (w.alloc (.map #[] 0))
 have h3 := MapIs.made κ ((w.alloc (.map #[] 0)).alloc (.map #[] 0))
 simp only [World.size_alloc] at h2 h3
 exact ⟨((h1.alloc _).alloc _).alloc _, (h2.alloc _).alloc _, h3.alloc _⟩
theorem outB_snoc (l : List Pl) (p : Pl) (k : Jp) : outB (l ++ [p]) k = (outB l k || (p.1 == k.1 && p.2.1 == k.2)) := by
 unfold outB; rw [List.any_append]; simp
theorem outV_put (l : List Pl) (p : Pl) : (fun y => if y = (p.1, p.2.1) then some (Value.bool true) else outV (outB l) y) = outV (outB (l ++ [p])) := by
 funext y
 unfold outV
 rw [outB_snoc]
 by_cases e : y = (p.1, p.2.1)
 ·subst e; simp
 ·rw [if_neg e]
  have h : (p.1 == y.1 && p.2.1 == y.2) = false := by
   rw [Bool.and_eq_false_iff]
   by_cases h1 : p.1 = y.1
   ·refine .inr ?_
    simpa using fun h2 : p.2.1 = y.2 => e (Prod.ext h1.symm h2.symm)
   ·exact .inl (by simpa using h1)
  rw [h, Bool.or_false]
theorem outV_nil : (fun _ => none : Jp → Option Value) = outV (outB []) := by
 funext y; simp [outV, outB]
theorem outV_drop (out : Jp → Bool) (first : Jp) : (fun y => if y = first then none else outV out y) = outV (outF out first) := by
 funext y
 unfold outV outF
 by_cases e : y = first
 ·subst e; simp
 ·have h : (y == first) = false := by simpa using e
  rw [if_neg e, h]; simp
def OwnPl (l : List Pl) (w : World) (e : Ending) (w' : World) : Prop := ∃ A c, e = .returned (.slice A l.length c) ∧ w'.ownsRow w.heap.size 37 4 (.slice A l.length c) l.length (plsC l) ∧ Below w.heap.size w w'
theorem infoPl : (Tryz.prog.info? 37).map (fun i => (i.zero, i.size, i.bytes)) = some (some (.agg #[.string ⟨#[]⟩, .int .i64 0, .bool false, .string ⟨#[]⟩]), 4, 48) := by kernel_rfl
abbrev nowV (Au : Option Addr) (nu cu : Nat) (Ah : Option Addr) (nh ch : Nat) : Value := .agg #[.slice Au nu cu, .slice Ah nh ch]
theorem okJ_cand {es : List Ed} (h : OkE es) : ∀ k ∈ candB es, okJ k := by
 intro k hk
 obtain ⟨e, he, h1⟩ := List.mem_flatMap.1 hk
 have h2 := h e he
 have hw : ∀ n : Int, n = 1 ∨ n = 2 ∨ n = 3 → (Lit.int .i64 n).wf = true := by
  rintro n (rfl | rfl | rfl) <;> decide
 simp only [List.mem_cons, List.not_mem_nil, or_false] at h1
 rcases h1 with rfl | rfl | rfl | rfl | rfl | rfl
 ·exact ⟨h2.1, hw _ (.inl rfl)⟩
 ·exact ⟨h2.1, hw _ (.inr (.inl rfl))⟩
 ·exact ⟨h2.1, hw _ (.inr (.inr rfl))⟩
 ·exact ⟨h2.2, hw _ (.inl rfl)⟩
 ·exact ⟨h2.2, hw _ (.inr (.inl rfl))⟩
 ·exact ⟨h2.2, hw _ (.inr (.inr rfl))⟩
end Od
end Go.Proofs.YtbllehjhmfehbaaGreat
end

section
/-
 DERIVED: THE SHELF's CONTRACTS AT THIS DUMP, IN PLAIN WORDS (tools/lay-plain.mjs out of 'TryzSortPull.lean', which tools/lay-shelf.mjs wrote): THE SAME DECLARATIONS UNDER THE SAME NAMES: 'import', 'namespace', 'open', 'def', 'theorem' AND NOTHING ELSE: no command of the shelf's: FOR A HAND-IN. Each laying: the table of numbers ('.._ren') and one theorem, a field a fact of the dump's own or the kernel's comparison; each contract: ONE APPLICATION.
-/
namespace Go.Proofs.YtbllehjhmfehbaaGreat
open Go.Shelf
def Tryz.sortPull_ren : Go.Shelf.Ren := ⟨fun | 6 => 46 | 15 => 92 | 14 => 91 | 28 => 134 | 29 => 135 | 20 => 126 | 21 => 127 | 22 => 128 | 23 => 129 | 24 => 130 | 25 => 131 | 26 => 132 | 27 => 133 | 46 => 181 | 47 => 182 | 48 => 183 | 49 => 184 | 50 => 185 | 57 => 215 | n => n, fun | 22 => 29 | 24 => 37 | 25 => 84 | 3 => 3 | 39 => 150 | 0 => 0 | 53 => 185 | 55 => 187 | 4 => 4 | 46 => 179 | 45 => 178 | 50 => 63 | 5 => 5 | 9 => 9 | 66 => 222 | 70 => 226 | 76 => 247 | 77 => 248 | n => n, fun | n => n⟩
theorem Tryz.sortPull : Go.Proofs.SlLaysF0.n6 Tryz.prog Tryz.sortPull_ren := {
 mixed := by kernel_rfl
 f6 := ⟨Tryz.f46.name, by decide, Tryz.func46.trans (congrArg some (by kernel_rfl))⟩
 f14 := ⟨Tryz.f91.name, by decide, Tryz.func91.trans (congrArg some (by kernel_rfl))⟩
 f15 := Tryz.func92.trans (congrArg some (by kernel_rfl))
 f20 := ⟨Tryz.f126.name, by decide, Tryz.func126.trans (congrArg some (by kernel_rfl))⟩
 f21 := ⟨Tryz.f127.name, by decide, Tryz.func127.trans (congrArg some (by kernel_rfl))⟩
 f22 := ⟨Tryz.f128.name, by decide, Tryz.func128.trans (congrArg some (by kernel_rfl))⟩
 f23 := ⟨Tryz.f129.name, by decide, Tryz.func129.trans (congrArg some (by kernel_rfl))⟩
 f24 := ⟨Tryz.f130.name, by decide, Tryz.func130.trans (congrArg some (by kernel_rfl))⟩
 f25 := ⟨Tryz.f131.name, by decide, Tryz.func131.trans (congrArg some (by kernel_rfl))⟩
 f26 := ⟨Tryz.f132.name, by decide, Tryz.func132.trans (congrArg some (by kernel_rfl))⟩
 f27 := ⟨Tryz.f133.name, by decide, Tryz.func133.trans (congrArg some (by kernel_rfl))⟩
 f28 := Tryz.func134.trans (congrArg some (by kernel_rfl))
 f29 := Tryz.func135.trans (congrArg some (by kernel_rfl))
 f46 := ⟨Tryz.f181.name, by decide, Tryz.func181.trans (congrArg some (by kernel_rfl))⟩
 f47 := Tryz.func182.trans (congrArg some (by kernel_rfl))
 f48 := Tryz.func183.trans (congrArg some (by kernel_rfl))
 f49 := ⟨Tryz.f184.name, by decide, Tryz.func184.trans (congrArg some (by kernel_rfl))⟩
 f50 := ⟨Tryz.f185.name, by decide, Tryz.func185.trans (congrArg some (by kernel_rfl))⟩
 f57 := ⟨Tryz.f215.name, by decide, Tryz.func215.trans (congrArg some (by kernel_rfl))⟩
 t0 := Tryz.underlying0
 a0 := Tryz.isAgg0
 z0 := Tryz.sizeOf0
 v0 := Tryz.zeroValue0
 t3 := Tryz.underlying3
 a3 := Tryz.isAgg3
 z3 := Tryz.sizeOf3
 v3 := Tryz.zeroValue3
 t4 := Tryz.underlying4
 a4 := Tryz.isAgg4
 z4 := Tryz.sizeOf4
 v4 := Tryz.zeroValue4
 t5 := Tryz.underlying5
 a5 := Tryz.isAgg5
 z5 := Tryz.sizeOf5
 v5 := Tryz.zeroValue5
 t9 := Tryz.underlying9
 a9 := Tryz.isAgg9
 z9 := Tryz.sizeOf9
 v9 := Tryz.zeroValue9
 t22 := Tryz.underlying29
 a22 := Tryz.isAgg29
 z22 := Tryz.sizeOf29
 v22 := Tryz.zeroValue29
 t25 := Tryz.underlying84
 a25 := Tryz.isAgg84
 z25 := Tryz.sizeOf84
 v25 := Tryz.zeroValue84
 t39 := Tryz.underlying150
 a39 := Tryz.isAgg150
 z39 := Tryz.sizeOf150
 v39 := Tryz.zeroValue150
 t45 := Tryz.underlying178
 a45 := Tryz.isAgg178
 z45 := Tryz.sizeOf178
 v45 := Tryz.zeroValue178
 t46 := Tryz.underlying179
 a46 := Tryz.isAgg179
 z46 := Tryz.sizeOf179
 v46 := Tryz.zeroValue179
 t50 := Tryz.underlying63
 a50 := Tryz.isAgg63
 z50 := Tryz.sizeOf63
 v50 := Tryz.zeroValue63
 t53 := Tryz.underlying185
 a53 := Tryz.isAgg185
 z53 := Tryz.sizeOf185
 v53 := Tryz.zeroValue185
 t55 := Tryz.underlying187
 a55 := Tryz.isAgg187
 z55 := Tryz.sizeOf187
 v55 := Tryz.zeroValue187
 t66 := Tryz.underlying222
 a66 := Tryz.isAgg222
 z66 := Tryz.sizeOf222
 v66 := Tryz.zeroValue222
 t70 := Tryz.underlying226
 a70 := Tryz.isAgg226
 z70 := Tryz.sizeOf226
 v70 := Tryz.zeroValue226
 t76 := Tryz.underlying247
 a76 := Tryz.isAgg247
 z76 := Tryz.sizeOf247
 v76 := Tryz.zeroValue247
 t77 := Tryz.underlying248
 a77 := Tryz.isAgg248
 z77 := Tryz.sizeOf248
 v77 := Tryz.zeroValue248 }
end Go.Proofs.YtbllehjhmfehbaaGreat
end
