/- My texts, joined for the claim: PStart GMap2 PTurn PSteps1 OwnG PDel PClear GIns PDelF PBack PBrings. -/
import Derived.Test.YtbllehjhmfehbaaGreatZU1
import Derived.Test.YtbllehjhmfehbaaGreatZU3
import Derived.Lib.SliceRun
import Derived.Laws.AppendOwn
import Derived.Laws.IdiomCopy
import Derived.Test.YtbllehjhmfehbaaGreatZU2

section
/- (asker).start: what a start brings. (bel2) -/
namespace Go.Proofs.YtbllehjhmfehbaaGreat
open Go.RowKit Go.Sort
set_option linter.unusedSimpArgs false
namespace Od
def browV (r : BRow) : Value := .slice r.1 r.2.2.length r.2.1
theorem BRows.lit (w : World) (rows : List BRow) (e : TypeId) (h : ∀ r ∈ rows, Rd w w.heap.size 3 r.1 r.2.2.length (brsC r.2.2)) : BRows (w.alloc (.cells (rows.map browV).toArray e)) w.heap.size rows := by
 have hb : Below w.heap.size w (w.alloc (.cells (rows.map browV).toArray e)) := (Below.refl _ _).alloc (Nat.le_refl _) _
 refine ⟨fun i hi => ?_, fun i hi => (h _ (List.getElem_mem hi)).at hb, by simp⟩
 have h1 : (w.alloc (.cells (rows.map browV).toArray e)).heap[w.heap.size]? = some (.cells (rows.map browV).toArray e (0, 0)) := by
  show (w.heap.push _)[w.heap.size]? = _
  exact Array.getElem?_push_size
 unfold World.cell?
 simp only [h1]
 simp [hi, browV]
theorem inwS_len (es : List Ed) (u : Str) (rel : Int) : (inwS es u rel).length ≤ es.length := Nat.le_trans (onceS_len _) (inwRaw_len _ _ _)
theorem outS_len (es : List Ed) (u : Str) (rel : Int) : (outS es u rel).length ≤ es.length := Nat.le_trans (onceS_len _) (outRaw_len _ _ _)
theorem startB_len (es : List Ed) (u : Str) : (startB es u).length ≤ 5 * es.length := by
 unfold startB
 simp only [List.length_append, eachB_len]
 have h1 := outS_len es u 1
 have h2 := outS_len es u 4
 have h3 := outS_len es u 2
 have h4 := outS_len es u 6
 have h5 := inwS_len es u 6
 omega
theorem brows5 (w : World) (a b c d f : BRow) (e : TypeId) (h1 : Rd w w.heap.size 3 a.1 a.2.2.length (brsC a.2.2)) (h2 : Rd w w.heap.size 3 b.1 b.2.2.length (brsC b.2.2)) (h3 : Rd w w.heap.size 3 c.1 c.2.2.length (brsC c.2.2)) (h4 : Rd w w.heap.size 3 d.1 d.2.2.length (brsC d.2.2)) (h5 : Rd w w.heap.size 3 f.1 f.2.2.length (brsC f.2.2)) :
  BRows (w.alloc (.cells #[browV a, browV b, browV c, browV d, browV f] e)) w.heap.size [a, b, c, d, f] := by
 refine BRows.lit w [a, b, c, d, f] e fun r hr => ?_
 simp only [List.mem_cons, List.not_mem_nil, or_false] at hr
 rcases hr with rfl | rfl | rfl | rfl | rfl <;> assumption
theorem startB_rows {es : List Ed} {u : Str} {E0 E1 E2 E3 E4 : Option Addr} {d0 d1 d2 d3 d4 : Nat} : rowsF [(E0, d0, eachB (outS es u 1) 1 true), (E1, d1, eachB (outS es u 4) 1 true), (E2, d2, eachB (outS es u 2) 1 false), (E3, d3, eachB (outS es u 6) 2 true), (E4, d4, eachB (inwS es u 6) 2 true)] = startB es u := by
 unfold rowsF startB
 simp
set_option maxRecDepth 100000 in
set_option maxHeartbeats 4000000 in
theorem start_any (An Ae Au Ah : Option Addr) (nn cn ce nu cu nh ch : Nat) (es : List Ed) (u : Str) (w : World) (hr : Rd w w.heap.size 3 Ae es.length (edsC es)) (hl : es.length ≤ 10000) :
  Calls Tryz.prog 179 #[askV An nn cn Ae es.length ce Au nu cu Ah nh ch, sv u] w (OwnB (startB es u) w) := by
 have Hr := Lib.hid hr
 clear hr
 go_enter Tryz.func179, Tryz.ntmps179
 go_wp2_with fail
 first | (refine wp_named ?_; intro W1 hW) | (refine calls_named ?_; intro W1 hW)
 have B1 : Below w.heap.size w W1 := by rw [hW]; exact bq2
 replace Hr := Lib.hid (Hr.out.at B1)
 have n1 : w.heap.size < W1.heap.size := by rw [hW]; simp <;> omega
 have g0 : W1.cell? ⟨w.heap.size, 0, none⟩ = some (.slice An nn cn) := by rw [hW]; go_simp
 have g1 : W1.cell? ⟨w.heap.size, 1, none⟩ = some (.slice Ae es.length ce) := by rw [hW]; go_simp
 clear hW
 have HB1 := Lib.hid B1
 clear B1
 try go_wp2_with fail
 refine wp_region_held_drew (S := fun w' => Below W1.heap.size W1 w') (by kernel_rfl) (Below.drew (Below.refl _ _)) (fun hHeld => ?_)
 refine tV 0 ?_ ?zq ?_; (case zq => rintro _ -; go_simp; try with_reducible rfl); try simp only [Act.put, zn1, zn2, zn3]
 refine tV 1 ?_ ?zq ?_; (case zq => intro w' hSw; have hCell := fun (b o : Nat) (h : b < W1.heap.size) => hSw.cell (p := ⟨b, o, none⟩) h; clear hSw; go_simp; try with_reducible rfl); try simp only [Act.put, zn1, zn2, zn3]
 refine tV 2 ?_ ?zq ?_; (case zq => rintro _ -; go_simp; try with_reducible rfl); try simp only [Act.put, zn1, zn2, zn3]
 refine tV 5 ?_ ?zq ?_; (case zq => rintro _ -; go_simp; try with_reducible rfl); try simp only [Act.put, zn1, zn2, zn3]
 refine tV 6 ?_ ?zq ?_; (case zq => intro w' hSw; have hCell := fun (b o : Nat) (h : b < W1.heap.size) => hSw.cell (p := ⟨b, o, none⟩) h; clear hSw; go_simp; try with_reducible rfl); try simp only [Act.put, zn1, zn2, zn3]
 refine tV 7 ?_ ?zq ?_; (case zq => rintro _ -; go_simp; try with_reducible rfl); try simp only [Act.put, zn1, zn2, zn3]
 refine tV 10 ?_ ?zq ?_; (case zq => rintro _ -; go_simp; try with_reducible rfl); try simp only [Act.put, zn1, zn2, zn3]
 refine tV 11 ?_ ?zq ?_; (case zq => intro w' hSw; have hCell := fun (b o : Nat) (h : b < W1.heap.size) => hSw.cell (p := ⟨b, o, none⟩) h; clear hSw; go_simp; try with_reducible rfl); try simp only [Act.put, zn1, zn2, zn3]
 refine tV 12 ?_ ?zq ?_; (case zq => rintro _ -; go_simp; try with_reducible rfl); try simp only [Act.put, zn1, zn2, zn3]
 refine tV 15 ?_ ?zq ?_; (case zq => rintro _ -; go_simp; try with_reducible rfl); try simp only [Act.put, zn1, zn2, zn3]
 refine tV 16 ?_ ?zq ?_; (case zq => intro w' hSw; have hCell := fun (b o : Nat) (h : b < W1.heap.size) => hSw.cell (p := ⟨b, o, none⟩) h; clear hSw; go_simp; try with_reducible rfl); try simp only [Act.put, zn1, zn2, zn3]
 refine tV 17 ?_ ?zq ?_; (case zq => rintro _ -; go_simp; try with_reducible rfl); try simp only [Act.put, zn1, zn2, zn3]
 refine tV 20 ?_ ?zq ?_; (case zq => rintro _ -; go_simp; try with_reducible rfl); try simp only [Act.put, zn1, zn2, zn3]
 refine tV 21 ?_ ?zq ?_; (case zq => intro w' hSw; have hCell := fun (b o : Nat) (h : b < W1.heap.size) => hSw.cell (p := ⟨b, o, none⟩) h; clear hSw; go_simp; try with_reducible rfl); try simp only [Act.put, zn1, zn2, zn3]
 refine tV 22 ?_ ?zq ?_; (case zq => rintro _ -; go_simp; try with_reducible rfl); try simp only [Act.put, zn1, zn2, zn3]
 refine ready_one (i := 3) rfl (by kernel_rfl) (fun K hK => ?_)
 go_simp
 refine (Out_any An Ae nn cn ce es u 1 _ (Hr.out.at hHeld) (by omega)).mono ?_
 rintro e y0a ⟨A0, c0, rfl, ho, hb⟩
 have HS0 := Lib.hid (own_rd' ho)
 clear ho
 refine hK.out _ _ ?_ (fun hHeld2 => ?_)
 ·(try dsimp only); first | exact Below.trans hHeld (Below.mono hb hHeld.size) | exact hHeld | exact Below.drew hHeld | exact bq2
 clear hK K hHeld; have hHeld := hHeld2; clear hHeld2; (try simp only [Act.put, zn1, zn2, zn3])
 refine ready_one (i := 4) rfl (by kernel_rfl) (fun K hK => ?_)
 go_simp
 have hln := outS_len es u 1
 refine (some_any A0 c0 (outS es u 1) 1 true _ HS0.out (by omega)).mono ?_
 rintro e y0b ⟨E0, d0, rfl, ho, hb⟩
 have HT0 := Lib.hid (own_rd' ho)
 clear ho hln
 refine hK.out _ _ ?_ (fun hHeld2 => ?_)
 ·(try dsimp only); first | exact Below.trans hHeld (Below.mono hb hHeld.size) | exact hHeld | exact Below.drew hHeld | exact bq2
 clear hK K hHeld; have hHeld := hHeld2; clear hHeld2; (try simp only [Act.put, zn1, zn2, zn3])
 refine ready_one (i := 8) rfl (by kernel_rfl) (fun K hK => ?_)
 go_simp
 refine (Out_any An Ae nn cn ce es u 4 _ (Hr.out.at hHeld) (by omega)).mono ?_
 rintro e y1a ⟨A1, c1, rfl, ho, hb⟩
 have HS1 := Lib.hid (own_rd' ho)
 have HT0_1a := Lib.hid (HT0.out.at hb)
 clear ho
 refine hK.out _ _ ?_ (fun hHeld2 => ?_)
 ·(try dsimp only); first | exact Below.trans hHeld (Below.mono hb hHeld.size) | exact hHeld | exact Below.drew hHeld | exact bq2
 clear hK K hHeld; have hHeld := hHeld2; clear hHeld2; (try simp only [Act.put, zn1, zn2, zn3])
 refine ready_one (i := 9) rfl (by kernel_rfl) (fun K hK => ?_)
 go_simp
 have hln := outS_len es u 4
 refine (some_any A1 c1 (outS es u 4) 1 true _ HS1.out (by omega)).mono ?_
 rintro e y1b ⟨E1, d1, rfl, ho, hb⟩
 have HT1 := Lib.hid (own_rd' ho)
 have HT0_1b := Lib.hid (HT0_1a.out.at hb)
 clear ho hln
 refine hK.out _ _ ?_ (fun hHeld2 => ?_)
 ·(try dsimp only); first | exact Below.trans hHeld (Below.mono hb hHeld.size) | exact hHeld | exact Below.drew hHeld | exact bq2
 clear hK K hHeld; have hHeld := hHeld2; clear hHeld2; (try simp only [Act.put, zn1, zn2, zn3])
 refine ready_one (i := 13) rfl (by kernel_rfl) (fun K hK => ?_)
 go_simp
 refine (Out_any An Ae nn cn ce es u 2 _ (Hr.out.at hHeld) (by omega)).mono ?_
 rintro e y2a ⟨A2, c2, rfl, ho, hb⟩
 have HS2 := Lib.hid (own_rd' ho)
 have HT0_2a := Lib.hid (HT0_1b.out.at hb)
 have HT1_2a := Lib.hid (HT1.out.at hb)
 clear ho
 refine hK.out _ _ ?_ (fun hHeld2 => ?_)
 ·(try dsimp only); first | exact Below.trans hHeld (Below.mono hb hHeld.size) | exact hHeld | exact Below.drew hHeld | exact bq2
 clear hK K hHeld; have hHeld := hHeld2; clear hHeld2; (try simp only [Act.put, zn1, zn2, zn3])
 refine ready_one (i := 14) rfl (by kernel_rfl) (fun K hK => ?_)
 go_simp
 have hln := outS_len es u 2
 refine (some_any A2 c2 (outS es u 2) 1 false _ HS2.out (by omega)).mono ?_
 rintro e y2b ⟨E2, d2, rfl, ho, hb⟩
 have HT2 := Lib.hid (own_rd' ho)
 have HT0_2b := Lib.hid (HT0_2a.out.at hb)
 have HT1_2b := Lib.hid (HT1_2a.out.at hb)
 clear ho hln
 refine hK.out _ _ ?_ (fun hHeld2 => ?_)
 ·(try dsimp only); first | exact Below.trans hHeld (Below.mono hb hHeld.size) | exact hHeld | exact Below.drew hHeld | exact bq2
 clear hK K hHeld; have hHeld := hHeld2; clear hHeld2; (try simp only [Act.put, zn1, zn2, zn3])
 refine ready_one (i := 18) rfl (by kernel_rfl) (fun K hK => ?_)
 go_simp
 refine (Out_any An Ae nn cn ce es u 6 _ (Hr.out.at hHeld) (by omega)).mono ?_
 rintro e y3a ⟨A3, c3, rfl, ho, hb⟩
 have HS3 := Lib.hid (own_rd' ho)
 have HT0_3a := Lib.hid (HT0_2b.out.at hb)
 have HT1_3a := Lib.hid (HT1_2b.out.at hb)
 have HT2_3a := Lib.hid (HT2.out.at hb)
 clear ho
 refine hK.out _ _ ?_ (fun hHeld2 => ?_)
 ·(try dsimp only); first | exact Below.trans hHeld (Below.mono hb hHeld.size) | exact hHeld | exact Below.drew hHeld | exact bq2
 clear hK K hHeld; have hHeld := hHeld2; clear hHeld2; (try simp only [Act.put, zn1, zn2, zn3])
 refine ready_one (i := 19) rfl (by kernel_rfl) (fun K hK => ?_)
 go_simp
 have hln := outS_len es u 6
 refine (some_any A3 c3 (outS es u 6) 2 true _ HS3.out (by omega)).mono ?_
 rintro e y3b ⟨E3, d3, rfl, ho, hb⟩
 have HT3 := Lib.hid (own_rd' ho)
 have HT0_3b := Lib.hid (HT0_3a.out.at hb)
 have HT1_3b := Lib.hid (HT1_3a.out.at hb)
 have HT2_3b := Lib.hid (HT2_3a.out.at hb)
 clear ho hln
 refine hK.out _ _ ?_ (fun hHeld2 => ?_)
 ·(try dsimp only); first | exact Below.trans hHeld (Below.mono hb hHeld.size) | exact hHeld | exact Below.drew hHeld | exact bq2
 clear hK K hHeld; have hHeld := hHeld2; clear hHeld2; (try simp only [Act.put, zn1, zn2, zn3])
 refine ready_one (i := 23) rfl (by kernel_rfl) (fun K hK => ?_)
 go_simp
 refine (GIn_any An Ae nn cn ce es u 6 _ (Hr.out.at hHeld) (by omega)).mono ?_
 rintro e y4a ⟨A4, c4, rfl, ho, hb⟩
 have HS4 := Lib.hid (own_rd' ho)
 have HT0_4a := Lib.hid (HT0_3b.out.at hb)
 have HT1_4a := Lib.hid (HT1_3b.out.at hb)
 have HT2_4a := Lib.hid (HT2_3b.out.at hb)
 have HT3_4a := Lib.hid (HT3.out.at hb)
 clear ho
 refine hK.out _ _ ?_ (fun hHeld2 => ?_)
 ·(try dsimp only); first | exact Below.trans hHeld (Below.mono hb hHeld.size) | exact hHeld | exact Below.drew hHeld | exact bq2
 clear hK K hHeld; have hHeld := hHeld2; clear hHeld2; (try simp only [Act.put, zn1, zn2, zn3])
 refine ready_one (i := 24) rfl (by kernel_rfl) (fun K hK => ?_)
 go_simp
 have hln := inwS_len es u 6
 refine (some_any A4 c4 (inwS es u 6) 2 true _ HS4.out (by omega)).mono ?_
 rintro e y4b ⟨E4, d4, rfl, ho, hb⟩
 have hz4 : W1.heap.size ≤ y4b.heap.size := Nat.le_trans hHeld.size hb.size
 have HT4 := Lib.hid (own_rd' ho)
 have HT0_4b := Lib.hid (HT0_4a.out.at hb)
 have HT1_4b := Lib.hid (HT1_4a.out.at hb)
 have HT2_4b := Lib.hid (HT2_4a.out.at hb)
 have HT3_4b := Lib.hid (HT3_4a.out.at hb)
 clear ho hln
 refine hK.out _ _ ?_ (fun hHeld2 => ?_)
 ·(try dsimp only); first | exact Below.trans hHeld (Below.mono hb hHeld.size) | exact hHeld | exact Below.drew hHeld | exact bq2
 clear hK K hHeld; have hHeld := hHeld2; clear hHeld2; (try simp only [Act.put, zn1, zn2, zn3])
 refine ready_one (i := 25) rfl (by kernel_rfl) (fun K hK => ?_)
 go_simp
 refine hK.out _ _ ?_ (fun hHeld2 => ?_)
 ·(try dsimp only); first | exact hHeld | exact bq2
 clear hK K hHeld; have hHeld := hHeld2; clear hHeld2; (try simp only [Act.put, zn1, zn2, zn3])
 refine ready_one (i := 26) rfl (by kernel_rfl) (fun K hK => ?_)
 go_simp
 have hrows := brows5 y4b (E0, d0, eachB (outS es u 1) 1 true) (E1, d1, eachB (outS es u 4) 1 true) (E2, d2, eachB (outS es u 2) 1 false) (E3, d3, eachB (outS es u 6) 2 true) (E4, d4, eachB (inwS es u 6) 2 true) 175 HT0_4b.out HT1_4b.out HT2_4b.out HT3_4b.out HT4.out
 have hlen : (rowsF [(E0, d0, eachB (outS es u 1) 1 true), (E1, d1, eachB (outS es u 4) 1 true), (E2, d2, eachB (outS es u 2) 1 false), (E3, d3, eachB (outS es u 6) 2 true), (E4, d4, eachB (inwS es u 6) 2 true)]).length ≤ 1000000 := by rw [startB_rows]; have := startB_len es u; omega
 refine (ConcatB_any y4b.heap.size [(E0, d0, eachB (outS es u 1) 1 true), (E1, d1, eachB (outS es u 4) 1 true), (E2, d2, eachB (outS es u 2) 1 false), (E3, d3, eachB (outS es u 6) 2 true), (E4, d4, eachB (inwS es u 6) 2 true)] _ hrows hlen (by simp)).mono ?_
 rw [startB_rows]
 rintro e y5 ⟨A9, c9, rfl, ho9, hb⟩
 have HO9 := Lib.hid (show y5.ownsRow w.heap.size _ _ _ _ _ from ho9.mono (by have := hHeld.size; have := HB1.out.size; simp at *; omega))
 clear ho9
 refine hK.out _ _ ?_ (fun hHeld2 => ?_)
 ·(try dsimp only); first | exact Below.trans hHeld (Below.mono hb hHeld.size) | exact hHeld | exact Below.drew hHeld | exact bq2
 clear hK K hHeld; have hHeld := hHeld2; clear hHeld2; (try simp only [Act.put, zn1, zn2, zn3])
 refine tV 27 ?_ ?zq ?_; (case zq => rintro _ -; go_simp; try with_reducible rfl); try simp only [Act.put, zn1, zn2, zn3]
 refine wpAnyH_done (by kernel_rfl) ?_ _
 go_wp2_with fail
 go_ret
 exact ⟨A9, c9, rfl, HO9.out, lift HB1.out hHeld⟩
end Od
end Go.Proofs.YtbllehjhmfehbaaGreat
end

section
/- More of maps of the call's own: a look-up that tells whether it is there; a delete; at a walk and at a step of a region that draws its order. -/
namespace Go.Proofs.YtbllehjhmfehbaaGreat
open Go.RowKit Go.Maps

section
variable {P : Program} {k : TypeId} {α : Type} {κ : KeyKind P k α} {w w' : World} {b n : Nat} {f : α → Option Value}
theorem MapIs.lookOk {t e : TypeId} {z : Value} (h : MapIs κ w b n f) (ht : P.underlying t = some (.map k e)) (hz : (zeroValue e).run P w = .ok z w) {x : α} (hx : κ.ok x) :
  (Instr.lookup t (.map (some b)) (κ.val x) true).run P w = .ok (.tuple #[(f x).getD z, .bool (f x).isSome]) w := by
 obtain ⟨D, h, hf⟩ := h
 obtain ⟨v, ps, hrun, hv⟩ := h.look_ok κ.law ht hz (zd := .held z) (zp := []) rfl (κ.key x hx)
 rw [(hf x hx).2] at hv
 rw [hrun, (hf x hx).1]
 cases hfx : f x
 ·rw [hfx] at hv
  simp only [idR, Option.map_none, Option.getD_none, Option.some.injEq, Prod.mk.injEq, DataW.held.injEq] at hv
  rw [hv.1]; rfl
 ·rw [hfx] at hv
  simp only [idR, Option.map_some, Option.getD_some, Option.some.injEq, Prod.mk.injEq, DataW.held.injEq] at hv
  rw [hv.1]; rfl
open Classical in
theorem MapIs.drop {t e : TypeId} (h : MapIs κ w b n f) (ht : P.underlying t = some (.map k e)) {x : α} (hx : κ.ok x) (ty : TypeId) :
  ∃ w', (Builtin.delete_ #[t, k] ty #[.map (some b), κ.val x]).run P w = .ok (.tuple #[]) w' ∧ MapIs κ w' b n (fun y => if y = x then none else f y) ∧ w.grownBy w' (some b) := by
 obtain ⟨D, h, hf⟩ := h
 have him := h.isMap
 obtain ⟨w', hrun, h', hg⟩ := h.drop κ.law ht (key := κ.val x) (κ.key x hx) ty
 refine ⟨w', hrun, ⟨_, h', fun y hy => ?_⟩, hg.grown⟩
 by_cases hyx : y = x
 ·subst hyx
  refine ⟨?_, fun z => ?_⟩
  ·rw [Maps.has_del_same]; simp
  ·rw [Maps.atKey_of_not_has (by rw [Maps.has_del_same])]; simp
 ·have hne : κ.kl y ≠ κ.kl x := fun e => hyx (κ.kl_inj hy hx e)
  exact ⟨by rw [Maps.has_del_other hne]; simp [hyx, hf y hy], fun z => by rw [Maps.atKey_del_other hne]; simp [hyx, hf y hy]⟩
end
section
variable {P : Program} {k : TypeId} {α : Type} {κ : KeyKind P k α} {ops : Array Oper} {rest : List Oper} {o : Oper} {a : Act} {K : Act → World → Prop} {Q : Exit → Act → World → Prop} {E : Prop} (w : World)
theorem wpList_lookOk_is (hg : o.guard = none) (m x : Operand) (t : TypeId) (hop : o.op = Op.lookup t m x true) (e : TypeId) (ht : P.underlying t = some (.map k e)) (z : Value) (hz : (zeroValue e).run P w = .ok z w)
  (b n : Nat) (f : α → Option Value) (hm : a.eval m = .map (some b)) (h : MapIs κ w b n f) (key : α) (hx : a.eval x = κ.val key) (hk : κ.ok key)
  (hK : wpList P ops Q rest (a.put o.dst (.tuple #[(f key).getD z, .bool (f key).isSome])) w) : wpList P ops Q (o :: rest) a w := by
 refine wpList_plain hg fun K' hK' => ?_
 have hrun := h.lookOk ht hz hk
 unfold Oper.wp
 simp [execOp, hop, hm, hx, hrun, Result.andThen]
 exact hK' _ _ hK
theorem step_lookOk_is (hw : Region.wanted o (yielded ops a.tmps) = true) (m x : Operand) (t : TypeId) (hop : o.op = Op.lookup t m x true) (e : TypeId) (ht : P.underlying t = some (.map k e)) (z : Value) (hz : (zeroValue e).run P w = .ok z w)
  (b n : Nat) (f : α → Option Value) (hm : a.eval m = .map (some b)) (h : MapIs κ w b n f) (key : α) (hx : a.eval x = κ.val key) (hk : κ.ok key)
  (hK : K (a.put o.dst (.tuple #[(f key).getD z, .bool (f key).isSome])) w) : if Region.wanted o (yielded ops a.tmps) = true then Oper.wp P o a w K Q else E := by
 rw [if_pos hw]
 have hrun := h.lookOk ht hz hk
 unfold Oper.wp
 simp [execOp, hop, hm, hx, hrun, Result.andThen]
 exact hK
end
end Go.Proofs.YtbllehjhmfehbaaGreat
end

section
/- One block turned, the others kept; a row in a cell of the call's own. No program. (bel2) -/
namespace Go.Proofs.YtbllehjhmfehbaaGreat
open Go.RowKit Go.Sort Go.Maps
set_option linter.unusedSimpArgs false
theorem grownBy_setCell (w : World) (p : Addr) (u : Value) : w.grownBy (w.setCell p u) (some p.block) :=
 ⟨rfl, rfl, rfl, by simp [World.setCell], fun k _ hne => Below.heap_setCell _ _ _ _ (fun e => hne (by rw [e]))⟩
theorem cell_kept {w w' : World} {b o : Nat} {v : Value} {row : Option Nat} (c : w.cell? ⟨b, o, none⟩ = some v) (hg : w.grownBy w' row) (hb : b < w.heap.size) (hne : row ≠ some b) : w'.cell? ⟨b, o, none⟩ = some v :=
 (World.cell?_of_block (a := ⟨b, o, none⟩) (hg.block b hb (fun e => hne e.symm))).trans c
theorem fro_kept {w w' : World} {b o : Nat} {row : Option Nat} (c : w.frozen? ⟨b, o, none⟩ = false) (hg : w.grownBy w' row) (hb : b < w.heap.size) (hne : row ≠ some b) : w'.frozen? ⟨b, o, none⟩ = false :=
 (World.frozen?_of_block (a := ⟨b, o, none⟩) (hg.block b hb (fun e => hne e.symm))).trans c
namespace Od
/-- All blocks but one. -/
def But (w : World) (md : Nat) (b : Nat) : Prop := b < w.heap.size ∧ b ≠ md
section
variable {w w' : World} {md : Nat}
theorem But.below (hb : Below w.heap.size w w') : Keeps (But w md) w w' := ⟨hb.os, hb.tape, hb.output, hb.size, fun j hj => hb.block j hj.1⟩
theorem But.trans {w'' : World} (h : Keeps (But w md) w w') (h' : Keeps (But w' md) w' w'') : Keeps (But w md) w w'' :=
 ⟨h'.os.trans h.os, h'.tape.trans h.tape, h'.output.trans h.output, Nat.le_trans h.size h'.size, fun j hj => (h'.block j ⟨Nat.lt_of_lt_of_le hj.1 h.size, hj.2⟩).trans (h.block j hj)⟩
theorem cellK {b o : Nat} {v : Value} (c : w.cell? ⟨b, o, none⟩ = some v) (hk : Keeps (But w md) w w') (h : b < w.heap.size) (hne : ¬ b = md) : w'.cell? ⟨b, o, none⟩ = some v := (World.cell?_of_block (a := ⟨b, o, none⟩) (hk.block b ⟨h, hne⟩)).trans c
theorem froK {b o : Nat} (c : w.frozen? ⟨b, o, none⟩ = false) (hk : Keeps (But w md) w w') (h : b < w.heap.size) (hne : ¬ b = md) : w'.frozen? ⟨b, o, none⟩ = false := (World.frozen?_of_block (a := ⟨b, o, none⟩) (hk.block b ⟨h, hne⟩)).trans c
theorem But.grown (hg : w.grownBy w' (some md)) : Keeps (But w md) w w' := ⟨hg.os, hg.tape, hg.output, hg.size, fun j hj => hg.block j hj.1 (fun e => hj.2 (by injection e))⟩
theorem But.two {w1 w2 : World} {mj : Nat} (h : Keeps (But w mj) w w1) (hb : Below w1.heap.size w1 w2) : Keeps (But w mj) w w2 := But.trans h (But.below hb)
theorem But.low {w0 w1 : World} (hb : Below w0.heap.size w0 w) (h : Keeps (But w md) w w1) (hm : w0.heap.size ≤ md) : Below w0.heap.size w0 w1 :=
 ⟨h.os.trans hb.os, h.tape.trans hb.tape, h.output.trans hb.output, Nat.le_trans hb.size h.size, fun j hj => (h.block j ⟨Nat.lt_of_lt_of_le hj hb.size, by omega⟩).trans (hb.block j hj)⟩
theorem But.own {base e k n : Nat} {v : Value} {xs : List Value} (h : Keeps (But w md) w w') (ho : w.ownsRow base e k v n xs) (hne : v.ownBlock ≠ some md) : w'.ownsRow base e k v n xs :=
 h.own ho fun g hg => ⟨(ho.lt g hg).2, fun e => hne (by rw [hg, e])⟩
end
/-- The blocks of F may be turned, and what was made since; F' is of F or new. -/
def TookB (F F' : Nat → Prop) (w w' : World) : Prop := Keeps (fun k => k < w.heap.size ∧ ¬ F k) w w' ∧ ∀ k, F' k → F k ∨ w.heap.size ≤ k
theorem TookB.refl (F : Nat → Prop) (w : World) : TookB F F w w := ⟨Keeps.refl _ _, fun _ h => .inl h⟩
theorem TookB.below {F : Nat → Prop} {w w' : World} (h : Below w.heap.size w w') : TookB F F w w' := ⟨Keeps.of_below (fun _ h => h.1) h, fun _ h => .inl h⟩
theorem TookB.trans {F F1 F2 : Nat → Prop} {w w1 w2 : World} (h : TookB F F1 w w1) (h' : TookB F1 F2 w1 w2) : TookB F F2 w w2 := by
 refine ⟨⟨h'.1.os.trans h.1.os, h'.1.tape.trans h.1.tape, h'.1.output.trans h.1.output, Nat.le_trans h.1.size h'.1.size, fun j hj => ?_⟩, fun k hk => ?_⟩
 ·rw [h'.1.block j ⟨Nat.lt_of_lt_of_le hj.1 h.1.size, fun hf => ?_⟩, h.1.block j hj]
  rcases h.2 j hf with h1 | h1
  ·exact hj.2 h1
  ·exact absurd hj.1 (by omega)
 ·rcases h'.2 k hk with h1 | h1
  ·exact h.2 k h1
  ·exact .inr (Nat.le_trans h.1.size h1)
theorem TookB.then {F F1 : Nat → Prop} {w w1 w2 : World} (h : TookB F F1 w w1) (hb : Below w1.heap.size w1 w2) : TookB F F1 w w2 := h.trans (TookB.below hb)
theorem TookB.cell {F F1 : Nat → Prop} {w w1 : World} {b o : Nat} {v : Value} (h : TookB F F1 w w1) (c : w.cell? ⟨b, o, none⟩ = some v) (hb : b < w.heap.size) (hF : ¬ F b) : w1.cell? ⟨b, o, none⟩ = some v := (World.cell?_of_block (a := ⟨b, o, none⟩) (h.1.block b ⟨hb, hF⟩)).trans c
theorem TookB.own {F F1 : Nat → Prop} {w w1 : World} {base e k n : Nat} {v : Value} {xs : List Value} (h : TookB F F1 w w1) (ho : w.ownsRow base e k v n xs) (hF : ∀ b, v.ownBlock = some b → ¬ F b) : w1.ownsRow base e k v n xs :=
 h.1.own ho fun g hg => ⟨(ho.lt g hg).2, hF g hg⟩
theorem own_lit {w : World} {e k n : Nat} (cs : List Value) (hl : cs.length = n * k) (hn : n ≤ maxLen) : (w.alloc (.cells cs.toArray e)).ownsRow w.heap.size e k (.slice (some ⟨w.heap.size, 0, none⟩) n n) n cs := by
 refine ⟨hl, .inr ⟨w.heap.size, n, cs.toArray, rfl, Nat.le_refl _, ?_, Nat.le_refl _, hn, by simpa using hl, ?_⟩⟩
 ·show (w.heap.push _)[w.heap.size]? = _
  exact Array.getElem?_push_size
 ·simp only [List.toList_toArray, ← hl, List.take_length]
theorem infoJp : (Tryz.prog.info? 73).map (fun i => (i.zero, i.size, i.bytes)) = some (some (.agg #[.string ⟨#[]⟩, .int .i64 0]), 2, 24) := by kernel_rfl
theorem zeroS (w : World) : (zeroValue 9).run Tryz.prog w = .ok (.string ⟨#[]⟩) w := Tryz.zeroValue9 w
abbrev okJ (p : Jp) : Prop := p.1.length ≤ maxLen ∧ (Lit.int .i64 p.2).wf = true
def byV (m : Ms) (k : Jp) : Option Value := (byF m k).map sv
theorem byV_push {m : Ms} {k : Jp} {s : Str} (h : knownP m k = false) : (fun y => if y = k then some (sv s) else byV m y) = byV (m ++ [(k, s)]) := by
 funext y
 unfold byV
 rw [byF_push h]
 show _ = (if y = k then some s else byF m y).map sv
 split <;> rfl
theorem MapIs.if_ {w : World} {b n : Nat} {k : Jp} {a : Option Value} {f : Jp → Option Value} (h : MapIs kindJ w b n (fun y => @ite (Option Value) (y = k) (Classical.propDecidable _) a (f y))) : MapIs kindJ w b n (fun y => if y = k then a else f y) := by
 have e : (fun y => @ite (Option Value) (y = k) (Classical.propDecidable _) a (f y)) = (fun y => if y = k then a else f y) := by
  funext y
  by_cases e : y = k <;> simp [e]
 rwa [e] at h
def noO : Jp → Bool := fun _ => false
theorem addP_no {out : Jp → Bool} {s : Ms × List Jp} {p : Jp × Str} (h : out p.1 = false) : addP noO s p = addP out s p := by
 unfold addP noO; rw [h]
theorem fold_no {out : Jp → Bool} : ∀ (l : List (Jp × Str)) (s : Ms × List Jp), (l.filter (fun p => !out p.1)).foldl (addP noO) s = l.foldl (addP out) s
 | [], _ => rfl
 | p :: l, s => by
  rw [List.filter_cons]
  by_cases h : out p.1 = true
  ·have e : addP out s p = s := by unfold addP; rw [h]; simp
   rw [show (!out p.1) = false by rw [h]; rfl, if_neg (by simp), List.foldl_cons, e]
   exact fold_no l s
  ·have h' : out p.1 = false := by simpa using h
   rw [show (!out p.1) = true by rw [h']; rfl, if_pos rfl, List.foldl_cons, List.foldl_cons, addP_no h']
   exact fold_no l _
def bysB (u : Str) (D : List Bg) : List (Jp × Str) := D.map (fun b => (b.1, u))
theorem bysB_filter (out : Jp → Bool) (u : Str) (L : List Bg) : bysB u (L.filter (fun b => !out b.1)) = (bysB u L).filter (fun p => !out p.1) := by
 unfold bysB
 rw [List.filter_map]; rfl
end Od
end Go.Proofs.YtbllehjhmfehbaaGreat
end

section
/- The closure of (*closure).steps: who is new is told by whom, and put behind the next row. (bel2) -/
namespace Go.Proofs.YtbllehjhmfehbaaGreat
open Go.RowKit Go.Sort Go.Maps
set_option linter.unusedSimpArgs false
namespace Od
/-- What the taker of steps finds: the closure's pointer in block cB, its map by in block yB, the row that grows in the cell of block nB. -/
structure StT (first : Jp) (cand : List Jp) (cB nB cb mw yB base : Nat) (s : Ms × List Jp) (v : Value) (w : World) : Prop where
 cc : w.cell? ⟨cB, 0, none⟩ = some (.pointer (some ⟨cb, 0, none⟩))
 c5 : w.cell? ⟨cb, 5, none⟩ = some (.map (some yB))
 nc : w.cell? ⟨nB, 0, none⟩ = some v
 nf : w.frozen? ⟨nB, 0, none⟩ = false
 own : w.ownsRow base 73 2 v s.2.length (jpsC s.2)
 mp : MapIs kindJ w yB s.1.length (byV s.1)
 mid : Mid first cand s
 sep : ∀ b, v.ownBlock = some b → b ≠ yB ∧ b ≠ nB ∧ b ≠ cB ∧ b ≠ cb ∧ b ≠ mw
/-- No two of these blocks are one. -/
structure StA (cB nB cb mw yB : Nat) : Prop where
 a1 : yB ≠ cB
 a2 : yB ≠ nB
 a3 : yB ≠ cb
 a4 : nB ≠ cB
 a5 : nB ≠ cb
 a6 : nB ≠ mw
 a7 : yB ≠ mw
/-- The blocks that it may turn. -/
def StF (yB nB : Nat) (v : Value) (k : Nat) : Prop := k = yB ∨ k = nB ∨ v.ownBlock = some k
section
variable {first : Jp} {cand : List Jp} {cB nB cb mw yB base : Nat} {s : Ms × List Jp} {v : Value} {w w' : World}
theorem StT.on (h : StT first cand cB nB cb mw yB base s v w) (hb : Below w.heap.size w w') : StT first cand cB nB cb mw yB base s v w' := by
 have c : ∀ {b o : Nat} {x : Value}, w.cell? ⟨b, o, none⟩ = some x → w'.cell? ⟨b, o, none⟩ = some x := fun c => cellAt c hb (cell_blk c)
 have hl := cell_blk h.nc
 exact ⟨c h.cc, c h.c5, c h.nc, froAt h.nf hb hl, own_on h.own hb, h.mp.on hb, h.mid, h.sep⟩
theorem StT.low (h : StT first cand cB nB cb mw yB base s v w) (ha : StA cB nB cb mw yB) {B : Nat} (h1 : B ≤ yB) (h2 : B ≤ nB) (h3 : B ≤ base) : ∀ k, StF yB nB v k → (B ≤ k ∧ k ≠ cb ∧ k ≠ mw) ∧ k < w.heap.size := by
 rintro k (rfl | rfl | hk)
 ·exact ⟨⟨h1, ha.a3, ha.a7⟩, h.mp.lt⟩
 ·exact ⟨⟨h2, ha.a5, ha.a6⟩, cell_blk h.nc⟩
 ·have h5 := h.own.lt k hk
  have h6 := h.sep k hk
  exact ⟨⟨by omega, h6.2.2.2.1, h6.2.2.2.2⟩, h5.2⟩
/-- What the taker's turn comes to. -/
theorem StT.put (h : StT first cand cB nB cb mw yB base s v w) (ha : StA cB nB cb mw yB) {k : Jp} {u : Str} (hkn : knownP s.1 k = false) (hc : k ∈ cand) {w5 w7 : World} {A8 : Option Addr} {c8 : Nat}
  (hm5 : MapIs kindJ w5 yB (s.1.length + 1) (fun y => if y = k then some (sv u) else byV s.1 y)) (hk5 : Keeps (But w yB) w w5)
  (hown : w7.ownsRow base 73 2 (.slice A8 (s.2.length + 1) c8) (s.2.length + 1) (jpsC s.2 ++ jpC k)) (hg : w5.grownBy w7 v.ownBlock)
  (hat : (Value.slice A8 (s.2.length + 1) c8).ownBlock = v.ownBlock ∨ (Value.slice A8 (s.2.length + 1) c8).ownBlock = some (w5.heap.size + 1)) (hmw : mw < w.heap.size) :
  StT first cand cB nB cb mw yB base (addP noO s (k, u)) (.slice A8 (s.2.length + 1) c8) (w7.setCell ⟨nB, 0, none⟩ (.slice A8 (s.2.length + 1) c8)) ∧
   TookB (StF yB nB v) (StF yB nB (.slice A8 (s.2.length + 1) c8)) w (w7.setCell ⟨nB, 0, none⟩ (.slice A8 (s.2.length + 1) c8)) := by
 have e : addP noO s (k, u) = (s.1 ++ [(k, u)], s.2 ++ [k]) := by unfold addP noO; rw [hkn]; rfl
 have hmid : Mid first cand (addP noO s (k, u)) := h.mid.add hc
 rw [e] at hmid ⊢
 have hl1 := cell_blk h.cc
 have hl2 := cell_blk h.c5
 have hl3 := cell_blk h.nc
 simp only at hl1 hl2 hl3
 have hly := h.mp.lt
 have hs5 := hk5.size
 have hs7 := hg.size
 have hsv := h.sep
 have hb : ∀ j, j < w.heap.size → j ≠ yB → j ≠ nB → v.ownBlock ≠ some j → (w7.setCell ⟨nB, 0, none⟩ (.slice A8 (s.2.length + 1) c8)).heap[j]? = w.heap[j]? := fun j hj h1 h2 h3 => by
  rw [(grownBy_setCell w7 ⟨nB, 0, none⟩ (.slice A8 (s.2.length + 1) c8)).block j (by omega) (fun e => h2 (by injection e)), hg.block j (by omega) (fun e => h3 e.symm), hk5.block j ⟨hj, h1⟩]
 have hc' : ∀ {b o : Nat} {x : Value}, w.cell? ⟨b, o, none⟩ = some x → b < w.heap.size → b ≠ yB → b ≠ nB → v.ownBlock ≠ some b → (w7.setCell ⟨nB, 0, none⟩ (.slice A8 (s.2.length + 1) c8)).cell? ⟨b, o, none⟩ = some x := fun c h0 h1 h2 h3 => (World.cell?_of_block (a := ⟨_, _, none⟩) (hb _ h0 h1 h2 h3)).trans c
 have n1 : v.ownBlock ≠ some cB := fun e => (hsv _ e).2.2.1 rfl
 have n2 : v.ownBlock ≠ some cb := fun e => (hsv _ e).2.2.2.1 rfl
 have n3 : v.ownBlock ≠ some nB := fun e => (hsv _ e).2.1 rfl
 have n4 : v.ownBlock ≠ some yB := fun e => (hsv _ e).1 rfl
 have n5 : v.ownBlock ≠ some mw := fun e => (hsv _ e).2.2.2.2 rfl
 have c5 := cellK h.nc hk5 hl3 (fun e => ha.a2 e.symm)
 have f5 := froK h.nf hk5 hl3 (fun e => ha.a2 e.symm)
 have c7 := cell_kept c5 hg (by omega) n3
 have f7 := fro_kept f5 hg (by omega) n3
 have hnew : ∀ b, (Value.slice A8 (s.2.length + 1) c8).ownBlock = some b → v.ownBlock = some b ∨ w.heap.size ≤ b := fun b hb => by
  rcases hat with h0 | h0
  ·exact .inl (h0 ▸ hb)
  ·rw [h0] at hb; injection hb with hb; exact .inr (by omega)
 have hne : (Value.slice A8 (s.2.length + 1) c8).ownBlock ≠ some nB := fun e => by
  rcases hnew _ e with h0 | h0
  ·exact n3 h0
  ·omega
 refine ⟨⟨hc' h.cc hl1 (fun e => ha.a1 e.symm) (fun e => ha.a4 e.symm) n1, hc' h.c5 hl2 (fun e => ha.a3 e.symm) (fun e => ha.a5 e.symm) n2, World.cell?_setCell_same _ _ _ c7, by rw [World.frozen?_setCell]; exact f7, ?_, ?_, hmid, fun b hb => ?_⟩, ?_, ?_⟩
 ·have h0 := hown.kept (grownBy_setCell w7 ⟨nB, 0, none⟩ (.slice A8 (s.2.length + 1) c8)) (.inr hne)
  simpa [jpsC_app, jpsC_one] using h0
 ·rw [byV_push hkn] at hm5
  have h0 := (hm5.kept hg (fun e => n4 e.symm)).kept (grownBy_setCell w7 ⟨nB, 0, none⟩ (.slice A8 (s.2.length + 1) c8)) (fun e => ha.a2 (by injection e))
  simpa using h0
 ·rcases hnew _ hb with h0 | h0
  ·exact hsv _ h0
  ·exact ⟨by omega, by omega, by omega, by omega, by omega⟩
 ·refine ⟨?_, ?_, ?_, ?_, fun j hj => hb j hj.1 (fun e => hj.2 (.inl e)) (fun e => hj.2 (.inr (.inl e))) (fun e => hj.2 (.inr (.inr e)))⟩
  ·exact hg.os.trans hk5.os
  ·exact hg.tape.trans hk5.tape
  ·exact hg.output.trans hk5.output
  ·simp only [World.size_setCell]; omega
 ·rintro b (h0 | h0 | h0)
  ·exact .inl (.inl h0)
  ·exact .inl (.inr (.inl h0))
  ·rcases hnew _ h0 with h1 | h1
   ·exact .inl (.inr (.inr h1))
   ·exact .inr h1
end
set_option maxRecDepth 100000 in
set_option maxHeartbeats 8000000 in
theorem steps1_any (first : Jp) (cand : List Jp) (cB jB nB cb mw yB base : Nat) (u : Str) (s0 : Ms × List Jp) (v : Value) (s : Str) (t : Int) (n : Bool) (w : World)
  (h : StT first cand cB nB cb mw yB base s0 v w) (ha : StA cB nB cb mw yB) (hj : w.cell? ⟨jB, 0, none⟩ = some (sv u)) (hj1 : jB ≠ yB ∧ jB ≠ nB ∧ v.ownBlock ≠ some jB) (hc : (s, t) ∈ cand) (hok : okJ (s, t)) (hcl : cand.length ≤ 1000000) (hmw : mw < w.heap.size) (hbase : base ≤ w.heap.size) :
  Calls Tryz.prog 89 #[.agg #[sv s, .int .i64 t, .bool n], .pointer (some ⟨cB, 0, none⟩), .pointer (some ⟨jB, 0, none⟩), .pointer (some ⟨nB, 0, none⟩)] w
   fun e w' => e = .returned (.tuple #[]) ∧ ∃ v', StT first cand cB nB cb mw yB base (addP noO s0 ((s, t), u)) v' w' ∧ TookB (StF yB nB v) (StF yB nB v') w w' := by
 obtain ⟨i0, hi, hz0, hz1, hz2⟩ := info_parts infoJp
 have hml := h.mid.len
 have hnl := h.mid.nl
 have hlen : s0.1.length < maxLen := by unfold maxLen; omega
 have h63 : s0.2.length + 1 ≤ maxLen := by unfold maxLen; omega
 have hby : (s0.2.length + 1) * 24 ≤ 140737488355328 := by omega
 have HL := Lib.hid (And.intro hlen (And.intro h63 hby))
 have HT := Lib.hid h
 have e0 := h.cc
 have e5 := h.c5
 have en := h.nc
 have l1 := cell_blk h.cc
 have l2 := cell_blk h.c5
 have l3 := cell_blk h.nc
 have l4 := cell_blk hj
 have ly := h.mp.lt
 simp only at l1 l2 l3 l4
 obtain ⟨j1, j2, j3⟩ := hj1
 have a1 : ¬ cB = yB := fun e => ha.a1 e.symm
 have a2 : ¬ cb = yB := fun e => ha.a3 e.symm
 have a3 : ¬ nB = yB := fun e => ha.a2 e.symm
 have a4 : ¬ jB = yB := j1
 have hsz := Nat.le_refl w.heap.size
 have hyw := h.mp.lt
 clear h hlen h63 hby hml hnl
 go_enter Tryz.func89, Tryz.ntmps89
 go_wp2_with fail
 first | (refine wp_named ?_; intro W1 hW) | (refine calls_named ?_; intro W1 hW)
 have B1 : Below w.heap.size w W1 := by rw [hW]; exact bq2
 replace e0 := cellAt e0 B1 (by omega)
 replace e5 := cellAt e5 B1 (by omega)
 replace en := cellAt en B1 (by omega)
 replace hj := cellAt hj B1 (by omega)
 replace HT := Lib.hid (HT.out.on B1)
 replace l1 : cB < W1.heap.size := ltAt l1 B1
 replace l2 : cb < W1.heap.size := ltAt l2 B1
 replace l3 : nB < W1.heap.size := ltAt l3 B1
 replace l4 : jB < W1.heap.size := ltAt l4 B1
 replace ly : yB < W1.heap.size := ltAt ly B1
 have n1 : w.heap.size < W1.heap.size := by rw [hW]; simp <;> omega
 have y0 : W1.cell? ⟨w.heap.size, 0, none⟩ = some (sv s) := by rw [hW]; go_simp
 have y1 : W1.cell? ⟨w.heap.size, 1, none⟩ = some (.int .i64 t) := by rw [hW]; go_simp
 clear hW
 have HB1 := Lib.hid B1
 have hz1w := B1.size
 clear B1
 have a5 : ¬ w.heap.size = yB := by omega
 cases hkn : knownP s0.1 (s, t)
 ·have hfk : byV s0.1 (s, t) = none := by unfold byV; rw [byF_none hkn]; rfl
  try go_wp2_with fail
  refine wp_region_held_drew (S := fun w' => Below W1.heap.size W1 w') (by kernel_rfl) (Below.drew (Below.refl _ _)) (fun hHeld => ?_)
  refine tV 0 ?_ ?zq ?_; (case zq => intro w' hSw; have hCell := fun (b o : Nat) (h : b < W1.heap.size) => hSw.cell (p := ⟨b, o, none⟩) h; clear hSw; go_simp; try with_reducible rfl); try simp only [Act.put, zn1, zn2, zn3]
  refine tV 1 ?_ ?zq ?_; (case zq => rintro _ -; go_simp; try with_reducible rfl); try simp only [Act.put, zn1, zn2, zn3]
  refine tV 2 ?_ ?zq ?_; (case zq => rintro _ -; go_simp; try with_reducible rfl); try simp only [Act.put, zn1, zn2, zn3]
  refine tV 3 ?_ ?zq ?_; (case zq => intro w' hSw; have hCell := fun (b o : Nat) (h : b < W1.heap.size) => hSw.cell (p := ⟨b, o, none⟩) h; clear hSw; go_simp; try with_reducible rfl); try simp only [Act.put, zn1, zn2, zn3]
  refine tV 4 ?_ ?zq ?_; (case zq => rintro _ -; go_simp; try with_reducible rfl); try simp only [Act.put, zn1, zn2, zn3]
  refine tV 5 ?_ ?zq ?_; (case zq => intro w' hSw; have hCell := fun (b o : Nat) (h : b < W1.heap.size) => hSw.cell (p := ⟨b, o, none⟩) h; clear hSw; go_simp; try with_reducible rfl); try simp only [Act.put, zn1, zn2, zn3]
  refine ready_one (i := 6) rfl (by kernel_rfl) (fun K hK => ?_)
  refine step_lookOk_is _ (by rfl) (.tmp 11) (.tmp 13) 78 (by rfl) 9 Tryz.underlying78 (.string ⟨#[]⟩) (zeroS _) yB _ _ (by rfl) (HT.out.mp.on hHeld) (s, t) (by rfl) hok ?_
  rw [hfk]
  refine hK.out _ _ ?_ (fun hHeld2 => ?_)
  ·(try dsimp only); first | exact Below.trans hHeld (Below.mono hb hHeld.size) | exact hHeld | exact Below.drew hHeld | exact bq2
  clear hK K hHeld; have hHeld := hHeld2; clear hHeld2; (try simp only [Act.put, zn1, zn2, zn3])
  refine tV 7 ?_ ?zq ?_; (case zq => rintro _ -; go_simp; try with_reducible rfl); try simp only [Act.put, zn1, zn2, zn3]
  refine tV 8 ?_ ?zq ?_; (case zq => rintro _ -; go_simp; try with_reducible rfl); try simp only [Act.put, zn1, zn2, zn3]
  refine tV 9 ?_ ?zq ?_; (case zq => rintro _ -; go_simp; try with_reducible rfl); try simp only [Act.put, zn1, zn2, zn3]
  refine tV 10 ?_ ?zq ?_; (case zq => rintro _ -; go_simp; try with_reducible rfl); try simp only [Act.put, zn1, zn2, zn3]
  refine tV 11 ?_ ?zq ?_; (case zq => rintro _ -; go_simp; try with_reducible rfl); try simp only [Act.put, zn1, zn2, zn3]
  refine wpAnyH_done (by kernel_rfl) ?_ _
  go_wp2_with fail
  first | (refine wp_named ?_; intro W2 hW) | (refine calls_named ?_; intro W2 hW)
  have B2 : Below W1.heap.size W1 W2 := by rw [hW]; exact bq2
  replace e0 := cellAt e0 B2 (by omega)
  replace e5 := cellAt e5 B2 (by omega)
  replace en := cellAt en B2 (by omega)
  replace hj := cellAt hj B2 (by omega)
  replace y0 := cellAt y0 B2 (by omega)
  replace y1 := cellAt y1 B2 (by omega)
  replace HT := Lib.hid (HT.out.on B2)
  replace l1 : cB < W2.heap.size := ltAt l1 B2
  replace l2 : cb < W2.heap.size := ltAt l2 B2
  replace l3 : nB < W2.heap.size := ltAt l3 B2
  replace l4 : jB < W2.heap.size := ltAt l4 B2
  replace ly : yB < W2.heap.size := ltAt ly B2
  replace n1 : w.heap.size < W2.heap.size := ltAt n1 B2
  clear hW
  have HB2 := Lib.hid (lift HB1.out B2)
  clear B2 hHeld
  have HMp := Lib.hid HT.out.mp
  try go_wp2_with fail
  refine wp_region_held_drew (S := fun w' => Keeps (But W2 yB) W2 w') (by kernel_rfl) (But.below (Below.drew (Below.refl _ _))) (fun hHeld => ?_)
  refine tV 0 ?_ ?zq ?_; (case zq => intro w' hSw; have hCell := fun (b o : Nat) (h : b < W2.heap.size) (h2 : ¬ b = yB) => World.cell?_of_block (a := ⟨b, o, none⟩) (hSw.block b ⟨h, h2⟩); clear hSw; go_simp; try with_reducible rfl); try simp only [Act.put, zn1, zn2, zn3]
  refine tV 1 ?_ ?zq ?_; (case zq => rintro _ -; go_simp; try with_reducible rfl); try simp only [Act.put, zn1, zn2, zn3]
  refine tV 2 ?_ ?zq ?_; (case zq => rintro _ -; go_simp; try with_reducible rfl); try simp only [Act.put, zn1, zn2, zn3]
  refine tV 3 ?_ ?zq ?_; (case zq => intro w' hSw; have hCell := fun (b o : Nat) (h : b < W2.heap.size) (h2 : ¬ b = yB) => World.cell?_of_block (a := ⟨b, o, none⟩) (hSw.block b ⟨h, h2⟩); clear hSw; go_simp; try with_reducible rfl); try simp only [Act.put, zn1, zn2, zn3]
  refine tV 4 ?_ ?zq ?_; (case zq => rintro _ -; go_simp; try with_reducible rfl); try simp only [Act.put, zn1, zn2, zn3]
  refine tV 5 ?_ ?zq ?_; (case zq => intro w' hSw; have hCell := fun (b o : Nat) (h : b < W2.heap.size) (h2 : ¬ b = yB) => World.cell?_of_block (a := ⟨b, o, none⟩) (hSw.block b ⟨h, h2⟩); clear hSw; go_simp; try with_reducible rfl); try simp only [Act.put, zn1, zn2, zn3]
  refine tV 6 ?_ ?zq ?_; (case zq => rintro _ -; go_simp; try with_reducible rfl); try simp only [Act.put, zn1, zn2, zn3]
  refine tV 7 ?_ ?zq ?_; (case zq => intro w' hSw; have hCell := fun (b o : Nat) (h : b < W2.heap.size) (h2 : ¬ b = yB) => World.cell?_of_block (a := ⟨b, o, none⟩) (hSw.block b ⟨h, h2⟩); clear hSw; go_simp; try with_reducible rfl); try simp only [Act.put, zn1, zn2, zn3]
  refine ready_one (i := 8) rfl (by kernel_rfl) (fun K hK => ?_)
  refine step_update_is _ (by rfl) (.tmp 22) (.tmp 24) (.tmp 26) 78 (by rfl) 9 Tryz.underlying78 yB _ _ (by rfl) HMp.out HL.out.1 (s, t) (sv u) (by rfl) (by rfl) hok ?_
  intro w5 hm5 hg5
  have hS := But.trans hHeld (But.grown hg5)
  have HM5 := Lib.hid (MapIs.if_ hm5)
  clear hm5 hg5
  refine hK.out _ _ ?_ (fun hHeld2 => ?_)
  ·(try dsimp only); exact hS
  clear hK K hHeld; have hHeld := hHeld2; clear hHeld2; (try simp only [Act.put, zn1, zn2, zn3])
  refine wpAnyH_done (by kernel_rfl) ?_ _
  have HT2 := Lib.hid HT.out
  have hs5 := hHeld.size
  have m3 := l3
  replace e0 := cellK e0 hHeld (by omega) (by omega)
  replace e5 := cellK e5 hHeld (by omega) (by omega)
  replace en := cellK en hHeld (by omega) (by omega)
  replace y0 := cellK y0 hHeld (by omega) (by omega)
  replace y1 := cellK y1 hHeld (by omega) (by omega)
  replace hj := cellK hj hHeld (by omega) (by omega)
  clear HT
  replace l1 : cB < w5.heap.size := Nat.lt_of_lt_of_le l1 (Keeps.size hHeld)
  replace l2 : cb < w5.heap.size := Nat.lt_of_lt_of_le l2 (Keeps.size hHeld)
  replace l3 : nB < w5.heap.size := Nat.lt_of_lt_of_le l3 (Keeps.size hHeld)
  replace l4 : jB < w5.heap.size := Nat.lt_of_lt_of_le l4 (Keeps.size hHeld)
  replace ly : yB < w5.heap.size := Nat.lt_of_lt_of_le ly (Keeps.size hHeld)
  replace n1 : w.heap.size < w5.heap.size := Nat.lt_of_lt_of_le n1 (Keeps.size hHeld)
  have HK5 := Lib.hid hS
  have hvy : v.ownBlock ≠ some yB := fun e => (HT2.out.sep _ e).1 rfl
  have hvn : v.ownBlock ≠ some nB := fun e => (HT2.out.sep _ e).2.1 rfl
  have HO5 := Lib.hid (hS.own HT2.out.own (fun g hg => ⟨(HT2.out.own.lt g hg).2, fun e => hvy (by rw [hg, e])⟩))
  have f5 := froK HT2.out.nf hS m3 a3
  have hb5 : base ≤ w5.heap.size := by have := HB2.out.size; omega
  have HF := Lib.hid (And.intro hvn f5)
  have HV := Lib.hid hvy
  clear hS hHeld hvy hvn f5
  go_wp2_with (first
   | (at_builtin; refine wpList_pushm w5 w5 (by rfl) (.tmp 27) (.tmp 30) 141 (by rfl) base 73 i0 _ 2 24 Tryz.underlying141 hi hz0 hz1 hz2 rfl (by decide) _ _ _ (by rfl) HO5.out (jpC (s, t)) (w5.heap.size) rfl (by rfl) rfl (one_jpC (s, t)) HL.out.2.1 HL.out.2.2 hb5 (Below.refl _ _) ?_; intro A8 c8 w7 hown7 hbel7 hg7 hat7; have c7 := cell_kept en hg7 l3 HF.out.1; have f7 := fro_kept HF.out.2 hg7 l3 HF.out.1; have HO7 := Lib.hid hown7; have HG7 := Lib.hid (And.intro hg7 hat7); clear hown7 hbel7 hg7 hat7)
   | fail)
  refine bodyPost_end (results_none rfl _ _ _) rfl ?_
  have hput := HT2.out.put ha (u := u) hkn hc HM5.out HK5.out HO7.out HG7.out.1 HG7.out.2 (Nat.lt_of_lt_of_le hmw HB2.out.size)
  exact ⟨rfl, _, hput.1, (TookB.below HB2.out).trans hput.2⟩
 ·have hfk : ∃ x, byV s0.1 (s, t) = some (sv x) := by
   have h0 := byF_some s0.1 (s, t)
   rw [hkn] at h0
   obtain ⟨x, hx⟩ := Option.isSome_iff_exists.1 h0
   exact ⟨x, by unfold byV; rw [hx]; rfl⟩
  obtain ⟨x, hfk⟩ := hfk
  try go_wp2_with fail
  refine wp_region_held_drew (S := fun w' => Below W1.heap.size W1 w') (by kernel_rfl) (Below.drew (Below.refl _ _)) (fun hHeld => ?_)
  refine tV 0 ?_ ?zq ?_; (case zq => intro w' hSw; have hCell := fun (b o : Nat) (h : b < W1.heap.size) => hSw.cell (p := ⟨b, o, none⟩) h; clear hSw; go_simp; try with_reducible rfl); try simp only [Act.put, zn1, zn2, zn3]
  refine tV 1 ?_ ?zq ?_; (case zq => rintro _ -; go_simp; try with_reducible rfl); try simp only [Act.put, zn1, zn2, zn3]
  refine tV 2 ?_ ?zq ?_; (case zq => rintro _ -; go_simp; try with_reducible rfl); try simp only [Act.put, zn1, zn2, zn3]
  refine tV 3 ?_ ?zq ?_; (case zq => intro w' hSw; have hCell := fun (b o : Nat) (h : b < W1.heap.size) => hSw.cell (p := ⟨b, o, none⟩) h; clear hSw; go_simp; try with_reducible rfl); try simp only [Act.put, zn1, zn2, zn3]
  refine tV 4 ?_ ?zq ?_; (case zq => rintro _ -; go_simp; try with_reducible rfl); try simp only [Act.put, zn1, zn2, zn3]
  refine tV 5 ?_ ?zq ?_; (case zq => intro w' hSw; have hCell := fun (b o : Nat) (h : b < W1.heap.size) => hSw.cell (p := ⟨b, o, none⟩) h; clear hSw; go_simp; try with_reducible rfl); try simp only [Act.put, zn1, zn2, zn3]
  refine ready_one (i := 6) rfl (by kernel_rfl) (fun K hK => ?_)
  refine step_lookOk_is _ (by rfl) (.tmp 11) (.tmp 13) 78 (by rfl) 9 Tryz.underlying78 (.string ⟨#[]⟩) (zeroS _) yB _ _ (by rfl) (HT.out.mp.on hHeld) (s, t) (by rfl) hok ?_
  rw [hfk]
  refine hK.out _ _ ?_ (fun hHeld2 => ?_)
  ·(try dsimp only); first | exact Below.trans hHeld (Below.mono hb hHeld.size) | exact hHeld | exact Below.drew hHeld | exact bq2
  clear hK K hHeld; have hHeld := hHeld2; clear hHeld2; (try simp only [Act.put, zn1, zn2, zn3])
  refine tV 7 ?_ ?zq ?_; (case zq => rintro _ -; go_simp; try with_reducible rfl); try simp only [Act.put, zn1, zn2, zn3]
  refine tV 8 ?_ ?zq ?_; (case zq => rintro _ -; go_simp; try with_reducible rfl); try simp only [Act.put, zn1, zn2, zn3]
  refine tV 9 ?_ ?zq ?_; (case zq => rintro _ -; go_simp; try with_reducible rfl); try simp only [Act.put, zn1, zn2, zn3]
  refine tV 10 ?_ ?zq ?_; (case zq => rintro _ -; go_simp; try with_reducible rfl); try simp only [Act.put, zn1, zn2, zn3]
  refine tV 11 ?_ ?zq ?_; (case zq => rintro _ -; go_simp; try with_reducible rfl); try simp only [Act.put, zn1, zn2, zn3]
  refine wpAnyH_done (by kernel_rfl) ?_ _
  go_wp2_with fail
  refine bodyPost_end (results_none rfl _ _ _) rfl ?_
  have hb9 := lift HB1.out hHeld
  refine ⟨rfl, v, ?_, TookB.below hb9⟩
  have e : addP noO s0 ((s, t), u) = s0 := by unfold addP; rw [hkn]; rfl
  rw [e]
  exact HT.out.on hHeld
end Od
end Go.Proofs.YtbllehjhmfehbaaGreat
end

section
/- Rows of the call's own written into. (bel2) -/
namespace Go.Proofs.YtbllehjhmfehbaaGreat
open Go.RowKit Go.Sort
set_option linter.unusedSimpArgs false

section
variable {w : World} {base e k n c : Nat} {xs : List Value} {g : Nat}
theorem own_open {A : Option Addr} (h : w.ownsRow base e k (.slice A n c) n xs) (hn : 0 < n) : ∃ g, A = some ⟨g, 0, none⟩ ∧ base ≤ g ∧ g < w.heap.size ∧ n ≤ c := by
 have h' := h
 obtain ⟨_, ⟨_, h0⟩ | ⟨g, cap, cur, hv, hg, hh, h1, _⟩⟩ := h
 ·omega
 ·injection hv with h2 h3 h4
  subst h2 h4
  exact ⟨g, rfl, hg, (h'.lt g rfl).2, h1⟩
theorem own_fro (h : w.ownsRow base e k (.slice (some ⟨g, 0, none⟩) n c) n xs) {j : Nat} : w.frozen? ⟨g, j, none⟩ = false := by
 obtain ⟨_, ⟨hv, _⟩ | ⟨g', cap, cur, hv, hg, hh, _⟩⟩ := h
 ·injection hv with h1; cases h1
 ·injection hv with h1 _ _
  injection h1 with h1
  injection h1 with h1
  subst h1
  simp [World.frozen?, hh]
theorem own_cell (h : w.ownsRow base e k (.slice (some ⟨g, 0, none⟩) n c) n xs) {j : Nat} (hj : j < xs.length) : w.cell? ⟨g, j, none⟩ = some xs[j] := by
 have := h.cellAt (g := g) (cap := c) j (by rw [← h.1]; exact hj)
 simpa [hj] using this
/-- A cell of it turned. -/
theorem own_set (h : w.ownsRow base e k (.slice (some ⟨g, 0, none⟩) n c) n xs) {j : Nat} (u : Value) : (w.setCell ⟨g, j, none⟩ u).ownsRow base e k (.slice (some ⟨g, 0, none⟩) n c) n (xs.set j u) := by
 obtain ⟨hl, ⟨hv, _⟩ | ⟨g', cap, cur, hv, hg, hh, h1, h2, h3, h4⟩⟩ := h
 ·injection hv with h1; cases h1
 ·injection hv with e1 _ e3
  injection e1 with e1
  injection e1 with e1
  subst e1 e3
  refine ⟨by simpa using hl, .inr ⟨g, c, cur.setIfInBounds j u, rfl, hg, ?_, h1, h2, by simpa using h3, ?_⟩⟩
  ·simp [World.setCell, Array.getElem?_modify, hh]
  ·rw [Array.toList_setIfInBounds, List.take_set, h4]
end
theorem flat_set {α : Type} (c : α → List Value) (k : Nat) (hc : ∀ x, (c x).length = k) (u : Nat) (y : α) (v : Value) (hu : u < k) : ∀ (l : List α) (i : Nat) (hi : i < l.length), c y = (c l[i]).set u v → (l.flatMap c).set (i * k + u) v = (l.set i y).flatMap c
 | x :: l, 0, _, h => by
  simp only [List.getElem_cons_zero] at h
  simp only [List.flatMap_cons, Nat.zero_mul, Nat.zero_add, List.set_cons_zero]
  rw [List.set_append_left _ _ (by rw [hc]; exact hu), h]
 | x :: l, i + 1, hi, h => by
  simp only [List.getElem_cons_succ] at h
  simp only [List.flatMap_cons, List.set_cons_succ]
  rw [List.set_append_right _ _ (by rw [hc, Nat.add_mul]; omega), hc, show (i + 1) * k + u - k = i * k + u from by rw [Nat.add_mul]; omega]
  rw [flat_set c k hc u y v hu l i (by simpa using hi) h]
section
variable {w : World} {base e k n c : Nat} {xs : List Value} {g : Nat}
/-- What is left of it when its end is cut. -/
theorem own_cut (h : w.ownsRow base e k (.slice (some ⟨g, 0, none⟩) n c) n xs) {i : Nat} (hi : i ≤ n) : w.ownsRow base e k (.slice (some ⟨g, 0, none⟩) i c) i (xs.take (i * k)) := by
 obtain ⟨hl, ⟨hv, _⟩ | ⟨g', cap, cur, hv, hg, hh, h1, h2, h3, h4⟩⟩ := h
 ·injection hv with h1; cases h1
 ·injection hv with e1 _ e3
  injection e1 with e1
  injection e1 with e1
  subst e1 e3
  have hik : i * k ≤ n * k := Nat.mul_le_mul_right k hi
  exact ⟨by rw [List.length_take, hl, Nat.min_eq_left hik], .inr ⟨g, c, cur, rfl, hg, hh, by omega, h2, h3, by rw [← h4, List.take_take, Nat.min_eq_left hik]⟩⟩
theorem own_setCells {i : Nat} : ∀ (vs : List Value) (o : Nat) (w : World) (xs : List Value), i ≤ o → w.ownsRow base e k (.slice (some ⟨g, 0, none⟩) n c) n xs →
  ∃ xs', (w.setCells g o vs).ownsRow base e k (.slice (some ⟨g, 0, none⟩) n c) n xs' ∧ xs'.take i = xs.take i
 | [], _, _, xs, _, h => ⟨xs, h, rfl⟩
 | v :: r, o, _, xs, ho, h => by
  obtain ⟨xs', h1, h2⟩ := own_setCells (i := i) r (o + 1) _ _ (by omega) (own_set h (j := o) v)
  exact ⟨xs', h1, by rw [h2, List.take_set_of_le ho]⟩
theorem below_setCells {B : Nat} {w0 : World} : ∀ (vs : List Value) (o : Nat) (w : World), B ≤ g → Below B w0 w → Below B w0 (w.setCells g o vs)
 | [], _, _, _, h => h
 | v :: r, o, _, hg, h => below_setCells r (o + 1) _ hg (h.setCell hg v)
end
end Go.Proofs.YtbllehjhmfehbaaGreat
end

section
/- slices.IndexFunc and DeleteFunc at jobs that are brought. (bel2) -/
namespace Go.Proofs.YtbllehjhmfehbaaGreat
open Go.RowKit Go.Sort
set_option linter.unusedSimpArgs false
namespace Od
structure SaysBr (g : Nat) (caps : Array Value) (p : Bg → Bool) (base : Nat) (w0 : World) : Prop where
 enters : ∀ (args : Array Value) (W : World), (callFunc g args).run Tryz.prog W = .ok (.enter g args) W
 says : ∀ (W : World) (s : Str) (t : Int) (n : Bool), Below base w0 W → Calls Tryz.prog g (#[.agg #[sv s, .int .i64 t, .bool n]] ++ caps) W fun e w' => e = .returned (.bool (p ((s, t), n))) ∧ Below W.heap.size W w'
set_option maxRecDepth 100000 in
set_option maxHeartbeats 1000000 in
theorem IndexFuncB (A : Option Addr) (c : Nat) (ss : List Bg) (g : Nat) (caps : Array Value) (p : Bg → Bool) (base : Nat) (w0 w : World) (hr : Rd w w.heap.size 3 A ss.length (brsC ss)) (hl : ss.length ≤ 1000000) (hp : SaysBr g caps p base w0) (hb0 : Below base w0 w) (hbase : base ≤ w.heap.size) :
  Calls Tryz.prog 234 #[.slice A ss.length c, .func (.func g) #[] caps] w (FindIdx ss p w) := by
 have Hr := Lib.hid hr
 have Hp := Lib.hid hp
 have Hb0 := Lib.hid hb0
 have eg := hp.enters
 clear hr hp hb0
 go_enter Tryz.func234, Tryz.ntmps234
 go_wp2_with fail
 go_loopw [8] (fun i wr => ∃ k : Nat, k ≤ ss.length ∧ i = .int .i64 k ∧ Hid ((ss.take k).any p = false) ∧ Below w.heap.size w wr) (fun i _ => ss.length - (intOf i).toNat)
 case atStart => exact ⟨0, Nat.zero_le _, rfl, by simp [Hid], Below.refl _ _⟩
 case round =>
  obtain ⟨k, hk, rfl, hall, hbel⟩ := hrel
  by_cases hlt : k < ss.length
  ·obtain ⟨b, o, rfl, hB, hc0, hc1, hc2⟩ := (Hr.out.on (Nat.le_refl _) hbel).br hlt
   have Hbel := Lib.hid hbel
   clear hbel
   generalize hx : ss[k] = x at hc0 hc1 hc2
   obtain ⟨⟨s, t⟩, n⟩ := x
   have Hx := Lib.hid hx
   clear hx
   simp only at hc0 hc1 hc2
   have hcall := Hp.out.says wr s t n (Hb0.out.trans (Hbel.out.mono hbase))
   have Hcall := Lib.hid hcall
   clear hcall
   go_wp2_with fail
   refine Hcall.out.mono ?_
   rintro e w2 ⟨rfl, hb2⟩
   have Hb2 := Lib.hid (Hbel.out.trans (hb2.mono Hbel.out.size))
   clear hb2
   cases hpx : p ((s, t), n)
   ·have Hpx := Lib.hid hpx
    go_wp2_with fail
    go_roundw
    case rel => exact ⟨k + 1, by omega, by go_num, by show _ = false; rw [any_take_succ hlt, hall.out, Hx.out, Hpx.out]; rfl, Hb2.out⟩
    case measure => simp [intOf]; omega
   ·have Hpx := Lib.hid hpx
    go_wp2_with fail
    go_ret
    exact ⟨k, rfl, .inr ⟨k, hlt, rfl, find_at hlt hall.out (by rw [Hx.out]; exact Hpx.out), by rw [Hx.out]; exact Hpx.out, fun j hj => take_any_at hk hall.out hj⟩, Hb2.out⟩
  ·have ha := hall.out
   rw [List.take_of_length_le (by omega)] at ha
   have Ha := Lib.hid ha
   clear ha
   go_wp2_with fail
   go_ret
   exact ⟨-1, rfl, .inl ⟨rfl, find_none_take Ha.out⟩, hbel⟩
set_option maxHeartbeats 1000000 in
theorem back1_any (An Ae Au Ah : Option Addr) (nn cn ne ce cu ch : Nat) (up half : List Str) (bb : Nat) (s : Str) (t : Int) (n : Bool) (w : World) (hu : SIn w Au up) (hh : SIn w Ah half)
  (h0 : w.cell? ⟨bb, 0, none⟩ = some (.slice An nn cn)) (h1 : w.cell? ⟨bb, 1, none⟩ = some (.slice Ae ne ce)) (h2 : w.cell? ⟨bb, 2, none⟩ = some (.slice Au up.length cu)) (h3 : w.cell? ⟨bb, 3, none⟩ = some (.slice Ah half.length ch)) :
  Calls Tryz.prog 213 #[.agg #[sv s, .int .i64 t, .bool n], .pointer (some ⟨bb, 0, none⟩)] w fun e w' => e = .returned (.bool (!upB up half s)) ∧ Below w.heap.size w w' := by
 have Hu := Lib.hid hu
 have Hh := Lib.hid hh
 have hbk := cell_blk h0
 simp only at hbk
 clear hu hh
 go_enter Tryz.func213, Tryz.ntmps213
 go_wp2_with fail
 first | (refine wp_named ?_; intro W1 hW) | (refine calls_named ?_; intro W1 hW)
 have B1 : Below w.heap.size w W1 := by rw [hW]; exact bq2
 replace h0 := cellAt h0 B1 (by omega)
 replace h1 := cellAt h1 B1 (by omega)
 replace h2 := cellAt h2 B1 (by omega)
 replace h3 := cellAt h3 B1 (by omega)
 replace Hu := Lib.hid (Hu.out.at B1)
 replace Hh := Lib.hid (Hh.out.at B1)
 replace hbk : bb < W1.heap.size := ltAt hbk B1
 clear hW
 have HB1 := Lib.hid B1
 clear B1
 refine (there_any An Ae Au Ah nn cn ne ce cu ch up half s W1 Hu.out Hh.out).mono ?_
 rintro e w2 ⟨rfl, hb2⟩
 have HB2 := Lib.hid (lift HB1.out hb2)
 clear hb2
 go_wp2_with fail
 go_ret
 exact ⟨rfl, HB2.out⟩
end Od
end Go.Proofs.YtbllehjhmfehbaaGreat
end

section
/- clear of a slice whose elements have several cells. No program. -/
namespace Go.Proofs.YtbllehjhmfehbaaGreat
open Go.RowKit
theorem run_clear_rows {P : Program} {n : Nat} (w : World) (t e ty : TypeId) (z : Value) (ht : P.underlying t = some (.slice e)) (hv : ∀ w, (zeroValue e).run P w = .ok z w) (h1 : ∀ v ∈ (Builtin.zeroCells z.cells n).toList, v.oneCell' = true) (b o c : Nat) (hn : 0 < n)
  (hc : ∀ j, j < n * z.cells.size → (w.cell? ⟨b, o + j, none⟩).isSome = true) (hf : ∀ j, j < n * z.cells.size → w.frozen? ⟨b, o + j, none⟩ = false) :
  (Builtin.clear_ #[t] ty #[.slice (some ⟨b, o, none⟩) n c]).run P w = .ok (.tuple #[]) (w.setCells b o (Builtin.zeroCells z.cells n).toList) := by
 have hl : (Builtin.zeroCells z.cells n).toList.length = n * z.cells.size := by rw [Array.length_toList, size_zeroCells]
 have hst := run_storeCells_cells (P := P) b o (Builtin.zeroCells z.cells n).toList 0 w (by rw [hl]; simpa using hc) (by rw [hl]; simpa using hf) h1
 simp only [Nat.add_zero] at hst
 obtain ⟨m, rfl⟩ : ∃ m, n = m + 1 := ⟨n - 1, by omega⟩
 simp [Builtin.clear_, run_underlying ht, hv, hst]
end Go.Proofs.YtbllehjhmfehbaaGreat
end

section
/- Appends to slices whose capacity is full ('l[:k:k]', a literal), cuts of slices that read as lists: what 'append(l[:k:k], append([]T{x}, l[k:]...)...)' is made of. No program. -/
namespace Go.Proofs.YtbllehjhmfehbaaGreat
open Go.RowKit

/-- 'l[k:]' as a place. -/
def dropA (A : Option Addr) (c k size : Nat) : Option Addr := if c = k then A else A.map (·.add (k * size))
/-- 'l[:k:k]' as a place. -/
def takeA (A : Option Addr) (k size : Nat) : Option Addr := if k = 0 then A else A.map (·.add (0 * size))
section
variable {P : Program}
theorem run_slice_tail {t e : TypeId} {i : TypeInfo} (ht : P.underlying t = some (.slice e)) (hi : P.info? e = some i) (A : Option Addr) (n c k : Nat) (hk : k ≤ n) (w : World) :
  (Instr.slice t (.slice A n c) (some (.int .i64 k)) none none).run P w = .ok (.slice (dropA A c k i.size) (n - k) (c - k)) w := by
 simp [Instr.slice, run_underlying ht, Instr.sliceBounds, Instr.sliceBound, asIntOf, sizeOf, typeInfo, hi, dropA]
 intro h; omega
theorem run_slice_full {t e : TypeId} {i : TypeInfo} (ht : P.underlying t = some (.slice e)) (hi : P.info? e = some i) (A : Option Addr) (n c k : Nat) (hk : k ≤ c) (w : World) :
  (Instr.slice t (.slice A n c) none (some (.int .i64 k)) (some (.int .i64 k))).run P w = .ok (.slice (takeA A k i.size) k k) w := by
 simp [Instr.slice, run_underlying ht, Instr.sliceBounds, Instr.sliceBound, asIntOf, sizeOf, typeInfo, hi, takeA]
 intro h; omega
theorem Addr.add_zero (a : Addr) : a.add 0 = a := by simp [Addr.add]
theorem Rd.dropA {w : World} {B k n m c : Nat} {A : Option Addr} {xs : List Value} (h : Rd w B k A n xs) (hm : m ≤ n) (hc : n ≤ c) : Rd w B k (dropA A c m k) (n - m) (xs.drop (m * k)) := h.drop hm hc
theorem Rd.takeA {w : World} {B k n m : Nat} {A : Option Addr} {xs : List Value} (h : Rd w B k A n xs) (hm : m ≤ n) : Rd w B k (takeA A m k) m (xs.take (m * k)) := by
 have h' := h.take hm
 unfold Go.Proofs.YtbllehjhmfehbaaGreat.takeA
 split
 ·exact h'
 ·simp only [Nat.zero_mul]
  rw [show (fun x : Addr => x.add 0) = id from funext Addr.add_zero]
  simpa using h'

theorem run_append_full (w : World) (t ty e : TypeId) (i : TypeInfo) (z : Value) (size bytes : Nat) (ht : P.underlying t = some (.slice e)) (hi : P.info? e = some i) (hz : i.zero = some z)
  (hsize : i.size = size) (hby : i.bytes = bytes) (hzs : z.cells.size = size) (B : Nat) (A : Option Addr) (n : Nat) (xs : List Value) (hr : Rd w B size A n xs) (hB : B ≤ w.heap.size)
  (B2 : Nat) (A2 : Option Addr) (m c : Nat) (news : List Value) (hr2 : Rd w B2 size A2 m news) (h1 : ∀ u ∈ news, u.oneCell' = true) (h63 : n + m ≤ maxLen) (hbytes : (n + m) * bytes ≤ 140737488355328) :
  ∃ A' c' w', (Builtin.append_ #[t, t] ty #[.slice A n n, .slice A2 m c]).run P w = .ok (.slice A' (n + m) c') w' ∧ n + m ≤ c' ∧ Rd w' w'.heap.size size A' (n + m) (xs ++ news) ∧ Below w.heap.size w w' ∧ (0 < m → ∀ ad, A' = some ad → w.heap.size ≤ ad.block) := by
 subst hsize
 subst hby
 have hs : Src P i.size t (.slice A2 m c) m news w := src_rd ht hr2 h1 fun e => by
  rcases Nat.eq_zero_or_pos m with h0 | h0
  ·exact h0
  ·obtain ⟨ad, h, _⟩ := hr2.2 h0; rw [e] at h; cases h
 have hnl := hs.newsLen
 rcases Nat.eq_zero_or_pos m with h0 | h0
 ·subst h0
  have hn : news = [] := List.eq_nil_of_length_eq_zero (by simpa using hnl)
  subst hn
  exact ⟨A, n, w, run_append_nothing (P := P) w t t ty e i ht hi A n n (Nat.le_refl _) _ hs, by omega, by simpa using hr.more hB, Below.refl _ _, fun h => absurd h (by omega)⟩
 ·have hlen : (xs ++ news).length = (n + m) * i.size := by rw [List.length_append, hr.1, hnl, Nat.add_mul]
  have hold : (Builtin.firstCells i.size n (.slice A n n)).run P w.drew = .ok xs.toArray w.drew := by
   cases A with
   | none =>
    have hn : n = 0 := by
     rcases Nat.eq_zero_or_pos n with h | h
     ·exact h
     ·obtain ⟨ad, h, _⟩ := hr.2 h; cases h
    subst hn
    have hx : xs = [] := List.eq_nil_of_length_eq_zero (by simpa using hr.1)
    subst hx
    exact run_firstCells_none w.drew i.size 0 0 0
   | some ad =>
    refine run_firstCells_some w.drew i.size n ad n n xs hr.1 (fun j u hu => ?_)
    have hj : j < n * i.size := by
     have := (List.getElem?_eq_some_iff.1 hu).1
     rw [hr.1] at this
     exact this
    have hn0 : 0 < n := by
     rcases Nat.eq_zero_or_pos n with h | h
     ·rw [h, Nat.zero_mul] at hj; omega
     ·exact h
    obtain ⟨ad', he, _, hsp, hc⟩ := hr.2 hn0
    injection he with he
    subst he
    have hadd : ad.add j = ⟨ad.block, ad.off + j, none⟩ := by
     unfold Addr.add
     split
     ·rename_i h0; subst h0; cases ad; simp_all
     ·rfl
    rw [hadd]
    exact (hc j hj).trans hu
  have hm2 : n + m ≤ 9223372036854775807 := by simp only [maxLen] at h63; omega
  have hg : n < n + m := by omega
  have hrun := run_append_grow_src (P := P) w t t ty e i z ht hi hz A n n xs hold (.slice A2 m c) m news hs hg (by omega) (growslice_fits hg hbytes)
  have hge := grownCap_ge w (n + m) n e
  refine ⟨_, _, _, hrun, by omega, ⟨hlen, fun _ => ⟨_, rfl, by simp, rfl, fun j hj => ?_⟩⟩, ⟨rfl, rfl, rfl, by simp, fun k hk => Below.heap_alloc w.drew _ k hk⟩, fun _ ad e => by injection e with e; rw [← e]; exact Nat.le_refl _⟩
  show (w.drew.alloc _).cell? ⟨w.heap.size, 0 + j, none⟩ = _
  rw [Nat.zero_add]
  refine (World.cell?_alloc_new w.drew _ _ j).trans ?_
  rw [Array.getElem?_append_left (by simp only [List.size_toArray]; rw [hlen]; exact hj), List.getElem?_toArray]

/-- At a step of a region that draws its order. -/
theorem step_append_full {w : World} {ops : Array Oper} {o : Oper} {a : Act} {K : Act → World → Prop} {Q : Exit → Act → World → Prop} {E : Prop} (hw : Region.wanted o (yielded ops a.tmps) = true) (s x : Operand) (t : TypeId)
  (ho : o.op = .call { callee := .builtin .append, args := #[s, x], argTypes := #[t, t] })
  (e : TypeId) (i : TypeInfo) (z : Value) (size bytes : Nat) (ht : P.underlying t = some (.slice e)) (hi : P.info? e = some i) (hz : i.zero = some z)
  (hsize : i.size = size) (hby : i.bytes = bytes) (hzs : z.cells.size = size) (B : Nat) (A : Option Addr) (n : Nat) (xs : List Value) (hs : a.eval s = .slice A n n) (hr : Rd w B size A n xs) (hB : B ≤ w.heap.size)
  (B2 : Nat) (A2 : Option Addr) (m c : Nat) (news : List Value) (hx : a.eval x = .slice A2 m c) (hr2 : Rd w B2 size A2 m news) (h1 : ∀ u ∈ news, u.oneCell' = true) (h63 : n + m ≤ maxLen) (hbytes : (n + m) * bytes ≤ 140737488355328)
  (h : ∀ A' c' w', n + m ≤ c' → Rd w' w'.heap.size size A' (n + m) (xs ++ news) → Below w.heap.size w w' → K (a.put o.dst (.slice A' (n + m) c')) w') :
  if Region.wanted o (yielded ops a.tmps) = true then Oper.wp P o a w K Q else E := by
 rw [if_pos hw]
 obtain ⟨A', c', w', hrun, hc, h2, h3, h4⟩ := run_append_full (P := P) w t o.type e i z size bytes ht hi hz hsize hby hzs B A n xs hr hB B2 A2 m c news hr2 h1 h63 hbytes
 unfold Oper.wp execOp
 simp only [ho, resolve, invoke, builtin, Sem.run_bind, Sem.run_pure, Result.andThen_ok, List.map_toArray, List.map_cons, List.map_nil, hs, hx, hrun]
 exact h A' c' w' hc h2 h3
end

/-- A call hands back a slice that reads as xs (k cells an element), and has turned nothing of what was there. -/
def RdIs (k n : Nat) (xs : List Value) (w : World) (e : Ending) (w' : World) : Prop := ∃ A c, e = .returned (.slice A n c) ∧ n ≤ c ∧ Rd w' w'.heap.size k A n xs ∧ Below w.heap.size w w'
/-- From block B on, if there is anything. -/
def FreshA (B : Nat) (A : Option Addr) (n : Nat) : Prop := 0 < n → ∀ ad, A = some ad → B ≤ ad.block
theorem FreshA.low {B B' n : Nat} {A : Option Addr} (h : FreshA B A n) (hB : B' ≤ B) : FreshA B' A n := fun hn ad e => Nat.le_trans hB (h hn ad e)
/-- A call hands back a slice of what it has made. -/
def RdNew (k n : Nat) (xs : List Value) (w : World) (e : Ending) (w' : World) : Prop := ∃ A c, e = .returned (.slice A n c) ∧ n ≤ c ∧ Rd w' w'.heap.size k A n xs ∧ FreshA w.heap.size A n ∧ Below w.heap.size w w'
theorem RdNew.is {k n : Nat} {xs : List Value} {w w' : World} {e : Ending} (h : RdNew k n xs w e w') : RdIs k n xs w e w' := by obtain ⟨A, c, h1, h2, h3, _, h4⟩ := h; exact ⟨A, c, h1, h2, h3, h4⟩
theorem RdIs.of {k n n' : Nat} {xs xs' : List Value} {w w' : World} {A : Option Addr} {c : Nat} (hc : n' ≤ c) (h : Rd w' w'.heap.size k A n' xs') (hb : Below w.heap.size w w') (hn : n' = n) (hx : xs' = xs) : RdIs k n xs w (.returned (.slice A n' c)) w' := by
 subst hn hx; exact ⟨A, c, rfl, hc, h, hb⟩
theorem one_drop {l : List Value} (h : ∀ u ∈ l, u.oneCell' = true) (n : Nat) : ∀ u ∈ l.drop n, u.oneCell' = true := fun u hu => h u (List.mem_of_mem_drop hu)
theorem one_app {l l' : List Value} (h : ∀ u ∈ l, u.oneCell' = true) (h' : ∀ u ∈ l', u.oneCell' = true) : ∀ u ∈ l ++ l', u.oneCell' = true := fun u hu => (List.mem_append.1 hu).elim (h u) (h' u)
theorem one_svs (l : List Str) : ∀ u ∈ svs l, u.oneCell' = true := fun u hu => by
 obtain ⟨s, _, rfl⟩ := List.mem_map.1 hu; rfl
theorem one_sv (s : Str) : ∀ u ∈ [sv s], u.oneCell' = true := fun u hu => by rw [List.mem_singleton.1 hu]; rfl
theorem insL_cut {α : Type} [DecidableEq α] {lt : α → α → Bool} {x : α} : ∀ (l : List α) (k : Nat), k ≤ l.length → (∀ y ∈ l.take k, lt y x = true) → (∀ h : k < l.length, lt l[k] x = false) →
  insL lt x l = if l[k]? = some x then l else l.take k ++ x :: l.drop k
 | [], k, hk, _, _ => by
  have : k = 0 := by simpa using hk
  subst this; simp [insL]
 | y :: r, 0, _, _, h => by
  have h0 : lt y x = false := h (by simp)
  unfold insL
  rw [h0]
  by_cases e : y = x <;> simp [e]
 | y :: r, k + 1, hk, h1, h2 => by
  have h0 : lt y x = true := h1 y (by simp)
  have ih := insL_cut r k (by simpa using hk) (fun z hz => h1 z (by simp [hz])) (fun h => by have := h2 (by simpa using h); simpa using this)
  unfold insL
  rw [if_pos h0, ih]
  simp only [List.getElem?_cons_succ]
  split <;> simp
end Go.Proofs.YtbllehjhmfehbaaGreat
end

section
/- slices.DeleteFunc at a row of jobs that are brought of the call's own. (bel2) -/
namespace Go.Proofs.YtbllehjhmfehbaaGreat
open Go.RowKit Go.Sort
set_option linter.unusedSimpArgs false
namespace Od
theorem filter_all_br {p : Bg → Bool} {L : List Bg} (h : L.find? p = none) : L.filter (fun s => !p s) = L := by
 rw [List.filter_eq_self]
 intro s hs
 have := List.find?_eq_none.1 h s hs
 simpa using this
theorem filter_first_br {p : Bg → Bool} {L : List Bg} {k : Nat} (hk : k < L.length) (h1 : p L[k] = true) (h0 : ∀ j, ∀ hj : j < k, p (L[j]'(by omega)) = false) : (L.take (k + 1)).filter (fun s => !p s) = L.take k := by
 rw [List.take_succ_eq_append_getElem hk, List.filter_append]
 have e1 : [L[k]].filter (fun s => !p s) = [] := by simp [h1]
 rw [e1, List.append_nil, List.filter_eq_self]
 intro s hs
 obtain ⟨j, hj, rfl⟩ := List.mem_iff_getElem.1 hs
 have hj' : j < k := by simp at hj; omega
 have := h0 j hj'
 simp only [List.getElem_take]
 simpa using this
theorem ownBr_put {w : World} {base c g n : Nat} {M : List Bg} (h : w.ownsRow base 145 3 (.slice (some ⟨g, 0, none⟩) n c) n (brsC M)) {i : Nat} (hi : i < M.length) (s : Str) (t : Int) (b : Bool) :
  (((w.setCell ⟨g, i * 3, none⟩ (sv s)).setCell ⟨g, i * 3 + 1, none⟩ (.int .i64 t)).setCell ⟨g, i * 3 + 2, none⟩ (.bool b)).ownsRow base 145 3 (.slice (some ⟨g, 0, none⟩) n c) n (brsC (M.set i ((s, t), b))) := by
 have h0 := own_set h (j := i * 3 + 0) (sv s)
 rw [show (brsC M).set (i * 3 + 0) (sv s) = brsC (M.set i ((s, M[i].1.2), M[i].2)) from flat_set brC 3 brC_len 0 _ _ (by omega) M i hi rfl] at h0
 have h1 := own_set h0 (j := i * 3 + 1) (.int .i64 t)
 rw [show (brsC (M.set i ((s, M[i].1.2), M[i].2))).set (i * 3 + 1) (.int .i64 t) = brsC ((M.set i ((s, M[i].1.2), M[i].2)).set i ((s, t), M[i].2)) from flat_set brC 3 brC_len 1 _ _ (by omega) _ i (by simpa using hi) (by rw [List.getElem_set_self]; rfl)] at h1
 have h2 := own_set h1 (j := i * 3 + 2) (.bool b)
 rw [show (brsC ((M.set i ((s, M[i].1.2), M[i].2)).set i ((s, t), M[i].2))).set (i * 3 + 2) (.bool b) = brsC (((M.set i ((s, M[i].1.2), M[i].2)).set i ((s, t), M[i].2)).set i ((s, t), b)) from flat_set brC 3 brC_len 2 _ _ (by omega) _ i (by simpa using hi) (by rw [List.getElem_set_self]; rfl)] at h2
 simpa using h2
theorem zero_br (n : Nat) : ∀ v ∈ (Builtin.zeroCells (Value.agg #[.string ⟨#[]⟩, .int .i64 0, .bool false]).cells n).toList, v.oneCell' = true := fun v hv => by
 unfold Builtin.zeroCells at hv
 simp only [Value.cells, Array.toList_map, List.mem_map] at hv
 obtain ⟨i, _, rfl⟩ := hv
 have h3 : i % 3 = 0 ∨ i % 3 = 1 ∨ i % 3 = 2 := by omega
 rcases h3 with h | h | h <;> simp [h, Value.oneCell']
set_option maxRecDepth 100000 in
set_option maxHeartbeats 8000000 in
theorem DeleteFuncB_own (base c n : Nat) (A : Option Addr) (L : List Bg) (g : Nat) (caps : Array Value) (p : Bg → Bool) (w0 w : World) (h : w.ownsRow base 145 3 (.slice A n c) n (brsC L)) (hL : L.length = n) (hn : n ≤ 1000000) (hp : SaysBr g caps p base w0) (hb0 : Below base w0 w) (hbase : base ≤ w.heap.size) :
  Calls Tryz.prog 212 #[.slice A n c, .func (.func g) #[] caps] w fun e w' => ∃ A' c', e = .returned (.slice A' (L.filter (fun s => !p s)).length c') ∧ w'.ownsRow base 145 3 (.slice A' (L.filter (fun s => !p s)).length c') (L.filter (fun s => !p s)).length (brsC (L.filter (fun s => !p s))) ∧ Below base w0 w' := by
 obtain ⟨i0, hi, hz0, hz1, hz2⟩ := info_parts infoBr
 have Ho := Lib.hid h
 have Hp := Lib.hid hp
 have Hb0 := Lib.hid hb0
 have eg := hp.enters
 have hr := own_rd' h
 have hcap := own_cap h
 subst hL
 have Hr := Lib.hid hr
 clear h hp hb0 hr
 go_enter Tryz.func212, Tryz.ntmps212
 go_wp2_with fail
 refine (IndexFuncB A c L g caps p base w0 w Hr.out hn Hp.out Hb0.out hbase).mono ?_
 rintro e w2 ⟨r, rfl, hcase, hb⟩
 have HO2 := Lib.hid (own_on Ho.out hb)
 have HB2 := Lib.hid (Hb0.out.trans (hb.mono hbase))
 have hbase2 : base ≤ w2.heap.size := Nat.le_trans hbase hb.size
 clear hb Ho Hr Hb0
 rcases hcase with ⟨rfl, hnone⟩ | ⟨k, hk, rfl, _, hpk, hbef⟩
 ·have HF := Lib.hid (filter_all_br hnone)
  go_wp2_with fail
  go_ret
  rw [HF.out]
  exact ⟨A, c, rfl, HO2.out, HB2.out⟩
 ·have hfirst := filter_first_br hk hpk hbef
  have HF := Lib.hid hfirst
  clear hfirst hpk hbef
  obtain ⟨gb, rfl, hgb, hgl, _⟩ := own_open HO2.out (by omega)
  have hneq : ((k : Int) == -1) = false := by rw [beq_eq_false_iff_ne]; omega
  have hw1 : IntKind.i64.wrap ((k : Int) + 1) = (k : Int) + 1 := IntWalk.i64_in _ (by omega)
  go_wp2_with fail
  go_loopw [5, 6] (fun iv jv wr => ∃ (i j : Nat) (M : List Bg), iv = .int .i64 i ∧ jv = .int .i64 j ∧ i < j ∧ j ≤ L.length ∧ M.length = L.length ∧ M.take i = (L.take j).filter (fun s => !p s) ∧ M.drop j = L.drop j ∧ wr.ownsRow base 145 3 (.slice (some ⟨gb, 0, none⟩) L.length c) L.length (brsC M) ∧ Below base w0 wr) (fun _ jv _ => L.length - (intOf jv).toNat)
  case atStart => exact ⟨k, k + 1, L, rfl, by simp, by omega, hk, rfl, HF.out.symm, rfl, HO2.out, HB2.out⟩
  case round =>
   obtain ⟨i, j, M, rfl, rfl, hij, hj, hM, htk, hdr, ho, hb⟩ := hrel
   have HOr := Lib.hid ho
   have HBr := Lib.hid hb
   have hglr : gb < wr.heap.size := (ho.lt gb rfl).2
   have hzr : base ≤ wr.heap.size := Nat.le_of_lt (Nat.lt_of_le_of_lt hgb hglr)
   clear ho hb HO2 HB2
   by_cases hlt : j < L.length
   ·have hxM : M[j]'(by omega) = L[j] := by
     have h1 : (M.drop j)[0]'(by simp; omega) = (L.drop j)[0]'(by simp; omega) := by congr 1
     simpa using h1
    have hrd : Rd wr wr.heap.size 3 (some ⟨gb, 0, none⟩) M.length (brsC M) := by rw [hM]; exact own_rd' HOr.out
    obtain ⟨b1, o1, hA1, _, hc0, hc1, hc2⟩ := hrd.br (i := j) (by omega)
    injection hA1 with hA1
    injection hA1 with hA1 hA2
    subst hA1 hA2
    rw [hxM] at hc0 hc1 hc2
    simp only [Nat.zero_add] at hc0 hc1 hc2
    have hft : (L.take (j + 1)).filter (fun s => !p s) = (L.take j).filter (fun s => !p s) ++ (if (!p L[j]) = true then [L[j]] else []) := filter_take_succ hlt
    have hdr2 : M.drop (j + 1) = L.drop (j + 1) := by rw [← List.drop_drop, ← List.drop_drop, hdr]
    generalize L[j] = x at hc0 hc1 hc2 hft
    obtain ⟨⟨s, t⟩, b⟩ := x
    simp only at hc0 hc1 hc2
    have HFt := Lib.hid hft
    have HTk := Lib.hid htk
    have HDr := Lib.hid hdr2
    clear hft htk hdr hdr2 hxM hrd
    have j1 : (0 : Int) ≤ (j : Int) := by omega
    have j2 : (j : Int) < (L.length : Int) := by omega
    have j3 : (0 : Int) ≤ (i : Int) := by omega
    have j4 : (i : Int) < (L.length : Int) := by omega
    have hwj : IntKind.i64.wrap ((j : Int) + 1) = (j : Int) + 1 := IntWalk.i64_in _ (by omega)
    have hwi : IntKind.i64.wrap ((i : Int) + 1) = (i : Int) + 1 := IntWalk.i64_in _ (by omega)
    go_wp2_with fail
    first | (refine wp_named ?_; intro W1 hW) | (refine calls_named ?_; intro W1 hW)
    have B1 : Below wr.heap.size wr W1 := by rw [hW]; exact bq2
    replace HOr := Lib.hid (own_on HOr.out B1)
    replace hglr : gb < W1.heap.size := ltAt hglr B1
    have n1 : wr.heap.size < W1.heap.size := by rw [hW]; simp <;> omega
    have e0 : W1.cell? ⟨wr.heap.size, 0, none⟩ = some (sv s) := by rw [hW]; go_simp
    have e1 : W1.cell? ⟨wr.heap.size, 1, none⟩ = some (.int .i64 t) := by rw [hW]; go_simp
    have e2 : W1.cell? ⟨wr.heap.size, 2, none⟩ = some (.bool b) := by rw [hW]; go_simp
    clear hW
    have HB1 := Lib.hid (HBr.out.trans (B1.mono hzr))
    have hz1' : base ≤ W1.heap.size := Nat.le_trans hzr B1.size
    clear B1 hc0 hc1 hc2
    refine (Hp.out.says W1 s t b HB1.out).mono ?_
    rintro e w5 ⟨rfl, hb5⟩
    have HB5 := Lib.hid (HB1.out.trans (hb5.mono hz1'))
    replace e0 := cellAt e0 hb5 (by omega)
    replace e1 := cellAt e1 hb5 (by omega)
    replace e2 := cellAt e2 hb5 (by omega)
    replace HOr := Lib.hid (own_on HOr.out hb5)
    replace hglr : gb < w5.heap.size := ltAt hglr hb5
    replace n1 : wr.heap.size < w5.heap.size := ltAt n1 hb5
    clear hb5
    cases hpx : p ((s, t), b)
    ·have HF2 := Lib.hid (show (L.take (j + 1)).filter (fun s => !p s) = (L.take j).filter (fun s => !p s) ++ [((s, t), b)] by rw [HFt.out, hpx]; simp)
     have f0 := own_fro HOr.out (j := i * 3)
     have f1 := own_fro HOr.out (j := i * 3 + 1)
     have f2 := own_fro HOr.out (j := i * 3 + 2)
     have hl3 : (brsC M).length = L.length * 3 := by rw [brsC_len, hM]
     have d0 := own_cell HOr.out (j := i * 3) (by omega)
     have d1 := own_cell HOr.out (j := i * 3 + 1) (by omega)
     have d2 := own_cell HOr.out (j := i * 3 + 2) (by omega)
     generalize (brsC M)[i * 3]'(by omega) = v0 at d0
     generalize (brsC M)[i * 3 + 1]'(by omega) = v1 at d1
     generalize (brsC M)[i * 3 + 2]'(by omega) = v2 at d2
     go_wp2_with fail
     go_roundw
     case rel =>
      have ho6 := ownBr_put HOr.out (i := i) (by omega) s t b
      refine ⟨i + 1, j + 1, M.set i ((s, t), b), by go_num, by go_num, by omega, by omega, by simp [hM], ?_, ?_, ho6, ((HB5.out.setCell hgb _).setCell hgb _).setCell hgb _⟩
      ·rw [HF2.out, ← HTk.out, List.take_succ_eq_append_getElem (by simp; omega), List.take_set_of_le (Nat.le_refl _)]
       simp
      ·rw [List.drop_set_of_lt (by omega)]; exact HDr.out
     case measure => simp [intOf]; omega
    ·have HF2 := Lib.hid (show (L.take (j + 1)).filter (fun s => !p s) = (L.take j).filter (fun s => !p s) by rw [HFt.out, hpx]; simp)
     go_wp2_with fail
     go_roundw
     case rel => exact ⟨i, j + 1, M, rfl, by go_num, by omega, by omega, hM, by rw [HF2.out]; exact HTk.out, HDr.out, HOr.out, HB5.out⟩
     case measure => simp [intOf]; omega
   ·have hjL : j = L.length := by omega
    subst hjL
    rw [List.take_length] at htk
    have hs2 := run_slice_tail (P := Tryz.prog) Tryz.underlying175 hi (some ⟨gb, 0, none⟩) L.length c i (by omega)
    rw [hz1] at hs2
    have hAd : dropA (some ⟨gb, 0, none⟩) c i 3 = some ⟨gb, i * 3, none⟩ := by
     unfold dropA
     rw [if_neg (by omega)]
     simp [Addr.add]
     try (intro h; omega)
    rw [hAd] at hs2
    have hl3 : (brsC M).length = L.length * 3 := by rw [brsC_len, hM]
    have hclr := fun ty => run_clear_rows (P := Tryz.prog) (n := L.length - i) wr 175 145 ty (.agg #[.string ⟨#[]⟩, .int .i64 0, .bool false]) Tryz.underlying175 (fun w => Tryz.zeroValue145 w) (zero_br _) gb (i * 3) (c - i) (by omega)
     (fun m hm => by
      have hm' : m < (L.length - i) * 3 := hm
      rw [own_cell HOr.out (j := i * 3 + m) (by omega)]; rfl) (fun m hm => own_fro HOr.out)
    have hil : i ≤ L.length := by omega
    have HTk := Lib.hid htk
    obtain ⟨w9, hw9⟩ : ∃ w9, w9 = wr.setCells gb (i * 3) (Builtin.zeroCells (Value.agg #[.string ⟨#[]⟩, .int .i64 0, .bool false]).cells (L.length - i)).toList := ⟨_, rfl⟩
    rw [← hw9] at hclr
    have hb9 : Below base w0 w9 := by rw [hw9]; exact below_setCells _ _ _ hgb HBr.out
    have ho9 := own_setCells (i := i * 3) (Builtin.zeroCells (Value.agg #[.string ⟨#[]⟩, .int .i64 0, .bool false]).cells (L.length - i)).toList (i * 3) wr _ (Nat.le_refl _) HOr.out
    rw [← hw9] at ho9
    obtain ⟨xs', ho9, ht9⟩ := ho9
    have ho10 := own_cut ho9 hil
    rw [ht9, show (brsC M).take (i * 3) = brsC (M.take i) from (flat_take brC 3 brC_len M i).symm, htk] at ho10
    have hml : (L.filter (fun s => !p s)).length = i := by rw [← htk, List.length_take, hM]; omega
    have HO10 := Lib.hid ho10
    have HB9 := Lib.hid hb9
    have HML := Lib.hid hml
    clear htk hdr ho9 ht9 ho10 hb9 hml hw9 hl3
    have j3 : (0 : Int) ≤ (i : Int) := by omega
    go_wp2_with fail
    go_ret
    rw [HML.out]
    exact ⟨some ⟨gb, 0, none⟩, c, rfl, HO10.out, HB9.out⟩
end Od
end Go.Proofs.YtbllehjhmfehbaaGreat
end

section
/- (asker).back: what a stop or a restart brings. (bel2) -/
namespace Go.Proofs.YtbllehjhmfehbaaGreat
open Go.RowKit Go.Sort
set_option linter.unusedSimpArgs false
namespace Od
def relsB : List Int := [1, 4, 5]
def backK (es : List Ed) (u : Str) (t : Int) (k : Nat) : List Bg := (relsB.take k).flatMap fun r => eachB (inwS es u r) t true
theorem backK_succ {es : List Ed} {u : Str} {t : Int} {k : Nat} (hk : k < relsB.length) : backK es u t (k + 1) = backK es u t k ++ eachB (inwS es u relsB[k]) t true := by
 unfold backK
 rw [List.take_succ_eq_append_getElem hk, List.flatMap_append]
 simp
theorem backK_end (es : List Ed) (u : Str) (t : Int) : backK es u t 3 = backA es u t := by
 unfold backK relsB backA
 simp
theorem backK_len (es : List Ed) (u : Str) (t : Int) (k : Nat) : (backK es u t k).length ≤ 3 * es.length := by
 have h0 : backK es u t 0 = [] := rfl
 have hs : ∀ j, (backK es u t j).length ≤ (backK es u t (j + 1)).length := fun j => by
  by_cases hj : j < relsB.length
  ·rw [backK_succ hj, List.length_append]; omega
  ·have h1 : relsB.take j = relsB := List.take_of_length_le (by omega)
   have h2 : relsB.take (j + 1) = relsB := List.take_of_length_le (by omega)
   unfold backK
   rw [h1, h2]; exact Nat.le_refl _
 have h3 : (backK es u t 3).length ≤ 3 * es.length := by
  rw [backK_end]
  unfold backA
  simp only [List.length_append, eachB_len]
  have a1 := inwS_len es u 1
  have a2 := inwS_len es u 4
  have a3 := inwS_len es u 5
  omega
 rcases Nat.lt_or_ge k 3 with hk | hk
 ·have c1 := hs 0
  have c2 := hs 1
  have c3 := hs 2
  have : k = 0 ∨ k = 1 ∨ k = 2 := by omega
  rcases this with e | e | e <;> subst e
  ·exact Nat.le_trans c1 (Nat.le_trans c2 (Nat.le_trans c3 h3))
  ·exact Nat.le_trans c2 (Nat.le_trans c3 h3)
  ·exact Nat.le_trans c3 h3
 ·have h1 : relsB.take k = relsB := List.take_of_length_le (by unfold relsB; simpa using hk)
  have h2 : backK es u t k = backK es u t 3 := by unfold backK; rw [h1]; rfl
  rw [h2]; exact h3
set_option maxRecDepth 100000 in
set_option maxHeartbeats 4000000 in
theorem back_any (An Ae Au Ah : Option Addr) (nn cn ce cu ch : Nat) (es : List Ed) (up half : List Str) (u : Str) (t : Int) (w : World) (hr : Rd w w.heap.size 3 Ae es.length (edsC es)) (hl : es.length ≤ 10000) (hu : SIn w Au up) (hh : SIn w Ah half) :
  Calls Tryz.prog 180 #[askV An nn cn Ae es.length ce Au up.length cu Ah half.length ch, sv u, .int .i64 t] w (OwnB (backB es up half u t) w) := by
 obtain ⟨i0, hi, hz0, hz1, hz2⟩ := info_parts infoBr
 have Hr := Lib.hid hr
 have Hu := Lib.hid hu
 have Hh := Lib.hid hh
 clear hr hu hh
 go_enter Tryz.func180, Tryz.ntmps180
 go_wp2_with fail
 first | (refine wp_named ?_; intro W1 hW) | (refine calls_named ?_; intro W1 hW)
 have B1 : Below w.heap.size w W1 := by rw [hW]; exact bq2
 replace Hr := Lib.hid (Hr.out.at B1)
 replace Hu := Lib.hid (Hu.out.at B1)
 replace Hh := Lib.hid (Hh.out.at B1)
 have n1 : w.heap.size < W1.heap.size := by rw [hW]; simp <;> omega
 have n2 : (w.heap.size + 1) < W1.heap.size := by rw [hW]; simp <;> omega
 have g0 : W1.cell? ⟨w.heap.size, 0, none⟩ = some (.slice An nn cn) := by rw [hW]; go_simp
 have g1 : W1.cell? ⟨w.heap.size, 1, none⟩ = some (.slice Ae es.length ce) := by rw [hW]; go_simp
 have g2 : W1.cell? ⟨w.heap.size, 2, none⟩ = some (.slice Au up.length cu) := by rw [hW]; go_simp
 have g3 : W1.cell? ⟨w.heap.size, 3, none⟩ = some (.slice Ah half.length ch) := by rw [hW]; go_simp
 have r0 : W1.cell? ⟨(w.heap.size + 1), 0, none⟩ = some (.int .i64 1) := by rw [hW]; go_simp
 have r1 : W1.cell? ⟨(w.heap.size + 1), 1, none⟩ = some (.int .i64 4) := by rw [hW]; go_simp
 have r2 : W1.cell? ⟨(w.heap.size + 1), 2, none⟩ = some (.int .i64 5) := by rw [hW]; go_simp
 clear hW
 have HB1 := Lib.hid B1
 clear B1
 have hsB : SaysBr 213 #[.pointer (some ⟨w.heap.size, 0, none⟩)] (fun b => !upB up half b.1.1) W1.heap.size W1 :=
  ⟨enters_of Tryz.func213 (by kernel_rfl) rfl, fun W s t' n hW => by
   have q0 := (hW.cell (p := ⟨w.heap.size, 0, none⟩) n1).trans g0
   have q1 := (hW.cell (p := ⟨w.heap.size, 1, none⟩) n1).trans g1
   have q2 := (hW.cell (p := ⟨w.heap.size, 2, none⟩) n1).trans g2
   have q3 := (hW.cell (p := ⟨w.heap.size, 3, none⟩) n1).trans g3
   exact back1_any An Ae Au Ah nn cn es.length ce cu ch up half w.heap.size s t' n W (Hu.out.at hW) (Hh.out.at hW) q0 q1 q2 q3⟩
 have HsB := Lib.hid hsB
 clear hsB
 go_loopw [7, 12] (fun v i wr => ∃ k : Nat, k ≤ 3 ∧ i = .int .i64 k ∧ wr.ownsRow W1.heap.size 145 3 v (backK es u t k).length (brsC (backK es u t k)) ∧ Below W1.heap.size W1 wr) (fun _ i _ => 3 - (intOf i).toNat)
 case atStart => exact ⟨0, Nat.zero_le _, rfl, World.ownsRow_nil _ _ _ _, Below.refl _ _⟩
 case round =>
  obtain ⟨k, hk, rfl, hown, hbel⟩ := hrel
  have HB := Lib.hid hbel
  have HO := Lib.hid hown
  have hlen := backK_len es u t k
  replace g0 := cellAt g0 hbel (by omega)
  replace g1 := cellAt g1 hbel (by omega)
  replace g2 := cellAt g2 hbel (by omega)
  replace g3 := cellAt g3 hbel (by omega)
  replace r0 := cellAt r0 hbel (by omega)
  replace r1 := cellAt r1 hbel (by omega)
  replace r2 := cellAt r2 hbel (by omega)
  replace Hr := Lib.hid (Hr.out.at hbel)
  replace Hu := Lib.hid (Hu.out.at hbel)
  replace Hh := Lib.hid (Hh.out.at hbel)
  replace n1 : w.heap.size < wr.heap.size := ltAt n1 hbel
  replace n2 : (w.heap.size + 1) < wr.heap.size := ltAt n2 hbel
  clear hbel hown
  by_cases hlt : k < 3
  ·have hks := backK_succ (es := es) (u := u) (t := t) (k := k) hlt
   have hlen2 := backK_len es u t (k + 1)
   rw [hks, List.length_append] at hlen2
   have hcell : wr.cell? ⟨w.heap.size + 1, k, none⟩ = some (.int .i64 (relsB[k]'hlt)) := by
    have : k = 0 ∨ k = 1 ∨ k = 2 := by omega
    rcases this with e | e | e <;> subst e <;> assumption
   generalize relsB[k]'hlt = r at hks hlen2 hcell
   have HKs := Lib.hid hks
   clear hks r0 r1 r2
   obtain ⟨Av, cv, hv, _⟩ := own_rd HO.out
   subst hv
   have m1 : (0 : Int) ≤ (k : Int) := by omega
   have m2 : (k : Int) < 3 := by omega
   go_wp2_with fail
   refine (GIn_any An Ae nn cn ce es u r wr Hr.out (by omega)).mono ?_
   rintro e w2 ⟨A2, c2, rfl, ho2, hb⟩
   have HS2 := Lib.hid (own_rd' ho2)
   have HB2 := Lib.hid (HB.out.trans (hb.mono HB.out.size))
   replace g0 := cellAt g0 hb (by omega)
   replace g1 := cellAt g1 hb (by omega)
   replace g2 := cellAt g2 hb (by omega)
   replace g3 := cellAt g3 hb (by omega)
   replace hcell := cellAt hcell hb (by omega)
   replace Hr := Lib.hid (Hr.out.at hb)
   replace Hu := Lib.hid (Hu.out.at hb)
   replace Hh := Lib.hid (Hh.out.at hb)
   replace n1 : w.heap.size < w2.heap.size := ltAt n1 hb
   replace n2 : (w.heap.size + 1) < w2.heap.size := ltAt n2 hb
   replace HO := Lib.hid (own_on HO.out hb)
   clear hb ho2
   have hln := inwS_len es u r
   go_wp2_with fail
   refine (some_any A2 c2 (inwS es u r) t true w2 HS2.out (by omega)).mono ?_
   rintro e w3 ⟨A3, c3, rfl, ho3, hb⟩
   have HS3 := Lib.hid (own_rd' ho3)
   have HB3 := Lib.hid (HB2.out.trans (hb.mono HB2.out.size))
   replace g0 := cellAt g0 hb (by omega)
   replace g1 := cellAt g1 hb (by omega)
   replace g2 := cellAt g2 hb (by omega)
   replace g3 := cellAt g3 hb (by omega)
   replace hcell := cellAt hcell hb (by omega)
   replace Hr := Lib.hid (Hr.out.at hb)
   replace Hu := Lib.hid (Hu.out.at hb)
   replace Hh := Lib.hid (Hh.out.at hb)
   replace n1 : w.heap.size < w3.heap.size := ltAt n1 hb
   replace n2 : (w.heap.size + 1) < w3.heap.size := ltAt n2 hb
   replace HO := Lib.hid (own_on HO.out hb)
   clear hb ho3
   have hsz3 : W1.heap.size ≤ w3.heap.size := HB3.out.size
   have h63 : (backK es u t k).length + (eachB (inwS es u r) t true).length ≤ maxLen := by unfold maxLen; omega
   have hby : ((backK es u t k).length + (eachB (inwS es u r) t true).length) * 32 ≤ 140737488355328 := by omega
   generalize eachB (inwS es u r) t true = l at *
   generalize backK es u t k = L at *
   go_wp2_with (first
    | (at_builtin; refine wpList_append_rd _ (by rfl) (.tmp 16) (.tmp 23) 175 (by rfl) W1.heap.size 145 i0 _ 3 32 Tryz.underlying175 hi hz0 hz1 hz2 rfl (by decide) _ L.length (brsC L) (by rfl) HO.out _ A3 l.length c3 (brsC l) (by rfl) HS3.out (one_brsC l) h63 hby hsz3 ?_; intro A7 c7 w7 ho7 hg7 hat7)
    | fail)
   go_roundw
   case rel => exact ⟨k + 1, by omega, by go_num, by rw [HKs.out, List.length_append, brsC_app]; exact ho7, HB3.out.grown hg7 hsz3 (fun j hj => (HO.out.lt j hj).1)⟩
   case measure => simp [intOf]; omega
  ·have hk3 : k = 3 := by omega
   subst hk3
   have hend := backK_end es u t
   generalize backK es u t 3 = L3 at *
   have HEnd := Lib.hid hend
   clear hend
   obtain ⟨Av, cv, hv, _⟩ := own_rd HO.out
   subst hv
   go_wp2_with fail
   refine (DeleteFuncB_own W1.heap.size cv (L3).length Av (L3) _ _ (fun b => !upB up half b.1.1) W1 wr HO.out rfl (by omega) HsB.out HB.out HB.out.size).mono ?_
   rintro e w9 ⟨A9, c9, rfl, ho9, hb9⟩
   have hfl : (L3).filter (fun s => !(!upB up half s.1.1)) = backB es up half u t := by
    rw [HEnd.out]; unfold backB; simp only [Bool.not_not]
   rw [hfl] at ho9
   have HF := Lib.hid (show (L3).filter (fun s => upB up half s.1.1) = backB es up half u t by rw [← hfl]; simp only [Bool.not_not])
   have HO9 := Lib.hid ho9
   have HB9 := Lib.hid hb9
   clear ho9 hb9 hfl
   go_wp2_with fail
   go_ret
   rw [HF.out]
   exact ⟨A9, c9, rfl, HO9.out.mono HB1.out.size, lift HB1.out HB9.out⟩
end Od
end Go.Proofs.YtbllehjhmfehbaaGreat
end

section
/- (asker).brings: what a job brings. (bel2) -/
namespace Go.Proofs.YtbllehjhmfehbaaGreat
open Go.RowKit Go.Sort
set_option linter.unusedSimpArgs false
namespace Od
theorem backB_len (es : List Ed) (up half : List Str) (u : Str) (t : Int) : (backB es up half u t).length ≤ 3 * es.length := by
 unfold backB
 refine Nat.le_trans (List.length_filter_le _ _) ?_
 have := backK_len es u t 3
 rwa [backK_end] at this
theorem bringB_len (es : List Ed) (up half : List Str) (j : Jp) : (bringB es up half j).length ≤ 8 * es.length := by
 unfold bringB
 have h1 := startB_len es j.1
 have h2 := backB_len es up half j.1 2
 have h3 := backB_len es up half j.1 3
 split
 ·omega
 ·split
  ·omega
  ·split
   ·rw [List.length_append]; omega
   ·simp
set_option maxRecDepth 100000 in
set_option maxHeartbeats 4000000 in
theorem brings_any (An Ae Au Ah : Option Addr) (nn cn ce cu ch : Nat) (es : List Ed) (up half : List Str) (u : Str) (t : Int) (w : World) (hr : Rd w w.heap.size 3 Ae es.length (edsC es)) (hl : es.length ≤ 10000) (hu : SIn w Au up) (hh : SIn w Ah half) :
  Calls Tryz.prog 125 #[askV An nn cn Ae es.length ce Au up.length cu Ah half.length ch, .agg #[sv u, .int .i64 t]] w (OwnB (bringB es up half (u, t)) w) := by
 obtain ⟨i0, hi, hz0, hz1, hz2⟩ := info_parts infoBr
 have Hr := Lib.hid hr
 have Hu := Lib.hid hu
 have Hh := Lib.hid hh
 clear hr hu hh
 go_enter Tryz.func125, Tryz.ntmps125
 by_cases h1 : t = 1
 ·subst h1
  have HF := Lib.hid (show startB es u = bringB es up half (u, 1) by unfold bringB; rw [if_pos rfl])
  go_wp2_with fail
  first | (refine wp_named ?_; intro W1 hW) | (refine calls_named ?_; intro W1 hW)
  have B1 : Below w.heap.size w W1 := by rw [hW]; exact bq2
  replace Hr := Lib.hid (Hr.out.at B1)
  replace Hu := Lib.hid (Hu.out.at B1)
  replace Hh := Lib.hid (Hh.out.at B1)
  have n1 : w.heap.size < W1.heap.size := by rw [hW]; simp <;> omega
  have n2 : (w.heap.size + 1) < W1.heap.size := by rw [hW]; simp <;> omega
  have g0 : W1.cell? ⟨w.heap.size, 0, none⟩ = some (.slice An nn cn) := by rw [hW]; go_simp
  have g1 : W1.cell? ⟨w.heap.size, 1, none⟩ = some (.slice Ae es.length ce) := by rw [hW]; go_simp
  have g2 : W1.cell? ⟨w.heap.size, 2, none⟩ = some (.slice Au up.length cu) := by rw [hW]; go_simp
  have g3 : W1.cell? ⟨w.heap.size, 3, none⟩ = some (.slice Ah half.length ch) := by rw [hW]; go_simp
  have r0 : W1.cell? ⟨(w.heap.size + 1), 0, none⟩ = some (sv u) := by rw [hW]; go_simp
  have r1 : W1.cell? ⟨(w.heap.size + 1), 1, none⟩ = some (.int .i64 1) := by rw [hW]; go_simp
  clear hW
  have HB1 := Lib.hid B1
  clear B1
  refine (start_any An Ae Au Ah nn cn ce up.length cu half.length ch es u W1 Hr.out hl).mono ?_
  rintro e w2 ⟨A2, c2, rfl, ho2, hb⟩
  have HO := Lib.hid (own_base ho2 HB1.out.size)
  have HB := Lib.hid (lift HB1.out hb)
  clear ho2 hb
  go_wp2_with fail
  go_ret
  rw [← HF.out]
  exact ⟨A2, c2, rfl, HO.out, HB.out⟩
 by_cases h2 : t = 2
 ·subst h2
  have HF := Lib.hid (show backB es up half u 2 = bringB es up half (u, 2) by simp [bringB])
  go_wp2_with fail
  first | (refine wp_named ?_; intro W1 hW) | (refine calls_named ?_; intro W1 hW)
  have B1 : Below w.heap.size w W1 := by rw [hW]; exact bq2
  replace Hr := Lib.hid (Hr.out.at B1)
  replace Hu := Lib.hid (Hu.out.at B1)
  replace Hh := Lib.hid (Hh.out.at B1)
  have n1 : w.heap.size < W1.heap.size := by rw [hW]; simp <;> omega
  have n2 : (w.heap.size + 1) < W1.heap.size := by rw [hW]; simp <;> omega
  have g0 : W1.cell? ⟨w.heap.size, 0, none⟩ = some (.slice An nn cn) := by rw [hW]; go_simp
  have g1 : W1.cell? ⟨w.heap.size, 1, none⟩ = some (.slice Ae es.length ce) := by rw [hW]; go_simp
  have g2 : W1.cell? ⟨w.heap.size, 2, none⟩ = some (.slice Au up.length cu) := by rw [hW]; go_simp
  have g3 : W1.cell? ⟨w.heap.size, 3, none⟩ = some (.slice Ah half.length ch) := by rw [hW]; go_simp
  have r0 : W1.cell? ⟨(w.heap.size + 1), 0, none⟩ = some (sv u) := by rw [hW]; go_simp
  have r1 : W1.cell? ⟨(w.heap.size + 1), 1, none⟩ = some (.int .i64 2) := by rw [hW]; go_simp
  clear hW
  have HB1 := Lib.hid B1
  clear B1
  refine (back_any An Ae Au Ah nn cn ce cu ch es up half u 2 W1 Hr.out hl Hu.out Hh.out).mono ?_
  rintro e w2 ⟨A2, c2, rfl, ho2, hb⟩
  have HO := Lib.hid (own_base ho2 HB1.out.size)
  have HB := Lib.hid (lift HB1.out hb)
  clear ho2 hb
  go_wp2_with fail
  go_ret
  rw [← HF.out]
  exact ⟨A2, c2, rfl, HO.out, HB.out⟩
 by_cases h3 : t = 3
 ·subst h3
  have HF := Lib.hid (show startB es u ++ backB es up half u 3 = bringB es up half (u, 3) by simp [bringB])
  have hl1 := startB_len es u
  have hl2 := backB_len es up half u 3
  have h63 : (startB es u).length + (backB es up half u 3).length ≤ maxLen := by unfold maxLen; omega
  have hby : ((startB es u).length + (backB es up half u 3).length) * 32 ≤ 140737488355328 := by omega
  have HL := Lib.hid (And.intro h63 hby)
  clear h63 hby
  go_wp2_with fail
  first | (refine wp_named ?_; intro W1 hW) | (refine calls_named ?_; intro W1 hW)
  have B1 : Below w.heap.size w W1 := by rw [hW]; exact bq2
  replace Hr := Lib.hid (Hr.out.at B1)
  replace Hu := Lib.hid (Hu.out.at B1)
  replace Hh := Lib.hid (Hh.out.at B1)
  have n1 : w.heap.size < W1.heap.size := by rw [hW]; simp <;> omega
  have n2 : (w.heap.size + 1) < W1.heap.size := by rw [hW]; simp <;> omega
  have g0 : W1.cell? ⟨w.heap.size, 0, none⟩ = some (.slice An nn cn) := by rw [hW]; go_simp
  have g1 : W1.cell? ⟨w.heap.size, 1, none⟩ = some (.slice Ae es.length ce) := by rw [hW]; go_simp
  have g2 : W1.cell? ⟨w.heap.size, 2, none⟩ = some (.slice Au up.length cu) := by rw [hW]; go_simp
  have g3 : W1.cell? ⟨w.heap.size, 3, none⟩ = some (.slice Ah half.length ch) := by rw [hW]; go_simp
  have r0 : W1.cell? ⟨(w.heap.size + 1), 0, none⟩ = some (sv u) := by rw [hW]; go_simp
  have r1 : W1.cell? ⟨(w.heap.size + 1), 1, none⟩ = some (.int .i64 3) := by rw [hW]; go_simp
  clear hW
  have HB1 := Lib.hid B1
  clear B1
  try go_wp2_with fail
  refine wp_region_held_drew (S := fun w' => Below W1.heap.size W1 w') (by kernel_rfl) (Below.drew (Below.refl _ _)) (fun hHeld => ?_)
  refine tV 0 ?_ ?zq ?_; (case zq => intro w' hSw; have hCell := fun (b o : Nat) (h : b < W1.heap.size) => hSw.cell (p := ⟨b, o, none⟩) h; clear hSw; go_simp; try with_reducible rfl); try simp only [Act.put, zn1, zn2, zn3]
  refine tV 1 ?_ ?zq ?_; (case zq => rintro _ -; go_simp; try with_reducible rfl); try simp only [Act.put, zn1, zn2, zn3]
  refine tV 2 ?_ ?zq ?_; (case zq => intro w' hSw; have hCell := fun (b o : Nat) (h : b < W1.heap.size) => hSw.cell (p := ⟨b, o, none⟩) h; clear hSw; go_simp; try with_reducible rfl); try simp only [Act.put, zn1, zn2, zn3]
  refine tV 4 ?_ ?zq ?_; (case zq => intro w' hSw; have hCell := fun (b o : Nat) (h : b < W1.heap.size) => hSw.cell (p := ⟨b, o, none⟩) h; clear hSw; go_simp; try with_reducible rfl); try simp only [Act.put, zn1, zn2, zn3]
  refine tV 5 ?_ ?zq ?_; (case zq => rintro _ -; go_simp; try with_reducible rfl); try simp only [Act.put, zn1, zn2, zn3]
  refine tV 6 ?_ ?zq ?_; (case zq => intro w' hSw; have hCell := fun (b o : Nat) (h : b < W1.heap.size) => hSw.cell (p := ⟨b, o, none⟩) h; clear hSw; go_simp; try with_reducible rfl); try simp only [Act.put, zn1, zn2, zn3]
  refine ready_one (i := 3) rfl (by kernel_rfl) (fun K hK => ?_)
  go_simp
  refine (start_any An Ae Au Ah nn cn ce up.length cu half.length ch es u _ (Hr.out.at hHeld) hl).mono ?_
  rintro e y1 ⟨A1, c1, rfl, ho1, hb⟩
  have HO1 := Lib.hid (own_base ho1 hHeld.size)
  clear ho1
  refine hK.out _ _ ?_ (fun hHeld2 => ?_)
  ·(try dsimp only); first | exact Below.trans hHeld (Below.mono hb hHeld.size) | exact hHeld | exact Below.drew hHeld | exact bq2
  clear hK K hHeld; have hHeld := hHeld2; clear hHeld2; (try simp only [Act.put, zn1, zn2, zn3])
  refine ready_one (i := 7) rfl (by kernel_rfl) (fun K hK => ?_)
  go_simp
  refine (back_any An Ae Au Ah nn cn ce cu ch es up half u 3 _ (Hr.out.at hHeld) hl (Hu.out.at hHeld) (Hh.out.at hHeld)).mono ?_
  rintro e y2 ⟨A2, c2, rfl, ho2, hb⟩
  have HO2 := Lib.hid (own_on HO1.out hb)
  have HS2 := Lib.hid (own_rd' ho2)
  clear ho2
  refine hK.out _ _ ?_ (fun hHeld2 => ?_)
  ·(try dsimp only); first | exact Below.trans hHeld (Below.mono hb hHeld.size) | exact hHeld | exact Below.drew hHeld | exact bq2
  clear hK K hHeld; have hHeld := hHeld2; clear hHeld2; (try simp only [Act.put, zn1, zn2, zn3])
  refine ready_one (i := 8) rfl (by kernel_rfl) (fun K hK => ?_)
  refine step_append_rd _ (by rfl) (.tmp 24) (.tmp 28) 175 (by rfl) W1.heap.size 145 i0 _ 3 32 Tryz.underlying175 hi hz0 hz1 hz2 rfl (by decide) _ (startB es u).length (brsC (startB es u)) (by rfl) HO2.out _ A2 (backB es up half u 3).length c2 (brsC (backB es up half u 3)) (by rfl) HS2.out (one_brsC _) HL.out.1 HL.out.2 hHeld.size ?_
  intro A7 c7 w7 ho7 hg7 hat7
  replace hHeld := hHeld.grown hg7 hHeld.size (fun j hj => (HO2.out.lt j hj).1)
  have HO7 := Lib.hid ho7
  clear ho7 hg7 hat7
  refine hK.out _ _ ?_ (fun hHeld2 => ?_)
  ·(try dsimp only); first | exact Below.trans hHeld (Below.mono hb hHeld.size) | exact hHeld | exact Below.drew hHeld | exact bq2
  clear hK K hHeld; have hHeld := hHeld2; clear hHeld2; (try simp only [Act.put, zn1, zn2, zn3])
  refine tV 9 ?_ ?zq ?_; (case zq => rintro _ -; go_simp; try with_reducible rfl); try simp only [Act.put, zn1, zn2, zn3]
  refine wpAnyH_done (by kernel_rfl) ?_ _
  go_wp2_with fail
  go_ret
  rw [← HF.out]
  exact ⟨A7, c7, by rw [List.length_append]; rfl, by rw [List.length_append, brsC_app]; exact own_base HO7.out HB1.out.size, lift HB1.out hHeld⟩
 ·have HF := Lib.hid (show ([] : List Bg) = bringB es up half (u, t) by unfold bringB; rw [if_neg h1, if_neg h2, if_neg h3])
  have b1 : (t == 1) = false := by simpa using h1
  have b2 : (t == 2) = false := by simpa using h2
  have b3 : (t == 3) = false := by simpa using h3
  go_wp2_with fail
  go_ret
  rw [← HF.out]
  exact ⟨none, 0, rfl, World.ownsRow_nil _ _ _ _, ((Below.refl _ _).alloc (Nat.le_refl _) _).alloc (by simp) _⟩
end Od
end Go.Proofs.YtbllehjhmfehbaaGreat
end
