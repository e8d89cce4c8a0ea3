/- My texts, joined for the claim: R17All R19MakeM R19BuildM. -/
import Derived.Test.YtbllehjhmfehbaaGreatZU1
import Derived.Test.YtbllehjhmfehbaaGreatZU12
import Derived.Deep.DeepCutAuto
import Derived.Test.YtbllehjhmfehbaaGreatZU9
import Derived.Test.YtbllehjhmfehbaaGreatZU11
import Derived.Test.YtbllehjhmfehbaaGreatZU8

section
/- matinsref17.All: all jobs that come along. (bel2) -/
namespace Go.Proofs.YtbllehjhmfehbaaGreat
open Go.RowKit Go.Sort Go.Maps
set_option linter.unusedSimpArgs false
namespace Od
set_option maxRecDepth 100000 in
set_option maxHeartbeats 16000000 in
theorem All17_any (An Ae Au Ah Aw : Option Addr) (cn ce cu ch cw : Nat) (ns : List Nd) (es : List Ed) (up half : List Str) (wo : List Pl) (u : Str) (t : Int) (w : World)
  (hn : Rd w w.heap.size 3 An ns.length (ndsC ns)) (hnl : ns.length ≤ 1000000) (hr : Rd w w.heap.size 3 Ae es.length (edsC es)) (hl : es.length ≤ 10000) (hu : SIn w Au up) (hh : SIn w Ah half) (hw : Rd w w.heap.size 4 Aw wo.length (plsC wo)) (hwl : wo.length ≤ 1000000)
  (hok : OkE es) (hof : okJ (u, t)) :
  Calls Tryz.prog 19 #[gV An ns.length cn Ae es.length ce, nowV Au up.length cu Ah half.length ch, sv u, .int .i64 t, .slice Aw wo.length cw] w (OwnPl (pullQ ns es up half (u, t) wo) w) := by
 obtain ⟨i0, hi, hz0, hz1, hz2⟩ := info_parts infoPl
 have hmm : ∀ (t : TypeId) (w : World), (Instr.makeMap t none).run Tryz.prog w = .ok (.map (some w.heap.size)) (w.alloc (.map #[] 0)) := fun _ _ => rfl
 have Hn := Lib.hid hn
 have Hr := Lib.hid hr
 have Hu := Lib.hid hu
 have Hh := Lib.hid hh
 have Hw := Lib.hid hw
 have HOk := Lib.hid (okJ_cand hok)
 have HOf := Lib.hid hof
 clear hn hr hu hh hw hok
 go_enter Tryz.func19, Tryz.ntmps19
 go_wp2_with fail
 first | (refine wp_named ?_; intro W1 hW) | (refine calls_named ?_; intro W1 hW)
 have B1 : Below w.heap.size w W1 := by rw [hW]; exact bq2
 replace Hn := Lib.hid (Hn.out.at B1)
 replace Hr := Lib.hid (Hr.out.at B1)
 replace Hu := Lib.hid (Hu.out.at B1)
 replace Hh := Lib.hid (Hh.out.at B1)
 replace Hw := Lib.hid (Hw.out.at B1)
 have n1 : w.heap.size < W1.heap.size := by rw [hW]; simp <;> omega
 have n2 : (w.heap.size + 1) < W1.heap.size := by rw [hW]; simp <;> omega
 have g0 : W1.cell? ⟨w.heap.size, 0, none⟩ = some (.slice An ns.length cn) := by rw [hW]; go_simp
 have g1 : W1.cell? ⟨w.heap.size, 1, none⟩ = some (.slice Ae es.length ce) := by rw [hW]; go_simp
 have h0 : W1.cell? ⟨(w.heap.size + 1), 0, none⟩ = some (.slice Au up.length cu) := by rw [hW]; go_simp
 have h1 : W1.cell? ⟨(w.heap.size + 1), 1, none⟩ = some (.slice Ah half.length ch) := by rw [hW]; go_simp
 clear hW
 have HB1 := Lib.hid B1
 clear B1
 refine (Node15_any An Ae es.length cn ce ns u W1 Hn.out hnl).mono ?_
 rintro e w2 ⟨rfl, hb⟩
 replace g0 := cellAt g0 hb (by omega)
 replace g1 := cellAt g1 hb (by omega)
 replace h0 := cellAt h0 hb (by omega)
 replace h1 := cellAt h1 hb (by omega)
 replace Hn := Lib.hid (Hn.out.at hb)
 replace Hr := Lib.hid (Hr.out.at hb)
 replace Hu := Lib.hid (Hu.out.at hb)
 replace Hh := Lib.hid (Hh.out.at hb)
 replace Hw := Lib.hid (Hw.out.at hb)
 replace n1 : w.heap.size < w2.heap.size := ltAt n1 hb
 replace n2 : (w.heap.size + 1) < w2.heap.size := ltAt n2 hb
 replace HB1 := Lib.hid (lift HB1.out hb)
 clear hb
 have hz2w := HB1.out.size
 cases hno : nodeOf ns u with
 | none =>
  have hq : pullQ ns es up half (u, t) wo = [] := by unfold pullQ asksB; rw [hno]; rfl
  have HQ := Lib.hid hq
  clear hq
  unfold nodeV
  go_wp2_with fail
  go_ret
  rw [HQ.out]
  exact ⟨none, 0, rfl, World.ownsRow_nil _ _ _ _, HB1.out.alloc hz2w _⟩
 | some nd =>
  obtain ⟨s1, k1, r1⟩ := nd
  by_cases ht1 : t < 1
  ·have hq : pullQ ns es up half (u, t) wo = [] := by unfold pullQ asksB; rw [hno]; simp; omega
   have HQ := Lib.hid hq
   have hd1 : decide (t < 1) = true := by simpa using ht1
   clear hq ht1
   unfold nodeV
   go_wp2_with fail
   go_ret
   rw [HQ.out]
   exact ⟨none, 0, rfl, World.ownsRow_nil _ _ _ _, HB1.out.alloc hz2w _⟩
  by_cases ht4 : 4 < t
  ·have hq : pullQ ns es up half (u, t) wo = [] := by unfold pullQ asksB; rw [hno]; simp; omega
   have HQ := Lib.hid hq
   have hd1 : decide (t < 1) = false := by simpa using ht1
   have hd4 : decide (4 < t) = true := by simpa using ht4
   clear hq ht1 ht4
   unfold nodeV
   go_wp2_with fail
   go_ret
   rw [HQ.out]
   exact ⟨none, 0, rfl, World.ownsRow_nil _ _ _ _, HB1.out.alloc hz2w _⟩
  have hq : pullQ ns es up half (u, t) wo = allP es up half (u, t) wo := by
   unfold pullQ
   rw [if_pos]
   unfold asksB
   rw [hno]
   simp; omega
  have HQ := Lib.hid hq
  have hd1 : decide (t < 1) = false := by simpa using ht1
  have hd4 : decide (4 < t) = false := by simpa using ht4
  clear hq ht1 ht4 hno
  unfold nodeV
  go_upto_region 5 with fail
  first | (refine wp_named ?_; intro W4 hW) | (refine calls_named ?_; intro W4 hW)
  have B4 : Below w2.heap.size w2 W4 := by rw [hW]; exact bq2
  replace g0 := cellAt g0 B4 (by omega)
  replace g1 := cellAt g1 B4 (by omega)
  replace h0 := cellAt h0 B4 (by omega)
  replace h1 := cellAt h1 B4 (by omega)
  replace Hn := Lib.hid (Hn.out.at B4)
  replace Hr := Lib.hid (Hr.out.at B4)
  replace Hu := Lib.hid (Hu.out.at B4)
  replace Hh := Lib.hid (Hh.out.at B4)
  replace Hw := Lib.hid (Hw.out.at B4)
  replace n1 : w.heap.size < W4.heap.size := ltAt n1 B4
  replace n2 : (w.heap.size + 1) < W4.heap.size := ltAt n2 B4
  replace HB1 := Lib.hid (lift HB1.out B4)
  have m1 : (w2.heap.size + 1) < W4.heap.size := by rw [hW]; simp <;> omega
  have j0 : W4.cell? ⟨(w2.heap.size + 1), 0, none⟩ = some (sv u) := by rw [hW]; go_simp
  have j1 : W4.cell? ⟨(w2.heap.size + 1), 1, none⟩ = some (.int .i64 t) := by rw [hW]; go_simp
  clear hW
  have hz4 := B4.size
  clear B4
  have HM0 := Lib.hid (MapIs.made kindR W4)
  go_wp2_with (first
   | (refine wpList_insert_is _ (by rfl) (.tmp 56) (.tmp 57) (.const (.int .i64 0)) 87 (by rfl) 3 Tryz.underlying87 W4.heap.size _ _ (by rfl) HM0.out (by decide) (u, t) (.int .i64 0) (by rfl) (by rfl) HOf.out ?_; intro w5 hm5 hg5; have HM5 := Lib.hid (MapIs.ifR hm5); have HB5 := Lib.hid (((Below.refl W4.heap.size W4).alloc (Nat.le_refl _) (.map #[] 0)).grown hg5 (by simp) (fun g hg => by cases hg; exact Nat.le_refl _)); clear hm5 hg5; have j05 := cellAt j0 HB5.out m1; have j15 := cellAt j1 HB5.out m1; have m15 := ltAt m1 HB5.out)
   | fail)
  have hz5 := HB5.out.size
  have hf5 := HM5.out.lt
  have HFar5 := Lib.hid (FarS.one HM5.out)
  first | (refine wp_named ?_; intro W6 hW) | (refine calls_named ?_; intro W6 hW)
  have B6 : Below w5.heap.size w5 W6 := by rw [hW]; exact bq2
  replace j05 := cellAt j05 B6 (by omega)
  replace j15 := cellAt j15 B6 (by omega)
  replace m15 : (w2.heap.size + 1) < W6.heap.size := ltAt m15 B6
  replace HFar5 := Lib.hid (HFar5.out.on B6)
  replace HB5 := Lib.hid (lift HB5.out B6)
  have hby6 : MapIs kindR W6 w5.heap.size 1 (byX (u, t) [((u, t), [])]) := by
   rw [hW, ← byX_one]
   exact ((MapIs.made kindR w5).alloc _).mono (by omega)
  have hrow6 : W6.ownsRow (w5.heap.size + 1) 86 2 (.slice (some ⟨w5.heap.size + 1, 0, none⟩) 1 1) 1 (jpsC [(u, t)]) := by
   rw [hW]
   have h := own_lit (w := w5.alloc (.map #[] 0)) (e := 86) (k := 2) (n := 1) (jpsC [(u, t)]) rfl (by decide)
   simp only [World.size_alloc] at h
   exact h
  clear hW
  have hz6 := B6.size
  clear B6 HM5 HM0
  have hcand : (candB es).length = 6 * es.length := candB_len es
  have hhead : Head (bringB es up half) (outB wo) (u, t) (candB es) (layP (bringB es up half) (outB wo) (6 * es.length + 1) [((u, t), [])] [(u, t)]) (6 * es.length + 1) [((u, t), [])] [(u, t)] := by
   have := Head.zero (E := bringB es up half) (out := outB wo) (first := (u, t)) (cand := candB es)
   rw [hcand] at this; exact this
  have HH0 := Lib.hid hhead
  have HS0 := Lib.hid (show LayS W6 W4.heap.size w5.heap.size (w5.heap.size + 1) (u, t) (candB es) ([((u, t), [])], [(u, t)]) (some ⟨w5.heap.size + 1, 0, none⟩) 1 from
   ⟨hrow6, HFar5.out, hby6, ⟨by simp [keysP], fun k hk => by simp [keysP] at hk; rw [hk]; exact .head _, by simp⟩, by simp [keysP]⟩)
  have hfin : layP (bringB es up half) (outB wo) (6 * es.length + 1) [((u, t), [])] [(u, t)] = pullM es up half (u, t) wo := rfl
  rw [hfin] at HH0
  have HCd := Lib.hid (show ∀ j b, b ∈ bringB es up half j → b.1 ∈ candB es from bring_cand)
  have HBl := Lib.hid (fun j => bringB_len es up half j)
  have HLay := Lib.hid (pullM_ok es up half (u, t) wo)
  have HKnow := Lib.hid (fun N h k => known_need (es := es) (up := up) (half := half) (first := (u, t)) (wo := wo) (N := N) h k)
  have HAll := Lib.hid (show allP es up half (u, t) wo = (canon ltJ (keysP (pullM es up half (u, t) wo))).map (plOf (pullM es up half (u, t) wo) (needM es up half (u, t) wo)) from rfl)
  have HKo := Lib.hid (pull_keys_ok (es := es) (up := up) (half := half) (first := (u, t)) (wo := wo) HOk.out HOf.out)
  have HBf := Lib.hid (show byOf (pullM es up half (u, t) wo) (u, t) = [] from by
   rcases by_cases_ (es := es) (up := up) (half := half) (first := (u, t)) (wo := wo) .one with ⟨_, h⟩ | ⟨h, _⟩
   ·exact h
   ·exact absurd rfl h)
  have hml := pullM_len es up half (u, t) wo
  have HBr := Lib.hid (fun s' t' W (h1 : Rd W W.heap.size 3 Ae es.length (edsC es)) h2 h3 => brings17_any An Ae Au Ah ns.length cn ce cu ch es up half s' t' W h1 hl h2 h3)
  clear hhead hby6 hrow6 hcand hfin
  generalize pullM es up half (u, t) wo = fin at *
  generalize needM es up half (u, t) wo = nn at *
  generalize hE : bringB es up half = E at *
  clear hE
  generalize hO : outB wo = out at *
  have HO := Lib.hid hO
  clear hO
  have hcl : (candB es).length ≤ 60000 := by rw [candB_len]; omega
  have hc6 : (candB es).length = 6 * es.length := candB_len es
  generalize candB es = cand at *
  have HHd := Lib.hid HB5.out
  have hbase : w5.heap.size + 1 ≤ W6.heap.size := by have := HS0.out.nx.lt; have := (HS0.out.nx.lt (w5.heap.size + 1) rfl).2; omega
  go_loopg [16, 17] (6 * es.length + 1) (fun g s16 s17 wr => ∃ (m : Ms) (r : List Jp) (A : Option Addr) (c : Nat) (st : Int), s16 = .slice A (canon ltJ r).length c ∧ s17 = .int .i64 st ∧ Hid (Head E out (u, t) cand fin g m r) ∧ Hid (LayS wr W4.heap.size w5.heap.size (w5.heap.size + 1) (u, t) cand (m, r) A c) ∧ Hid (Below W4.heap.size W4 wr))
  case atStart => exact ⟨[((u, t), [])], [(u, t)], some ⟨w5.heap.size + 1, 0, none⟩, 1, 1, rfl, rfl, HH0, HS0, HHd⟩
  case round =>
   obtain ⟨m, r, A, c, st, rfl, rfl, HH, HS, HBx⟩ := hrel
   obtain ⟨w7, rfl⟩ : ∃ wo : World, wo = wr := ⟨_, rfl⟩
   by_cases hr : r = []
   ·subst hr
    have hm : m = fin := HH.out.done
    have HFar := Lib.hid (show FarS w7 W4.heap.size fin by rw [← hm]; exact HS.out.far)
    have HBy := Lib.hid (show MapIs kindR w7 w5.heap.size fin.length (byX (u, t) fin) by rw [← hm]; exact HS.out.by_)
    have hz7 := HS.out.by_.lt
    clear hm HS HH HS0 HH0
    have j07 := cellAt j0 HBx.out m1
    have j17 := cellAt j1 HBx.out m1
    have m17 := ltAt m1 HBx.out
    have HM7 := Lib.hid (MapIs.made kindR w7)
    go_wp2_with (first
     | (refine wpList_insert_is _ (by rfl) (.tmp 112) (.tmp 113) (.const (.bool true)) 96 (by rfl) 4 Tryz.underlying96 w7.heap.size _ _ (by rfl) HM7.out (by decide) (u, t) (.bool true) (by rfl) (by rfl) HOf.out ?_; intro w8 hm8 hg8; have HM8 := Lib.hid (MapIs.ifR hm8); have HB8 := Lib.hid (((Below.refl w7.heap.size w7).alloc (Nat.le_refl _) (.map #[] 0)).grown hg8 (by simp) (fun g hg => by cases hg; exact Nat.le_refl _)); clear hm8 hg8)
     | fail)
    have HN8 := Lib.hid (show MapIs kindR w8 w7.heap.size [(u, t)].length (inV [(u, t)]) by
     have h := HM8.out
     have e : (fun y : Jp => if y = (u, t) then some (Value.bool true) else none) = inV [(u, t)] := by
      have h0 := inV_push [] (u, t)
      rw [List.nil_append] at h0
      rw [← h0]
      funext y
      simp [inV]
     rw [e] at h
     exact h)
    have HFar8 := Lib.hid (HFar.out.on HB8.out)
    have HBy8 := Lib.hid (HBy.out.on HB8.out)
    have HBx8 := Lib.hid (lift HBx.out HB8.out)
    have HNz := Lib.hid (NdR.zero (E := E) (out := out) (first := (u, t)))
    clear HM8 HB8 HFar HBy HM7 HBx
    have HGs := Lib.hid (show true = true → cand.length + 2 ≤ (6 * es.length + 2) + [(u, t)].length from fun _ => by simp; omega)
    go_loopg [26] (6 * es.length + 2) (fun g s26 wr => ∃ (N : List Jp) (gr : Bool), s26 = .bool gr ∧ Hid (NdR E out (u, t) N) ∧ Hid (gr = true → cand.length + 2 ≤ g + N.length) ∧ Hid (gr = false → ∀ j ∈ keysP fin, j ∈ N → CloAt E (keysP fin) N j) ∧ Hid (MapIs kindR wr w7.heap.size N.length (inV N)) ∧ Hid (FarS wr W4.heap.size fin) ∧ Hid (MapIs kindR wr w5.heap.size fin.length (byX (u, t) fin)) ∧ Hid (Below W4.heap.size W4 wr))
    case atStart => exact ⟨[(u, t)], true, rfl, HNz, HGs, fun h => (by cases h), HN8, HFar8, HBy8, HBx8⟩
    case round =>
     clear HN8 HFar8 HBy8 HBx8
     obtain ⟨N, gr, rfl, HNd, HGr, HCl, HNm, HFar, HBy, HB⟩ := hrel
     obtain ⟨w9, rfl⟩ : ∃ wo : World, wo = wr := ⟨_, rfl⟩
     have hyl9 := HBy.out.lt
     have hnl9 := HNm.out.lt
     cases gr
     ·have HKn := Lib.hid (HKnow.out N (HNd.out.iff HLay.out (HCl.out rfl)))
      obtain ⟨ff, hff, hfk⟩ := HFar.out
      have HFf := Lib.hid hff
      have HFk := Lib.hid hfk
      have hfl9 := HFf.out.lt
      clear hff hfk HFar HGr HCl HNd
      go_wp2_with (first
       | (at_range; refine wpList_range_is _ (by rfl) (.tmp 158) 87 (by rfl) 3 Tryz.underlying87 W4.heap.size _ _ (by rfl) HFf.out ?_; intro w10 cnt hr3 hg3 hs3; have HR3 := Lib.hid hr3; have HG3 := Lib.hid hg3; clear hr3 hg3)
       | fail)
      have hb10 : Below w9.heap.size w9 w10 := (Below.refl _ _).grown HG3.out (Nat.le_refl _) (fun g hg => by cases hg)
      have HN10 := Lib.hid (HNm.out.on hb10)
      have HBy10 := Lib.hid (HBy.out.on hb10)
      have HB10 := Lib.hid (lift HB.out hb10)
      have HM0 := Lib.hid (show ∀ k, k ∈ ([] : List Jp) ↔ k ∈ keysP fin ∧ (ff k).isSome = false from fun k => ⟨fun h => (by cases h), fun h => by have h2 := h.2; rw [HFk.out, knownP_iff.2 h.1] at h2; cases h2⟩)
      clear hb10
      try go_frame
      go_loopw [32] (fun v wr => ∃ (left : Jp → Bool) (cnt : Nat) (M : List Jp) (A : Option Addr) (c : Nat), v = .slice A (canon ltJ M).length c ∧ RangeIs kindR wr W4.heap.size w9.heap.size (List.length fin) ff left cnt ∧ List.Nodup M ∧ Hid (∀ k, k ∈ M ↔ k ∈ keysP fin ∧ left k = false) ∧ Hid (wr.ownsRow (w9.heap.size + 1) 86 2 (.slice A (canon ltJ M).length c) (canon ltJ M).length (jpsC (canon ltJ M))) ∧ Hid (MapIs kindR wr w7.heap.size (List.length N) (inV N)) ∧ Hid (MapIs kindR wr w5.heap.size (List.length fin) (byX (u, t) fin)) ∧ Hid (Below W4.heap.size W4 wr) ∧ w9.heap.size < wr.heap.size) (fun _ wr => wr.rangeLeft W4.heap.size w9.heap.size)
      case atStart => exact ⟨_, cnt, [], none, 0, rfl, HR3.out, List.nodup_nil, HM0, World.ownsRow_nil _ _ _ _, HN10, HBy10, HB10, by omega⟩
      case round =>
       clear HNm HBy HB HR3 HG3 HN10 HBy10 HB10 HM0 HFf hs3
       obtain ⟨left, cnt', M, A, c, rfl, hrg, hnd, HMm, HRw, HNm, HBy, HB, hwz⟩ := hrel
       have hmz : wr.rangeLeft W4.heap.size w9.heap.size = cnt' := hrg.left_eq
       have HM := Lib.hid hmz
       have HRg := Lib.hid hrg
       have HNo := Lib.hid hnd
       have hMl : M.length ≤ 6 * es.length + 1 := by
        have h1 := nodup_len hnd (cand := keysP fin) fun k hk => ((HMm.out k).1 hk).1
        have h2 : (keysP fin).length = fin.length := by simp [keysP]
        omega
       clear hmz hrg hnd
       go_wp2_with (first
        | (at_next; refine wpList_next_is _ (by rfl) (.tmp 159) (by rfl) W4.heap.size w9.heap.size _ ff left cnt' (by rfl) HRg.out ?_ ?_)
        | fail)
       ·intro hdone
        have hjs : canon ltJ M = canon ltJ (keysP fin) := canon_perm fun k => by
         rw [HMm.out]
         exact ⟨fun h => h.1, fun h => ⟨h, hdone k.1 k.2 (HKo.out k h)⟩⟩
        have hcl9 := canon_len (lt := ltJ) M
        have HJk := Lib.hid (show ∀ k ∈ canon ltJ M, okJ k from fun k hk => HKo.out k ((HMm.out k).1 ((mem_canon toJ).1 hk)).1)
        have HJs := Lib.hid hjs
        clear hdone hjs HMm HRg HM
        generalize canon ltJ M = J at *
        obtain ⟨wd, rfl⟩ : ∃ wo : World, wo = wr := ⟨_, rfl⟩
        have HNd7 := Lib.hid HNm.out.lt
        have HNd5 := Lib.hid HBy.out.lt
        have HJb := Lib.hid (fun g (hg : (Value.slice A J.length c).ownBlock = some g) => (HRw.out.lt g hg).2)
        go_wp2_with fail
        go_loopw [34, 169] (fun v i wr => ∃ (k : Nat) (A9 : Option Addr) (c9 : Nat), k ≤ J.length ∧ i = .int .i64 k ∧ v = .slice A9 k c9 ∧ Hid (wr.ownsRow wd.heap.size 37 4 (.slice A9 k c9) k (plsC ((J.take k).map (plOf fin nn)))) ∧ Hid (wr.ownsRow (w9.heap.size + 1) 86 2 (.slice A J.length c) J.length (jpsC J)) ∧ Hid (MapIs kindR wr w7.heap.size (List.length N) (inV N)) ∧ Hid (MapIs kindR wr w5.heap.size (List.length fin) (byX (u, t) fin)) ∧ Hid (Below wd.heap.size wd wr)) (fun _ i _ => J.length - (intOf i).toNat)
        case atStart => exact ⟨0, none, 0, Nat.zero_le _, rfl, rfl, World.ownsRow_nil _ _ _ _, HRw, HNm, HBy, Below.refl _ _⟩
        case round =>
         clear HRw HNm HBy
         obtain ⟨k, A9, c9, hk, rfl, rfl, HOw, HRw, HNm, HBy, HBd⟩ := hrel
         by_cases hlt : k < J.length
         ·have hrd : Rd wr wr.heap.size 2 A J.length (jpsC J) := own_rd' HRw.out
          obtain ⟨b3, o3, hA3, hB3, x0, x1⟩ := hrd.jp hlt
          have hx := HJk.out _ (List.getElem_mem hlt)
          have htk : (J.take (k + 1)).map (plOf fin nn) = (J.take k).map (plOf fin nn) ++ [plOf fin nn J[k]] := by rw [List.take_succ_eq_append_getElem hlt, List.map_append]; rfl
          subst hA3
          generalize J[k] = x at x0 x1 hx htk
          obtain ⟨sj, tj⟩ := x
          simp only at x0 x1
          have HTk := Lib.hid htk
          have i1 : (0 : Int) ≤ (k : Int) := by omega
          have i2 : (k : Int) < (J.length : Int) := by omega
          have hnl3 := HNm.out.lt
          have hyl3 := HBy.out.lt
          have hdz := HBd.out.size
          have h63 := Lib.hid (show k + 1 ≤ maxLen by unfold maxLen; omega)
          have hby := Lib.hid (show (k + 1) * 48 ≤ 140737488355328 by omega)
          have HOl := Lib.hid HOw.out.lt
          clear htk hrd
          generalize (J.take k).map (plOf fin nn) = P0 at *
          go_upto_region 51 with fail
          first | (refine wp_named ?_; intro W15 hW) | (refine calls_named ?_; intro W15 hW)
          have B15 : Below wr.heap.size wr W15 := by rw [hW]; exact bq2
          replace HOw := Lib.hid (own_on HOw.out B15)
          replace HRw := Lib.hid (own_on HRw.out B15)
          replace HNm := Lib.hid (HNm.out.on B15)
          replace HBy := Lib.hid (HBy.out.on B15)
          replace HBd := Lib.hid (lift HBd.out B15)
          replace hnl3 : w7.heap.size < W15.heap.size := ltAt hnl3 B15
          replace hyl3 : w5.heap.size < W15.heap.size := ltAt hyl3 B15
          have n15 : wr.heap.size < W15.heap.size := by rw [hW]; simp <;> omega
          have v0 : W15.cell? ⟨wr.heap.size, 0, none⟩ = some (sv sj) := by rw [hW]; go_simp
          have v1 : W15.cell? ⟨wr.heap.size, 1, none⟩ = some (.int .i64 tj) := by rw [hW]; go_simp
          clear hW
          have hz15 := B15.size
          clear B15 x0 x1
          have hrb : ∀ b, (Value.slice A9 k c9).ownBlock = some b → wd.heap.size ≤ b ∧ b < wr.heap.size := HOl.out
          obtain ⟨ovr, hovr⟩ : ∃ v, v = Value.slice A9 k c9 := ⟨_, rfl⟩
          rw [← hovr] at hrb
          have hnd7 := HNd7.out
          have hnd5 := HNd5.out
          have o1 : ¬ ovr.ownBlock = some wr.heap.size := fun e => by have := (hrb _ e).2; omega
          have o2 : ¬ ovr.ownBlock = some w7.heap.size := fun e => by have := (hrb _ e).1; omega
          have o3' : ¬ ovr.ownBlock = some w5.heap.size := fun e => by have := (hrb _ e).1; omega
          have HOv := Lib.hid hovr
          have HRb := Lib.hid hrb
          have hba := Lib.hid (show wd.heap.size ≤ (W15.drew.alloc (.cells (plC (sj, tj, knownP nn (sj, tj), byOf fin (sj, tj))).toArray 37)).heap.size by simp; omega)
          clear hovr hrb
          try go_wp2_with fail
          refine wp_region_held_drew (S := fun w' => Keeps (OffB W15 ovr) W15 w') (by kernel_rfl) (OffB.below (Below.drew (Below.refl _ _))) (fun hHeld => ?_)
          refine tV 0 ?_ ?zq ?_; (case zq => rintro _ -; go_simp; try with_reducible rfl); try simp only [Act.put, zn1, zn2, zn3]
          refine tV 1 ?_ ?zq ?_; (case zq => rintro _ -; go_simp; try with_reducible rfl); try simp only [Act.put, zn1, zn2, zn3]
          refine tV 2 ?_ ?zq ?_; (case zq => intro w' hSw; have hCell := fun (b o : Nat) (h : b < W15.heap.size) (h2 : ¬ ovr.ownBlock = some b) => World.cell?_of_block (a := ⟨b, o, none⟩) (hSw.block b ⟨h, h2⟩); clear hSw; go_simp; try with_reducible rfl); try simp only [Act.put, zn1, zn2, zn3]
          refine tV 3 ?_ ?zq ?_; (case zq => rintro _ -; go_simp; try with_reducible rfl); try simp only [Act.put, zn1, zn2, zn3]
          refine tV 4 ?_ ?zq ?_; (case zq => intro w' hSw; have hCell := fun (b o : Nat) (h : b < W15.heap.size) (h2 : ¬ ovr.ownBlock = some b) => World.cell?_of_block (a := ⟨b, o, none⟩) (hSw.block b ⟨h, h2⟩); clear hSw; go_simp; try with_reducible rfl); try simp only [Act.put, zn1, zn2, zn3]
          refine tV 5 ?_ ?zq ?_; (case zq => rintro _ -; go_simp; try with_reducible rfl); try simp only [Act.put, zn1, zn2, zn3]
          refine tV 6 ?_ ?zq ?_; (case zq => intro w' hSw; have hCell := fun (b o : Nat) (h : b < W15.heap.size) (h2 : ¬ ovr.ownBlock = some b) => World.cell?_of_block (a := ⟨b, o, none⟩) (hSw.block b ⟨h, h2⟩); clear hSw; go_simp; try with_reducible rfl); try simp only [Act.put, zn1, zn2, zn3]
          refine tY (i := 7) (v := .bool (knownP nn (sj, tj))) rfl (fun w' hSw => (yield_lookup_is (κ := kindR) w' _ _ _ _ _ (.tmp 178) (.tmp 179) 96 4 Tryz.underlying96 (.bool false) (zeroB _) w7.heap.size _ _ (by rfl) (HNm.out.same (hSw.block w7.heap.size ⟨hnl3, o2⟩)) (sj, tj) (by rfl) hx).trans (by rw [inV_get, HKn.out])) hHeld ?_
          (try simp only [Act.put, zn1, zn2, zn3])
          refine tV 8 ?_ ?zq ?_; (case zq => rintro _ -; go_simp; try with_reducible rfl); try simp only [Act.put, zn1, zn2, zn3]
          refine tV 9 ?_ ?zq ?_; (case zq => intro w' hSw; have hCell := fun (b o : Nat) (h : b < W15.heap.size) (h2 : ¬ ovr.ownBlock = some b) => World.cell?_of_block (a := ⟨b, o, none⟩) (hSw.block b ⟨h, h2⟩); clear hSw; go_simp; try with_reducible rfl); try simp only [Act.put, zn1, zn2, zn3]
          refine tY (i := 10) (v := sv (byOf fin (sj, tj))) rfl (fun w' hSw => (yield_lookup_is (κ := kindR) w' _ _ _ _ _ (.tmp 181) (.tmp 182) 88 9 Tryz.underlying88 (.string ⟨#[]⟩) (zeroS _) w5.heap.size _ _ (by rfl) (HBy.out.same (hSw.block w5.heap.size ⟨hyl3, o3'⟩)) (sj, tj) (by rfl) hx).trans (by rw [byX_get HBf.out])) hHeld ?_
          (try simp only [Act.put, zn1, zn2, zn3])
          refine ready_one (i := 11) rfl (by kernel_rfl) (fun K hK => ?_)
          go_simp
          refine hK.out _ _ ?_ (fun hHeld2 => ?_)
          ·(try dsimp only); first | exact hHeld | exact OffB.alloc hHeld _
          clear hK K hHeld; have hHeld := hHeld2; clear hHeld2; (try simp only [Act.put, zn1, zn2, zn3])
          refine ready_one (i := 12) rfl (by kernel_rfl) (fun K hK => ?_)
          go_simp
          refine hK.out _ _ ?_ (fun hHeld2 => ?_)
          ·(try dsimp only); first | exact hHeld | exact OffB.alloc hHeld _
          clear hK K hHeld; have hHeld := hHeld2; clear hHeld2; (try simp only [Act.put, zn1, zn2, zn3])
          refine ready_one (i := 13) rfl (by kernel_rfl) (fun K hK => ?_)
          refine step_append_rd _ (by rfl) (.tmp 173) (.tmp 185) 29 (by rfl) wd.heap.size 37 i0 _ 4 48 Tryz.underlying29 hi hz0 hz1 hz2 rfl (by decide) _ k (plsC P0) (by rfl) (own_alloc (w := W15.drew) HOw.out _) _ (some ⟨W15.heap.size, 0, none⟩) 1 1 (plC (sj, tj, knownP nn (sj, tj), byOf fin (sj, tj))) (by rfl) (Rd.lit W15.drew (plC (sj, tj, knownP nn (sj, tj), byOf fin (sj, tj))) 37 4 1 rfl) (one_plC _) h63.out hby.out hba.out ?_
          intro A7 c7 w7' ho7 hg7 hat7
          rw [← HOv.out] at hg7
          have hS := OffB.grown hHeld hg7
          have HO7 := Lib.hid ho7
          clear ho7 hg7 hat7
          refine hK.out _ _ ?_ (fun hHeld2 => ?_)
          ·(try dsimp only); exact hS
          clear hK K hHeld; have hHeld := hHeld2; clear hHeld2; (try simp only [Act.put, zn1, zn2, zn3])
          refine tV 14 ?_ ?zq ?_; (case zq => rintro _ -; go_simp; try with_reducible rfl); try simp only [Act.put, zn1, zn2, zn3]
          refine wpAnyH_done (by kernel_rfl) ?_ _
          have hk7 := hHeld
          have HN16 := Lib.hid (HNm.out.same (hk7.block w7.heap.size ⟨hnl3, o2⟩))
          have HBy16 := Lib.hid (HBy.out.same (hk7.block w5.heap.size ⟨hyl3, o3'⟩))
          have HRw16 := Lib.hid (hk7.own HRw.out fun g hg => ⟨(HRw.out.lt g hg).2, fun e => by have h1 := (HRb.out _ e).1; have h2 := HJb.out g hg; omega⟩)
          have HBd16 := Lib.hid (HBd.out.trans (hk7.below (B := wd.heap.size) (fun j hj => ⟨by omega, fun e => by have := (HRb.out _ e).1; omega⟩)))
          clear hk7 hHeld hS
          go_wp2_with fail
          go_roundw
          case rel => exact ⟨k + 1, A7, c7, by omega, by go_num, rfl, by show World.ownsRow _ _ _ _ _ _ _; rw [HTk.out, plsC_app, plsC_one]; exact HO7.out, HRw16, HN16, HBy16, HBd16⟩
          case measure => simp [intOf]; omega
         ·obtain rfl : k = J.length := by omega
          rw [List.take_length] at HOw
          go_wp2_with fail
          go_ret
          have hq := HQ.out
          rw [HAll.out, ← HJs.out] at hq
          unfold OwnPl
          rw [hq]
          refine ⟨A9, c9, by rw [List.length_map]; rfl, ?_, ?_⟩
          ·rw [List.length_map]; exact own_base HOw.out (by have := HB.out.size; have := HB1.out.size; omega)
          ·exact lift HB1.out (lift HB.out HBd.out)
       ·intro s' t' v' w11 cnt3 hx hlx hfx hrg3 hlt3 hg3 hs4 hen
        rw [show kindR.val (s', t') = .agg #[sv s', .int .i64 t'] from rfl] at hen ⊢
        have hxm : (s', t') ∈ keysP fin := by
         have h := HFk.out (s', t')
         rw [hfx] at h
         exact knownP_iff.1 h.symm
        have HX := Lib.hid (And.intro hlx hxm)
        have HR11 := Lib.hid hrg3
        have HLt := Lib.hid hlt3
        have hsz11 := hg3.size
        have HN11 := Lib.hid (HNm.out.kept hg3 (fun e => by injection e; omega))
        have HBy11 := Lib.hid (HBy.out.kept hg3 (fun e => by injection e; omega))
        have HB11 := Lib.hid (HB.out.grown hg3 (by have := HB.out.size; omega) (fun g hg => by cases hg; omega))
        have HRw11 := Lib.hid (own_map HRw.out hg3 (by omega))
        have hwz11 : w9.heap.size < w11.heap.size := by omega
        have hcl9 := canon_len (lt := ltJ) M
        have hcap := (own_cap HRw.out).1
        clear hrg3 hlt3 hg3 hlx hxm hfx hs4 HRg HNm HBy HB HRw
        go_upto_region 46 with fail
        first | (refine wp_named ?_; intro W12 hW) | (refine calls_named ?_; intro W12 hW)
        have B12 : Below w11.heap.size w11 W12 := by rw [hW]; exact bq2
        replace HR11 := Lib.hid (RangeIs.on HR11.out B12)
        replace HN11 := Lib.hid (HN11.out.on B12)
        replace HBy11 := Lib.hid (HBy11.out.on B12)
        replace HB11 := Lib.hid (lift HB11.out B12)
        replace HRw11 := Lib.hid (own_on HRw11.out B12)
        replace hwz11 : w9.heap.size < W12.heap.size := ltAt hwz11 B12
        have n12 : w11.heap.size < W12.heap.size := by rw [hW]; simp <;> omega
        have y0 : W12.cell? ⟨w11.heap.size, 0, none⟩ = some (sv s') := by rw [hW]; go_simp
        have y1 : W12.cell? ⟨w11.heap.size, 1, none⟩ = some (.int .i64 t') := by rw [hW]; go_simp
        clear hW
        clear B12 hen
        go_wp2_with fail
        refine (put17_any A c (canon ltJ M) s' t' W12 (own_rd' HRw11.out) hcap (by omega)).mono ?_
        rintro e w13 ⟨A8, c8, rfl, hp8, hb⟩
        have hrow : w13.ownsRow (w9.heap.size + 1) 86 2 (.slice A8 (canon ltJ (M ++ [(s', t')])).length c8) (canon ltJ (M ++ [(s', t')])).length (jpsC (canon ltJ (M ++ [(s', t')]))) := by
         rw [← insL_canon]
         rcases hp8 with ⟨rfl, rfl, he⟩ | hp8
         ·rw [he]; exact own_on HRw11.out hb
         ·exact own_base hp8 (by omega)
        have HRow := Lib.hid hrow
        have HIc := Lib.hid (insL_canon (l := M) (j := (s', t')))
        replace y0 := cellAt y0 hb (by omega)
        replace y1 := cellAt y1 hb (by omega)
        replace HR11 := Lib.hid (RangeIs.on HR11.out hb)
        replace HN11 := Lib.hid (HN11.out.on hb)
        replace HBy11 := Lib.hid (HBy11.out.on hb)
        replace HB11 := Lib.hid (lift HB11.out hb)
        replace HRw11 := Lib.hid (own_on HRw11.out hb)
        replace hwz11 : w9.heap.size < w13.heap.size := ltAt hwz11 hb
        replace n12 : w11.heap.size < w13.heap.size := ltAt n12 hb
        clear hp8 hb hrow y0 y1 n12
        go_wp2_with fail
        have hxM : ¬ (s', t') ∈ M := fun h => by have := ((HMm.out _).1 h).2; rw [HX.out.1] at this; cases this
        refine ⟨⟨_, cnt3, M ++ [(s', t')], A8, c8, by rw [HIc.out], HR11.out, ?_, ?_, HRow, HN11, HBy11, HB11, hwz11⟩, ?_⟩
        ·exact List.nodup_append.2 ⟨HNo.out, List.pairwise_singleton _ _, fun a ha b hb e => by
          have : b = (s', t') := by simpa using hb
          subst this; subst e; exact hxM ha⟩
        ·intro k
         rw [List.mem_append, List.mem_singleton, HMm.out]
         constructor
         ·rintro (⟨h1, h2⟩ | rfl)
          ·exact ⟨h1, by simp [h2]⟩
          ·exact ⟨HX.out.2, by simp⟩
         ·rintro ⟨h1, h2⟩
          by_cases e : k = (s', t')
          ·exact .inr e
          ·exact .inl ⟨h1, by simpa [e] using h2⟩
        ·rw [HM.out, HR11.out.left_eq]
         exact HLt.out
     ·have hNl := HNd.out.len HCd.out
      have hg0 := HGr.out rfl
      obtain ⟨g', hg'⟩ : ∃ g', gk = g' + 1 := ⟨gk - 1, by omega⟩
      subst hg'
      have HG0 := Lib.hid hg0
      clear hg0 HGr
      obtain ⟨ff, hff, hfk⟩ := HFar.out
      have HFf := Lib.hid hff
      have HFk := Lib.hid hfk
      clear hff hfk HFar
      have hfl9 := HFf.out.lt
      go_wp2_with (first
       | (at_range; refine wpList_range_is _ (by rfl) (.tmp 116) 87 (by rfl) 3 Tryz.underlying87 W4.heap.size _ _ (by rfl) HFf.out ?_; intro w10 cnt hr3 hg3 hs3; have HR3 := Lib.hid hr3; have HG3 := Lib.hid hg3; clear hr3 hg3)
       | fail)
      have hb10 : Below w9.heap.size w9 w10 := (Below.refl _ _).grown HG3.out (Nat.le_refl _) (fun g hg => by cases hg)
      have HN10 := Lib.hid (HNm.out.on hb10)
      have HBy10 := Lib.hid (HBy.out.on hb10)
      have HB10 := Lib.hid (lift HB.out hb10)
      have HRn0 := Lib.hid (show RndR E (keysP fin) N N false (fun j => j ∈ keysP fin ∧ (ff j).isSome = false) from ⟨Nat.le_refl _, fun h => (by cases h), fun _ j hj => by have h := hj.2; rw [HFk.out, knownP_iff.2 hj.1] at h; cases h⟩)
      clear hb10
      try go_frame
      go_loopw [26] (fun v wr => ∃ (gr' : Bool) (left : Jp → Bool) (cnt : Nat) (N' : List Jp), v = .bool gr' ∧ RangeIs kindR wr W4.heap.size w9.heap.size (List.length fin) ff left cnt ∧ Hid (NdR E out (u, t) N') ∧ Hid (RndR E (keysP fin) N N' gr' (fun j => j ∈ keysP fin ∧ left j = false)) ∧ Hid (MapIs kindR wr w7.heap.size (List.length N') (inV N')) ∧ Hid (MapIs kindR wr w5.heap.size (List.length fin) (byX (u, t) fin)) ∧ Hid (Below W4.heap.size W4 wr) ∧ w9.heap.size < wr.heap.size) (fun _ wr => wr.rangeLeft W4.heap.size w9.heap.size)
      case atStart => exact ⟨false, _, cnt, N, rfl, HR3.out, HNd, HRn0, HN10, HBy10, HB10, by omega⟩
      case round =>
       clear HNd HNm HBy HB HR3 HG3 HN10 HBy10 HB10 HRn0 HFf hs3
       obtain ⟨gr', left, cnt', N', rfl, hrg, HNd, HRn, HNm, HBy, HB, hwz⟩ := hrel
       have hmz : wr.rangeLeft W4.heap.size w9.heap.size = cnt' := hrg.left_eq
       have HM := Lib.hid hmz
       have HRg := Lib.hid hrg
       clear hmz hrg
       go_wp2_with (first
        | (at_next; refine wpList_next_is _ (by rfl) (.tmp 117) (by rfl) W4.heap.size w9.heap.size _ ff left cnt' (by rfl) HRg.out ?_ ?_)
        | fail)
       ·intro hdone
        have HClo := Lib.hid (show gr' = false → ∀ j ∈ keysP fin, j ∈ N' → CloAt E (keysP fin) N' j from fun h j hj hN => HRn.out.clo h j ⟨hj, hdone j.1 j.2 (HKo.out j hj)⟩ hN)
        have HGe := Lib.hid (show gr' = true → cand.length + 2 ≤ g' + N'.length from fun h => by have := HRn.out.gt h; have := HG0.out; omega)
        have HFar := Lib.hid (show FarS wr W4.heap.size fin from ⟨ff, HRg.out.map, HFk.out⟩)
        clear hdone
        go_wp2_with fail
        go_roundg g'
        case measure => omega
        case rel => exact ⟨N', gr', rfl, HNd, HGe, HClo, HNm, HFar, HBy, HB⟩
       ·intro s' t' v' w11 cnt3 hx hlx hfx hrg3 hlt3 hg3 hs4 hen
        rw [show kindR.val (s', t') = .agg #[sv s', .int .i64 t'] from rfl] at hen ⊢
        have hxm : (s', t') ∈ keysP fin := by
         have h := HFk.out (s', t')
         rw [hfx] at h
         exact knownP_iff.1 h.symm
        have HX := Lib.hid (And.intro hlx hxm)
        have HR11 := Lib.hid hrg3
        have HLt := Lib.hid hlt3
        have hsz11 := hg3.size
        have HN11 := Lib.hid (HNm.out.kept hg3 (fun e => by injection e; omega))
        have HBy11 := Lib.hid (HBy.out.kept hg3 (fun e => by injection e; omega))
        have HB11 := Lib.hid (HB.out.grown hg3 (by have := HB.out.size; omega) (fun g hg => by cases hg; omega))
        have hwz11 : w9.heap.size < w11.heap.size := by omega
        clear hrg3 hlt3 hg3 hlx hxm hfx hs4 HRg HNm HBy HB
        go_upto_region 33 with fail
        first | (refine wp_named ?_; intro W12 hW) | (refine calls_named ?_; intro W12 hW)
        have B12 : Below w11.heap.size w11 W12 := by rw [hW]; exact bq2
        replace HR11 := Lib.hid (RangeIs.on HR11.out B12)
        replace HN11 := Lib.hid (HN11.out.on B12)
        replace HBy11 := Lib.hid (HBy11.out.on B12)
        replace HB11 := Lib.hid (lift HB11.out B12)
        replace hwz11 : w9.heap.size < W12.heap.size := ltAt hwz11 B12
        have n12 : w11.heap.size < W12.heap.size := by rw [hW]; simp <;> omega
        have y0 : W12.cell? ⟨w11.heap.size, 0, none⟩ = some (sv s') := by rw [hW]; go_simp
        have y1 : W12.cell? ⟨w11.heap.size, 1, none⟩ = some (.int .i64 t') := by rw [hW]; go_simp
        clear hW
        clear B12 hen
        have hn712 := HN11.out.lt
        cases hin : N'.contains (s', t')
        ·have hnin : (s', t') ∉ N' := by simpa using hin
         have HRn2 := Lib.hid (show RndR E (keysP fin) N N' gr' (fun j => j ∈ keysP fin ∧ (left j && !decide (j = (s', t'))) = false) from ⟨HRn.out.le, HRn.out.gt, fun h j hj hN => by
          by_cases e : j = (s', t')
          ·subst e; exact absurd hN hnin
          ·exact HRn.out.clo h j ⟨hj.1, by simpa [e] using hj.2⟩ hN⟩)
         clear hnin
         go_wp2_with (first
          | (at_lookup; refine wpList_lookup_is _ (by rfl) (.tmp 122) (.tmp 123) 96 (by rfl) 4 Tryz.underlying96 (.bool false) (zeroB _) w7.heap.size _ _ (by rfl) HN11.out (s', t') (by rfl) hx ?_; rw [inV_get, hin])
          | fail)
         refine ⟨⟨gr', _, cnt3, N', rfl, HR11.out, HNd, HRn2, HN11, HBy11, HB11, hwz11⟩, ?_⟩
         rw [HM.out, HR11.out.left_eq]
         exact HLt.out
        ·have hjin : (s', t') ∈ N' := by simpa using hin
         have HJin := Lib.hid hjin
         obtain ⟨L, hL⟩ : ∃ L, L = E (s', t') := ⟨_, rfl⟩
         have HBj := Lib.hid (HBr.out s' t')
         have hLl := HBl.out (s', t')
         rw [← hL] at HBj hLl
         have HLe := Lib.hid hL
         have k0 := cellAt g0 HB11.out n1
         have k1 := cellAt g1 HB11.out n1
         have k2 := cellAt h0 HB11.out n2
         have k3 := cellAt h1 HB11.out n2
         have l1 := ltAt n1 HB11.out
         have l2 := ltAt n2 HB11.out
         clear hjin hL
         go_wp2_with (first
          | (at_lookup; refine wpList_lookup_is _ (by rfl) (.tmp 122) (.tmp 123) 96 (by rfl) 4 Tryz.underlying96 (.bool false) (zeroB _) w7.heap.size _ _ (by rfl) HN11.out (s', t') (by rfl) hx ?_; rw [inV_get, hin])
          | fail)
         refine (HBj.out W12 (Hr.out.at HB11.out) (Hu.out.at HB11.out) (Hh.out.at HB11.out)).mono ?_
         rintro e w13 ⟨A5, c5, rfl, ho5, hb⟩
         have HLr := Lib.hid ho5
         have hz13 := hb.size
         replace y0 := cellAt y0 hb (by omega)
         replace y1 := cellAt y1 hb (by omega)
         replace HR11 := Lib.hid (RangeIs.on HR11.out hb)
         replace HN11 := Lib.hid (HN11.out.on hb)
         replace HBy11 := Lib.hid (HBy11.out.on hb)
         replace HB11 := Lib.hid (lift HB11.out hb)
         replace hwz11 : w9.heap.size < w13.heap.size := ltAt hwz11 hb
         replace n12 : w11.heap.size < w13.heap.size := ltAt n12 hb
         clear hb ho5 k0 k1 k2 k3 l1 l2 y0 y1 n12
         have HC0 := Lib.hid (show gr' = false → ∀ b ∈ L.take 0, b.2 = true → b.1 ∈ keysP fin → b.1 ∈ N' from fun _ b hb => by simp at hb)
         go_wp2_with fail
         go_loopw [26, 131] (fun v i wr => ∃ (gr2 : Bool) (i9 : Nat) (N2 : List Jp), i9 ≤ L.length ∧ v = .bool gr2 ∧ i = .int .i64 i9 ∧ Hid (NdR E out (u, t) N2) ∧ Hid (RndR E (keysP fin) N N2 gr2 (fun j => j ∈ keysP fin ∧ left j = false)) ∧ Hid ((s', t') ∈ N2) ∧ Hid (gr2 = false → ∀ b ∈ L.take i9, b.2 = true → b.1 ∈ keysP fin → b.1 ∈ N2) ∧ Hid (RangeIs kindR wr W4.heap.size w9.heap.size (List.length fin) ff (fun y => left y && !decide (y = (s', t'))) cnt3) ∧ Hid (MapIs kindR wr w7.heap.size (List.length N2) (inV N2)) ∧ Hid (MapIs kindR wr w5.heap.size (List.length fin) (byX (u, t) fin)) ∧ Hid (wr.ownsRow W12.heap.size 93 3 (.slice A5 L.length c5) L.length (brsC L)) ∧ Hid (Below W4.heap.size W4 wr)) (fun _ i _ => L.length - (intOf i).toNat)
         case atStart => exact ⟨gr', 0, N', Nat.zero_le _, rfl, rfl, HNd, HRn, HJin, HC0, HR11, HN11, HBy11, HLr, HB11⟩
         case round =>
          clear HNd HRn HJin HC0 HR11 HN11 HBy11 HLr HB11
          obtain ⟨gr2, i9, N2, hi9, rfl, rfl, HNd, HRn, HJin, HC2, HRg, HNm, HBy, HLr, HB⟩ := hrel
          obtain ⟨w14, rfl⟩ : ∃ wo : World, wo = wr := ⟨_, rfl⟩
          by_cases hlt3 : i9 < L.length
          ·have hrd : Rd w14 w14.heap.size 3 A5 L.length (brsC L) := own_rd' HLr.out
           obtain ⟨b3, o3, hA3, hB3, z0, z1, z2⟩ := hrd.br hlt3
           subst hA3
           have hbe : L[i9] ∈ E (s', t') := by rw [← HLe.out]; exact List.getElem_mem hlt3
           have htk := List.take_succ_eq_append_getElem hlt3
           generalize L[i9] = b at z0 z1 z2 hbe htk
           obtain ⟨⟨sb, tb⟩, nb⟩ := b
           simp only at z0 z1 z2
           have hcb : (sb, tb) ∈ cand := HCd.out (s', t') ((sb, tb), nb) hbe
           have hokb := HOk.out _ hcb
           have HBe := Lib.hid hbe
           have HTk := Lib.hid htk
           have HFf := Lib.hid HRg.out.map
           have hNl2 := HNd.out.len HCd.out
           have hlen2 := Lib.hid (show N2.length < maxLen by unfold maxLen; omega)
           have hnl14 := HNm.out.lt
           have hby14 := HBy.out.lt
           have hrl14 := HRg.out.lt
           have i3 : (0 : Int) ≤ (i9 : Int) := by omega
           have i4 : (i9 : Int) < (L.length : Int) := by omega
           clear hbe htk hcb hrd
           go_upto_region 37 with fail
           first | (refine wp_named ?_; intro W15 hW) | (refine calls_named ?_; intro W15 hW)
           have B15 : Below w14.heap.size w14 W15 := by rw [hW]; exact bq2
           replace HRg := Lib.hid (RangeIs.on HRg.out B15)
           replace HFf := Lib.hid (HFf.out.on B15)
           replace HNm := Lib.hid (HNm.out.on B15)
           replace HBy := Lib.hid (HBy.out.on B15)
           replace HLr := Lib.hid (own_on HLr.out B15)
           replace HB := Lib.hid (lift HB.out B15)
           have n15 : w14.heap.size < W15.heap.size := by rw [hW]; simp <;> omega
           have v0 : W15.cell? ⟨w14.heap.size, 0, none⟩ = some (sv sb) := by rw [hW]; go_simp
           have v1 : W15.cell? ⟨w14.heap.size, 1, none⟩ = some (.int .i64 tb) := by rw [hW]; go_simp
           have v2 : W15.cell? ⟨w14.heap.size, 2, none⟩ = some (.bool nb) := by rw [hW]; go_simp
           clear hW
           have hz15 := B15.size
           clear B15 z0 z1 z2
           cases hkf : knownP fin (sb, tb)
           ·skip
            have HC3 := Lib.hid (show gr2 = false → ∀ b ∈ L.take (i9 + 1), b.2 = true → b.1 ∈ keysP fin → b.1 ∈ N2 from fun h b hb hn hf => by
             rw [HTk.out, List.mem_append, List.mem_singleton] at hb
             rcases hb with hb | hb
             ·exact HC2.out h b hb hn hf
             ·subst hb; (rw [← knownP_iff] at hf; simp only at hf; rw [hkf] at hf; cases hf))
            go_wp2_with (first
             | (at_lookup; first | (refine wpList_lookOk_is _ (by rfl) (.tmp 136) (.tmp 138) 87 (by rfl) 3 Tryz.underlying87 (.int .i64 0) (zeroIr _) W4.heap.size _ _ (by rfl) HFf.out (sb, tb) (by rfl) hokb ?_; rw [HFk.out, hkf]; generalize Option.getD (ff (sb, tb)) (Value.int .i64 0) = vv) | (refine wpList_lookup_wT _ (by rfl) (.tmp 148) (.tmp 150) 96 (by rfl) 4 Tryz.underlying96 (.bool false) (zeroB _) w7.heap.size _ _ (by rfl) HNm.out (sb, tb) (by rfl) hokb ?_; rw [inV_get, hkf]))
             | fail)
            go_roundw
            case rel => exact ⟨gr2, i9 + 1, N2, by omega, rfl, by go_num, HNd, HRn, HJin, HC3, HRg, HNm, HBy, HLr, HB⟩
            case measure => simp [intOf]; omega
           ·cases nb
            ·skip
             have HC3 := Lib.hid (show gr2 = false → ∀ b ∈ L.take (i9 + 1), b.2 = true → b.1 ∈ keysP fin → b.1 ∈ N2 from fun h b hb hn hf => by
              rw [HTk.out, List.mem_append, List.mem_singleton] at hb
              rcases hb with hb | hb
              ·exact HC2.out h b hb hn hf
              ·subst hb; (simp at hn))
             go_wp2_with (first
              | (at_lookup; first | (refine wpList_lookOk_is _ (by rfl) (.tmp 136) (.tmp 138) 87 (by rfl) 3 Tryz.underlying87 (.int .i64 0) (zeroIr _) W4.heap.size _ _ (by rfl) HFf.out (sb, tb) (by rfl) hokb ?_; rw [HFk.out, hkf]; generalize Option.getD (ff (sb, tb)) (Value.int .i64 0) = vv) | (refine wpList_lookup_wT _ (by rfl) (.tmp 148) (.tmp 150) 96 (by rfl) 4 Tryz.underlying96 (.bool false) (zeroB _) w7.heap.size _ _ (by rfl) HNm.out (sb, tb) (by rfl) hokb ?_; rw [inV_get, hkf]))
              | fail)
             go_roundw
             case rel => exact ⟨gr2, i9 + 1, N2, by omega, rfl, by go_num, HNd, HRn, HJin, HC3, HRg, HNm, HBy, HLr, HB⟩
             case measure => simp [intOf]; omega
            ·cases hnc : N2.contains (sb, tb)
             ·have hnin : (sb, tb) ∉ N2 := by simpa using hnc
              have HNd2 := Lib.hid (HNd.out.push HLay.out HJin.out HBe.out rfl (knownP_iff.1 hkf) hnin)
              have HRn2 := Lib.hid (show RndR E (keysP fin) N (N2 ++ [(sb, tb)]) true (fun j => j ∈ keysP fin ∧ left j = false) from ⟨by have := HRn.out.le; rw [List.length_append]; omega, fun _ => by have := HRn.out.le; rw [List.length_append]; simp only [List.length_cons, List.length_nil]; omega, fun h => (by cases h)⟩)
              have HJ2 := Lib.hid (show (s', t') ∈ N2 ++ [(sb, tb)] from List.mem_append_left _ HJin.out)
              have HC3 := Lib.hid (show true = false → ∀ b ∈ L.take (i9 + 1), b.2 = true → b.1 ∈ keysP fin → b.1 ∈ N2 ++ [(sb, tb)] from fun h => (by cases h))
              have q1 : some w7.heap.size ≠ some w14.heap.size := fun e => by injection e; omega
              have q2 : some w5.heap.size ≠ some w7.heap.size := fun e => by injection e; omega
              have q3 : some W4.heap.size ≠ some w7.heap.size := fun e => by injection e; omega
              have q4 : some w9.heap.size ≠ some w7.heap.size := fun e => by injection e; omega
              have HQs := Lib.hid (And.intro q1 (And.intro q2 (And.intro q3 q4)))
              clear q1 q2 q3 q4 hnin
              go_wp2_with (first
               | (at_lookup; first | (refine wpList_lookOk_is _ (by rfl) (.tmp 136) (.tmp 138) 87 (by rfl) 3 Tryz.underlying87 (.int .i64 0) (zeroIr _) W4.heap.size _ _ (by rfl) HFf.out (sb, tb) (by rfl) hokb ?_; rw [HFk.out, hkf]; generalize Option.getD (ff (sb, tb)) (Value.int .i64 0) = vv) | (refine wpList_lookup_wT _ (by rfl) (.tmp 148) (.tmp 150) 96 (by rfl) 4 Tryz.underlying96 (.bool false) (zeroB _) w7.heap.size _ _ (by rfl) HNm.out (sb, tb) (by rfl) hokb ?_; rw [inV_get, hnc]))
               | (at_mapUpdate; refine wpList_update_is _ (by rfl) (.tmp 154) (.tmp 156) (.const (.bool true)) 96 (by rfl) 4 Tryz.underlying96 w7.heap.size _ _ (by rfl) HNm.out hlen2.out (sb, tb) (.bool true) (by rfl) (by rfl) hokb ?_; intro w16 hm16 hg16; have HM16 := Lib.hid (And.intro (MapIs.ifR hm16) hg16); clear hm16 hg16)
               | fail)
              have hm16 := HM16.out.1
              rw [inV_push] at hm16
              have HN16 := Lib.hid (show MapIs kindR w16 w7.heap.size (N2 ++ [(sb, tb)]).length (inV (N2 ++ [(sb, tb)])) by rw [List.length_append]; exact hm16)
              have HR16 := Lib.hid (HRg.out.kept HM16.out.2 HQs.out.2.2.1 HQs.out.2.2.2)
              have HBy16 := Lib.hid (HBy.out.kept HM16.out.2 HQs.out.2.1)
              have HLr16 := Lib.hid (own_map HLr.out HM16.out.2 (by omega))
              have HB16 := Lib.hid (HB.out.grown HM16.out.2 (by have := HB.out.size; omega) (fun g hg => by cases hg; omega))
              clear hm16
              go_roundw
              case rel => exact ⟨true, i9 + 1, N2 ++ [(sb, tb)], by omega, rfl, by go_num, HNd2, HRn2, HJ2, HC3, HR16, HN16, HBy16, HLr16, HB16⟩
              case measure => simp [intOf]; omega
             ·have hin2 : (sb, tb) ∈ N2 := by simpa using hnc
              have HIn2 := Lib.hid hin2
              clear hin2
              have HC3 := Lib.hid (show gr2 = false → ∀ b ∈ L.take (i9 + 1), b.2 = true → b.1 ∈ keysP fin → b.1 ∈ N2 from fun h b hb hn hf => by
               rw [HTk.out, List.mem_append, List.mem_singleton] at hb
               rcases hb with hb | hb
               ·exact HC2.out h b hb hn hf
               ·subst hb; (exact HIn2.out))
              go_wp2_with (first
               | (at_lookup; first | (refine wpList_lookOk_is _ (by rfl) (.tmp 136) (.tmp 138) 87 (by rfl) 3 Tryz.underlying87 (.int .i64 0) (zeroIr _) W4.heap.size _ _ (by rfl) HFf.out (sb, tb) (by rfl) hokb ?_; rw [HFk.out, hkf]; generalize Option.getD (ff (sb, tb)) (Value.int .i64 0) = vv) | (refine wpList_lookup_wT _ (by rfl) (.tmp 148) (.tmp 150) 96 (by rfl) 4 Tryz.underlying96 (.bool false) (zeroB _) w7.heap.size _ _ (by rfl) HNm.out (sb, tb) (by rfl) hokb ?_; rw [inV_get, hnc]))
               | fail)
              go_roundw
              case rel => exact ⟨gr2, i9 + 1, N2, by omega, rfl, by go_num, HNd, HRn, HJin, HC3, HRg, HNm, HBy, HLr, HB⟩
              case measure => simp [intOf]; omega
          ·obtain rfl : i9 = L.length := by omega
           have HRn3 := Lib.hid (show RndR E (keysP fin) N N2 gr2 (fun j => j ∈ keysP fin ∧ (left j && !decide (j = (s', t'))) = false) from ⟨HRn.out.le, HRn.out.gt, fun h j hj hN => by
            by_cases e : j = (s', t')
            ·subst e
             intro b hb hn hf
             have h2 := HC2.out h b
             rw [List.take_length, HLe.out] at h2
             exact h2 hb hn hf
            ·exact HRn.out.clo h j ⟨hj.1, by simpa [e] using hj.2⟩ hN⟩)
           have hw14 : w9.heap.size < w14.heap.size := HRg.out.lt
           go_wp2_with fail
           refine ⟨⟨gr2, _, cnt3, N2, rfl, HRg.out, HNd, HRn3, HNm, HBy, HB, hw14⟩, ?_⟩
           rw [HM.out, HRg.out.left_eq]
           exact HLt.out
   ·obtain ⟨g', hg', hnx⟩ := HH.out.next HCd.out hr
    subst hg'
    have HNx := Lib.hid hnx
    have hmid := HH.out.mid
    have HMid := Lib.hid hmid
    have hrl := HH.out.rl
    have hRl : (canon ltJ r).length ≤ 60001 := by have := canon_len (lt := ltJ) r; omega
    have hR0 : (canon ltJ r).length ≠ 0 := fun e => hr (canon_nil_iff.1 (List.length_eq_zero_iff.1 e))
    have HL0 := Lib.hid (show LayS w7 W4.heap.size w5.heap.size (w5.heap.size + 1) (u, t) cand (m, []) none 0 from ⟨World.ownsRow_nil _ _ _ _, HS.out.far, HS.out.by_, HMid.out, HS.out.fst⟩)
    have HRow := Lib.hid HS.out.nx
    clear hnx hmid hr HH HS
    generalize canon ltJ r = R at *
    have hpos : decide (0 < R.length) = true := by simpa using Nat.pos_of_ne_zero hR0
    clear hR0
    go_wp2_with fail
    go_loopw [18, 69] (fun v i wr => ∃ (k : Nat) (A9 : Option Addr) (c9 : Nat), k ≤ R.length ∧ i = .int .i64 k ∧ v = .slice A9 (canon ltJ (midP E out m R k).2).length c9 ∧ Hid (LayS wr W4.heap.size w5.heap.size (w5.heap.size + 1) (u, t) cand (midP E out m R k) A9 c9) ∧ Hid (wr.ownsRow (w5.heap.size + 1) 86 2 (.slice A R.length c) R.length (jpsC R)) ∧ Hid (Below W4.heap.size W4 wr)) (fun _ i _ => R.length - (intOf i).toNat)
    case atStart => exact ⟨0, none, 0, Nat.zero_le _, rfl, rfl, HL0, HRow, HBx⟩
    case round =>
     obtain ⟨k, A9, c9, hk, rfl, rfl, HS, HRw, HB⟩ := hrel
     obtain ⟨w8, rfl⟩ : ∃ wo : World, wo = wr := ⟨_, rfl⟩
     have hyl := HS.out.by_.lt
     by_cases hlt : k < R.length
     ·have hrd : Rd w8 w8.heap.size 2 A R.length (jpsC R) := own_rd' HRw.out
      obtain ⟨bb, o, hA, hB, x0, x1⟩ := hrd.jp hlt
      have hnx := midP_next (E := E) (out := out) (m := m) hlt
      subst hA
      generalize R[k] = x at x0 x1 hnx
      obtain ⟨sj, tj⟩ := x
      simp only at x0 x1 hnx
      have HNk := Lib.hid hnx
      have i1 : (0 : Int) ≤ (k : Int) := by omega
      have i2 : (k : Int) < (R.length : Int) := by omega
      have k0 := cellAt g0 HB.out n1
      have k1 := cellAt g1 HB.out n1
      have k2 := cellAt h0 HB.out n2
      have k3 := cellAt h1 HB.out n2
      have l1 := ltAt n1 HB.out
      have l2 := ltAt n2 HB.out
      have hLl := HBl.out (sj, tj)
      have HCj := Lib.hid (fun b hb => HCd.out (sj, tj) b hb)
      have HBj := Lib.hid (HBr.out sj tj)
      clear hnx hrd
      generalize E (sj, tj) = L at *
      generalize midP E out m R k = s0 at HS HNk
      go_wp2_with fail
      first | (refine wp_named ?_; intro W9 hW) | (refine calls_named ?_; intro W9 hW)
      have B9 : Below w8.heap.size w8 W9 := by rw [hW]; exact bq2
      replace HS := Lib.hid (HS.out.on B9)
      replace HRw := Lib.hid (own_on HRw.out B9)
      replace HB := Lib.hid (lift HB.out B9)
      have n9 : w8.heap.size < W9.heap.size := by rw [hW]; simp <;> omega
      have y0 : W9.cell? ⟨w8.heap.size, 0, none⟩ = some (sv sj) := by rw [hW]; go_simp
      clear hW
      clear B9 x0 x1 k0 k1 k2 k3 l1 l2
      refine (HBj.out W9 (Hr.out.at HB.out) (Hu.out.at HB.out) (Hh.out.at HB.out)).mono ?_
      rintro e w10 ⟨A5, c5, rfl, ho5, hb⟩
      have HLr := Lib.hid ho5
      have hz9 := hb.size
      have hz8 : w8.heap.size < W9.heap.size := n9
      replace y0 := cellAt y0 hb (by omega)
      replace HS := Lib.hid (HS.out.on hb)
      replace HRw := Lib.hid (own_on HRw.out hb)
      replace HB := Lib.hid (lift HB.out hb)
      replace n9 : w8.heap.size < w10.heap.size := ltAt n9 hb
      clear hb ho5
      go_wp2_with fail
      go_loopw [18, 78] (fun v i wr => ∃ (i9 : Nat) (A9 : Option Addr) (c9 : Nat), i9 ≤ L.length ∧ i = .int .i64 i9 ∧ v = .slice A9 (canon ltJ ((bysB sj (L.take i9)).foldl (addP out) s0).2).length c9 ∧ Hid (LayS wr W4.heap.size w5.heap.size (w5.heap.size + 1) (u, t) cand ((bysB sj (L.take i9)).foldl (addP out) s0) A9 c9) ∧ Hid (wr.ownsRow (w5.heap.size + 1) 86 2 (.slice (some ⟨bb, o, none⟩) R.length c) R.length (jpsC R)) ∧ Hid (wr.ownsRow W9.heap.size 93 3 (.slice A5 L.length c5) L.length (brsC L)) ∧ Hid (wr.cell? ⟨w8.heap.size, 0, none⟩ = some (sv sj)) ∧ Hid (Below W4.heap.size W4 wr)) (fun _ i _ => L.length - (intOf i).toNat)
      case atStart => exact ⟨0, A9, c9, Nat.zero_le _, rfl, rfl, HS, HRw, HLr, y0, HB⟩
      case round =>
       clear HS HRw HB HLr y0
       obtain ⟨i9, A9, c9, hi9, rfl, rfl, HS, HRw, HLr, HY, HB⟩ := hrel
       obtain ⟨w11, rfl⟩ : ∃ wo : World, wo = wr := ⟨_, rfl⟩
       by_cases hlt3 : i9 < L.length
       ·have hrd : Rd w11 w11.heap.size 3 A5 L.length (brsC L) := own_rd' HLr.out
        obtain ⟨b3, o3, hA3, hB3, z0, z1, z2⟩ := hrd.br hlt3
        subst hA3
        have hst := bys_next (u := sj) (out := out) (s := s0) hlt3
        have hcb := HCj.out _ (List.getElem_mem hlt3)
        generalize L[i9] = b at z0 z1 z2 hst hcb
        obtain ⟨⟨sb, tb⟩, nb⟩ := b
        simp only at z0 z1 z2 hst hcb
        have hokb := HOk.out _ hcb
        have HSt := Lib.hid hst
        have HCb := Lib.hid hcb
        clear hst hcb hrd
        generalize (bysB sj (L.take i9)).foldl (addP out) s0 = s at *
        obtain ⟨ff, hff, hfk⟩ := HS.out.far
        have HFf := Lib.hid hff
        have HFk := Lib.hid hfk
        have hml3 := HS.out.mid.len
        have hnl3 := HS.out.mid.nl
        have hcl3 := canon_len (lt := ltJ) s.2
        have hlen3 := Lib.hid (show s.1.length < maxLen by unfold maxLen; omega)
        have yj := HY.out
        have lj := cell_blk yj
        simp only at lj
        have hyl3 := HS.out.by_.lt
        have i3 : (0 : Int) ≤ (i9 : Int) := by omega
        have i4 : (i9 : Int) < (L.length : Int) := by omega
        clear hff hfk HY
        go_upto_region 18 with fail
        first | (refine wp_named ?_; intro W12 hW) | (refine calls_named ?_; intro W12 hW)
        have B12 : Below w11.heap.size w11 W12 := by rw [hW]; exact bq2
        replace yj := cellAt yj B12 (by omega)
        replace HS := Lib.hid (HS.out.on B12)
        replace HRw := Lib.hid (own_on HRw.out B12)
        replace HLr := Lib.hid (own_on HLr.out B12)
        replace HFf := Lib.hid (HFf.out.on B12)
        replace HB := Lib.hid (lift HB.out B12)
        replace lj : w8.heap.size < W12.heap.size := ltAt lj B12
        have n12 : w11.heap.size < W12.heap.size := by rw [hW]; simp <;> omega
        have v0 : W12.cell? ⟨w11.heap.size, 0, none⟩ = some (sv sb) := by rw [hW]; go_simp
        have v1 : W12.cell? ⟨w11.heap.size, 1, none⟩ = some (.int .i64 tb) := by rw [hW]; go_simp
        clear hW
        have hz12 := B12.size
        clear B12 z0 z1 z2
        cases hkn : knownP s.1 (sb, tb)
        ·cases hout : out (sb, tb)
         ·go_wp2_with (first
           | (at_lookup; refine wpList_lookOk_is _ (by rfl) (.tmp 83) (.tmp 85) 87 (by rfl) 3 Tryz.underlying87 (.int .i64 0) (zeroIr _) W4.heap.size _ _ (by rfl) HFf.out (sb, tb) (by rfl) hokb ?_; rw [HFk.out, hkn]; generalize Option.getD (ff (sb, tb)) (Value.int .i64 0) = vv)
           | fail)
          refine (out17_any Aw cw wo sb tb W12 (Hw.out.at HB.out) hwl).mono ?_
          rw [show outB wo (sb, tb) = false by rw [HO.out]; exact hout]
          rintro e w13 ⟨rfl, hb⟩
          have hz13 := hb.size
          replace yj := cellAt yj hb (by omega)
          replace v0 := cellAt v0 hb (by omega)
          replace v1 := cellAt v1 hb (by omega)
          replace HS := Lib.hid (HS.out.on hb)
          replace HRw := Lib.hid (own_on HRw.out hb)
          replace HLr := Lib.hid (own_on HLr.out hb)
          replace HFf := Lib.hid (HFf.out.on hb)
          replace HB := Lib.hid (lift HB.out hb)
          replace lj : w8.heap.size < w13.heap.size := ltAt lj hb
          replace n12 : w11.heap.size < w13.heap.size := ltAt n12 hb
          clear hb
          have q1 : some W4.heap.size ≠ some w11.heap.size := fun e => by injection e; omega
          have q2 : some W4.heap.size ≠ some w8.heap.size := fun e => by injection e; omega
          have q3 : some w5.heap.size ≠ some w11.heap.size := fun e => by injection e; omega
          have q4 : some w5.heap.size ≠ some w8.heap.size := fun e => by injection e; omega
          have q5 : some w5.heap.size ≠ some W4.heap.size := fun e => by injection e; omega
          have HQs := Lib.hid (And.intro q1 (And.intro q2 (And.intro q3 (And.intro q4 q5))))
          have hcap := (own_cap HS.out.nx).1
          have hlen4 := Lib.hid (show (canon ltJ s.2).length ≤ 1000000 by omega)
          have HS13 := Lib.hid HS.out
          have hbw13 : w5.heap.size + 1 ≤ w13.heap.size := by omega
          clear q1 q2 q3 q4 q5
          go_wp2_with (first
           | (at_mapUpdate; refine wpList_update_is _ (by rfl) (.tmp 96) (.tmp 98) (.tmp 99) 87 (by rfl) 3 Tryz.underlying87 W4.heap.size _ _ (by rfl) HFf.out hlen3.out (sb, tb) (.int .i64 st) (by rfl) (by rfl) hokb ?_; intro w14 hm14 hg14; have HM14 := Lib.hid (And.intro (MapIs.ifR hm14) hg14); have v0 := cell_kept v0 hg14 n12 HQs.out.1; have v1 := cell_kept v1 hg14 n12 HQs.out.1; have yj := cell_kept yj hg14 lj HQs.out.2.1; have n12 := Nat.lt_of_lt_of_le n12 hg14.size; have lj := Nat.lt_of_lt_of_le lj hg14.size; have HBy14 := Lib.hid (HS13.out.by_.kept hg14 HQs.out.2.2.2.2); clear hm14 hg14)
           | (at_mapUpdate; refine wpList_update_is _ (by rfl) (.tmp 100) (.tmp 102) (.tmp 104) 88 (by rfl) 9 Tryz.underlying88 w5.heap.size _ _ (by rfl) HBy14.out hlen3.out (sb, tb) (sv sj) (by rfl) (by rfl) hokb ?_; intro w15 hm15 hg15; have HM15 := Lib.hid (And.intro (MapIs.ifR hm15) hg15); have v0 := cell_kept v0 hg15 n12 HQs.out.2.2.1; have v1 := cell_kept v1 hg15 n12 HQs.out.2.2.1; have yj := cell_kept yj hg15 lj HQs.out.2.2.2.1; have n12 := Nat.lt_of_lt_of_le n12 hg15.size; have lj := Nat.lt_of_lt_of_le lj hg15.size; clear hm15 hg15)
           | fail)
          have hrow15 := own_map (own_map HS13.out.nx HM14.out.2 (by omega)) HM15.out.2 (by omega)
          refine (put17_any A9 c9 (canon ltJ s.2) sb tb w15 (own_rd' hrow15) hcap hlen4.out).mono ?_
          rintro e w16 ⟨A8, c8, rfl, hp8, hb⟩
          have hS16 := HS13.out.put (u := sj) (out := out) (by omega) (by omega) (fun e => HQs.out.2.2.2.2 (by rw [e])) hbw13 HFk.out hkn hout HCb.out HM14.out.1 HM14.out.2 HM15.out.1 HM15.out.2 hp8 hb
          have HS16 := Lib.hid hS16
          have HRw16 := Lib.hid (own_on (own_map (own_map HRw.out HM14.out.2 (by omega)) HM15.out.2 (by omega)) hb)
          have HLr16 := Lib.hid (own_on (own_map (own_map HLr.out HM14.out.2 (by omega)) HM15.out.2 (by omega)) hb)
          have HB16 := Lib.hid (lift ((HB.out.grown HM14.out.2 (by omega) (fun g hg => by cases hg; exact Nat.le_refl _)).grown HM15.out.2 (by have := HM14.out.2.size; omega) (fun g hg => by cases hg; omega)) hb)
          have yj16 := cellAt yj hb lj
          have HAd := Lib.hid (addP_do (out := out) (s := s) (p := ((sb, tb), sj)) hkn hout)
          have HIc := Lib.hid (insL_canon (l := s.2) (j := (sb, tb)))
          clear hp8 hb hS16 hrow15
          go_wp2_with fail
          go_roundw
          case rel => exact ⟨i9 + 1, A8, c8, by omega, by go_num, by rw [HSt.out, HAd.out, HIc.out], by show LayS _ _ _ _ _ _ _ _ _; rw [HSt.out]; exact HS16.out, HRw16, HLr16, yj16, HB16⟩
          case measure => simp [intOf]; omega
         ·have HSk := Lib.hid (HSt.out.trans (addP_skip (p := ((sb, tb), sj)) (.inr hout)))
          go_wp2_with (first
           | (at_lookup; refine wpList_lookOk_is _ (by rfl) (.tmp 83) (.tmp 85) 87 (by rfl) 3 Tryz.underlying87 (.int .i64 0) (zeroIr _) W4.heap.size _ _ (by rfl) HFf.out (sb, tb) (by rfl) hokb ?_; rw [HFk.out, hkn]; generalize Option.getD (ff (sb, tb)) (Value.int .i64 0) = vv)
           | fail)
          refine (out17_any Aw cw wo sb tb W12 (Hw.out.at HB.out) hwl).mono ?_
          rw [show outB wo (sb, tb) = true by rw [HO.out]; exact hout]
          rintro e w13 ⟨rfl, hb⟩
          replace yj := cellAt yj hb (by omega)
          replace v0 := cellAt v0 hb (by omega)
          replace v1 := cellAt v1 hb (by omega)
          replace HS := Lib.hid (HS.out.on hb)
          replace HRw := Lib.hid (own_on HRw.out hb)
          replace HLr := Lib.hid (own_on HLr.out hb)
          replace HFf := Lib.hid (HFf.out.on hb)
          replace HB := Lib.hid (lift HB.out hb)
          replace lj : w8.heap.size < w13.heap.size := ltAt lj hb
          replace n12 : w11.heap.size < w13.heap.size := ltAt n12 hb
          clear hb
          go_wp2_with fail
          go_roundw
          case rel => exact ⟨i9 + 1, A9, c9, by omega, by go_num, by rw [HSk.out], by show LayS _ _ _ _ _ _ _ _ _; rw [HSk.out]; exact HS.out, HRw, HLr, yj, HB⟩
          case measure => simp [intOf]; omega
        ·have HSk := Lib.hid (HSt.out.trans (addP_skip (p := ((sb, tb), sj)) (.inl hkn)))
         go_wp2_with (first
          | (at_lookup; refine wpList_lookOk_is _ (by rfl) (.tmp 83) (.tmp 85) 87 (by rfl) 3 Tryz.underlying87 (.int .i64 0) (zeroIr _) W4.heap.size _ _ (by rfl) HFf.out (sb, tb) (by rfl) hokb ?_; rw [HFk.out, hkn]; generalize Option.getD (ff (sb, tb)) (Value.int .i64 0) = vv)
          | fail)
         go_roundw
         case rel => exact ⟨i9 + 1, A9, c9, by omega, by go_num, by rw [HSk.out], by show LayS _ _ _ _ _ _ _ _ _; rw [HSk.out]; exact HS.out, HRw, HLr, yj, HB⟩
         case measure => simp [intOf]; omega
       ·obtain rfl : i9 = L.length := by omega
        rw [List.take_length, ← HNk.out] at HS ⊢
        go_wp2_with fail
        go_roundw
        case rel => exact ⟨k + 1, A9, c9, by omega, by go_num, rfl, HS, HRw, HB⟩
        case measure => simp [intOf]; omega
     ·obtain rfl : k = R.length := by omega
      rw [midP_all] at HS ⊢
      go_wp2_with fail
      go_roundg g'
      case measure => omega
      case rel => exact ⟨(stepP E out m R).1, (stepP E out m R).2, A9, c9, _, rfl, rfl, HNx, HS, HB⟩
end Od
end Go.Proofs.YtbllehjhmfehbaaGreat
end

section
/- What Make of the reference of layer 19 keeps in memory. (bel2) -/
namespace Go.Proofs.YtbllehjhmfehbaaGreat
open Go.RowKit Go.Sort
set_option linter.unusedSimpArgs false
namespace Od
section
variable {w w' : World} {gb mb : Nat} {An Ae Au Ah : Option Addr} {cn ce cu ch : Nat} {ns : List Nd} {es : List Ed} {up half : List Str} {vL : Value} {A : Option Addr} {c : Nat} {gone : List Pl}
/-- What came in, and the block of what is handed back. -/
structure MkE (w : World) (gb : Nat) (An Ae Au Ah : Option Addr) (cn ce cu ch : Nat) (ns : List Nd) (es : List Ed) (up half : List Str) : Prop where
 g0 : w.cell? ⟨gb, 0, none⟩ = some (.slice An ns.length cn)
 g1 : w.cell? ⟨gb, 1, none⟩ = some (.slice Ae es.length ce)
 h0 : w.cell? ⟨gb + 1, 0, none⟩ = some (.slice Au up.length cu)
 h1 : w.cell? ⟨gb + 1, 1, none⟩ = some (.slice Ah half.length ch)
 r0 : w.cell? ⟨gb + 1 + 1, 0, none⟩ = some (.slice none 0 0)
 r1 : w.cell? ⟨gb + 1 + 1, 1, none⟩ = some (.slice none 0 0)
 r2 : w.cell? ⟨gb + 1 + 1, 2, none⟩ = some (.int .i64 0)
 z0 : w.frozen? ⟨gb + 1 + 1, 0, none⟩ = false
 z1 : w.frozen? ⟨gb + 1 + 1, 1, none⟩ = false
 z2 : w.frozen? ⟨gb + 1 + 1, 2, none⟩ = false
 gi : GIw w An Ae ns es
 ni : NIn w Au Ah up half
theorem MkE.lt (h : MkE w gb An Ae Au Ah cn ce cu ch ns es up half) : gb + 1 + 1 < w.heap.size := cell_blk h.r0
theorem MkE.at (h : MkE w gb An Ae Au Ah cn ce cu ch ns es up half) (hb : Below w.heap.size w w') : MkE w' gb An Ae Au Ah cn ce cu ch ns es up half := by
 have hl := h.lt
 have l0 : gb < w.heap.size := by omega
 have l1 : gb + 1 < w.heap.size := by omega
 exact ⟨cellAt h.g0 hb l0, cellAt h.g1 hb l0, cellAt h.h0 hb l1, cellAt h.h1 hb l1, cellAt h.r0 hb hl, cellAt h.r1 hb hl, cellAt h.r2 hb hl, froAt h.z0 hb hl, froAt h.z1 hb hl, froAt h.z2 hb hl, h.gi.at hb, h.ni.at hb⟩
/-- What is made: the jobs at hand, those that went. -/
structure MkC (w : World) (mb : Nat) (vL vG : Value) : Prop where
 l : w.cell? ⟨mb, 0, none⟩ = some vL
 g : w.cell? ⟨mb, 1, none⟩ = some vG
 e : w.cell? ⟨mb, 2, none⟩ = some (.int .i64 0)
 f0 : w.frozen? ⟨mb, 0, none⟩ = false
 f1 : w.frozen? ⟨mb, 1, none⟩ = false
 f2 : w.frozen? ⟨mb, 2, none⟩ = false
theorem MkC.lt {vG : Value} (h : MkC w mb vL vG) : mb < w.heap.size := cell_blk h.l
theorem MkC.bel {vG : Value} {B : Nat} (h : MkC w mb vL vG) (hb : Below B w w') (hB : mb < B) : MkC w' mb vL vG :=
 ⟨(hb.cell (p := ⟨mb, 0, none⟩) hB).trans h.l, (hb.cell (p := ⟨mb, 1, none⟩) hB).trans h.g, (hb.cell (p := ⟨mb, 2, none⟩) hB).trans h.e, (hb.frozen (p := ⟨mb, 0, none⟩) hB).trans h.f0, (hb.frozen (p := ⟨mb, 1, none⟩) hB).trans h.f1, (hb.frozen (p := ⟨mb, 2, none⟩) hB).trans h.f2⟩
theorem MkC.on {vG : Value} (h : MkC w mb vL vG) (hb : Below w.heap.size w w') : MkC w' mb vL vG := h.bel hb h.lt
theorem ad_ne {b o o' : Nat} (h : o ≠ o') : (⟨b, o, none⟩ : Addr) ≠ ⟨b, o', none⟩ := fun e => h (by injection e)
theorem MkC.setL {vG : Value} (h : MkC w mb vL vG) (v : Value) : MkC (w.setCell ⟨mb, 0, none⟩ v) mb v vG :=
 ⟨World.cell?_setCell_same _ _ _ h.l, (World.cell?_setCell_other _ _ _ _ (ad_ne (by decide))).trans h.g, (World.cell?_setCell_other _ _ _ _ (ad_ne (by decide))).trans h.e, by rw [World.frozen?_setCell]; exact h.f0, by rw [World.frozen?_setCell]; exact h.f1, by rw [World.frozen?_setCell]; exact h.f2⟩
theorem MkC.setG {vG : Value} (h : MkC w mb vL vG) (v : Value) : MkC (w.setCell ⟨mb, 1, none⟩ v) mb vL v :=
 ⟨(World.cell?_setCell_other _ _ _ _ (ad_ne (by decide))).trans h.l, World.cell?_setCell_same _ _ _ h.g, (World.cell?_setCell_other _ _ _ _ (ad_ne (by decide))).trans h.e, by rw [World.frozen?_setCell]; exact h.f0, by rw [World.frozen?_setCell]; exact h.f1, by rw [World.frozen?_setCell]; exact h.f2⟩
end
/-- What Make hands back. -/
def MadeR (T : Tr) (w : World) (e : Ending) (w' : World) : Prop := ∃ AL cL AG cG, e = .returned (.agg #[.slice AL T.l.length cL, .slice AG T.gone.length cG, .int .i64 T.err]) ∧ T.l.length ≤ cL ∧ Rd w' w'.heap.size 4 AL T.l.length (plsC T.l) ∧ Rd w' w'.heap.size 4 AG T.gone.length (plsC T.gone) ∧ Below w.heap.size w w'
theorem made_ret {w w' : World} {r : Int} (hb : Below w.heap.size w w') : MadeR ⟨r, [], []⟩ w (.returned (.agg #[.slice none 0 0, .slice none 0 0, .int .i64 r])) w' := ⟨none, 0, none, 0, rfl, Nat.le_refl _, Rd.none_, Rd.none_, hb⟩
theorem bad_s {ns : List Nd} {es : List Ed} {up : List Str} {l : List Pl} {p : Pl} (h : l.find? (sickP ns) = some p) : badP ns es up l = some (p, sickE ns p.1) := by unfold badP; rw [h]
theorem bad_l {ns : List Nd} {es : List Ed} {up : List Str} {l : List Pl} {p : Pl} (h1 : l.find? (sickP ns) = none) (h : l.find? (lackP es up l) = some p) : badP ns es up l = some (p, 19) := by unfold badP; rw [h1, h]
theorem bad_c {ns : List Nd} {es : List Ed} {up : List Str} {l : List Pl} (h1 : l.find? (sickP ns) = none) (h2 : l.find? (lackP es up l) = none) : badP ns es up l = (clashOf l).map (fun p => (p, 18)) := by unfold badP; rw [h1, h2]; cases clashOf l <;> rfl
end Od
end Go.Proofs.YtbllehjhmfehbaaGreat
end

section
/- What Build of the reference of layer 19 makes of the row, as lists: the first of each unit, its types joined. No program. -/
namespace Go.Proofs.YtbllehjhmfehbaaGreat
set_option linter.unusedSimpArgs false
namespace Od
def dedS (acc : List Str) (xs : List Str) : List Str := xs.foldl (fun acc u => if u ∈ acc then acc else acc ++ [u]) acc
def dedF (xs : List Str) : List Str := dedS [] xs
theorem dedF_snoc (xs : List Str) (u : Str) : dedF (xs ++ [u]) = if u ∈ dedF xs then dedF xs else dedF xs ++ [u] := by
 unfold dedF dedS; rw [List.foldl_append]; rfl
theorem mem_dedS {u : Str} : ∀ (xs acc : List Str), u ∈ dedS acc xs ↔ u ∈ acc ∨ u ∈ xs
 | [], acc => by simp [dedS]
 | x :: xs, acc => by
  show u ∈ dedS (if x ∈ acc then acc else acc ++ [x]) xs ↔ _
  rw [mem_dedS xs]
  by_cases hx : x ∈ acc
  ·rw [if_pos hx, List.mem_cons]
   constructor
   ·rintro (h | h)
    ·exact .inl h
    ·exact .inr (.inr h)
   ·rintro (h | rfl | h)
    ·exact .inl h
    ·exact .inl hx
    ·exact .inr h
  ·rw [if_neg hx, List.mem_append, List.mem_singleton, List.mem_cons]
   constructor
   ·rintro ((h | h) | h)
    ·exact .inl h
    ·exact .inr (.inl h)
    ·exact .inr (.inr h)
   ·rintro (h | h | h)
    ·exact .inl (.inl h)
    ·exact .inl (.inr h)
    ·exact .inr h
theorem mem_dedF {u : Str} {xs : List Str} : u ∈ dedF xs ↔ u ∈ xs := by unfold dedF; rw [mem_dedS]; simp
theorem nodup_dedS : ∀ (xs acc : List Str), acc.Nodup → (dedS acc xs).Nodup
 | [], _, h => h
 | x :: xs, acc, h => by
  show (dedS (if x ∈ acc then acc else acc ++ [x]) xs).Nodup
  by_cases hx : x ∈ acc
  ·rw [if_pos hx]; exact nodup_dedS xs acc h
  ·rw [if_neg hx]
   refine nodup_dedS xs _ (List.nodup_append.2 ⟨h, by simp, fun a ha b hb e => ?_⟩)
   rw [List.mem_singleton] at hb
   exact hx (by rw [← hb, ← e]; exact ha)
theorem dedS_sub : ∀ (xs acc : List Str), (dedS acc xs).Sublist (acc ++ xs)
 | [], acc => by rw [List.append_nil]; exact List.Sublist.refl _
 | x :: xs, acc => by
  show (dedS (if x ∈ acc then acc else acc ++ [x]) xs).Sublist _
  by_cases hx : x ∈ acc
  ·rw [if_pos hx]
   exact (dedS_sub xs acc).trans ((List.Sublist.refl acc).append (List.sublist_cons_self x xs))
  ·rw [if_neg hx]
   have := dedS_sub xs (acc ++ [x])
   rwa [List.append_assoc] at this
section
variable {up half : List Str} {l : List Pl}
def outJ (up half : List Str) (l : List Pl) (k : Nat) : List Jb := (dedF ((l.take k).map (·.1))).filterMap (jobTOf up half l)
theorem units_le (hs : l.Pairwise (fun p q => ltJ (keyP p) (keyP q) = true)) : (l.map (·.1)).Pairwise (fun a b => ltS b a = false) := by
 rw [List.pairwise_iff_getElem]
 intro i j hi hj hij
 rw [List.length_map] at hi hj
 rw [List.getElem_map, List.getElem_map]
 exact key_le hs hi hj (Nat.le_of_lt hij)
theorem outJ_all (hs : l.Pairwise (fun p q => ltJ (keyP p) (keyP q) = true)) : outJ up half l l.length = jobsT up half l := by
 unfold outJ
 rw [List.take_length]
 refine jobs_sorted (nodup_dedS _ _ (by simp)) (fun u => ?_) (List.Perm.refl _) ?_
 ·rw [show u ∈ dedS [] (l.map (·.1)) ↔ u ∈ l.map (·.1) from mem_dedF, List.mem_map]
 ·refine List.Pairwise.filterMap _ (R := fun x y => ltS y x = false) ?_ ((units_le hs).sublist (by have := dedS_sub (l.map (·.1)) []; rwa [List.nil_append] at this))
  intro a b hab x hx y hy
  rw [(jobTOf_key hx).1, (jobTOf_key hy).1]
  exact hab
theorem outJ_old {k : Nat} (hk : k < l.length) (h : l[k].1 ∈ (l.take k).map (·.1)) : outJ up half l (k + 1) = outJ up half l k := by
 unfold outJ
 rw [List.take_succ_eq_append_getElem hk, List.map_append, List.map_cons, List.map_nil, dedF_snoc, if_pos (mem_dedF.2 h)]
theorem outJ_new {k : Nat} (hk : k < l.length) (h : l[k].1 ∉ (l.take k).map (·.1)) : outJ up half l (k + 1) = outJ up half l k ++ (if setU up half l l[k].1 = 0 then [] else [(l[k].1, setU up half l l[k].1, 1, 0)]) := by
 unfold outJ
 rw [List.take_succ_eq_append_getElem hk, List.map_append, List.map_cons, List.map_nil, dedF_snoc, if_neg (fun x => h (mem_dedF.1 x)), List.filterMap_append]
 congr 1
 rw [List.filterMap_cons, List.filterMap_nil]
 unfold jobTOf
 by_cases h0 : setU up half l l[k].1 = 0
 ·rw [if_pos h0, if_pos h0]
 ·rw [if_neg h0, if_neg h0]
theorem unit_old (hs : l.Pairwise (fun p q => ltJ (keyP p) (keyP q) = true)) {k : Nat} (hk : k + 1 < l.length) : l[k + 1].1 ∈ (l.take (k + 1)).map (·.1) ↔ (l[k].1 == l[k + 1].1) = true := by
 rw [beq_iff_eq]
 constructor
 ·intro h
  obtain ⟨p, hp, e⟩ := List.mem_map.1 h
  obtain ⟨i, hi, rfl⟩ := List.getElem_of_mem hp
  rw [List.length_take] at hi
  rw [List.getElem_take] at e
  have a1 := key_le hs (i := i) (j := k) (by omega) (by omega) (by omega)
  have a2 := key_le hs (i := k) (j := k + 1) (by omega) hk (by omega)
  rw [← e] at a2 ⊢
  exact toS.total a1 a2
 ·intro e
  rw [← e]
  exact List.mem_map.2 ⟨l[k], by rw [List.mem_iff_getElem]; exact ⟨k, by rw [List.length_take]; omega, by rw [List.getElem_take]⟩, rfl⟩
/-- The types of the unit at hand among the first j of the rest, joined. -/
def joinK (up : List Str) (u : Str) (t : Int) (r : List Pl) : Int := (r.filter (fun p => p.1 == u)).foldl (fun t q => (jnT t q.2.1 (hasB up u)).1) t
theorem joinK_same {u : Str} {t : Int} {r : List Pl} {j : Nat} (hj : j < r.length) (h : (r[j].1 == u) = true) : joinK up u t (r.take (j + 1)) = (jnT (joinK up u t (r.take j)) r[j].2.1 (hasB up u)).1 := by
 unfold joinK
 rw [List.take_succ_eq_append_getElem hj, List.filter_append, List.filter_cons, if_pos h, List.filter_nil, List.foldl_append]
 rfl
theorem joinK_other {u : Str} {t : Int} {r : List Pl} {j : Nat} (hj : j < r.length) (h : (r[j].1 == u) = false) : joinK up u t (r.take (j + 1)) = joinK up u t (r.take j) := by
 unfold joinK
 rw [List.take_succ_eq_append_getElem hj, List.filter_append, List.filter_cons, h, if_neg (by simp), List.filter_nil, List.append_nil]
theorem tyU_first {k : Nat} (hk : k < l.length) (h : l[k].1 ∉ (l.take k).map (·.1)) : tyU up l l[k].1 = joinK up l[k].1 l[k].2.1 (l.drop (k + 1)) := by
 have e : l = l.take k ++ (l[k] :: l.drop (k + 1)) := by rw [List.getElem_cons_drop, List.take_append_drop]
 have h0 : (l.take k).filter (fun p => p.1 == l[k].1) = [] := List.filter_eq_nil_iff.2 fun q hq he => h (List.mem_map.2 ⟨q, hq, by simpa using he⟩)
 have h1 : l.filter (fun p => p.1 == l[k].1) = l[k] :: (l.drop (k + 1)).filter (fun p => p.1 == l[k].1) := by
  have h2 : (l.take k ++ (l[k] :: l.drop (k + 1))).filter (fun p => p.1 == l[k].1) = l[k] :: (l.drop (k + 1)).filter (fun p => p.1 == l[k].1) := by
   rw [List.filter_append, h0, List.nil_append, List.filter_cons, if_pos (by simp)]
  rwa [← e] at h2
 unfold tyU joinK
 rw [h1]; rfl
end
theorem made_ss (ns : List Nd) (es : List Ed) (up half : List Str) (first : Jp) : (madeT ns es up half first).l.Pairwise (fun p q => ltJ (keyP p) (keyP q) = true) := by
 by_cases h : (madeT ns es up half first).err = 0
 ·rw [(made_ok h).2.1]; exact pullQ_ss _ _ _ _ _ _
 ·rw [(made_none h).1]; exact List.Pairwise.nil
theorem made_len (ns : List Nd) (es : List Ed) (up half : List Str) (first : Jp) : (madeT ns es up half first).l.length ≤ 6 * es.length + 1 := by
 by_cases h : (madeT ns es up half first).err = 0
 ·rw [(made_ok h).2.1]; exact pullQ_len _ _ _ _ _ _
 ·rw [(made_none h).1]; exact Nat.zero_le _
theorem outJ_len (up half : List Str) (l : List Pl) (k : Nat) : (outJ up half l k).length ≤ l.length := by
 unfold outJ
 have h1 := (dedS_sub ((l.take k).map (·.1)) []).length_le
 have h2 := List.length_filterMap_le (jobTOf up half l) (dedF ((l.take k).map (·.1)))
 rw [List.nil_append, List.length_map, List.length_take] at h1
 have h3 : (dedF ((l.take k).map (·.1))).length ≤ min k l.length := h1
 omega
theorem setT_nonneg (t s : Int) : 0 ≤ setT t s := by
 unfold setT
 split
 ·decide
 ·rename_i h
  split
  ·decide
  ·split
   ·decide
   ·have h1 : isT t = true := by cases hi : isT t <;> simp_all
    have := isT_iff.1 h1
    omega
theorem setU_pos {up half : List Str} {l : List Pl} {u : Str} : decide (0 < setU up half l u) = !decide (setU up half l u = 0) := by
 have := setT_nonneg (tyU up l u) (nowS up half u)
 have h2 : setU up half l u = setT (tyU up l u) (nowS up half u) := rfl
 rw [← h2] at this
 rw [Bool.eq_iff_iff]
 simp only [decide_eq_true_eq, Bool.not_eq_true', decide_eq_false_iff_not]
 omega
end Od
end Go.Proofs.YtbllehjhmfehbaaGreat
end
