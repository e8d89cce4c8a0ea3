/- My texts, joined for the claim: PDelF PBack PBrings PEach. -/
import Derived.Test.YtbllehjhmfehbaaGreatZB10
import Derived.Test.YtbllehjhmfehbaaGreatZB0
import Derived.Test.YtbllehjhmfehbaaGreatZB9

section
/- slices.DeleteFunc at a row of jobs that are brought of the call's own. (bel2) -/
namespace Go.Proofs.YtbllehjhmfehbaaGreat
open Go.RowKit Go.Sort
set_option linter.unusedSimpArgs false
namespace Od
theorem filter_all_br {p : Bg → Bool} {L : List Bg} (h : L.find? p = none) : L.filter (fun s => !p s) = L := by
  rw [List.filter_eq_self]
  intro s hs
  have := List.find?_eq_none.1 h s hs
  simpa using this
theorem filter_first_br {p : Bg → Bool} {L : List Bg} {k : Nat} (hk : k < L.length) (h1 : p L[k] = true) (h0 : ∀ j, ∀ hj : j < k, p (L[j]'(by omega)) = false) : (L.take (k + 1)).filter (fun s => !p s) = L.take k := by
  rw [List.take_succ_eq_append_getElem hk, List.filter_append]
  have e1 : [L[k]].filter (fun s => !p s) = [] := by simp [h1]
  rw [e1, List.append_nil, List.filter_eq_self]
  intro s hs
  obtain ⟨j, hj, rfl⟩ := List.mem_iff_getElem.1 hs
  have hj' : j < k := by simp at hj; omega
  have := h0 j hj'
  simp only [List.getElem_take]
  simpa using this
theorem ownBr_put {w : World} {base c g n : Nat} {M : List Bg} (h : w.ownsRow base 145 3 (.slice (some ⟨g, 0, none⟩) n c) n (brsC M)) {i : Nat} (hi : i < M.length) (s : Str) (t : Int) (b : Bool) :
    (((w.setCell ⟨g, i * 3, none⟩ (sv s)).setCell ⟨g, i * 3 + 1, none⟩ (.int .i64 t)).setCell ⟨g, i * 3 + 2, none⟩ (.bool b)).ownsRow base 145 3 (.slice (some ⟨g, 0, none⟩) n c) n (brsC (M.set i ((s, t), b))) := by
  have h0 := own_set h (j := i * 3 + 0) (sv s)
  rw [show (brsC M).set (i * 3 + 0) (sv s) = brsC (M.set i ((s, M[i].1.2), M[i].2)) from flat_set brC 3 brC_len 0 _ _ (by omega) M i hi rfl] at h0
  have h1 := own_set h0 (j := i * 3 + 1) (.int .i64 t)
  rw [show (brsC (M.set i ((s, M[i].1.2), M[i].2))).set (i * 3 + 1) (.int .i64 t) = brsC ((M.set i ((s, M[i].1.2), M[i].2)).set i ((s, t), M[i].2)) from flat_set brC 3 brC_len 1 _ _ (by omega) _ i (by simpa using hi) (by rw [List.getElem_set_self]; rfl)] at h1
  have h2 := own_set h1 (j := i * 3 + 2) (.bool b)
  rw [show (brsC ((M.set i ((s, M[i].1.2), M[i].2)).set i ((s, t), M[i].2))).set (i * 3 + 2) (.bool b) = brsC (((M.set i ((s, M[i].1.2), M[i].2)).set i ((s, t), M[i].2)).set i ((s, t), b)) from flat_set brC 3 brC_len 2 _ _ (by omega) _ i (by simpa using hi) (by rw [List.getElem_set_self]; rfl)] at h2
  simpa using h2
theorem zero_br (n : Nat) : ∀ v ∈ (Builtin.zeroCells (Value.agg #[.string ⟨#[]⟩, .int .i64 0, .bool false]).cells n).toList, v.oneCell' = true := fun v hv => by
  unfold Builtin.zeroCells at hv
  simp only [Value.cells, Array.toList_map, List.mem_map] at hv
  obtain ⟨i, _, rfl⟩ := hv
  have h3 : i % 3 = 0 ∨ i % 3 = 1 ∨ i % 3 = 2 := by omega
  rcases h3 with h | h | h <;> simp [h, Value.oneCell']
set_option maxRecDepth 100000 in
set_option maxHeartbeats 8000000 in
theorem DeleteFuncB_own (base c n : Nat) (A : Option Addr) (L : List Bg) (g : Nat) (caps : Array Value) (p : Bg → Bool) (w0 w : World) (h : w.ownsRow base 145 3 (.slice A n c) n (brsC L)) (hL : L.length = n) (hn : n ≤ 1000000) (hp : SaysBr g caps p base w0) (hb0 : Below base w0 w) (hbase : base ≤ w.heap.size) :
    Calls Tryz.prog 212 #[.slice A n c, .func (.func g) #[] caps] w fun e w' => ∃ A' c', e = .returned (.slice A' (L.filter (fun s => !p s)).length c') ∧ w'.ownsRow base 145 3 (.slice A' (L.filter (fun s => !p s)).length c') (L.filter (fun s => !p s)).length (brsC (L.filter (fun s => !p s))) ∧ Below base w0 w' := by
  obtain ⟨i0, hi, hz0, hz1, hz2⟩ := info_parts infoBr
  have Ho := Lib.hid h
  have Hp := Lib.hid hp
  have Hb0 := Lib.hid hb0
  have eg := hp.enters
  have hr := own_rd' h
  have hcap := own_cap h
  subst hL
  have Hr := Lib.hid hr
  clear h hp hb0 hr
  go_enter Tryz.func212, Tryz.ntmps212
  go_wp2_with fail
  refine (IndexFuncB A c L g caps p base w0 w Hr.out hn Hp.out Hb0.out hbase).mono ?_
  rintro e w2 ⟨r, rfl, hcase, hb⟩
  have HO2 := Lib.hid (own_on Ho.out hb)
  have HB2 := Lib.hid (Hb0.out.trans (hb.mono hbase))
  have hbase2 : base ≤ w2.heap.size := Nat.le_trans hbase hb.size
  clear hb Ho Hr Hb0
  rcases hcase with ⟨rfl, hnone⟩ | ⟨k, hk, rfl, _, hpk, hbef⟩
  · have HF := Lib.hid (filter_all_br hnone)
    go_wp2_with fail
    go_ret
    rw [HF.out]
    exact ⟨A, c, rfl, HO2.out, HB2.out⟩
  · have hfirst := filter_first_br hk hpk hbef
    have HF := Lib.hid hfirst
    clear hfirst hpk hbef
    obtain ⟨gb, rfl, hgb, hgl, _⟩ := own_open HO2.out (by omega)
    have hneq : ((k : Int) == -1) = false := by rw [beq_eq_false_iff_ne]; omega
    have hw1 : IntKind.i64.wrap ((k : Int) + 1) = (k : Int) + 1 := IntWalk.i64_in _ (by omega)
    go_wp2_with fail
    go_loopw [5, 6] (fun iv jv wr => ∃ (i j : Nat) (M : List Bg), iv = .int .i64 i ∧ jv = .int .i64 j ∧ i < j ∧ j ≤ L.length ∧ M.length = L.length ∧ M.take i = (L.take j).filter (fun s => !p s) ∧ M.drop j = L.drop j ∧ wr.ownsRow base 145 3 (.slice (some ⟨gb, 0, none⟩) L.length c) L.length (brsC M) ∧ Below base w0 wr) (fun _ jv _ => L.length - (intOf jv).toNat)
    case atStart => exact ⟨k, k + 1, L, rfl, by simp, by omega, hk, rfl, HF.out.symm, rfl, HO2.out, HB2.out⟩
    case round =>
      obtain ⟨i, j, M, rfl, rfl, hij, hj, hM, htk, hdr, ho, hb⟩ := hrel
      have HOr := Lib.hid ho
      have HBr := Lib.hid hb
      have hglr : gb < wr.heap.size := (ho.lt gb rfl).2
      have hzr : base ≤ wr.heap.size := Nat.le_of_lt (Nat.lt_of_le_of_lt hgb hglr)
      clear ho hb HO2 HB2
      by_cases hlt : j < L.length
      · have hxM : M[j]'(by omega) = L[j] := by
          have h1 : (M.drop j)[0]'(by simp; omega) = (L.drop j)[0]'(by simp; omega) := by congr 1
          simpa using h1
        have hrd : Rd wr wr.heap.size 3 (some ⟨gb, 0, none⟩) M.length (brsC M) := by rw [hM]; exact own_rd' HOr.out
        obtain ⟨b1, o1, hA1, _, hc0, hc1, hc2⟩ := hrd.br (i := j) (by omega)
        injection hA1 with hA1
        injection hA1 with hA1 hA2
        subst hA1 hA2
        rw [hxM] at hc0 hc1 hc2
        simp only [Nat.zero_add] at hc0 hc1 hc2
        have hft : (L.take (j + 1)).filter (fun s => !p s) = (L.take j).filter (fun s => !p s) ++ (if (!p L[j]) = true then [L[j]] else []) := filter_take_succ hlt
        have hdr2 : M.drop (j + 1) = L.drop (j + 1) := by rw [← List.drop_drop, ← List.drop_drop, hdr]
        generalize L[j] = x at hc0 hc1 hc2 hft
        obtain ⟨⟨s, t⟩, b⟩ := x
        simp only at hc0 hc1 hc2
        have HFt := Lib.hid hft
        have HTk := Lib.hid htk
        have HDr := Lib.hid hdr2
        clear hft htk hdr hdr2 hxM hrd
        have j1 : (0 : Int) ≤ (j : Int) := by omega
        have j2 : (j : Int) < (L.length : Int) := by omega
        have j3 : (0 : Int) ≤ (i : Int) := by omega
        have j4 : (i : Int) < (L.length : Int) := by omega
        have hwj : IntKind.i64.wrap ((j : Int) + 1) = (j : Int) + 1 := IntWalk.i64_in _ (by omega)
        have hwi : IntKind.i64.wrap ((i : Int) + 1) = (i : Int) + 1 := IntWalk.i64_in _ (by omega)
        go_wp2_with fail
        first | (refine wp_named ?_; intro W1 hW) | (refine calls_named ?_; intro W1 hW)
        have B1 : Below wr.heap.size wr W1 := by rw [hW]; exact (by repeat (first | exact Below.refl _ _ | assumption | refine Below.alloc ?_ (by first | omega | (simp <;> omega)) _ | refine Below.setCell ?_ (by first | omega | (simp <;> omega)) _ | refine Below.drew ?_))
        replace HOr := Lib.hid (own_on HOr.out B1)
        replace hglr : gb < W1.heap.size := ltAt hglr B1
        have n1 : wr.heap.size < W1.heap.size := by rw [hW]; simp <;> omega
        have e0 : W1.cell? ⟨wr.heap.size, 0, none⟩ = some (sv s) := by rw [hW]; go_simp
        have e1 : W1.cell? ⟨wr.heap.size, 1, none⟩ = some (.int .i64 t) := by rw [hW]; go_simp
        have e2 : W1.cell? ⟨wr.heap.size, 2, none⟩ = some (.bool b) := by rw [hW]; go_simp
        clear hW
        have HB1 := Lib.hid (HBr.out.trans (B1.mono hzr))
        have hz1' : base ≤ W1.heap.size := Nat.le_trans hzr B1.size
        clear B1 hc0 hc1 hc2
        refine (Hp.out.says W1 s t b HB1.out).mono ?_
        rintro e w5 ⟨rfl, hb5⟩
        have HB5 := Lib.hid (HB1.out.trans (hb5.mono hz1'))
        replace e0 := cellAt e0 hb5 (by omega)
        replace e1 := cellAt e1 hb5 (by omega)
        replace e2 := cellAt e2 hb5 (by omega)
        replace HOr := Lib.hid (own_on HOr.out hb5)
        replace hglr : gb < w5.heap.size := ltAt hglr hb5
        replace n1 : wr.heap.size < w5.heap.size := ltAt n1 hb5
        clear hb5
        cases hpx : p ((s, t), b)
        · have HF2 := Lib.hid (show (L.take (j + 1)).filter (fun s => !p s) = (L.take j).filter (fun s => !p s) ++ [((s, t), b)] by rw [HFt.out, hpx]; simp)
          have f0 := own_fro HOr.out (j := i * 3)
          have f1 := own_fro HOr.out (j := i * 3 + 1)
          have f2 := own_fro HOr.out (j := i * 3 + 2)
          have hl3 : (brsC M).length = L.length * 3 := by rw [brsC_len, hM]
          have d0 := own_cell HOr.out (j := i * 3) (by omega)
          have d1 := own_cell HOr.out (j := i * 3 + 1) (by omega)
          have d2 := own_cell HOr.out (j := i * 3 + 2) (by omega)
          generalize (brsC M)[i * 3]'(by omega) = v0 at d0
          generalize (brsC M)[i * 3 + 1]'(by omega) = v1 at d1
          generalize (brsC M)[i * 3 + 2]'(by omega) = v2 at d2
          go_wp2_with fail
          go_roundw
          case rel =>
            have ho6 := ownBr_put HOr.out (i := i) (by omega) s t b
            refine ⟨i + 1, j + 1, M.set i ((s, t), b), by go_num, by go_num, by omega, by omega, by simp [hM], ?_, ?_, ho6, ((HB5.out.setCell hgb _).setCell hgb _).setCell hgb _⟩
            · rw [HF2.out, ← HTk.out, List.take_succ_eq_append_getElem (by simp; omega), List.take_set_of_le (Nat.le_refl _)]
              simp
            · rw [List.drop_set_of_lt (by omega)]; exact HDr.out
          case measure => simp [intOf]; omega
        · have HF2 := Lib.hid (show (L.take (j + 1)).filter (fun s => !p s) = (L.take j).filter (fun s => !p s) by rw [HFt.out, hpx]; simp)
          go_wp2_with fail
          go_roundw
          case rel => exact ⟨i, j + 1, M, rfl, by go_num, by omega, by omega, hM, by rw [HF2.out]; exact HTk.out, HDr.out, HOr.out, HB5.out⟩
          case measure => simp [intOf]; omega
      · have hjL : j = L.length := by omega
        subst hjL
        rw [List.take_length] at htk
        have hs2 := run_slice_tail (P := Tryz.prog) Tryz.underlying175 hi (some ⟨gb, 0, none⟩) L.length c i (by omega)
        rw [hz1] at hs2
        have hAd : dropA (some ⟨gb, 0, none⟩) c i 3 = some ⟨gb, i * 3, none⟩ := by
          unfold dropA
          rw [if_neg (by omega)]
          simp [Addr.add]
          try (intro h; omega)
        rw [hAd] at hs2
        have hl3 : (brsC M).length = L.length * 3 := by rw [brsC_len, hM]
        have hclr := fun ty => run_clear_rows (P := Tryz.prog) (n := L.length - i) wr 175 145 ty (.agg #[.string ⟨#[]⟩, .int .i64 0, .bool false]) Tryz.underlying175 (fun w => Tryz.zeroValue145 w) (zero_br _) gb (i * 3) (c - i) (by omega)
          (fun m hm => by
            have hm' : m < (L.length - i) * 3 := hm
            rw [own_cell HOr.out (j := i * 3 + m) (by omega)]; rfl) (fun m hm => own_fro HOr.out)
        have hil : i ≤ L.length := by omega
        have HTk := Lib.hid htk
        obtain ⟨w9, hw9⟩ : ∃ w9, w9 = wr.setCells gb (i * 3) (Builtin.zeroCells (Value.agg #[.string ⟨#[]⟩, .int .i64 0, .bool false]).cells (L.length - i)).toList := ⟨_, rfl⟩
        rw [← hw9] at hclr
        have hb9 : Below base w0 w9 := by rw [hw9]; exact below_setCells _ _ _ hgb HBr.out
        have ho9 := own_setCells (i := i * 3) (Builtin.zeroCells (Value.agg #[.string ⟨#[]⟩, .int .i64 0, .bool false]).cells (L.length - i)).toList (i * 3) wr _ (Nat.le_refl _) HOr.out
        rw [← hw9] at ho9
        obtain ⟨xs', ho9, ht9⟩ := ho9
        have ho10 := own_cut ho9 hil
        rw [ht9, show (brsC M).take (i * 3) = brsC (M.take i) from (flat_take brC 3 brC_len M i).symm, htk] at ho10
        have hml : (L.filter (fun s => !p s)).length = i := by rw [← htk, List.length_take, hM]; omega
        have HO10 := Lib.hid ho10
        have HB9 := Lib.hid hb9
        have HML := Lib.hid hml
        clear htk hdr ho9 ht9 ho10 hb9 hml hw9 hl3
        have j3 : (0 : Int) ≤ (i : Int) := by omega
        go_wp2_with fail
        go_ret
        rw [HML.out]
        exact ⟨some ⟨gb, 0, none⟩, c, rfl, HO10.out, HB9.out⟩
end Od
end Go.Proofs.YtbllehjhmfehbaaGreat
end

section
/- (asker).back: what a stop or a restart brings. (bel2) -/
namespace Go.Proofs.YtbllehjhmfehbaaGreat
open Go.RowKit Go.Sort
set_option linter.unusedSimpArgs false
namespace Od
def relsB : List Int := [1, 4, 5]
def backK (es : List Ed) (u : Str) (t : Int) (k : Nat) : List Bg := (relsB.take k).flatMap fun r => eachB (inwS es u r) t true
theorem backK_succ {es : List Ed} {u : Str} {t : Int} {k : Nat} (hk : k < relsB.length) : backK es u t (k + 1) = backK es u t k ++ eachB (inwS es u relsB[k]) t true := by
  unfold backK
  rw [List.take_succ_eq_append_getElem hk, List.flatMap_append]
  simp
theorem backK_end (es : List Ed) (u : Str) (t : Int) : backK es u t 3 = backA es u t := by
  unfold backK relsB backA
  simp
theorem backK_len (es : List Ed) (u : Str) (t : Int) (k : Nat) : (backK es u t k).length ≤ 3 * es.length := by
  have h0 : backK es u t 0 = [] := rfl
  have hs : ∀ j, (backK es u t j).length ≤ (backK es u t (j + 1)).length := fun j => by
    by_cases hj : j < relsB.length
    · rw [backK_succ hj, List.length_append]; omega
    · have h1 : relsB.take j = relsB := List.take_of_length_le (by omega)
      have h2 : relsB.take (j + 1) = relsB := List.take_of_length_le (by omega)
      unfold backK
      rw [h1, h2]; exact Nat.le_refl _
  have h3 : (backK es u t 3).length ≤ 3 * es.length := by
    rw [backK_end]
    unfold backA
    simp only [List.length_append, eachB_len]
    have a1 := inwS_len es u 1
    have a2 := inwS_len es u 4
    have a3 := inwS_len es u 5
    omega
  rcases Nat.lt_or_ge k 3 with hk | hk
  · have c1 := hs 0
    have c2 := hs 1
    have c3 := hs 2
    have : k = 0 ∨ k = 1 ∨ k = 2 := by omega
    rcases this with e | e | e <;> subst e
    · exact Nat.le_trans c1 (Nat.le_trans c2 (Nat.le_trans c3 h3))
    · exact Nat.le_trans c2 (Nat.le_trans c3 h3)
    · exact Nat.le_trans c3 h3
  · have h1 : relsB.take k = relsB := List.take_of_length_le (by unfold relsB; simpa using hk)
    have h2 : backK es u t k = backK es u t 3 := by unfold backK; rw [h1]; rfl
    rw [h2]; exact h3
set_option maxRecDepth 100000 in
set_option maxHeartbeats 4000000 in
theorem back_any (An Ae Au Ah : Option Addr) (nn cn ce cu ch : Nat) (es : List Ed) (up half : List Str) (u : Str) (t : Int) (w : World) (hr : Rd w w.heap.size 3 Ae es.length (edsC es)) (hl : es.length ≤ 10000) (hu : SIn w Au up) (hh : SIn w Ah half) :
    Calls Tryz.prog 180 #[askV An nn cn Ae es.length ce Au up.length cu Ah half.length ch, sv u, .int .i64 t] w (OwnB (backB es up half u t) w) := by
  obtain ⟨i0, hi, hz0, hz1, hz2⟩ := info_parts infoBr
  have Hr := Lib.hid hr
  have Hu := Lib.hid hu
  have Hh := Lib.hid hh
  clear hr hu hh
  go_enter Tryz.func180, Tryz.ntmps180
  go_wp2_with fail
  first | (refine wp_named ?_; intro W1 hW) | (refine calls_named ?_; intro W1 hW)
  have B1 : Below w.heap.size w W1 := by rw [hW]; exact (by repeat (first | exact Below.refl _ _ | assumption | refine Below.alloc ?_ (by first | omega | (simp <;> omega)) _ | refine Below.setCell ?_ (by first | omega | (simp <;> omega)) _ | refine Below.drew ?_))
  replace Hr := Lib.hid (Hr.out.at B1)
  replace Hu := Lib.hid (Hu.out.at B1)
  replace Hh := Lib.hid (Hh.out.at B1)
  have n1 : w.heap.size < W1.heap.size := by rw [hW]; simp <;> omega
  have n2 : (w.heap.size + 1) < W1.heap.size := by rw [hW]; simp <;> omega
  have g0 : W1.cell? ⟨w.heap.size, 0, none⟩ = some (.slice An nn cn) := by rw [hW]; go_simp
  have g1 : W1.cell? ⟨w.heap.size, 1, none⟩ = some (.slice Ae es.length ce) := by rw [hW]; go_simp
  have g2 : W1.cell? ⟨w.heap.size, 2, none⟩ = some (.slice Au up.length cu) := by rw [hW]; go_simp
  have g3 : W1.cell? ⟨w.heap.size, 3, none⟩ = some (.slice Ah half.length ch) := by rw [hW]; go_simp
  have r0 : W1.cell? ⟨(w.heap.size + 1), 0, none⟩ = some (.int .i64 1) := by rw [hW]; go_simp
  have r1 : W1.cell? ⟨(w.heap.size + 1), 1, none⟩ = some (.int .i64 4) := by rw [hW]; go_simp
  have r2 : W1.cell? ⟨(w.heap.size + 1), 2, none⟩ = some (.int .i64 5) := by rw [hW]; go_simp
  clear hW
  have HB1 := Lib.hid B1
  clear B1
  have hsB : SaysBr 213 #[.pointer (some ⟨w.heap.size, 0, none⟩)] (fun b => !upB up half b.1.1) W1.heap.size W1 :=
    ⟨enters_of Tryz.func213 (by kernel_rfl) rfl, fun W s t' n hW => by
      have q0 := (hW.cell (p := ⟨w.heap.size, 0, none⟩) n1).trans g0
      have q1 := (hW.cell (p := ⟨w.heap.size, 1, none⟩) n1).trans g1
      have q2 := (hW.cell (p := ⟨w.heap.size, 2, none⟩) n1).trans g2
      have q3 := (hW.cell (p := ⟨w.heap.size, 3, none⟩) n1).trans g3
      exact back1_any An Ae Au Ah nn cn es.length ce cu ch up half w.heap.size s t' n W (Hu.out.at hW) (Hh.out.at hW) q0 q1 q2 q3⟩
  have HsB := Lib.hid hsB
  clear hsB
  go_loopw [7, 12] (fun v i wr => ∃ k : Nat, k ≤ 3 ∧ i = .int .i64 k ∧ wr.ownsRow W1.heap.size 145 3 v (backK es u t k).length (brsC (backK es u t k)) ∧ Below W1.heap.size W1 wr) (fun _ i _ => 3 - (intOf i).toNat)
  case atStart => exact ⟨0, Nat.zero_le _, rfl, World.ownsRow_nil _ _ _ _, Below.refl _ _⟩
  case round =>
    obtain ⟨k, hk, rfl, hown, hbel⟩ := hrel
    have HB := Lib.hid hbel
    have HO := Lib.hid hown
    have hlen := backK_len es u t k
    replace g0 := cellAt g0 hbel (by omega)
    replace g1 := cellAt g1 hbel (by omega)
    replace g2 := cellAt g2 hbel (by omega)
    replace g3 := cellAt g3 hbel (by omega)
    replace r0 := cellAt r0 hbel (by omega)
    replace r1 := cellAt r1 hbel (by omega)
    replace r2 := cellAt r2 hbel (by omega)
    replace Hr := Lib.hid (Hr.out.at hbel)
    replace Hu := Lib.hid (Hu.out.at hbel)
    replace Hh := Lib.hid (Hh.out.at hbel)
    replace n1 : w.heap.size < wr.heap.size := ltAt n1 hbel
    replace n2 : (w.heap.size + 1) < wr.heap.size := ltAt n2 hbel
    clear hbel hown
    by_cases hlt : k < 3
    · have hks := backK_succ (es := es) (u := u) (t := t) (k := k) hlt
      have hlen2 := backK_len es u t (k + 1)
      rw [hks, List.length_append] at hlen2
      have hcell : wr.cell? ⟨w.heap.size + 1, k, none⟩ = some (.int .i64 (relsB[k]'hlt)) := by
        have : k = 0 ∨ k = 1 ∨ k = 2 := by omega
        rcases this with e | e | e <;> subst e <;> assumption
      generalize relsB[k]'hlt = r at hks hlen2 hcell
      have HKs := Lib.hid hks
      clear hks r0 r1 r2
      obtain ⟨Av, cv, hv, _⟩ := own_rd HO.out
      subst hv
      have m1 : (0 : Int) ≤ (k : Int) := by omega
      have m2 : (k : Int) < 3 := by omega
      go_wp2_with fail
      refine (GIn_any An Ae nn cn ce es u r wr Hr.out (by omega)).mono ?_
      rintro e w2 ⟨A2, c2, rfl, ho2, hb⟩
      have HS2 := Lib.hid (own_rd' ho2)
      have HB2 := Lib.hid (HB.out.trans (hb.mono HB.out.size))
      replace g0 := cellAt g0 hb (by omega)
      replace g1 := cellAt g1 hb (by omega)
      replace g2 := cellAt g2 hb (by omega)
      replace g3 := cellAt g3 hb (by omega)
      replace hcell := cellAt hcell hb (by omega)
      replace Hr := Lib.hid (Hr.out.at hb)
      replace Hu := Lib.hid (Hu.out.at hb)
      replace Hh := Lib.hid (Hh.out.at hb)
      replace n1 : w.heap.size < w2.heap.size := ltAt n1 hb
      replace n2 : (w.heap.size + 1) < w2.heap.size := ltAt n2 hb
      replace HO := Lib.hid (own_on HO.out hb)
      clear hb ho2
      have hln := inwS_len es u r
      go_wp2_with fail
      refine (some_any A2 c2 (inwS es u r) t true w2 HS2.out (by omega)).mono ?_
      rintro e w3 ⟨A3, c3, rfl, ho3, hb⟩
      have HS3 := Lib.hid (own_rd' ho3)
      have HB3 := Lib.hid (HB2.out.trans (hb.mono HB2.out.size))
      replace g0 := cellAt g0 hb (by omega)
      replace g1 := cellAt g1 hb (by omega)
      replace g2 := cellAt g2 hb (by omega)
      replace g3 := cellAt g3 hb (by omega)
      replace hcell := cellAt hcell hb (by omega)
      replace Hr := Lib.hid (Hr.out.at hb)
      replace Hu := Lib.hid (Hu.out.at hb)
      replace Hh := Lib.hid (Hh.out.at hb)
      replace n1 : w.heap.size < w3.heap.size := ltAt n1 hb
      replace n2 : (w.heap.size + 1) < w3.heap.size := ltAt n2 hb
      replace HO := Lib.hid (own_on HO.out hb)
      clear hb ho3
      have hsz3 : W1.heap.size ≤ w3.heap.size := HB3.out.size
      have h63 : (backK es u t k).length + (eachB (inwS es u r) t true).length ≤ maxLen := by unfold maxLen; omega
      have hby : ((backK es u t k).length + (eachB (inwS es u r) t true).length) * 32 ≤ 140737488355328 := by omega
      generalize eachB (inwS es u r) t true = l at *
      generalize backK es u t k = L at *
      go_wp2_with (first
        | (at_builtin; refine wpList_append_rd _ (by rfl) (.tmp 16) (.tmp 23) 175 (by rfl) W1.heap.size 145 i0 _ 3 32 Tryz.underlying175 hi hz0 hz1 hz2 rfl (by decide) _ L.length (brsC L) (by rfl) HO.out _ A3 l.length c3 (brsC l) (by rfl) HS3.out (one_brsC l) h63 hby hsz3 ?_; intro A7 c7 w7 ho7 hg7 hat7)
        | fail)
      go_roundw
      case rel => exact ⟨k + 1, by omega, by go_num, by rw [HKs.out, List.length_append, brsC_app]; exact ho7, HB3.out.grown hg7 hsz3 (fun j hj => (HO.out.lt j hj).1)⟩
      case measure => simp [intOf]; omega
    · have hk3 : k = 3 := by omega
      subst hk3
      have hend := backK_end es u t
      generalize backK es u t 3 = L3 at *
      have HEnd := Lib.hid hend
      clear hend
      obtain ⟨Av, cv, hv, _⟩ := own_rd HO.out
      subst hv
      go_wp2_with fail
      refine (DeleteFuncB_own W1.heap.size cv (L3).length Av (L3) _ _ (fun b => !upB up half b.1.1) W1 wr HO.out rfl (by omega) HsB.out HB.out HB.out.size).mono ?_
      rintro e w9 ⟨A9, c9, rfl, ho9, hb9⟩
      have hfl : (L3).filter (fun s => !(!upB up half s.1.1)) = backB es up half u t := by
        rw [HEnd.out]; unfold backB; simp only [Bool.not_not]
      rw [hfl] at ho9
      have HF := Lib.hid (show (L3).filter (fun s => upB up half s.1.1) = backB es up half u t by rw [← hfl]; simp only [Bool.not_not])
      have HO9 := Lib.hid ho9
      have HB9 := Lib.hid hb9
      clear ho9 hb9 hfl
      go_wp2_with fail
      go_ret
      rw [HF.out]
      exact ⟨A9, c9, rfl, HO9.out.mono HB1.out.size, lift HB1.out HB9.out⟩
end Od
end Go.Proofs.YtbllehjhmfehbaaGreat
end

section
/- (asker).brings: what a job brings. (bel2) -/
namespace Go.Proofs.YtbllehjhmfehbaaGreat
open Go.RowKit Go.Sort
set_option linter.unusedSimpArgs false
namespace Od
theorem backB_len (es : List Ed) (up half : List Str) (u : Str) (t : Int) : (backB es up half u t).length ≤ 3 * es.length := by
  unfold backB
  refine Nat.le_trans (List.length_filter_le _ _) ?_
  have := backK_len es u t 3
  rwa [backK_end] at this
theorem bringB_len (es : List Ed) (up half : List Str) (j : Jp) : (bringB es up half j).length ≤ 8 * es.length := by
  unfold bringB
  have h1 := startB_len es j.1
  have h2 := backB_len es up half j.1 2
  have h3 := backB_len es up half j.1 3
  split
  · omega
  · split
    · omega
    · split
      · rw [List.length_append]; omega
      · simp
set_option maxRecDepth 100000 in
set_option maxHeartbeats 4000000 in
theorem brings_any (An Ae Au Ah : Option Addr) (nn cn ce cu ch : Nat) (es : List Ed) (up half : List Str) (u : Str) (t : Int) (w : World) (hr : Rd w w.heap.size 3 Ae es.length (edsC es)) (hl : es.length ≤ 10000) (hu : SIn w Au up) (hh : SIn w Ah half) :
    Calls Tryz.prog 125 #[askV An nn cn Ae es.length ce Au up.length cu Ah half.length ch, .agg #[sv u, .int .i64 t]] w (OwnB (bringB es up half (u, t)) w) := by
  obtain ⟨i0, hi, hz0, hz1, hz2⟩ := info_parts infoBr
  have Hr := Lib.hid hr
  have Hu := Lib.hid hu
  have Hh := Lib.hid hh
  clear hr hu hh
  go_enter Tryz.func125, Tryz.ntmps125
  by_cases h1 : t = 1
  · subst h1
    have HF := Lib.hid (show startB es u = bringB es up half (u, 1) by unfold bringB; rw [if_pos rfl])
    go_wp2_with fail
    first | (refine wp_named ?_; intro W1 hW) | (refine calls_named ?_; intro W1 hW)
    have B1 : Below w.heap.size w W1 := by rw [hW]; exact (by repeat (first | exact Below.refl _ _ | assumption | refine Below.alloc ?_ (by first | omega | (simp <;> omega)) _ | refine Below.setCell ?_ (by first | omega | (simp <;> omega)) _ | refine Below.drew ?_))
    replace Hr := Lib.hid (Hr.out.at B1)
    replace Hu := Lib.hid (Hu.out.at B1)
    replace Hh := Lib.hid (Hh.out.at B1)
    have n1 : w.heap.size < W1.heap.size := by rw [hW]; simp <;> omega
    have n2 : (w.heap.size + 1) < W1.heap.size := by rw [hW]; simp <;> omega
    have g0 : W1.cell? ⟨w.heap.size, 0, none⟩ = some (.slice An nn cn) := by rw [hW]; go_simp
    have g1 : W1.cell? ⟨w.heap.size, 1, none⟩ = some (.slice Ae es.length ce) := by rw [hW]; go_simp
    have g2 : W1.cell? ⟨w.heap.size, 2, none⟩ = some (.slice Au up.length cu) := by rw [hW]; go_simp
    have g3 : W1.cell? ⟨w.heap.size, 3, none⟩ = some (.slice Ah half.length ch) := by rw [hW]; go_simp
    have r0 : W1.cell? ⟨(w.heap.size + 1), 0, none⟩ = some (sv u) := by rw [hW]; go_simp
    have r1 : W1.cell? ⟨(w.heap.size + 1), 1, none⟩ = some (.int .i64 1) := by rw [hW]; go_simp
    clear hW
    have HB1 := Lib.hid B1
    clear B1
    refine (start_any An Ae Au Ah nn cn ce up.length cu half.length ch es u W1 Hr.out hl).mono ?_
    rintro e w2 ⟨A2, c2, rfl, ho2, hb⟩
    have HO := Lib.hid (own_base ho2 HB1.out.size)
    have HB := Lib.hid (lift HB1.out hb)
    clear ho2 hb
    go_wp2_with fail
    go_ret
    rw [← HF.out]
    exact ⟨A2, c2, rfl, HO.out, HB.out⟩
  by_cases h2 : t = 2
  · subst h2
    have HF := Lib.hid (show backB es up half u 2 = bringB es up half (u, 2) by simp [bringB])
    go_wp2_with fail
    first | (refine wp_named ?_; intro W1 hW) | (refine calls_named ?_; intro W1 hW)
    have B1 : Below w.heap.size w W1 := by rw [hW]; exact (by repeat (first | exact Below.refl _ _ | assumption | refine Below.alloc ?_ (by first | omega | (simp <;> omega)) _ | refine Below.setCell ?_ (by first | omega | (simp <;> omega)) _ | refine Below.drew ?_))
    replace Hr := Lib.hid (Hr.out.at B1)
    replace Hu := Lib.hid (Hu.out.at B1)
    replace Hh := Lib.hid (Hh.out.at B1)
    have n1 : w.heap.size < W1.heap.size := by rw [hW]; simp <;> omega
    have n2 : (w.heap.size + 1) < W1.heap.size := by rw [hW]; simp <;> omega
    have g0 : W1.cell? ⟨w.heap.size, 0, none⟩ = some (.slice An nn cn) := by rw [hW]; go_simp
    have g1 : W1.cell? ⟨w.heap.size, 1, none⟩ = some (.slice Ae es.length ce) := by rw [hW]; go_simp
    have g2 : W1.cell? ⟨w.heap.size, 2, none⟩ = some (.slice Au up.length cu) := by rw [hW]; go_simp
    have g3 : W1.cell? ⟨w.heap.size, 3, none⟩ = some (.slice Ah half.length ch) := by rw [hW]; go_simp
    have r0 : W1.cell? ⟨(w.heap.size + 1), 0, none⟩ = some (sv u) := by rw [hW]; go_simp
    have r1 : W1.cell? ⟨(w.heap.size + 1), 1, none⟩ = some (.int .i64 2) := by rw [hW]; go_simp
    clear hW
    have HB1 := Lib.hid B1
    clear B1
    refine (back_any An Ae Au Ah nn cn ce cu ch es up half u 2 W1 Hr.out hl Hu.out Hh.out).mono ?_
    rintro e w2 ⟨A2, c2, rfl, ho2, hb⟩
    have HO := Lib.hid (own_base ho2 HB1.out.size)
    have HB := Lib.hid (lift HB1.out hb)
    clear ho2 hb
    go_wp2_with fail
    go_ret
    rw [← HF.out]
    exact ⟨A2, c2, rfl, HO.out, HB.out⟩
  by_cases h3 : t = 3
  · subst h3
    have HF := Lib.hid (show startB es u ++ backB es up half u 3 = bringB es up half (u, 3) by simp [bringB])
    have hl1 := startB_len es u
    have hl2 := backB_len es up half u 3
    have h63 : (startB es u).length + (backB es up half u 3).length ≤ maxLen := by unfold maxLen; omega
    have hby : ((startB es u).length + (backB es up half u 3).length) * 32 ≤ 140737488355328 := by omega
    have HL := Lib.hid (And.intro h63 hby)
    clear h63 hby
    go_wp2_with fail
    first | (refine wp_named ?_; intro W1 hW) | (refine calls_named ?_; intro W1 hW)
    have B1 : Below w.heap.size w W1 := by rw [hW]; exact (by repeat (first | exact Below.refl _ _ | assumption | refine Below.alloc ?_ (by first | omega | (simp <;> omega)) _ | refine Below.setCell ?_ (by first | omega | (simp <;> omega)) _ | refine Below.drew ?_))
    replace Hr := Lib.hid (Hr.out.at B1)
    replace Hu := Lib.hid (Hu.out.at B1)
    replace Hh := Lib.hid (Hh.out.at B1)
    have n1 : w.heap.size < W1.heap.size := by rw [hW]; simp <;> omega
    have n2 : (w.heap.size + 1) < W1.heap.size := by rw [hW]; simp <;> omega
    have g0 : W1.cell? ⟨w.heap.size, 0, none⟩ = some (.slice An nn cn) := by rw [hW]; go_simp
    have g1 : W1.cell? ⟨w.heap.size, 1, none⟩ = some (.slice Ae es.length ce) := by rw [hW]; go_simp
    have g2 : W1.cell? ⟨w.heap.size, 2, none⟩ = some (.slice Au up.length cu) := by rw [hW]; go_simp
    have g3 : W1.cell? ⟨w.heap.size, 3, none⟩ = some (.slice Ah half.length ch) := by rw [hW]; go_simp
    have r0 : W1.cell? ⟨(w.heap.size + 1), 0, none⟩ = some (sv u) := by rw [hW]; go_simp
    have r1 : W1.cell? ⟨(w.heap.size + 1), 1, none⟩ = some (.int .i64 3) := by rw [hW]; go_simp
    clear hW
    have HB1 := Lib.hid B1
    clear B1
    try go_wp2_with fail
    refine wp_region_held_drew (S := fun w' => Below W1.heap.size W1 w') (by kernel_rfl) (Below.drew (Below.refl _ _)) (fun hHeld => ?_)
    refine tY (i := 0) (v := ?_) rfl ?_ hHeld ?_; rotate_left 1; focus (intro w' hSw; have hCell := fun (b o : Nat) (h : b < W1.heap.size) => hSw.cell (p := ⟨b, o, none⟩) h; clear hSw; go_simp; try with_reducible rfl)
    (try simp only [Act.put, zn1, zn2, zn3])
    refine tY (i := 1) (v := ?_) rfl ?_ hHeld ?_; rotate_left 1; focus (intro w' hSw; clear hSw; go_simp; try with_reducible rfl)
    (try simp only [Act.put, zn1, zn2, zn3])
    refine tY (i := 2) (v := ?_) rfl ?_ hHeld ?_; rotate_left 1; focus (intro w' hSw; have hCell := fun (b o : Nat) (h : b < W1.heap.size) => hSw.cell (p := ⟨b, o, none⟩) h; clear hSw; go_simp; try with_reducible rfl)
    (try simp only [Act.put, zn1, zn2, zn3])
    refine tY (i := 4) (v := ?_) rfl ?_ hHeld ?_; rotate_left 1; focus (intro w' hSw; have hCell := fun (b o : Nat) (h : b < W1.heap.size) => hSw.cell (p := ⟨b, o, none⟩) h; clear hSw; go_simp; try with_reducible rfl)
    (try simp only [Act.put, zn1, zn2, zn3])
    refine tY (i := 5) (v := ?_) rfl ?_ hHeld ?_; rotate_left 1; focus (intro w' hSw; clear hSw; go_simp; try with_reducible rfl)
    (try simp only [Act.put, zn1, zn2, zn3])
    refine tY (i := 6) (v := ?_) rfl ?_ hHeld ?_; rotate_left 1; focus (intro w' hSw; have hCell := fun (b o : Nat) (h : b < W1.heap.size) => hSw.cell (p := ⟨b, o, none⟩) h; clear hSw; go_simp; try with_reducible rfl)
    (try simp only [Act.put, zn1, zn2, zn3])
    refine ready_one (i := 3) rfl (by kernel_rfl) (fun K hK => ?_)
    go_simp
    refine (start_any An Ae Au Ah nn cn ce up.length cu half.length ch es u _ (Hr.out.at hHeld) hl).mono ?_
    rintro e y1 ⟨A1, c1, rfl, ho1, hb⟩
    have HO1 := Lib.hid (own_base ho1 hHeld.size)
    clear ho1
    refine hK.out _ _ ?_ (fun hHeld2 => ?_)
    · (try dsimp only); first | exact Below.trans hHeld (Below.mono hb hHeld.size) | exact hHeld | exact Below.drew hHeld | exact (by repeat (first | exact Below.refl _ _ | assumption | refine Below.alloc ?_ (by first | omega | (simp <;> omega)) _ | refine Below.setCell ?_ (by first | omega | (simp <;> omega)) _ | refine Below.drew ?_))
    clear hK K hHeld; have hHeld := hHeld2; clear hHeld2; (try simp only [Act.put, zn1, zn2, zn3])
    refine ready_one (i := 7) rfl (by kernel_rfl) (fun K hK => ?_)
    go_simp
    refine (back_any An Ae Au Ah nn cn ce cu ch es up half u 3 _ (Hr.out.at hHeld) hl (Hu.out.at hHeld) (Hh.out.at hHeld)).mono ?_
    rintro e y2 ⟨A2, c2, rfl, ho2, hb⟩
    have HO2 := Lib.hid (own_on HO1.out hb)
    have HS2 := Lib.hid (own_rd' ho2)
    clear ho2
    refine hK.out _ _ ?_ (fun hHeld2 => ?_)
    · (try dsimp only); first | exact Below.trans hHeld (Below.mono hb hHeld.size) | exact hHeld | exact Below.drew hHeld | exact (by repeat (first | exact Below.refl _ _ | assumption | refine Below.alloc ?_ (by first | omega | (simp <;> omega)) _ | refine Below.setCell ?_ (by first | omega | (simp <;> omega)) _ | refine Below.drew ?_))
    clear hK K hHeld; have hHeld := hHeld2; clear hHeld2; (try simp only [Act.put, zn1, zn2, zn3])
    refine ready_one (i := 8) rfl (by kernel_rfl) (fun K hK => ?_)
    refine step_append_rd _ (by rfl) (.tmp 24) (.tmp 28) 175 (by rfl) W1.heap.size 145 i0 _ 3 32 Tryz.underlying175 hi hz0 hz1 hz2 rfl (by decide) _ (startB es u).length (brsC (startB es u)) (by rfl) HO2.out _ A2 (backB es up half u 3).length c2 (brsC (backB es up half u 3)) (by rfl) HS2.out (one_brsC _) HL.out.1 HL.out.2 hHeld.size ?_
    intro A7 c7 w7 ho7 hg7 hat7
    replace hHeld := hHeld.grown hg7 hHeld.size (fun j hj => (HO2.out.lt j hj).1)
    have HO7 := Lib.hid ho7
    clear ho7 hg7 hat7
    refine hK.out _ _ ?_ (fun hHeld2 => ?_)
    · (try dsimp only); first | exact Below.trans hHeld (Below.mono hb hHeld.size) | exact hHeld | exact Below.drew hHeld | exact (by repeat (first | exact Below.refl _ _ | assumption | refine Below.alloc ?_ (by first | omega | (simp <;> omega)) _ | refine Below.setCell ?_ (by first | omega | (simp <;> omega)) _ | refine Below.drew ?_))
    clear hK K hHeld; have hHeld := hHeld2; clear hHeld2; (try simp only [Act.put, zn1, zn2, zn3])
    refine tY (i := 9) (v := ?_) rfl ?_ hHeld ?_; rotate_left 1; focus (intro w' hSw; clear hSw; go_simp; try with_reducible rfl)
    (try simp only [Act.put, zn1, zn2, zn3])
    refine wpAnyH_done (by kernel_rfl) ?_ _
    go_wp2_with fail
    go_ret
    rw [← HF.out]
    exact ⟨A7, c7, by rw [List.length_append]; rfl, by rw [List.length_append, brsC_app]; exact own_base HO7.out HB1.out.size, lift HB1.out hHeld⟩
  · have HF := Lib.hid (show ([] : List Bg) = bringB es up half (u, t) by unfold bringB; rw [if_neg h1, if_neg h2, if_neg h3])
    have b1 : (t == 1) = false := by simpa using h1
    have b2 : (t == 2) = false := by simpa using h2
    have b3 : (t == 3) = false := by simpa using h3
    go_wp2_with fail
    go_ret
    rw [← HF.out]
    exact ⟨none, 0, rfl, World.ownsRow_nil _ _ _ _, ((Below.refl _ _).alloc (Nat.le_refl _) _).alloc (by simp) _⟩
end Od
end Go.Proofs.YtbllehjhmfehbaaGreat
end

section
/- (*closure).each: what a job brings and is not left out is handed to a taker, whatever the taker keeps. (bel2) -/
namespace Go.Proofs.YtbllehjhmfehbaaGreat
open Go.RowKit Go.Sort Go.Maps
set_option linter.unusedSimpArgs false
namespace Od
def outV (out : Jp → Bool) (k : Jp) : Option Value := if out k = true then some (.bool true) else none
theorem outV_get (out : Jp → Bool) (k : Jp) : (outV out k).getD (.bool false) = .bool (out k) := by
  unfold outV; cases h : out k <;> simp
/-- A closure, and what it was asked with. -/
structure ClosAt (w : World) (cb mw B : Nat) (An Ae Au Ah : Option Addr) (nn cn ce cu ch : Nat) (es : List Ed) (up half : List Str) (out : Jp → Bool) : Prop where
  c0 : w.cell? ⟨cb, 0, none⟩ = some (.slice An nn cn)
  c1 : w.cell? ⟨cb, 1, none⟩ = some (.slice Ae es.length ce)
  c2 : w.cell? ⟨cb, 2, none⟩ = some (.slice Au up.length cu)
  c3 : w.cell? ⟨cb, 3, none⟩ = some (.slice Ah half.length ch)
  c4 : w.cell? ⟨cb, 4, none⟩ = some (.map (some mw))
  mp : ∃ n, MapIs kindJ w mw n (outV out)
  re : Rd w B 3 Ae es.length (edsC es)
  el : es.length ≤ 10000
  ru : Rd w B 1 Au up.length (svs up)
  ul : up.length ≤ 140737488355328
  rh : Rd w B 1 Ah half.length (svs half)
  hl : half.length ≤ 140737488355328
  lb : B ≤ w.heap.size
section
variable {w w' : World} {cb mw B : Nat} {An Ae Au Ah : Option Addr} {nn cn ce cu ch : Nat} {es : List Ed} {up half : List Str} {out : Jp → Bool}
theorem ClosAt.lt (h : ClosAt w cb mw B An Ae Au Ah nn cn ce cu ch es up half out) : cb < w.heap.size := cell_blk h.c0
theorem ClosAt.mlt (h : ClosAt w cb mw B An Ae Au Ah nn cn ce cu ch es up half out) : mw < w.heap.size := by obtain ⟨n, h⟩ := h.mp; exact h.lt
theorem ClosAt.kept (h : ClosAt w cb mw B An Ae Au Ah nn cn ce cu ch es up half out) {F F' : Nat → Prop} (hk : TookB F F' w w') (hF : ∀ k, F k → B ≤ k ∧ k ≠ cb ∧ k ≠ mw) : ClosAt w' cb mw B An Ae Au Ah nn cn ce cu ch es up half out := by
  have hc : ∀ o, w'.cell? ⟨cb, o, none⟩ = w.cell? ⟨cb, o, none⟩ := fun o => World.cell?_of_block (a := ⟨cb, o, none⟩) (hk.1.block cb ⟨h.lt, fun hf => (hF _ hf).2.1 rfl⟩)
  have hr : ∀ {k n : Nat} {A : Option Addr} {xs : List Value}, Rd w B k A n xs → Rd w' B k A n xs := fun hr => hr.keep fun p hp => World.cell?_of_block (hk.1.block p.block ⟨by have := h.lb; omega, fun hf => by have := (hF _ hf).1; omega⟩)
  obtain ⟨n, hm⟩ := h.mp
  exact ⟨(hc 0).trans h.c0, (hc 1).trans h.c1, (hc 2).trans h.c2, (hc 3).trans h.c3, (hc 4).trans h.c4, ⟨n, hm.same (hk.1.block mw ⟨hm.lt, fun hf => (hF _ hf).2.2 rfl⟩)⟩, hr h.re, h.el, hr h.ru, h.ul, hr h.rh, h.hl, Nat.le_trans h.lb hk.1.size⟩
theorem ClosAt.on (h : ClosAt w cb mw B An Ae Au Ah nn cn ce cu ch es up half out) (hb : Below w.heap.size w w') : ClosAt w' cb mw B An Ae Au Ah nn cn ce cu ch es up half out :=
  h.kept (F := fun _ => False) (TookB.below hb) (fun _ h => h.elim)
theorem ClosAt.rd (h : ClosAt w cb mw B An Ae Au Ah nn cn ce cu ch es up half out) : Rd w w.heap.size 3 Ae es.length (edsC es) := h.re.more h.lb
theorem ClosAt.sup (h : ClosAt w cb mw B An Ae Au Ah nn cn ce cu ch es up half out) : SIn w Au up := ⟨h.ru.more h.lb, h.ul⟩
theorem ClosAt.sha (h : ClosAt w cb mw B An Ae Au Ah nn cn ce cu ch es up half out) : SIn w Ah half := ⟨h.rh.more h.lb, h.hl⟩
end
/-- A taker: a state S of what it has taken (D), the blocks F that are its own, the world. -/
structure TakesB (g : Nat) (caps : Array Value) (cb mw B : Nat) (cand : List Jp) (S : List Bg → (Nat → Prop) → World → Prop) : Prop where
  enters : ∀ (args : Array Value) (W : World), (callFunc g args).run Tryz.prog W = .ok (.enter g args) W
  on : ∀ D F W W', S D F W → Below W.heap.size W W' → S D F W'
  low : ∀ D F W, S D F W → ∀ k, F k → (B ≤ k ∧ k ≠ cb ∧ k ≠ mw) ∧ k < W.heap.size
  says : ∀ D F W (s : Str) (t : Int) (n : Bool), S D F W → (s, t) ∈ cand → Calls Tryz.prog g (#[.agg #[sv s, .int .i64 t, .bool n]] ++ caps) W fun e w' => e = .returned (.tuple #[]) ∧ ∃ F', S (D ++ [((s, t), n)]) F' w' ∧ TookB F F' W w'
def EachRet (S : List Bg → (Nat → Prop) → World → Prop) (D : List Bg) (F : Nat → Prop) (w : World) (e : Ending) (w' : World) : Prop := e = .returned (.tuple #[]) ∧ ∃ F', S D F' w' ∧ TookB F F' w w'
theorem filter_take1 {α : Type} {p : α → Bool} {L : List α} {k : Nat} (h : k < L.length) : (L.take (k + 1)).filter p = (L.take k).filter p ++ (if p L[k] = true then [L[k]] else []) := by
  rw [List.take_succ_eq_append_getElem h, List.filter_append, List.filter_cons]
  split <;> simp
set_option maxRecDepth 100000 in
set_option maxHeartbeats 8000000 in
theorem each_any (g : Nat) (caps : Array Value) (S : List Bg → (Nat → Prop) → World → Prop) (cb mw B : Nat) (An Ae Au Ah : Option Addr) (nn cn ce cu ch : Nat) (es : List Ed) (up half : List Str) (out : Jp → Bool) (u : Str) (t : Int) (D : List Bg) (F : Nat → Prop) (w : World)
    (hp : TakesB g caps cb mw B (candB es) S) (hS : S D F w) (hcl : ClosAt w cb mw B An Ae Au Ah nn cn ce cu ch es up half out) (hok : ∀ k ∈ candB es, okJ k) :
    Calls Tryz.prog 88 #[.pointer (some ⟨cb, 0, none⟩), .agg #[sv u, .int .i64 t], .func (.func g) #[] caps] w (EachRet S (D ++ (bringB es up half (u, t)).filter (fun b => !out b.1)) F w) := by
  have HP := Lib.hid hp
  have HS := Lib.hid hS
  have HC := Lib.hid hcl
  have HK := Lib.hid hok
  have eg := hp.enters
  have hcl0 := hcl.lt
  have hml0 := hcl.mlt
  have c0 := hcl.c0
  have c1 := hcl.c1
  have c2 := hcl.c2
  have c3 := hcl.c3
  have c4 := hcl.c4
  have HLow := Lib.hid (hp.low D F w hS)
  clear hp hS hcl hok
  go_enter Tryz.func88, Tryz.ntmps88
  go_wp2_with fail
  first | (refine wp_named ?_; intro W1 hW) | (refine calls_named ?_; intro W1 hW)
  have B1 : Below w.heap.size w W1 := by rw [hW]; exact (by repeat (first | exact Below.refl _ _ | assumption | refine Below.alloc ?_ (by first | omega | (simp <;> omega)) _ | refine Below.setCell ?_ (by first | omega | (simp <;> omega)) _ | refine Below.drew ?_))
  replace c0 := cellAt c0 B1 (by omega)
  replace c1 := cellAt c1 B1 (by omega)
  replace c2 := cellAt c2 B1 (by omega)
  replace c3 := cellAt c3 B1 (by omega)
  replace c4 := cellAt c4 B1 (by omega)
  replace HS := Lib.hid ((HP.out.on _ _ _ _ HS.out B1))
  replace HC := Lib.hid (HC.out.on B1)
  replace hcl0 : cb < W1.heap.size := ltAt hcl0 B1
  replace hml0 : mw < W1.heap.size := ltAt hml0 B1
  have n1 : w.heap.size < W1.heap.size := by rw [hW]; simp <;> omega
  have r0 : W1.cell? ⟨w.heap.size, 0, none⟩ = some (sv u) := by rw [hW]; go_simp
  have r1 : W1.cell? ⟨w.heap.size, 1, none⟩ = some (.int .i64 t) := by rw [hW]; go_simp
  clear hW
  have HB1 := Lib.hid B1
  have hz1 := B1.size
  clear B1
  try go_wp2_with fail
  refine wp_region_held_drew (S := fun w' => Below W1.heap.size W1 w') (by kernel_rfl) (Below.drew (Below.refl _ _)) (fun hHeld => ?_)
  refine tY (i := 0) (v := ?_) rfl ?_ hHeld ?_; rotate_left 1; focus (intro w' hSw; clear hSw; go_simp; try with_reducible rfl)
  (try simp only [Act.put, zn1, zn2, zn3])
  refine tY (i := 1) (v := ?_) rfl ?_ hHeld ?_; rotate_left 1; focus (intro w' hSw; clear hSw; go_simp; try with_reducible rfl)
  (try simp only [Act.put, zn1, zn2, zn3])
  refine tY (i := 2) (v := ?_) rfl ?_ hHeld ?_; rotate_left 1; focus (intro w' hSw; clear hSw; go_simp; try with_reducible rfl)
  (try simp only [Act.put, zn1, zn2, zn3])
  refine tY (i := 3) (v := ?_) rfl ?_ hHeld ?_; rotate_left 1; focus (intro w' hSw; have hCell := fun (b o : Nat) (h : b < W1.heap.size) => hSw.cell (p := ⟨b, o, none⟩) h; clear hSw; go_simp; try with_reducible rfl)
  (try simp only [Act.put, zn1, zn2, zn3])
  refine tY (i := 4) (v := ?_) rfl ?_ hHeld ?_; rotate_left 1; focus (intro w' hSw; have hCell := fun (b o : Nat) (h : b < W1.heap.size) => hSw.cell (p := ⟨b, o, none⟩) h; clear hSw; go_simp; try with_reducible rfl)
  (try simp only [Act.put, zn1, zn2, zn3])
  refine tY (i := 7) (v := ?_) rfl ?_ hHeld ?_; rotate_left 1; focus (intro w' hSw; clear hSw; go_simp; try with_reducible rfl)
  (try simp only [Act.put, zn1, zn2, zn3])
  refine ready_one (i := 5) rfl (by kernel_rfl) (fun K hK => ?_)
  go_simp
  refine (brings_any An Ae Au Ah nn cn ce cu ch es up half u t _ (HC.out.on hHeld).rd HC.out.el (HC.out.on hHeld).sup (HC.out.on hHeld).sha).mono ?_
  rintro e w2 ⟨A2, c2', rfl, ho2, hb⟩
  have HO2 := Lib.hid (own_base ho2 hHeld.size)
  clear ho2
  refine hK.out _ _ ?_ (fun hHeld2 => ?_)
  · (try dsimp only); first | exact Below.trans hHeld (Below.mono hb hHeld.size) | exact hHeld | exact Below.drew hHeld | exact (by repeat (first | exact Below.refl _ _ | assumption | refine Below.alloc ?_ (by first | omega | (simp <;> omega)) _ | refine Below.setCell ?_ (by first | omega | (simp <;> omega)) _ | refine Below.drew ?_))
  clear hK K hHeld; have hHeld := hHeld2; clear hHeld2; (try simp only [Act.put, zn1, zn2, zn3])
  refine tY (i := 6) (v := ?_) rfl ?_ hHeld ?_; rotate_left 1; focus (intro w' hSw; clear hSw; go_simp; try with_reducible rfl)
  (try simp only [Act.put, zn1, zn2, zn3])
  refine wpAnyH_done (by kernel_rfl) ?_ _
  replace c0 := cellAt c0 hHeld (by omega)
  replace c1 := cellAt c1 hHeld (by omega)
  replace c2 := cellAt c2 hHeld (by omega)
  replace c3 := cellAt c3 hHeld (by omega)
  replace c4 := cellAt c4 hHeld (by omega)
  replace r0 := cellAt r0 hHeld (by omega)
  replace r1 := cellAt r1 hHeld (by omega)
  replace HS := Lib.hid ((HP.out.on _ _ _ _ HS.out hHeld))
  replace HC := Lib.hid (HC.out.on hHeld)
  replace hcl0 : cb < w2.heap.size := ltAt hcl0 hHeld
  replace hml0 : mw < w2.heap.size := ltAt hml0 hHeld
  replace n1 : w.heap.size < w2.heap.size := ltAt n1 hHeld
  have HB2 := Lib.hid (lift HB1.out hHeld)
  have hz2 := hHeld.size
  clear hHeld
  go_wp2_with fail
  have hbl := bringB_len es up half (u, t)
  have hel := HC.out.el
  have hcand : ∀ b ∈ bringB es up half (u, t), b.1 ∈ candB es := fun b hb => bring_cand (u, t) b hb
  have HCd := Lib.hid hcand
  clear hcand
  generalize hL : bringB es up half (u, t) = L at *
  have HLL := Lib.hid hL
  clear hL
  go_loopw [15] (fun i wr => ∃ (k : Nat) (F' : Nat → Prop), k ≤ L.length ∧ i = .int .i64 k ∧ Hid (S (D ++ (L.take k).filter (fun b => !out b.1)) F' wr) ∧ Hid (TookB F F' w2 wr)) (fun i _ => L.length - (intOf i).toNat)
  case atStart => exact ⟨0, F, Nat.zero_le _, rfl, by simpa [Hid] using HS.out, TookB.refl _ _⟩
  case round =>
    obtain ⟨k, F', hk, rfl, HSr, HTr⟩ := hrel
    have hFl : ∀ j, F j → (B ≤ j ∧ j ≠ cb ∧ j ≠ mw) ∧ j < w.heap.size := HLow.out
    have HCr := Lib.hid (HC.out.kept HTr.out (fun j hj => (hFl j hj).1))
    have hor : wr.ownsRow W1.heap.size 145 3 (.slice A2 L.length c2') L.length (brsC L) := HTr.out.1.own HO2.out fun j hj => by
      obtain ⟨h1, h2⟩ := HO2.out.lt j hj
      exact ⟨h2, fun hf => by have := (hFl j hf).2; omega⟩
    have hzr := HTr.out.1.size
    have d0 := HCr.out.c0
    have d1 := HCr.out.c1
    have d2 := HCr.out.c2
    have d3 := HCr.out.c3
    have d4 := HCr.out.c4
    have hclr := HCr.out.lt
    have hmlr := HCr.out.mlt
    clear c0 c1 c2 c3 c4
    by_cases hlt : k < L.length
    · obtain ⟨bb, o, hA, hB, x0, x1, x2⟩ := (own_rd' hor).br hlt
      subst hA
      have hft := filter_take1 (p := fun b : Bg => !out b.1) hlt
      have hca := HCd.out _ (List.getElem_mem hlt)
      generalize L[k] = x at x0 x1 x2 hft hca
      obtain ⟨⟨s, t'⟩, n⟩ := x
      simp only at x0 x1 x2 hft hca
      have hoj := HK.out _ hca
      have HFt := Lib.hid hft
      have HCa := Lib.hid hca
      have m1 : (0 : Int) ≤ (k : Int) := by omega
      have m2 : (k : Int) < (L.length : Int) := by omega
      clear hft hca hor
      go_wp2_with fail
      first | (refine wp_named ?_; intro W4 hW) | (refine calls_named ?_; intro W4 hW)
      have B4 : Below wr.heap.size wr W4 := by rw [hW]; exact (by repeat (first | exact Below.refl _ _ | assumption | refine Below.alloc ?_ (by first | omega | (simp <;> omega)) _ | refine Below.setCell ?_ (by first | omega | (simp <;> omega)) _ | refine Below.drew ?_))
      replace d0 := cellAt d0 B4 (by omega)
      replace d1 := cellAt d1 B4 (by omega)
      replace d2 := cellAt d2 B4 (by omega)
      replace d3 := cellAt d3 B4 (by omega)
      replace d4 := cellAt d4 B4 (by omega)
      replace HSr := Lib.hid ((HP.out.on _ _ _ _ HSr.out B4))
      replace HCr := Lib.hid (HCr.out.on B4)
      replace HTr := Lib.hid (HTr.out.then B4)
      replace hclr : cb < W4.heap.size := ltAt hclr B4
      replace hmlr : mw < W4.heap.size := ltAt hmlr B4
      have n4 : wr.heap.size < W4.heap.size := by rw [hW]; simp <;> omega
      have y0 : W4.cell? ⟨wr.heap.size, 0, none⟩ = some (sv s) := by rw [hW]; go_simp
      have y1 : W4.cell? ⟨wr.heap.size, 1, none⟩ = some (.int .i64 t') := by rw [hW]; go_simp
      have y2 : W4.cell? ⟨wr.heap.size, 2, none⟩ = some (.bool n) := by rw [hW]; go_simp
      clear hW
      clear B4 x0 x1 x2
      obtain ⟨nm, hmp⟩ := HCr.out.mp
      have HMp := Lib.hid hmp
      clear hmp
      try go_wp2_with fail
      refine wp_region_held_drew (S := fun w' => Below W4.heap.size W4 w') (by kernel_rfl) (Below.drew (Below.refl _ _)) (fun hHeld => ?_)
      refine tY (i := 0) (v := ?_) rfl ?_ hHeld ?_; rotate_left 1; focus (intro w' hSw; clear hSw; go_simp; try with_reducible rfl)
      (try simp only [Act.put, zn1, zn2, zn3])
      refine tY (i := 1) (v := ?_) rfl ?_ hHeld ?_; rotate_left 1; focus (intro w' hSw; clear hSw; go_simp; try with_reducible rfl)
      (try simp only [Act.put, zn1, zn2, zn3])
      refine tY (i := 2) (v := ?_) rfl ?_ hHeld ?_; rotate_left 1; focus (intro w' hSw; clear hSw; go_simp; try with_reducible rfl)
      (try simp only [Act.put, zn1, zn2, zn3])
      refine tY (i := 3) (v := ?_) rfl ?_ hHeld ?_; rotate_left 1; focus (intro w' hSw; have hCell := fun (b o : Nat) (h : b < W4.heap.size) => hSw.cell (p := ⟨b, o, none⟩) h; clear hSw; go_simp; try with_reducible rfl)
      (try simp only [Act.put, zn1, zn2, zn3])
      refine tY (i := 4) (v := ?_) rfl ?_ hHeld ?_; rotate_left 1; focus (intro w' hSw; clear hSw; go_simp; try with_reducible rfl)
      (try simp only [Act.put, zn1, zn2, zn3])
      refine tY (i := 5) (v := ?_) rfl ?_ hHeld ?_; rotate_left 1; focus (intro w' hSw; have hCell := fun (b o : Nat) (h : b < W4.heap.size) => hSw.cell (p := ⟨b, o, none⟩) h; clear hSw; go_simp; try with_reducible rfl)
      (try simp only [Act.put, zn1, zn2, zn3])
      refine ready_one (i := 6) rfl (by kernel_rfl) (fun K hK => ?_)
      refine step_lookup_is _ (by rfl) (.tmp 22) (.tmp 24) 77 (by rfl) 4 Tryz.underlying77 (.bool false) (zeroB _) mw _ _ (by rfl) (HMp.out.on hHeld) (s, t') (by rfl) hoj ?_
      rw [outV_get]
      refine hK.out _ _ ?_ (fun hHeld2 => ?_)
      · (try dsimp only); first | exact Below.trans hHeld (Below.mono hb hHeld.size) | exact hHeld | exact Below.drew hHeld | exact (by repeat (first | exact Below.refl _ _ | assumption | refine Below.alloc ?_ (by first | omega | (simp <;> omega)) _ | refine Below.setCell ?_ (by first | omega | (simp <;> omega)) _ | refine Below.drew ?_))
      clear hK K hHeld; have hHeld := hHeld2; clear hHeld2; (try simp only [Act.put, zn1, zn2, zn3])
      refine tY (i := 7) (v := ?_) rfl ?_ hHeld ?_; rotate_left 1; focus (intro w' hSw; clear hSw; go_simp; try with_reducible rfl)
      (try simp only [Act.put, zn1, zn2, zn3])
      refine wpAnyH_done (by kernel_rfl) ?_ _
      cases ho : out (s, t')
      · have HF2 := Lib.hid (show (L.take (k + 1)).filter (fun b => !out b.1) = (L.take k).filter (fun b => !out b.1) ++ [((s, t'), n)] by rw [HFt.out, ho]; rfl)
        go_wp2_with fail
        first | (refine wp_named ?_; intro W5 hW) | (refine calls_named ?_; intro W5 hW)
        have B5 : Below W4.heap.size W4 W5 := by rw [hW]; exact (by repeat (first | exact Below.refl _ _ | assumption | refine Below.alloc ?_ (by first | omega | (simp <;> omega)) _ | refine Below.setCell ?_ (by first | omega | (simp <;> omega)) _ | refine Below.drew ?_))
        replace d0 := cellAt d0 B5 (by omega)
        replace d1 := cellAt d1 B5 (by omega)
        replace d2 := cellAt d2 B5 (by omega)
        replace d3 := cellAt d3 B5 (by omega)
        replace d4 := cellAt d4 B5 (by omega)
        replace y0 := cellAt y0 B5 (by omega)
        replace y1 := cellAt y1 B5 (by omega)
        replace y2 := cellAt y2 B5 (by omega)
        replace HSr := Lib.hid ((HP.out.on _ _ _ _ HSr.out B5))
        replace HCr := Lib.hid (HCr.out.on B5)
        replace HTr := Lib.hid (HTr.out.then B5)
        replace hclr : cb < W5.heap.size := ltAt hclr B5
        replace hmlr : mw < W5.heap.size := ltAt hmlr B5
        replace n4 : wr.heap.size < W5.heap.size := ltAt n4 B5
        replace HMp := Lib.hid (MapIs.on HMp.out B5)
        clear hW
        clear B5 hHeld
        refine (HP.out.says _ _ W5 s t' n HSr.out HCa.out).mono ?_
        rintro e w6 ⟨rfl, F6, hs6, ht6⟩
        have HS6 := Lib.hid hs6
        have HT6 := Lib.hid (HTr.out.trans ht6)
        clear hs6 ht6
        go_wp2_with fail
        go_roundw
        case rel => exact ⟨k + 1, F6, by omega, by go_num, by rw [HF2.out, ← List.append_assoc]; exact HS6, HT6⟩
        case measure => simp [intOf]; omega
      · have HF2 := Lib.hid (show (L.take (k + 1)).filter (fun b => !out b.1) = (L.take k).filter (fun b => !out b.1) by rw [HFt.out, ho]; simp)
        go_wp2_with fail
        go_roundw
        case rel => exact ⟨k + 1, F', by omega, by go_num, by rw [HF2.out]; exact HP.out.on _ _ _ _ HSr.out hHeld, HTr.out.then hHeld⟩
        case measure => simp [intOf]; omega
    · have hkl : k = L.length := by omega
      subst hkl
      rw [List.take_length] at HSr
      go_wp2_with fail
      refine bodyPost_end (results_none rfl _ _ _) rfl ?_
      exact ⟨rfl, F', by rw [HLL.out]; exact HSr.out, (TookB.below HB2.out).trans HTr.out⟩
end Od
end Go.Proofs.YtbllehjhmfehbaaGreat
end
