/- My texts, joined for the claim: TPul PGI TMath QWords TLaws. -/
import Derived.Test.YtbllehjhmfehbaaGreatZT11
import Derived.Test.YtbllehjhmfehbaaGreatZT9
import Derived.Test.YtbllehjhmfehbaaGreatZT4
import Derived.Test.YtbllehjhmfehbaaGreatZT7
import Derived.Test.YtbllehjhmfehbaaGreatZT6
import Derived.Test.YtbllehjhmfehbaaGreatZT8
import Derived.Test.YtbllehjhmfehbaaGreatZT1

section
/- slices.IndexFunc, DeleteFunc and Clone at pulls. (bel2) -/
namespace Go.Proofs.YtbllehjhmfehbaaGreat
open Go.RowKit Go.Sort
set_option linter.unusedSimpArgs false
theorem eql_slice_noneT {P : Program} {t e : TypeId} (h : P.underlying t = some (.slice e)) (a : Option Addr) (n c : Nat) (w : World) : (binOp .eql t (.slice a n c) (.slice none 0 0)).run P w = .ok (.bool a.isNone) w := by
  simp only [binOp]
  simp [run_equal_slice_nil w t e a n c h]
theorem ownBlock_len (A : Option Addr) (n c m d : Nat) : (Value.slice A n c).ownBlock = (Value.slice A m d).ownBlock := by cases A <;> rfl
namespace Od
structure SaysPl (g : Nat) (caps : Array Value) (p : Pl → Bool) (base : Nat) (w0 : World) : Prop where
  enters : ∀ (args : Array Value) (W : World), (callFunc g args).run Tryz.prog W = .ok (.enter g args) W
  says : ∀ (W : World) (s : Str) (t : Int) (n : Bool) (b : Str), Below base w0 W → Calls Tryz.prog g (#[.agg #[sv s, .int .i64 t, .bool n, sv b]] ++ caps) W fun e w' => e = .returned (.bool (p (s, t, n, b))) ∧ Below W.heap.size W w'
set_option maxRecDepth 100000 in
set_option maxHeartbeats 1000000 in
theorem IndexFuncP (A : Option Addr) (c : Nat) (ss : List Pl) (g : Nat) (caps : Array Value) (p : Pl → Bool) (base : Nat) (w0 w : World) (hr : Rd w w.heap.size 4 A ss.length (plsC ss)) (hl : ss.length ≤ 1000000) (hp : SaysPl g caps p base w0) (hb0 : Below base w0 w) (hbase : base ≤ w.heap.size) :
    Calls Tryz.prog 197 #[.slice A ss.length c, .func (.func g) #[] caps] w (FindIdx ss p w) := by
  have Hr := Lib.hid hr
  have Hp := Lib.hid hp
  have Hb0 := Lib.hid hb0
  have eg := hp.enters
  clear hr hp hb0
  go_enter Tryz.func197, Tryz.ntmps197
  go_wp2_with fail
  go_loopw [8] (fun i wr => ∃ k : Nat, k ≤ ss.length ∧ i = .int .i64 k ∧ Hid ((ss.take k).any p = false) ∧ Below w.heap.size w wr) (fun i _ => ss.length - (intOf i).toNat)
  case atStart => exact ⟨0, Nat.zero_le _, rfl, by simp [Hid], Below.refl _ _⟩
  case round =>
    obtain ⟨k, hk, rfl, hall, hbel⟩ := hrel
    by_cases hlt : k < ss.length
    · obtain ⟨bb, o, rfl, hB, hc0, hc1, hc2, hc3⟩ := (Hr.out.on (Nat.le_refl _) hbel).pl hlt
      have Hbel := Lib.hid hbel
      clear hbel
      generalize hx : ss[k] = x at hc0 hc1 hc2 hc3
      obtain ⟨s, t, n, b⟩ := x
      have Hx := Lib.hid hx
      clear hx
      simp only at hc0 hc1 hc2 hc3
      have hcall := Hp.out.says wr s t n b (Hb0.out.trans (Hbel.out.mono hbase))
      have Hcall := Lib.hid hcall
      clear hcall
      go_wp2_with fail
      refine Hcall.out.mono ?_
      rintro e w2 ⟨rfl, hb2⟩
      have Hb2 := Lib.hid (Hbel.out.trans (hb2.mono Hbel.out.size))
      clear hb2
      cases hpx : p (s, t, n, b)
      · have Hpx := Lib.hid hpx
        go_wp2_with fail
        go_roundw
        case rel => exact ⟨k + 1, by omega, by go_num, by show _ = false; rw [any_take_succ hlt, hall.out, Hx.out, Hpx.out]; rfl, Hb2.out⟩
        case measure => simp [intOf]; omega
      · have Hpx := Lib.hid hpx
        go_wp2_with fail
        go_ret
        exact ⟨k, rfl, .inr ⟨k, hlt, rfl, find_at hlt hall.out (by rw [Hx.out]; exact Hpx.out), by rw [Hx.out]; exact Hpx.out, fun j hj => take_any_at hk hall.out hj⟩, Hb2.out⟩
    · have ha := hall.out
      rw [List.take_of_length_le (by omega)] at ha
      have Ha := Lib.hid ha
      clear ha
      go_wp2_with fail
      go_ret
      exact ⟨-1, rfl, .inl ⟨rfl, find_none_take Ha.out⟩, hbel⟩
set_option maxRecDepth 100000 in
set_option maxHeartbeats 1000000 in
theorem cloneP_own (A : Option Addr) (c : Nat) (q : List Pl) (w : World) (hr : Rd w w.heap.size 4 A q.length (plsC q)) (hl : q.length ≤ 1000000) :
    Calls Tryz.prog 195 #[.slice A q.length c] w (OwnPl q w) := by
  obtain ⟨i0, hi, hz0, hz1, hz2⟩ := info_parts infoPl
  have Hr := Lib.hid hr
  clear hr
  cases A with
  | none =>
    have hn : q.length = 0 := by
      rcases Nat.eq_zero_or_pos q.length with h | h
      · exact h
      · obtain ⟨ad, h, _⟩ := Hr.out.2 h; cases h
    have HN := Lib.hid hn
    clear hn
    have hq : ∀ w, (binOp .eql 29 (.slice none q.length c) (.slice none 0 0)).run Tryz.prog w = .ok (.bool true) w := eql_slice_noneT Tryz.underlying29 _ _ _
    go_enter Tryz.func195, Tryz.ntmps195
    go_wp2_with fail
    go_ret
    have h0 := List.length_eq_zero_iff.1 HN.out
    subst h0
    exact ⟨none, 0, rfl, World.ownsRow_nil _ _ _ _, Below.refl _ _⟩
  | some ad =>
    have h63 : 0 + q.length ≤ maxLen := by unfold maxLen; omega
    have hby : (0 + q.length) * 48 ≤ 140737488355328 := by omega
    have hq : ∀ w, (binOp .eql 29 (.slice (some ad) q.length c) (.slice none 0 0)).run Tryz.prog w = .ok (.bool false) w := eql_slice_noneT Tryz.underlying29 _ _ _
    have h0 : (w.alloc (.cells #[] 37)).ownsRow w.heap.size 37 4 (.slice (some ⟨w.heap.size, 0, none⟩) 0 0) 0 [] :=
      ⟨rfl, .inr ⟨w.heap.size, 0, #[], rfl, Nat.le_refl _, by show (w.heap.push _)[w.heap.size]? = _; simp, Nat.le_refl _, by decide, rfl, rfl⟩⟩
    have H0 := Lib.hid h0
    clear h0
    go_enter Tryz.func195, Tryz.ntmps195
    go_wp2_with (first
      | (at_builtin; refine wpList_append_rd _ (by rfl) (.tmp 5) (.tmp 6) 29 (by rfl) w.heap.size 37 i0 _ 4 48 Tryz.underlying29 hi hz0 hz1 hz2 rfl (by decide) (.slice (some ⟨w.heap.size, 0, none⟩) 0 0) 0 [] (by rfl) H0.out _ (some ad) q.length c (plsC q) (by rfl) (Hr.out.alloc (Nat.le_refl _) _) (one_plsC q) h63 hby (by simp) ?_; intro A1 c1 w1 ho1 hg1 hat1)
      | fail)
    go_ret
    exact ⟨A1, c1, rfl, by simpa using ho1, ((Below.refl _ _).alloc (Nat.le_refl _) _).grown hg1 (by simp) (fun j hj => by simp [Value.ownBlock] at hj; omega)⟩
theorem filter_all_pl {p : Pl → Bool} {L : List Pl} (h : L.find? p = none) : L.filter (fun s => !p s) = L := by
  rw [List.filter_eq_self]
  intro s hs
  have := List.find?_eq_none.1 h s hs
  simpa using this
theorem filter_first_pl {p : Pl → Bool} {L : List Pl} {k : Nat} (hk : k < L.length) (h1 : p L[k] = true) (h0 : ∀ j, ∀ hj : j < k, p (L[j]'(by omega)) = false) : (L.take (k + 1)).filter (fun s => !p s) = L.take k := by
  rw [List.take_succ_eq_append_getElem hk, List.filter_append]
  have e1 : [L[k]].filter (fun s => !p s) = [] := by simp [h1]
  rw [e1, List.append_nil, List.filter_eq_self]
  intro s hs
  obtain ⟨j, hj, rfl⟩ := List.mem_iff_getElem.1 hs
  have hj' : j < k := by simp at hj; omega
  have := h0 j hj'
  simp only [List.getElem_take]
  simpa using this
theorem ownPl_put {w : World} {base c g n : Nat} {M : List Pl} (h : w.ownsRow base 37 4 (.slice (some ⟨g, 0, none⟩) n c) n (plsC M)) {i : Nat} (hi : i < M.length) (s : Str) (t : Int) (b : Bool) (y : Str) :
    ((((w.setCell ⟨g, i * 4, none⟩ (sv s)).setCell ⟨g, i * 4 + 1, none⟩ (.int .i64 t)).setCell ⟨g, i * 4 + 2, none⟩ (.bool b)).setCell ⟨g, i * 4 + 3, none⟩ (sv y)).ownsRow base 37 4 (.slice (some ⟨g, 0, none⟩) n c) n (plsC (M.set i (s, t, b, y))) := by
  have set1 : ∀ {w : World} {M : List Pl}, w.ownsRow base 37 4 (.slice (some ⟨g, 0, none⟩) n c) n (plsC M) → ∀ (hi : i < M.length) (u : Nat) (_ : u < 4) (y : Pl) (v : Value), plC y = (plC M[i]).set u v →
      (w.setCell ⟨g, i * 4 + u, none⟩ v).ownsRow base 37 4 (.slice (some ⟨g, 0, none⟩) n c) n (plsC (M.set i y)) := fun h hi u hu y v hy => by
    have h1 := own_set h (j := i * 4 + u) v
    rw [show (plsC _).set (i * 4 + u) v = plsC _ from flat_set plC 4 plC_len u y v hu _ i hi hy] at h1
    exact h1
  have h0 := set1 h hi 0 (by omega) (s, M[i].2.1, M[i].2.2.1, M[i].2.2.2) (sv s) rfl
  have h1 := set1 h0 (by simpa using hi) 1 (by omega) (s, t, M[i].2.2.1, M[i].2.2.2) (.int .i64 t) (by rw [List.getElem_set_self]; rfl)
  have h2 := set1 h1 (by simpa using hi) 2 (by omega) (s, t, b, M[i].2.2.2) (.bool b) (by rw [List.getElem_set_self]; rfl)
  have h3 := set1 h2 (by simpa using hi) 3 (by omega) (s, t, b, y) (sv y) (by rw [List.getElem_set_self]; rfl)
  simpa using h3
theorem zero_pl (n : Nat) : ∀ v ∈ (Builtin.zeroCells (Value.agg #[.string ⟨#[]⟩, .int .i64 0, .bool false, .string ⟨#[]⟩]).cells n).toList, v.oneCell' = true := fun v hv => by
  unfold Builtin.zeroCells at hv
  simp only [Value.cells, Array.toList_map, List.mem_map] at hv
  obtain ⟨i, _, rfl⟩ := hv
  have h3 : i % 4 = 0 ∨ i % 4 = 1 ∨ i % 4 = 2 ∨ i % 4 = 3 := by omega
  rcases h3 with h | h | h | h <;> simp [h, Value.oneCell']
set_option maxRecDepth 100000 in
set_option maxHeartbeats 8000000 in
theorem DeleteFuncP_own (base c n : Nat) (A : Option Addr) (L : List Pl) (g : Nat) (caps : Array Value) (p : Pl → Bool) (w0 w : World) (h : w.ownsRow base 37 4 (.slice A n c) n (plsC L)) (hL : L.length = n) (hn : n ≤ 1000000) (hp : SaysPl g caps p base w0) (hb0 : Below base w0 w) (hbase : base ≤ w.heap.size) :
    Calls Tryz.prog 194 #[.slice A n c, .func (.func g) #[] caps] w fun e w' => ∃ A' c', e = .returned (.slice A' (L.filter (fun s => !p s)).length c') ∧ w'.ownsRow base 37 4 (.slice A' (L.filter (fun s => !p s)).length c') (L.filter (fun s => !p s)).length (plsC (L.filter (fun s => !p s))) ∧ Below base w0 w' := by
  obtain ⟨i0, hi, hz0, hz1, hz2⟩ := info_parts infoPl
  have Ho := Lib.hid h
  have Hp := Lib.hid hp
  have Hb0 := Lib.hid hb0
  have eg := hp.enters
  have hr := own_rd' h
  have hcap := own_cap h
  subst hL
  have Hr := Lib.hid hr
  clear h hp hb0 hr
  go_enter Tryz.func194, Tryz.ntmps194
  go_wp2_with fail
  refine (IndexFuncP A c L g caps p base w0 w Hr.out hn Hp.out Hb0.out hbase).mono ?_
  rintro e w2 ⟨r, rfl, hcase, hb⟩
  have HO2 := Lib.hid (own_on Ho.out hb)
  have HB2 := Lib.hid (Hb0.out.trans (hb.mono hbase))
  have hbase2 : base ≤ w2.heap.size := Nat.le_trans hbase hb.size
  clear hb Ho Hr Hb0
  rcases hcase with ⟨rfl, hnone⟩ | ⟨k, hk, rfl, _, hpk, hbef⟩
  · have HF := Lib.hid (filter_all_pl hnone)
    go_wp2_with fail
    go_ret
    rw [HF.out]
    exact ⟨A, c, rfl, HO2.out, HB2.out⟩
  · have hfirst := filter_first_pl hk hpk hbef
    have HF := Lib.hid hfirst
    clear hfirst hpk hbef
    obtain ⟨gb, rfl, hgb, hgl, _⟩ := own_open HO2.out (by omega)
    have hneq : ((k : Int) == -1) = false := by rw [beq_eq_false_iff_ne]; omega
    have hw1 : IntKind.i64.wrap ((k : Int) + 1) = (k : Int) + 1 := IntWalk.i64_in _ (by omega)
    go_wp2_with fail
    go_loopw [5, 6] (fun iv jv wr => ∃ (i j : Nat) (M : List Pl), iv = .int .i64 i ∧ jv = .int .i64 j ∧ i < j ∧ j ≤ L.length ∧ M.length = L.length ∧ M.take i = (L.take j).filter (fun s => !p s) ∧ M.drop j = L.drop j ∧ wr.ownsRow base 37 4 (.slice (some ⟨gb, 0, none⟩) L.length c) L.length (plsC M) ∧ Below base w0 wr) (fun _ jv _ => L.length - (intOf jv).toNat)
    case atStart => exact ⟨k, k + 1, L, rfl, by simp, by omega, hk, rfl, HF.out.symm, rfl, HO2.out, HB2.out⟩
    case round =>
      obtain ⟨i, j, M, rfl, rfl, hij, hj, hM, htk, hdr, ho, hb⟩ := hrel
      have HOr := Lib.hid ho
      have HBr := Lib.hid hb
      have hglr : gb < wr.heap.size := (ho.lt gb rfl).2
      have hzr : base ≤ wr.heap.size := Nat.le_of_lt (Nat.lt_of_le_of_lt hgb hglr)
      clear ho hb HO2 HB2
      by_cases hlt : j < L.length
      · have hxM : M[j]'(by omega) = L[j] := by
          have h1 : (M.drop j)[0]'(by simp; omega) = (L.drop j)[0]'(by simp; omega) := by congr 1
          simpa using h1
        have hrd : Rd wr wr.heap.size 4 (some ⟨gb, 0, none⟩) M.length (plsC M) := by rw [hM]; exact own_rd' HOr.out
        obtain ⟨b1, o1, hA1, _, hc0, hc1, hc2, hc3⟩ := hrd.pl (i := j) (by omega)
        injection hA1 with hA1
        injection hA1 with hA1 hA2
        subst hA1 hA2
        rw [hxM] at hc0 hc1 hc2 hc3
        simp only [Nat.zero_add] at hc0 hc1 hc2 hc3
        have hft : (L.take (j + 1)).filter (fun s => !p s) = (L.take j).filter (fun s => !p s) ++ (if (!p L[j]) = true then [L[j]] else []) := filter_take_succ hlt
        have hdr2 : M.drop (j + 1) = L.drop (j + 1) := by rw [← List.drop_drop, ← List.drop_drop, hdr]
        generalize L[j] = x at hc0 hc1 hc2 hc3 hft
        obtain ⟨s, t, b, y⟩ := x
        simp only at hc0 hc1 hc2 hc3
        have HFt := Lib.hid hft
        have HTk := Lib.hid htk
        have HDr := Lib.hid hdr2
        clear hft htk hdr hdr2 hxM hrd
        have j1 : (0 : Int) ≤ (j : Int) := by omega
        have j2 : (j : Int) < (L.length : Int) := by omega
        have j3 : (0 : Int) ≤ (i : Int) := by omega
        have j4 : (i : Int) < (L.length : Int) := by omega
        have hwj : IntKind.i64.wrap ((j : Int) + 1) = (j : Int) + 1 := IntWalk.i64_in _ (by omega)
        have hwi : IntKind.i64.wrap ((i : Int) + 1) = (i : Int) + 1 := IntWalk.i64_in _ (by omega)
        go_wp2_with fail
        first | (refine wp_named ?_; intro W1 hW) | (refine calls_named ?_; intro W1 hW)
        have B1 : Below wr.heap.size wr W1 := by rw [hW]; exact (by repeat (first | exact Below.refl _ _ | assumption | refine Below.alloc ?_ (by first | omega | (simp <;> omega)) _ | refine Below.setCell ?_ (by first | omega | (simp <;> omega)) _ | refine Below.drew ?_))
        replace HOr := Lib.hid (own_on HOr.out B1)
        replace hglr : gb < W1.heap.size := ltAt hglr B1
        have n1 : wr.heap.size < W1.heap.size := by rw [hW]; simp <;> omega
        have e0 : W1.cell? ⟨wr.heap.size, 0, none⟩ = some (sv s) := by rw [hW]; go_simp
        have e1 : W1.cell? ⟨wr.heap.size, 1, none⟩ = some (.int .i64 t) := by rw [hW]; go_simp
        have e2 : W1.cell? ⟨wr.heap.size, 2, none⟩ = some (.bool b) := by rw [hW]; go_simp
        have e3 : W1.cell? ⟨wr.heap.size, 3, none⟩ = some (sv y) := by rw [hW]; go_simp
        clear hW
        have HB1 := Lib.hid (HBr.out.trans (B1.mono hzr))
        have hz1' : base ≤ W1.heap.size := Nat.le_trans hzr B1.size
        clear B1 hc0 hc1 hc2 hc3
        refine (Hp.out.says W1 s t b y HB1.out).mono ?_
        rintro e w5 ⟨rfl, hb5⟩
        have HB5 := Lib.hid (HB1.out.trans (hb5.mono hz1'))
        replace e0 := cellAt e0 hb5 (by omega)
        replace e1 := cellAt e1 hb5 (by omega)
        replace e2 := cellAt e2 hb5 (by omega)
        replace e3 := cellAt e3 hb5 (by omega)
        replace HOr := Lib.hid (own_on HOr.out hb5)
        replace hglr : gb < w5.heap.size := ltAt hglr hb5
        replace n1 : wr.heap.size < w5.heap.size := ltAt n1 hb5
        clear hb5
        cases hpx : p (s, t, b, y)
        · have HF2 := Lib.hid (show (L.take (j + 1)).filter (fun s => !p s) = (L.take j).filter (fun s => !p s) ++ [(s, t, b, y)] by rw [HFt.out, hpx]; simp)
          have f0 := own_fro HOr.out (j := i * 4)
          have f1 := own_fro HOr.out (j := i * 4 + 1)
          have f2 := own_fro HOr.out (j := i * 4 + 2)
          have f3 := own_fro HOr.out (j := i * 4 + 3)
          have hl3 : (plsC M).length = L.length * 4 := by rw [plsC_len, hM]
          have d0 := own_cell HOr.out (j := i * 4) (by omega)
          have d1 := own_cell HOr.out (j := i * 4 + 1) (by omega)
          have d2 := own_cell HOr.out (j := i * 4 + 2) (by omega)
          have d3 := own_cell HOr.out (j := i * 4 + 3) (by omega)
          generalize (plsC M)[i * 4]'(by omega) = v0 at d0
          generalize (plsC M)[i * 4 + 1]'(by omega) = v1 at d1
          generalize (plsC M)[i * 4 + 2]'(by omega) = v2 at d2
          generalize (plsC M)[i * 4 + 3]'(by omega) = v3 at d3
          go_wp2_with fail
          go_roundw
          case rel =>
            have ho6 := ownPl_put HOr.out (i := i) (by omega) s t b y
            refine ⟨i + 1, j + 1, M.set i (s, t, b, y), by go_num, by go_num, by omega, by omega, by simp [hM], ?_, ?_, ho6, (((HB5.out.setCell hgb _).setCell hgb _).setCell hgb _).setCell hgb _⟩
            · rw [HF2.out, ← HTk.out, List.take_succ_eq_append_getElem (by simp; omega), List.take_set_of_le (Nat.le_refl _)]
              simp
            · rw [List.drop_set_of_lt (by omega)]; exact HDr.out
          case measure => simp [intOf]; omega
        · have HF2 := Lib.hid (show (L.take (j + 1)).filter (fun s => !p s) = (L.take j).filter (fun s => !p s) by rw [HFt.out, hpx]; simp)
          go_wp2_with fail
          go_roundw
          case rel => exact ⟨i, j + 1, M, rfl, by go_num, by omega, by omega, hM, by rw [HF2.out]; exact HTk.out, HDr.out, HOr.out, HB5.out⟩
          case measure => simp [intOf]; omega
      · have hjL : j = L.length := by omega
        subst hjL
        rw [List.take_length] at htk
        have hs2 := run_slice_tail (P := Tryz.prog) Tryz.underlying29 hi (some ⟨gb, 0, none⟩) L.length c i (by omega)
        rw [hz1] at hs2
        have hAd : dropA (some ⟨gb, 0, none⟩) c i 4 = some ⟨gb, i * 4, none⟩ := by
          unfold dropA
          rw [if_neg (by omega)]
          simp [Addr.add]
          try (intro h; omega)
        rw [hAd] at hs2
        have hl3 : (plsC M).length = L.length * 4 := by rw [plsC_len, hM]
        have hclr := fun ty => run_clear_rows (P := Tryz.prog) (n := L.length - i) wr 29 37 ty (.agg #[.string ⟨#[]⟩, .int .i64 0, .bool false, .string ⟨#[]⟩]) Tryz.underlying29 (fun w => Tryz.zeroValue37 w) (zero_pl _) gb (i * 4) (c - i) (by omega)
          (fun m hm => by
            have hm' : m < (L.length - i) * 4 := hm
            rw [own_cell HOr.out (j := i * 4 + m) (by omega)]; rfl) (fun m hm => own_fro HOr.out)
        have hil : i ≤ L.length := by omega
        have HTk := Lib.hid htk
        obtain ⟨w9, hw9⟩ : ∃ w9, w9 = wr.setCells gb (i * 4) (Builtin.zeroCells (Value.agg #[.string ⟨#[]⟩, .int .i64 0, .bool false, .string ⟨#[]⟩]).cells (L.length - i)).toList := ⟨_, rfl⟩
        rw [← hw9] at hclr
        have hb9 : Below base w0 w9 := by rw [hw9]; exact below_setCells _ _ _ hgb HBr.out
        have ho9 := own_setCells (i := i * 4) (Builtin.zeroCells (Value.agg #[.string ⟨#[]⟩, .int .i64 0, .bool false, .string ⟨#[]⟩]).cells (L.length - i)).toList (i * 4) wr _ (Nat.le_refl _) HOr.out
        rw [← hw9] at ho9
        obtain ⟨xs', ho9, ht9⟩ := ho9
        have ho10 := own_cut ho9 hil
        rw [ht9, show (plsC M).take (i * 4) = plsC (M.take i) from (flat_take plC 4 plC_len M i).symm, htk] at ho10
        have hml : (L.filter (fun s => !p s)).length = i := by rw [← htk, List.length_take, hM]; omega
        have HO10 := Lib.hid ho10
        have HB9 := Lib.hid hb9
        have HML := Lib.hid hml
        clear htk hdr ho9 ht9 ho10 hb9 hml hw9 hl3
        have j3 : (0 : Int) ≤ (i : Int) := by omega
        go_wp2_with fail
        go_ret
        rw [HML.out]
        exact ⟨some ⟨gb, 0, none⟩, c, rfl, HO10.out, HB9.out⟩
end Od
end Go.Proofs.YtbllehjhmfehbaaGreat
end

section
/- A graph that came in, of any size, and who is up; graph.May of any graph; layer 17's own word small. (bel2) -/
namespace Go.Proofs.YtbllehjhmfehbaaGreat
open Go.RowKit Go.Sort
set_option linter.unusedSimpArgs false
namespace Od
structure GIw (w : World) (An Ae : Option Addr) (ns : List Nd) (es : List Ed) : Prop where
  rn : Rd w w.heap.size 3 An ns.length (ndsC ns)
  re : Rd w w.heap.size 3 Ae es.length (edsC es)
  okn : OkNs ns
  oke : OkE es
theorem GIw.at {w w' : World} {An Ae : Option Addr} {ns : List Nd} {es : List Ed} (h : GIw w An Ae ns es) (hb : Below w.heap.size w w') : GIw w' An Ae ns es := ⟨h.rn.at hb, h.re.at hb, h.okn, h.oke⟩
theorem okS_of {s : Str} (h : s.length ≤ 140737488351232) : okS s := by unfold okS maxLen; omega
/-- Who is up, who is half. -/
structure NIn (w : World) (Au Ah : Option Addr) (up half : List Str) : Prop where
  u : SIn w Au up
  h : SIn w Ah half
theorem NIn.at {w w' : World} {Au Ah : Option Addr} {up half : List Str} (h : NIn w Au Ah up half) (hb : Below w.heap.size w w') : NIn w' Au Ah up half := ⟨h.u.at hb, h.h.at hb⟩
theorem wf_i64 {n : Int} (h : (Lit.int .i64 n).wf = true) : (Lit.int .i64 n).wf = true := h
set_option maxHeartbeats 1000000 in
theorem MayGB_any (An Ae : Option Addr) (cn ce : Nat) (ns : List Nd) (es : List Ed) (w : World) (hg : GIw w An Ae ns es) (hl : es.length ≤ 1000000) :
    Calls Tryz.prog 23 #[gV An ns.length cn Ae es.length ce] w fun e w' => e = .returned (.bool (mayG ns es)) ∧ Below w.heap.size w w' := by
  by_cases h64 : (64 : Int) < (ns.length : Int)
  · have h1 : decide ((64 : Int) < (ns.length : Int)) = true := by simpa using h64
    have hm : mayG ns es = false := by unfold mayG; rw [h1]; rfl
    have HM := Lib.hid hm
    clear hg hm
    go_enter Tryz.func23, Tryz.ntmps23
    go_wp2_with fail
    go_ret
    exact ⟨ret_bool (by rw [HM.out]), (by repeat (first | exact Below.refl _ _ | assumption | refine Below.alloc ?_ (by first | omega | (simp <;> omega)) _ | refine Below.setCell ?_ (by first | omega | (simp <;> omega)) _ | refine Below.drew ?_))⟩
  · exact MayG_any An Ae cn ce ns es w hg.rn hg.re (by omega) hl hg.okn
def small17 (ns : List Nd) (es : List Ed) : Bool := decide ((es.length : Int) ≤ 300) && mayG ns es
theorem small17_iff {ns : List Nd} {es : List Ed} : small17 ns es = true ↔ es.length ≤ 300 ∧ mayG ns es = true := by
  unfold small17
  rw [Bool.and_eq_true, decide_eq_true_eq]
  constructor
  · rintro ⟨h1, h2⟩; exact ⟨by omega, h2⟩
  · rintro ⟨h1, h2⟩; exact ⟨by omega, h2⟩
theorem may_len {ns : List Nd} {es : List Ed} (h : mayG ns es = true) : ns.length ≤ 64 := by
  unfold mayG at h
  rw [Bool.and_eq_true] at h
  have := h.1
  simp at this
  omega
set_option maxHeartbeats 1000000 in
theorem small17_any (An Ae : Option Addr) (cn ce : Nat) (ns : List Nd) (es : List Ed) (w : World) (hg : GIw w An Ae ns es) :
    Calls Tryz.prog 16 #[gV An ns.length cn Ae es.length ce] w fun e w' => e = .returned (.bool (small17 ns es)) ∧ Below w.heap.size w w' := by
  have HG := Lib.hid hg
  have HM := Lib.hid (show small17 ns es = (decide ((es.length : Int) ≤ 300) && mayG ns es) from rfl)
  clear hg
  by_cases h1 : (es.length : Int) ≤ 300
  · have d1 : decide ((es.length : Int) ≤ 300) = true := by simpa using h1
    have D1 := Lib.hid d1
    go_enter Tryz.func16, Tryz.ntmps16
    go_wp2_with fail
    first | (refine wp_named ?_; intro W1 hW) | (refine calls_named ?_; intro W1 hW)
    have B1 : Below w.heap.size w W1 := by rw [hW]; exact (by repeat (first | exact Below.refl _ _ | assumption | refine Below.alloc ?_ (by first | omega | (simp <;> omega)) _ | refine Below.setCell ?_ (by first | omega | (simp <;> omega)) _ | refine Below.drew ?_))
    replace HG := Lib.hid (HG.out.at B1)
    clear hW
    have HB := Lib.hid B1
    clear B1
    refine (MayGB_any An Ae cn ce ns es W1 HG.out (by omega)).mono ?_
    rintro e w2 ⟨rfl, hb⟩
    have HB2 := Lib.hid (lift HB.out hb)
    clear hb
    go_wp2_with fail
    go_ret
    exact ⟨ret_bool (by rw [HM.out, D1.out]; simp), HB2.out⟩
  · have d1 : decide ((es.length : Int) ≤ 300) = false := by simpa using h1
    have D1 := Lib.hid d1
    go_enter Tryz.func16, Tryz.ntmps16
    go_wp2_with fail
    go_ret
    exact ⟨ret_bool (by rw [HM.out, D1.out]; simp), (by repeat (first | exact Below.refl _ _ | assumption | refine Below.alloc ?_ (by first | omega | (simp <;> omega)) _ | refine Below.setCell ?_ (by first | omega | (simp <;> omega)) _ | refine Below.drew ?_))⟩
/-! The graph that the laws begin with -/
def nmA : Str := [97, 46, 116, 97, 114, 103, 101, 116]
def nmB : Str := [98, 46, 116, 97, 114, 103, 101, 116]
def nmC : Str := [99, 46, 116, 97, 114, 103, 101, 116]
def nmD : Str := [100, 46, 116, 97, 114, 103, 101, 116]
def nmE : Str := [101, 46, 116, 97, 114, 103, 101, 116]
def nmZ : Str := [122, 46, 116, 97, 114, 103, 101, 116]
def nms17 : List Str := [nmA, nmB, nmC, nmD, nmE]
def nd17 (s : Str) : Nd := (s, 4, 1)
def ns17 : List Nd := nms17.map nd17
def es17 : List Ed := [(nmA, nmB, 1), (nmA, nmC, 2), (nmD, nmA, 6), (nmE, nmA, 5)]
def GraphIs (ns : List Nd) (es : List Ed) (w : World) (e : Ending) (w' : World) : Prop := ∃ An cn Ae ce, e = .returned (gV An ns.length cn Ae es.length ce) ∧ ns.length ≤ cn ∧ es.length ≤ ce ∧
  Rd w' w'.heap.size 3 An ns.length (ndsC ns) ∧ Rd w' w'.heap.size 3 Ae es.length (edsC es) ∧ Below w.heap.size w w'
theorem one_ndC (n : Nd) : ∀ u ∈ ndC n, u.oneCell' = true := fun u hu => by
  simp only [ndC, List.mem_cons, List.not_mem_nil, or_false] at hu
  rcases hu with rfl | rfl | rfl <;> rfl
theorem infoNd : (Tryz.prog.info? 39).map (fun i => (i.zero, i.size, i.bytes)) = some (some (.agg #[.string ⟨#[]⟩, .int .i64 0, .int .i64 0]), 3, 32) := by kernel_rfl
set_option maxRecDepth 100000 in
set_option maxHeartbeats 4000000 in
theorem some17_any (w : World) : Calls Tryz.prog 43 #[] w (GraphIs ns17 es17 w) := by
  obtain ⟨i0, hi, hz0, hz1, hz2⟩ := info_parts infoNd
  go_enter Tryz.func43, Tryz.ntmps43
  go_wp2_with fail
  first | (refine wp_named ?_; intro W1 hW) | (refine calls_named ?_; intro W1 hW)
  have B1 : Below w.heap.size w W1 := by rw [hW]; exact (by repeat (first | exact Below.refl _ _ | assumption | refine Below.alloc ?_ (by first | omega | (simp <;> omega)) _ | refine Below.setCell ?_ (by first | omega | (simp <;> omega)) _ | refine Below.drew ?_))
  have n1 : (w.heap.size + 1 + 1) < W1.heap.size := by rw [hW]; simp <;> omega
  have n0 : (w.heap.size + 1) < W1.heap.size := by rw [hW]; simp <;> omega
  have c0 : W1.cell? ⟨(w.heap.size + 1), 0, none⟩ = some (.slice none 0 0) := by rw [hW]; go_simp
  have c1 : W1.cell? ⟨(w.heap.size + 1), 1, none⟩ = some (.slice none 0 0) := by rw [hW]; go_simp
  have f0 : W1.frozen? ⟨(w.heap.size + 1), 0, none⟩ = false := by rw [hW]; go_simp
  have f1 : W1.frozen? ⟨(w.heap.size + 1), 1, none⟩ = false := by rw [hW]; go_simp
  have d0 : W1.cell? ⟨w.heap.size, 0, none⟩ = some (.slice none 0 0) := by rw [hW]; go_simp
  have d1 : W1.cell? ⟨w.heap.size, 1, none⟩ = some (.slice none 0 0) := by rw [hW]; go_simp
  have e0 : W1.frozen? ⟨w.heap.size, 0, none⟩ = false := by rw [hW]; go_simp
  have e1 : W1.frozen? ⟨w.heap.size, 1, none⟩ = false := by rw [hW]; go_simp
  have hrd : Rd W1 W1.heap.size 1 (some ⟨w.heap.size + 1 + 1, 0, none⟩) 5 (svs nms17) := by
    rw [hW]
    have h := Rd.lit ((w.alloc (.cells #[.slice none 0 0, .slice none 0 0] 25)).alloc (.cells #[.slice none 0 0, .slice none 0 0] 25)) (svs nms17) 9 1 5 rfl
    simp only [World.size_alloc] at h ⊢
    exact h
  clear hW
  have HB := Lib.hid B1
  have HRd := Lib.hid hrd
  clear B1 hrd
  go_loopw [7] (fun i wr => ∃ (k : Nat) (v : Value), k ≤ 5 ∧ i = .int .i64 k ∧ Hid (wr.cell? ⟨w.heap.size + 1, 0, none⟩ = some v) ∧ Hid (wr.frozen? ⟨w.heap.size + 1, 0, none⟩ = false) ∧ Hid (wr.cell? ⟨w.heap.size + 1, 1, none⟩ = some (.slice none 0 0)) ∧ Hid (wr.frozen? ⟨w.heap.size + 1, 1, none⟩ = false) ∧ Hid (wr.ownsRow W1.heap.size 39 3 v k (ndsC ((nms17.take k).map nd17))) ∧ Hid (Keeps (But W1 (w.heap.size + 1)) W1 wr)) (fun i _ => 5 - (intOf i).toNat)
  case atStart => exact ⟨0, .slice none 0 0, Nat.zero_le _, rfl, c0, f0, c1, f1, World.ownsRow_nil _ _ _ _, But.below (Below.refl _ _)⟩
  case round =>
    obtain ⟨k, v, hk, rfl, HC0, HF0, HC1, HF1, HO, HK⟩ := hrel
    have hz := HK.out.size
    have x0 := HC0.out
    have x1 := HF0.out
    have x2 := HC1.out
    have x3 := HF1.out
    have lg : w.heap.size + 1 < wr.heap.size := by omega
    by_cases hlt : k < 5
    · have hlt5 : k < nms17.length := hlt
      have hrd := (Rd.str (ss := nms17) HRd.out hlt5)
      obtain ⟨b, o, hA, hB, y0⟩ := hrd
      injection hA with hA
      injection hA with hA1 hA2
      subst hA1 hA2
      rw [Nat.zero_add] at y0
      have y1 := cellK y0 HK.out (by omega) (by omega)
      have htk : (nms17.take (k + 1)).map nd17 = (nms17.take k).map nd17 ++ [nd17 nms17[k]] := by rw [List.take_succ_eq_append_getElem hlt5, List.map_append]; rfl
      generalize nms17[k] = s at y0 y1 htk
      have HTk := Lib.hid htk
      have m1 : (0 : Int) ≤ (k : Int) := by omega
      have m2 : (k : Int) < 5 := by omega
      have lb : w.heap.size + 1 + 1 < wr.heap.size := by omega
      have hv0 : v.ownBlock ≠ some (w.heap.size + 1) := fun e => by have := (HO.out.lt _ e).1; omega
      have HV := Lib.hid hv0
      have h63 := Lib.hid (show k + 1 ≤ maxLen by unfold maxLen; omega)
      have hby := Lib.hid (show (k + 1) * 32 ≤ 140737488355328 by omega)
      clear htk y0 hv0 hlt5 d0 d1 c0 c1
      go_wp2_with (first
        | (at_builtin; refine wpList_pushm wr wr (by rfl) (.tmp 12) (.tmp 15) 22 (by rfl) W1.heap.size 39 i0 _ 3 32 Tryz.underlying22 hi hz0 hz1 hz2 rfl (by decide) _ _ _ (by rfl) HO.out (ndC (nd17 s)) (wr.heap.size) rfl (by rfl) rfl (one_ndC _) h63.out hby.out hz (Below.refl _ _) ?_; intro A8 c8 w7 hown7 hbel7 hg7 hat7; have z0 := cell_kept x0 hg7 lg HV.out; have z1 := fro_kept x1 hg7 lg HV.out; have z2 := cell_kept x2 hg7 lg HV.out; have z3 := fro_kept x3 hg7 lg HV.out; have HO7 := Lib.hid hown7; have HG7 := Lib.hid (And.intro hg7 hat7); clear hown7 hbel7 hg7 hat7)
        | fail)
      go_roundw
      case rel =>
        have hne : (Value.slice A8 (k + 1) c8).ownBlock ≠ some (w.heap.size + 1) := fun e => by
          rcases HG7.out.2 with h | h
          · exact HV.out (h.symm.trans e)
          · rw [h] at e; injection e; omega
        refine ⟨k + 1, .slice A8 (k + 1) c8, by omega, by go_num, World.cell?_setCell_same _ _ _ z0, by show World.frozen? _ _ = _; rw [World.frozen?_setCell]; exact z1, (World.cell?_setCell_other _ _ _ _ (by simp)).trans z2, by show World.frozen? _ _ = _; rw [World.frozen?_setCell]; exact z3, ?_, ?_⟩
        · show World.ownsRow _ _ _ _ _ _ _
          rw [HTk.out]
          have h := HO7.out.kept (grownBy_setCell w7 ⟨w.heap.size + 1, 0, none⟩ (.slice A8 (k + 1) c8)) (.inr hne)
          simpa [ndsC] using h
        · have hk1 := HK.out
          have hg := HG7.out.1
          refine ⟨hg.os.trans hk1.os, hg.tape.trans hk1.tape, hg.output.trans hk1.output, by have := hg.size; simp only [World.size_setCell]; omega, fun j hj => ?_⟩
          rw [(grownBy_setCell w7 ⟨w.heap.size + 1, 0, none⟩ (.slice A8 (k + 1) c8)).block j (by have := hg.size; have := hj.1; omega) (fun e => hj.2 (by injection e)), hg.block j (by have := hj.1; omega) (fun e => by have := (HO.out.lt _ e.symm).1; have := hj.1; omega), hk1.block j hj]
      case measure => simp [intOf]; omega
    · obtain rfl : k = 5 := by omega
      obtain ⟨A, c, rfl, hrr⟩ := own_rd HO.out
      have y0 := cellK d0 HK.out (by omega) (by omega)
      have y1 := cellK d1 HK.out (by omega) (by omega)
      have z0 := froK e0 HK.out (by omega) (by omega)
      have z1 := froK e1 HK.out (by omega) (by omega)
      have hcap := (own_cap HO.out).1
      have HRr := Lib.hid hrr
      have HCap := Lib.hid hcap
      have l0 : w.heap.size < wr.heap.size := by omega
      have q1 : ¬ w.heap.size = wr.heap.size := by omega
      have q2 : ¬ w.heap.size + 1 = wr.heap.size := by omega
      clear hrr hcap d0 d1 e0 e1 c0 c1
      go_wp2_with fail
      have hba : Below w.heap.size w wr := HB.out.trans (HK.out.below (fun j hj => ⟨by omega, by omega⟩))
      refine bodyPost_ret (v := gV A 5 c (some ⟨wr.heap.size, 0, none⟩) 4 4) (by simp only [results, Tryz.results43]; go_simp) rfl ⟨A, c, _, 4, rfl, HCap.out, Nat.le_refl _, ?_, ?_, ?_⟩
      · have hA : ∀ ad, A = some ad → ad.block ≠ w.heap.size ∧ ad.block ≠ w.heap.size + 1 := fun ad e => by
          subst e
          have := (HO.out.lt ad.block rfl).1
          exact ⟨by omega, by omega⟩
        have h1 := (HRr.out.setCellF (p := ⟨w.heap.size + 1, 1, none⟩) (fun ad _ e h => (hA ad e).2 h.symm) (.slice (some ⟨wr.heap.size, 0, none⟩) 4 4))
        have h2 := (h1.setCellF (p := ⟨w.heap.size, 0, none⟩) (fun ad _ e h => (hA ad e).1 h.symm) (.slice A 5 c))
        have h3 := (h2.setCellF (p := ⟨w.heap.size, 1, none⟩) (fun ad _ e h => (hA ad e).1 h.symm) (.slice (some ⟨wr.heap.size, 0, none⟩) 4 4))
        exact (h3.alloc (by simp) _).more (by simp)
      · have h := Rd.lit (((wr.setCell ⟨w.heap.size + 1, 1, none⟩ (.slice (some ⟨wr.heap.size, 0, none⟩) 4 4)).setCell ⟨w.heap.size, 0, none⟩ (.slice A 5 c)).setCell ⟨w.heap.size, 1, none⟩ (.slice (some ⟨wr.heap.size, 0, none⟩) 4 4)) (edsC es17) 45 3 4 rfl
        simp only [World.size_setCell] at h
        exact h
      · exact (((hba.setCell (by simp) _).setCell (by simp) _).setCell (by simp) _).alloc (by simp; omega) _
end Od
end Go.Proofs.YtbllehjhmfehbaaGreat
end

section
/- What a transaction is, of lists: which job goes next, what is left, what is to be done of each unit. No program. -/
namespace Go.Proofs.YtbllehjhmfehbaaGreat
set_option linter.unusedSimpArgs false
namespace Od
/-! The three faults -/
def stN (ns : List Nd) (u : Str) : Int := match nodeOf ns u with | some n => n.2.2 | none => 0
def beginsP (p : Pl) : Bool := p.2.1 == 1 || p.2.1 == 3
def sickP (ns : List Nd) (p : Pl) : Bool := beginsP p && stN ns p.1 != 1
def sickE (ns : List Nd) (u : Str) : Int := if stN ns u = 2 then 6 else if stN ns u = 3 then 15 else 16
def startL (l : List Pl) (u : Str) : Bool := l.any (fun p => p.1 == u && beginsP p)
def stopL (l : List Pl) (u : Str) : Bool := l.any (fun p => p.1 == u && p.2.1 == 2)
def missU (up : List Str) (l : List Pl) (rel : Int) (v : Str) : Bool := (!startL l v && !hasB up v) || (stopL l v && (rel == 3 || !startL l v))
def missP (es : List Ed) (up : List Str) (l : List Pl) (u : Str) : Bool := (outS es u 3).any (missU up l 3) || ((outS es u 1).any (missU up l 1) || (outS es u 4).any (missU up l 4))
def lackP (es : List Ed) (up : List Str) (l : List Pl) (p : Pl) : Bool := beginsP p && missP es up l p.1
def othersL (l : List Pl) (u : Str) : List Pl := l.filter (fun p => p.1 == u && p.2.1 != 2)
def bothP (l : List Pl) (p : Pl) : Bool := p.2.1 == 2 && !(othersL l p.1).isEmpty
def clashOf (l : List Pl) : Option Pl := match l.find? (bothP l) with
  | none => none
  | some p => match (othersL l p.1).find? (fun q => !q.2.2.1) with
    | some q => some q
    | none => some p
def badP (ns : List Nd) (es : List Ed) (up : List Str) (l : List Pl) : Option (Pl × Int) := match l.find? (sickP ns) with
  | some p => some (p, sickE ns p.1)
  | none => match l.find? (lackP es up l) with
    | some p => some (p, 19)
    | none => match clashOf l with
      | some p => some (p, 18)
      | none => none
structure Tr where
  err : Int
  l : List Pl
  gone : List Pl
section
variable (ns : List Nd) (es : List Ed) (up half : List Str) (first : Jp)
def goT : Nat → List Pl → Tr
  | 0, gone => ⟨0, [], gone⟩
  | n + 1, gone => match badP ns es up (pullQ ns es up half first gone) with
    | none => ⟨0, pullQ ns es up half first gone, gone⟩
    | some (p, e) => if p.2.2.1 = true then ⟨e, [], []⟩ else goT n (gone ++ [p])
def wrongT : Int := if mayG ns es = false then 1 else if ¬ (1 ≤ first.2 ∧ first.2 ≤ 4) then 3 else if (nodeOf ns first.1).isSome = false then 6 else if (first.2 == 4 && !hasB up first.1) = true then 20 else 0
def fuelT : Nat := 6 * es.length + 2
def madeT : Tr := if wrongT ns es up first = 0 then goT ns es up half first (fuelT es) [] else ⟨wrongT ns es up first, [], []⟩
end
theorem clash_mem {l : List Pl} {p : Pl} (h : clashOf l = some p) : p ∈ l := by
  unfold clashOf at h
  split at h
  · cases h
  · rename_i q hq
    split at h
    · rename_i r hr
      injection h with h
      subst h
      exact (List.mem_filter.1 (List.mem_of_find?_eq_some hr)).1
    · injection h with h
      subst h
      exact List.mem_of_find?_eq_some hq
theorem bad_mem {ns : List Nd} {es : List Ed} {up : List Str} {l : List Pl} {p : Pl} {e : Int} (h : badP ns es up l = some (p, e)) : p ∈ l := by
  unfold badP at h
  split at h
  · rename_i q hq
    injection h with h; injection h with h _
    subst h
    exact List.mem_of_find?_eq_some hq
  · split at h
    · rename_i q hq
      injection h with h; injection h with h _
      subst h
      exact List.mem_of_find?_eq_some hq
    · split at h
      · rename_i q hq
        injection h with h; injection h with h _
        subst h
        exact clash_mem hq
      · cases h
theorem bad_err {ns : List Nd} {es : List Ed} {up : List Str} {l : List Pl} {p : Pl} {e : Int} (h : badP ns es up l = some (p, e)) : e ≠ 0 := by
  unfold badP at h
  split at h
  · injection h with h; injection h with _ h
    subst h
    unfold sickE; split
    · decide
    · split <;> decide
  · split at h
    · injection h with h; injection h with _ h
      subst h; decide
    · split at h
      · injection h with h; injection h with _ h
        subst h; decide
      · cases h
/-! It ends -/
theorem first_need {ns : List Nd} {es : List Ed} {up half : List Str} {first : Jp} {wo : List Pl} {p : Pl} (hp : p ∈ pullQ ns es up half first wo) (h : p.2.2.1 ≠ true) : keyP p ≠ first ∧ outB wo (keyP p) = false ∧ keyP p ∈ candB es := by
  obtain ⟨_, h2⟩ := mem_pullQ.1 hp
  obtain ⟨h3, h4, _⟩ := mem_allP.1 h2
  have hne : keyP p ≠ first := fun e => h (h4.2 (by rw [show (p.1, p.2.1) = first from e]; exact .one))
  refine ⟨hne, ?_, ?_⟩
  · rcases by_cases_ h3 with ⟨e, _⟩ | ⟨_, ho, _⟩
    · exact absurd e hne
    · exact ho
  · rcases by_cases_ h3 with ⟨e, _⟩ | ⟨_, _, j, _, _, b, hb, e⟩
    · exact absurd e hne
    · have := bring_cand j b hb
      rw [e] at this
      exact this
/-- The jobs that went so far: none twice, each of those that may come. -/
structure GoneOk (es : List Ed) (first : Jp) (gone : List Pl) : Prop where
  nd : (gone.map keyP).Nodup
  cand : ∀ p ∈ gone, keyP p ∈ candB es
  free : ∀ p ∈ gone, p.2.2.1 = false
  notf : ∀ p ∈ gone, keyP p ≠ first
theorem GoneOk.nil (es : List Ed) (first : Jp) : GoneOk es first [] := ⟨by simp, (fun _ h => by cases h), (fun _ h => by cases h), (fun _ h => by cases h)⟩
theorem outB_iff {wo : List Pl} {k : Jp} : outB wo k = true ↔ k ∈ wo.map keyP := by
  unfold outB keyP
  rw [List.any_eq_true, List.mem_map]
  constructor
  · rintro ⟨p, h, e⟩
    rw [Bool.and_eq_true, beq_iff_eq, beq_iff_eq] at e
    exact ⟨p, h, Prod.ext e.1 e.2⟩
  · rintro ⟨p, h, e⟩
    refine ⟨p, h, ?_⟩
    rw [← e]; simp
theorem GoneOk.push {ns : List Nd} {es : List Ed} {up half : List Str} {first : Jp} {gone : List Pl} {p : Pl} (h : GoneOk es first gone) (hp : p ∈ pullQ ns es up half first gone) (hn : p.2.2.1 ≠ true) : GoneOk es first (gone ++ [p]) := by
  obtain ⟨h1, h2, h3⟩ := first_need hp hn
  refine ⟨?_, fun q hq => ?_, fun q hq => ?_, fun q hq => ?_⟩
  · rw [List.map_append, List.nodup_append]
    refine ⟨h.nd, by simp, fun a ha b hb e => ?_⟩
    simp only [List.map_cons, List.map_nil, List.mem_singleton] at hb
    have := outB_iff.2 ha
    rw [e, hb, h2] at this
    cases this
  · rcases List.mem_append.1 hq with hq | hq
    · exact h.cand q hq
    · rw [List.mem_singleton.1 hq]; exact h3
  · rcases List.mem_append.1 hq with hq | hq
    · exact h.free q hq
    · rw [List.mem_singleton.1 hq]; simpa using hn
  · rcases List.mem_append.1 hq with hq | hq
    · exact h.notf q hq
    · rw [List.mem_singleton.1 hq]; exact h1
theorem GoneOk.len {es : List Ed} {first : Jp} {gone : List Pl} (h : GoneOk es first gone) : gone.length ≤ 6 * es.length := by
  have := nodup_len h.nd (cand := candB es) (fun k hk => by
    obtain ⟨p, hp, rfl⟩ := List.mem_map.1 hk
    exact h.cand p hp)
  rw [candB_len, List.length_map] at this
  exact this
/-- What a transaction that comes about is: nothing is wrong with what is left. -/
theorem go_ok {ns : List Nd} {es : List Ed} {up half : List Str} {first : Jp} : ∀ (n : Nat) (gone : List Pl), GoneOk es first gone → fuelT es ≤ n + gone.length → (goT ns es up half first n gone).err = 0 →
    (goT ns es up half first n gone).l = pullQ ns es up half first (goT ns es up half first n gone).gone ∧ badP ns es up (goT ns es up half first n gone).l = none ∧ GoneOk es first (goT ns es up half first n gone).gone
  | 0, gone, h, hf, _ => by
    have := h.len
    unfold fuelT at hf
    omega
  | n + 1, gone, h, hf, he => by
    have e1 : goT ns es up half first (n + 1) gone = (match badP ns es up (pullQ ns es up half first gone) with
      | none => ⟨0, pullQ ns es up half first gone, gone⟩
      | some (p, e) => if p.2.2.1 = true then ⟨e, [], []⟩ else goT ns es up half first n (gone ++ [p])) := rfl
    rcases hb : badP ns es up (pullQ ns es up half first gone) with _ | ⟨p, e⟩
    · rw [e1, hb]
      exact ⟨rfl, hb, h⟩
    · rw [e1, hb] at he ⊢
      simp only at he ⊢
      by_cases hn : p.2.2.1 = true
      · rw [if_pos hn] at he
        exact absurd he (bad_err hb)
      · rw [if_neg hn] at he ⊢
        exact go_ok n (gone ++ [p]) (h.push (bad_mem hb) hn) (by rw [List.length_append]; simp only [List.length_cons, List.length_nil]; omega) he
theorem made_ok {ns : List Nd} {es : List Ed} {up half : List Str} {first : Jp} (h : (madeT ns es up half first).err = 0) :
    wrongT ns es up first = 0 ∧ (madeT ns es up half first).l = pullQ ns es up half first (madeT ns es up half first).gone ∧ badP ns es up (madeT ns es up half first).l = none ∧ GoneOk es first (madeT ns es up half first).gone := by
  unfold madeT at h ⊢
  by_cases hw : wrongT ns es up first = 0
  · rw [if_pos hw] at h ⊢
    exact ⟨hw, go_ok _ [] (GoneOk.nil _ _) (by simp) h⟩
  · rw [if_neg hw] at h
    exact absurd h hw
theorem made_bad {ns : List Nd} {es : List Ed} {up half : List Str} {first : Jp} : ∀ (n : Nat) (gone : List Pl), (goT ns es up half first n gone).err ≠ 0 → (goT ns es up half first n gone).l = [] ∧ (goT ns es up half first n gone).gone = []
  | 0, _, h => absurd rfl h
  | n + 1, gone, h => by
    have e1 : goT ns es up half first (n + 1) gone = (match badP ns es up (pullQ ns es up half first gone) with
      | none => ⟨0, pullQ ns es up half first gone, gone⟩
      | some (p, e) => if p.2.2.1 = true then ⟨e, [], []⟩ else goT ns es up half first n (gone ++ [p])) := rfl
    rcases hb : badP ns es up (pullQ ns es up half first gone) with _ | ⟨p, e⟩
    · rw [e1, hb] at h
      exact absurd rfl h
    · rw [e1, hb] at h ⊢
      simp only at h ⊢
      by_cases hn : p.2.2.1 = true
      · rw [if_pos hn]; exact ⟨rfl, rfl⟩
      · rw [if_neg hn] at h ⊢; exact made_bad n _ h
theorem made_none {ns : List Nd} {es : List Ed} {up half : List Str} {first : Jp} (h : (madeT ns es up half first).err ≠ 0) : (madeT ns es up half first).l = [] ∧ (madeT ns es up half first).gone = [] := by
  unfold madeT at h ⊢
  by_cases hw : wrongT ns es up first = 0
  · rw [if_pos hw] at h ⊢; exact made_bad _ _ h
  · rw [if_neg hw]; exact ⟨rfl, rfl⟩
end Od
end Go.Proofs.YtbllehjhmfehbaaGreat
end

section
/- Jobs as data: how they lie in cells. No program. -/
namespace Go.Proofs.YtbllehjhmfehbaaGreat
open Go.RowKit

/-- A unit, the type of its job, its state, its end. -/
abbrev Jb := Str × Int × Int × Int
def jbC (j : Jb) : List Value := [sv j.1, .int .i64 j.2.1, .int .i64 j.2.2.1, .int .i64 j.2.2.2]
def jbsC (l : List Jb) : List Value := l.flatMap jbC
abbrev jbV (j : Jb) : Value := .agg #[sv j.1, .int .i64 j.2.1, .int .i64 j.2.2.1, .int .i64 j.2.2.2]
theorem jbC_len (j : Jb) : (jbC j).length = 4 := rfl
theorem jbsC_len (l : List Jb) : (jbsC l).length = l.length * 4 := flat_len jbC 4 jbC_len l
theorem jbsC_app (a b : List Jb) : jbsC (a ++ b) = jbsC a ++ jbsC b := by simp [jbsC]
theorem jbsC_one (j : Jb) : jbsC [j] = jbC j := by simp [jbsC]
theorem one_jbC (j : Jb) : ∀ u ∈ jbC j, u.oneCell' = true := fun u hu => by
  simp only [jbC, List.mem_cons, List.not_mem_nil, or_false] at hu
  rcases hu with rfl | rfl | rfl | rfl <;> rfl
theorem one_jbsC (l : List Jb) : ∀ u ∈ jbsC l, u.oneCell' = true := fun u hu => by
  obtain ⟨j, _, hj⟩ := List.mem_flatMap.1 hu
  exact one_jbC j u hj
theorem jbsC_take (l : List Jb) (n : Nat) : jbsC (l.take n) = (jbsC l).take (n * 4) := by
  induction l generalizing n with
  | nil => simp [jbsC]
  | cons x l ih =>
    cases n with
    | zero => simp [jbsC]
    | succ n =>
      have h := ih n
      simp only [jbsC] at h
      simp only [jbsC, List.take_succ_cons, List.flatMap_cons, h]
      have e : (jbC x).take ((n + 1) * 4) = jbC x := List.take_of_length_le (by rw [jbC_len]; omega)
      rw [List.take_append, e, jbC_len, show (n + 1) * 4 - 4 = n * 4 by omega]
theorem jbsC_drop (l : List Jb) (n : Nat) : jbsC (l.drop n) = (jbsC l).drop (n * 4) := by
  induction l generalizing n with
  | nil => simp [jbsC]
  | cons x l ih =>
    cases n with
    | zero => simp [jbsC]
    | succ n =>
      have h := ih n
      simp only [jbsC] at h
      simp only [jbsC, List.drop_succ_cons, List.flatMap_cons, h]
      have e : (jbC x).drop ((n + 1) * 4) = [] := List.drop_eq_nil_of_le (by rw [jbC_len]; omega)
      rw [List.drop_append, e, jbC_len, show (n + 1) * 4 - 4 = n * 4 by omega]
      rfl
/-- The four cells of a job. -/
theorem Rd.job {w : World} {B : Nat} {A : Option Addr} {q : List Jb} (h : Rd w B 4 A q.length (jbsC q)) {i : Nat} (hi : i < q.length) :
    ∃ b o : Nat, A = some ⟨b, o, none⟩ ∧ b < B ∧ w.cell? ⟨b, o + i * 4, none⟩ = some (sv q[i].1) ∧ w.cell? ⟨b, o + i * 4 + 1, none⟩ = some (.int .i64 q[i].2.1) ∧ w.cell? ⟨b, o + i * 4 + 2, none⟩ = some (.int .i64 q[i].2.2.1) ∧
      w.cell? ⟨b, o + i * 4 + 3, none⟩ = some (.int .i64 q[i].2.2.2) := by
  obtain ⟨b, o, e, hb, hc⟩ := h.open (by omega)
  have h0 := flat_at jbC 4 jbC_len q i 0 hi (by omega)
  have h1 := flat_at jbC 4 jbC_len q i 1 hi (by omega)
  have h2 := flat_at jbC 4 jbC_len q i 2 hi (by omega)
  have h3 := flat_at jbC 4 jbC_len q i 3 hi (by omega)
  refine ⟨b, o, e, hb, ?_, ?_, ?_, ?_⟩
  · exact (hc (i * 4) (by omega)).trans h0
  · exact (hc (i * 4 + 1) (by omega)).trans h1
  · exact (hc (i * 4 + 2) (by omega)).trans h2
  · exact (hc (i * 4 + 3) (by omega)).trans h3
end Go.Proofs.YtbllehjhmfehbaaGreat
end

section
/- What the laws of trans say, of lists. No program. -/
namespace Go.Proofs.YtbllehjhmfehbaaGreat
set_option linter.unusedSimpArgs false
namespace Od
/-! What is needed never goes -/
def NeedT (es : List Ed) (up half : List Str) (first k : Jp) : Prop := Rj (needJ (bringB es up half)) (outB []) first k
structure GoneN (es : List Ed) (up half : List Str) (first : Jp) (gone : List Pl) : Prop where
  need : ∀ p ∈ gone, ¬ NeedT es up half first (keyP p)
  by_ : ∀ p ∈ gone, p.2.2.2 ≠ []
  stop : ∀ p ∈ gone, p.2.1 = 2 → ∃ q : Jp, q.1 = p.1 ∧ (q.2 = 1 ∨ q.2 = 3) ∧ NeedT es up half first q
theorem GoneN.nil (es : List Ed) (up half : List Str) (first : Jp) : GoneN es up half first [] := ⟨(fun _ h => by cases h), (fun _ h => by cases h), (fun _ h => by cases h)⟩
theorem need_same {es : List Ed} {up half : List Str} {first : Jp} {gone : List Pl} (h : GoneN es up half first gone) {k : Jp} : Rj (needJ (bringB es up half)) (outB gone) first k ↔ NeedT es up half first k := by
  constructor
  · intro hk
    induction hk with
    | one => exact .one
    | more _ hb _ ih => exact .more ih hb rfl
  · intro hk
    induction hk with
    | one => exact .one
    | @more j b hj hb ho ih =>
      refine .more ih hb ?_
      cases hc : outB gone b.1
      · rfl
      · obtain ⟨p, hp, e⟩ := List.mem_map.1 (outB_iff.1 hc)
        exact absurd (by rw [e]; exact Rj.more hj hb ho) (h.need p hp)
theorem reach_four {es : List Ed} {up half : List Str} {first : Jp} {out : Jp → Bool} (h4 : first.2 = 4) {k : Jp} (h : Rj (bringB es up half) out first k) : k = first := by
  induction h with
  | one => rfl
  | more _ hb _ ih =>
    exfalso
    subst ih
    rcases mem_bringB.1 hb with ⟨h, _⟩ | ⟨h, _⟩ <;> omega
theorem reach_type {es : List Ed} {up half : List Str} {first : Jp} {out : Jp → Bool} {k : Jp} (h : Rj (bringB es up half) out first k) (hne : k ≠ first) : k.2 = 1 ∨ k.2 = 2 ∨ k.2 = 3 := by
  cases h with
  | one => exact absurd rfl hne
  | more _ hb _ => exact (bring_edge hb).2
theorem clash_stop {l : List Pl} {p : Pl} (h : clashOf l = some p) (h2 : p.2.1 = 2) : ∃ q ∈ l, q.1 = p.1 ∧ q.2.1 ≠ 2 ∧ q.2.2.1 = true := by
  unfold clashOf at h
  split at h
  · cases h
  · rename_i s hs
    split at h
    · rename_i r hr
      injection h with h
      subst h
      have := (List.mem_filter.1 (List.mem_of_find?_eq_some hr)).2
      rw [Bool.and_eq_true] at this
      exact absurd h2 (by simpa using this.2)
    · rename_i hn
      injection h with h
      subst h
      have hb := List.find?_some hs
      unfold bothP at hb
      rw [Bool.and_eq_true] at hb
      have hne : othersL l s.1 ≠ [] := by
        intro e; rw [e] at hb; simp at hb
      obtain ⟨q, hq⟩ := List.exists_mem_of_ne_nil _ hne
      have h3 := List.find?_eq_none.1 hn q hq
      obtain ⟨h4, h5⟩ := List.mem_filter.1 hq
      rw [Bool.and_eq_true] at h5
      exact ⟨q, h4, by simpa using h5.1, by simpa using h5.2, by simpa using h3⟩
theorem bad_stop {ns : List Nd} {es : List Ed} {up : List Str} {l : List Pl} {p : Pl} {e : Int} (h : badP ns es up l = some (p, e)) (h2 : p.2.1 = 2) : clashOf l = some p := by
  unfold badP at h
  split at h
  · rename_i q hq
    injection h with h; injection h with h _
    subst h
    have := List.find?_some hq
    unfold sickP beginsP at this
    rw [h2] at this; simp at this
  · split at h
    · rename_i q hq
      injection h with h; injection h with h _
      subst h
      have := List.find?_some hq
      unfold lackP beginsP at this
      rw [h2] at this; simp at this
    · split at h
      · rename_i q hq
        injection h with h; injection h with h _
        subst h
        exact hq
      · cases h
theorem GoneN.push {ns : List Nd} {es : List Ed} {up half : List Str} {first : Jp} {gone : List Pl} {p : Pl} {e : Int} (hm : mayG ns es = true) (h : GoneN es up half first gone) (hb : badP ns es up (pullQ ns es up half first gone) = some (p, e)) (hn : p.2.2.1 ≠ true) : GoneN es up half first (gone ++ [p]) := by
  have hp := bad_mem hb
  obtain ⟨h0, hpl⟩ := mem_pullQ.1 hp
  obtain ⟨h1, h2, _⟩ := mem_allP.1 hpl
  obtain ⟨hne, _, _⟩ := first_need hp hn
  refine ⟨fun q hq => ?_, fun q hq => ?_, fun q hq ht => ?_⟩
  · rcases List.mem_append.1 hq with hq | hq
    · exact h.need q hq
    · rw [List.mem_singleton.1 hq]
      exact fun hk => hn (h2.2 ((need_same h).2 hk))
  · rcases List.mem_append.1 hq with hq | hq
    · exact h.by_ q hq
    · rw [List.mem_singleton.1 hq]
      exact fun he => hne ((pull_by hm hp).1.1 he)
  · rcases List.mem_append.1 hq with hq | hq
    · exact h.stop q hq ht
    · rw [List.mem_singleton.1 hq] at ht ⊢
      obtain ⟨r, hr, hr1, hr2, hr3⟩ := clash_stop (bad_stop hb ht) ht
      obtain ⟨_, hrl⟩ := mem_pullQ.1 hr
      obtain ⟨g1, g2, _⟩ := mem_allP.1 hrl
      refine ⟨keyP r, hr1, ?_, (need_same h).1 (g2.1 hr3)⟩
      have hfour : first.2 ≠ 4 := fun h4 => by
        have := reach_four h4 h1
        have h5 : p.2.1 = first.2 := by rw [← this]
        omega
      by_cases hrf : (r.1, r.2.1) = first
      · obtain ⟨_, a1, a2⟩ := asksB_iff.1 h0
        have h5 : r.2.1 = first.2 := by rw [← hrf]
        show r.2.1 = 1 ∨ r.2.1 = 3
        omega
      · have := reach_type g1 hrf
        simp only at this
        show r.2.1 = 1 ∨ r.2.1 = 3
        omega
theorem go_needN {ns : List Nd} {es : List Ed} {up half : List Str} {first : Jp} (hm : mayG ns es = true) : ∀ (n : Nat) (gone : List Pl), GoneN es up half first gone → (goT ns es up half first n gone).err = 0 → GoneN es up half first (goT ns es up half first n gone).gone
  | 0, _, h, _ => h
  | n + 1, gone, h, he => by
    have e1 : goT ns es up half first (n + 1) gone = (match badP ns es up (pullQ ns es up half first gone) with
      | none => ⟨0, pullQ ns es up half first gone, gone⟩
      | some (p, e) => if p.2.2.1 = true then ⟨e, [], []⟩ else goT ns es up half first n (gone ++ [p])) := rfl
    rcases hb : badP ns es up (pullQ ns es up half first gone) with _ | ⟨p, e⟩
    · rw [e1, hb]; exact h
    · rw [e1, hb] at he ⊢
      simp only at he ⊢
      by_cases hn : p.2.2.1 = true
      · rw [if_pos hn] at he
        exact absurd he (bad_err hb)
      · rw [if_neg hn] at he ⊢
        exact go_needN hm n _ (h.push hm hb hn) he
theorem wrong_ok {ns : List Nd} {es : List Ed} {up : List Str} {first : Jp} (h : wrongT ns es up first = 0) : mayG ns es = true ∧ 1 ≤ first.2 ∧ first.2 ≤ 4 ∧ (nodeOf ns first.1).isSome = true := by
  unfold wrongT at h
  split at h
  · cases h
  · rename_i h1
    split at h
    · cases h
    · rename_i h2
      split at h
      · cases h
      · rename_i h3
        have h2' : 1 ≤ first.2 ∧ first.2 ≤ 4 := Classical.not_not.1 h2
        exact ⟨by simpa using h1, h2'.1, h2'.2, by cases hh : (nodeOf ns first.1).isSome <;> simp_all⟩
/-! What is left when nothing is wrong -/
structure Left (ns : List Nd) (es : List Ed) (up half : List Str) (first : Jp) (gone l : List Pl) : Prop where
  may : mayG ns es = true
  asks : asksB ns first = true
  eq : l = pullQ ns es up half first gone
  sick : ∀ p ∈ l, beginsP p = true → stN ns p.1 = 1
  lack : ∀ p ∈ l, beginsP p = true → missP es up l p.1 = false
  both : ∀ p ∈ l, p.2.1 = 2 → ∀ q ∈ l, q.1 = p.1 → q.2.1 = 2
  gn : GoneN es up half first gone
  ok : GoneOk es first gone
theorem made_left {ns : List Nd} {es : List Ed} {up half : List Str} {first : Jp} (h : (madeT ns es up half first).err = 0) : Left ns es up half first (madeT ns es up half first).gone (madeT ns es up half first).l := by
  obtain ⟨h1, h2, h3, h4⟩ := made_ok h
  obtain ⟨w1, w2, w3, w4⟩ := wrong_ok h1
  have hg : GoneN es up half first (madeT ns es up half first).gone := by
    unfold madeT at h ⊢
    rw [if_pos h1] at h ⊢
    exact go_needN w1 _ [] (GoneN.nil _ _ _ _) h
  generalize (madeT ns es up half first).gone = gone at *
  generalize (madeT ns es up half first).l = l at *
  unfold badP at h3
  split at h3
  · cases h3
  · rename_i hs
    split at h3
    · cases h3
    · rename_i hl
      split at h3
      · cases h3
      · rename_i hc
        refine ⟨w1, asksB_iff.2 ⟨w4, w2, w3⟩, h2, fun p hp hb => ?_, fun p hp hb => ?_, fun p hp h5 q hq he => ?_, hg, h4⟩
        · have := List.find?_eq_none.1 hs p hp
          unfold sickP at this
          rw [hb] at this
          simpa using this
        · have := List.find?_eq_none.1 hl p hp
          unfold lackP at this
          rw [hb] at this
          simpa using this
        · unfold clashOf at hc
          split at hc
          · rename_i hn
            have h6 := List.find?_eq_none.1 hn p hp
            unfold bothP at h6
            rw [h5] at h6
            by_cases hq2 : q.2.1 = 2
            · exact hq2
            · exfalso
              have h7 : q ∈ othersL l p.1 := List.mem_filter.2 ⟨hq, by rw [he]; simp [hq2]⟩
              cases ho : othersL l p.1 with
              | nil => rw [ho] at h7; cases h7
              | cons a r => rw [ho] at h6; simp at h6
          · split at hc <;> cases hc
/-! The types of what is left of a unit -/
def isT (t : Int) : Bool := decide (1 ≤ t) && decide (t ≤ 4)
def jnT (a b : Int) (up : Bool) : Int × Bool :=
  if isT a = false ∨ isT b = false then (0, false)
  else if a = b then (a, true)
  else if a = 2 ∨ b = 2 then (0, false)
  else if a = 3 ∨ b = 3 then (3, true)
  else if up then (4, true) else (1, true)
def setT (t state : Int) : Int :=
  if isT t = false ∨ state < 0 ∨ 2 < state then 0
  else if (t = 1 ∧ state = 1) ∨ (t = 2 ∧ state = 0) ∨ (t = 4 ∧ ¬ state = 1) then 0
  else if t = 3 ∧ state = 0 then 1
  else t
def nowS (up half : List Str) (u : Str) : Int := if hasB up u = true then 1 else if hasB half u = true then 2 else 0
def foldT (up : Bool) : List Pl → Int
  | [] => 0
  | p :: r => r.foldl (fun t q => (jnT t q.2.1 up).1) p.2.1
def tyU (up : List Str) (l : List Pl) (u : Str) : Int := foldT (hasB up u) (l.filter (fun p => p.1 == u))
def setU (up half : List Str) (l : List Pl) (u : Str) : Int := setT (tyU up l u) (nowS up half u)
def unitsL (l : List Pl) : List Str := canon ltS (l.map (·.1))
def jobsT (up half : List Str) (l : List Pl) : List Jb := (unitsL l).filterMap (fun u => if setU up half l u = 0 then none else some (u, setU up half l u, 1, 0))
theorem isT_iff {t : Int} : isT t = true ↔ 1 ≤ t ∧ t ≤ 4 := by unfold isT; simp
/-- Types other than stop make such a type; a restart or, of a unit that is not up, a start among them shows. -/
theorem fold_free {up : Bool} : ∀ (r : List Pl) (t : Int), (t = 1 ∨ t = 3 ∨ t = 4) → (∀ q ∈ r, q.2.1 = 1 ∨ q.2.1 = 3 ∨ q.2.1 = 4) →
    let x := r.foldl (fun t q => (jnT t q.2.1 up).1) t
    (x = 1 ∨ x = 3 ∨ x = 4) ∧ ((x = 1 ∨ x = 3) → (t = 1 ∨ t = 3) ∨ ∃ q ∈ r, q.2.1 = 1 ∨ q.2.1 = 3) ∧ (up = false → ((t = 1 ∨ t = 3) ∨ ∃ q ∈ r, q.2.1 = 1 ∨ q.2.1 = 3) → x = 1 ∨ x = 3)
  | [], t, ht, _ => ⟨ht, fun h => .inl h, fun _ h => by
      rcases h with h | ⟨q, hq, _⟩
      · exact h
      · cases hq⟩
  | p :: r, t, ht, hr => by
    have hp := hr p (.head _)
    have hj : (jnT t p.2.1 up).1 = 1 ∨ (jnT t p.2.1 up).1 = 3 ∨ (jnT t p.2.1 up).1 = 4 := by
      rcases ht with rfl | rfl | rfl <;> rcases hp with e | e | e <;> rw [e] <;> cases up <;> simp [jnT, isT]
    have hj2 : ((jnT t p.2.1 up).1 = 1 ∨ (jnT t p.2.1 up).1 = 3) → (t = 1 ∨ t = 3) ∨ (p.2.1 = 1 ∨ p.2.1 = 3) := by
      rcases ht with rfl | rfl | rfl <;> rcases hp with e | e | e <;> rw [e] <;> cases up <;> simp [jnT, isT]
    have hj3 : up = false → ((t = 1 ∨ t = 3) ∨ (p.2.1 = 1 ∨ p.2.1 = 3)) → (jnT t p.2.1 up).1 = 1 ∨ (jnT t p.2.1 up).1 = 3 := by
      intro hu
      subst hu
      rcases ht with rfl | rfl | rfl <;> rcases hp with e | e | e <;> rw [e] <;> simp [jnT, isT]
    obtain ⟨h1, h2, h3⟩ := fold_free (up := up) r (jnT t p.2.1 up).1 hj (fun q hq => hr q (.tail _ hq))
    refine ⟨h1, fun hx => ?_, fun hu hx => ?_⟩
    · rcases h2 hx with h | ⟨q, hq, h⟩
      · rcases hj2 h with h | h
        · exact .inl h
        · exact .inr ⟨p, .head _, h⟩
      · exact .inr ⟨q, .tail _ hq, h⟩
    · refine h3 hu ?_
      rcases hx with h | ⟨q, hq, h⟩
      · exact .inl (hj3 hu (.inl h))
      · rcases List.mem_cons.1 hq with e | hq
        · subst e; exact .inl (hj3 hu (.inr h))
        · exact .inr ⟨q, hq, h⟩
section
variable {ns : List Nd} {es : List Ed} {up half : List Str} {first : Jp} {gone l : List Pl}
theorem Left.reach (h : Left ns es up half first gone l) {p : Pl} (hp : p ∈ l) : Rj (bringB es up half) (outB gone) first (keyP p) := by
  rw [h.eq] at hp
  exact (mem_allP.1 (mem_pullQ.1 hp).2).1
theorem Left.type (h : Left ns es up half first gone l) {p : Pl} (hp : p ∈ l) : (nodeOf ns p.1).isSome = true ∧ 1 ≤ p.2.1 ∧ p.2.1 ≤ 4 := reach_node h.may h.asks (h.reach hp)
theorem Left.has (h : Left ns es up half first gone l) {k : Jp} (hk : Rj (bringB es up half) (outB gone) first k) : ∃ p ∈ l, keyP p = k := by
  obtain ⟨p, hp, e, _⟩ := mem_pull h.asks hk
  exact ⟨p, by rw [h.eq]; exact hp, e⟩
/-- A unit without a stop: what its jobs make. -/
theorem Left.free (h : Left ns es up half first gone l) {u : Str} (hu : ∃ p ∈ l, p.1 = u) (hs : ∀ p ∈ l, p.1 = u → p.2.1 ≠ 2) :
    (tyU up l u = 1 ∨ tyU up l u = 3 ∨ tyU up l u = 4) ∧ ((tyU up l u = 1 ∨ tyU up l u = 3) → ∃ q ∈ l, q.1 = u ∧ (q.2.1 = 1 ∨ q.2.1 = 3)) ∧ (hasB up u = false → (∃ q ∈ l, q.1 = u ∧ (q.2.1 = 1 ∨ q.2.1 = 3)) → tyU up l u = 1 ∨ tyU up l u = 3) := by
  have hty : ∀ q ∈ l.filter (fun p => p.1 == u), (q ∈ l ∧ q.1 = u) ∧ (q.2.1 = 1 ∨ q.2.1 = 3 ∨ q.2.1 = 4) := fun q hq => by
    obtain ⟨h1, h2⟩ := List.mem_filter.1 hq
    have h2' : q.1 = u := by simpa using h2
    have h3 := h.type h1
    have h4 := hs q h1 h2'
    exact ⟨⟨h1, h2'⟩, by omega⟩
  have hmem : ∀ q ∈ l, q.1 = u → q ∈ l.filter (fun p => p.1 == u) := fun q hq e => List.mem_filter.2 ⟨hq, by simpa using e⟩
  unfold tyU
  obtain ⟨p0, hp0, e0⟩ := hu
  have hne := hmem p0 hp0 e0
  generalize l.filter (fun p => p.1 == u) = f at hty hmem hne
  cases f with
  | nil => cases hne
  | cons p r =>
    obtain ⟨h1, h2, h3⟩ := fold_free (up := hasB up u) r p.2.1 (hty p (.head _)).2 (fun q hq => (hty q (.tail _ hq)).2)
    refine ⟨h1, fun hx => ?_, fun hu hx => h3 hu ?_⟩
    · rcases h2 hx with g | ⟨q, hq, g⟩
      · exact ⟨p, (hty p (.head _)).1.1, (hty p (.head _)).1.2, g⟩
      · exact ⟨q, (hty q (.tail _ hq)).1.1, (hty q (.tail _ hq)).1.2, g⟩
    · obtain ⟨q, hq, hq1, g⟩ := hx
      rcases List.mem_cons.1 (hmem q hq hq1) with e | hq
      · subst e; exact .inl g
      · exact .inr ⟨q, hq, g⟩
/-- A unit with a stop: it alone. -/
theorem Left.stop (h : Left ns es up half first gone l) {u : Str} {p : Pl} (hp : p ∈ l) (hu : p.1 = u) (h2 : p.2.1 = 2) : tyU up l u = 2 := by
  have hty : ∀ q ∈ l.filter (fun p => p.1 == u), q.2.1 = 2 := fun q hq => by
    obtain ⟨h1, h3⟩ := List.mem_filter.1 hq
    exact h.both p hp h2 q h1 (by rw [hu]; simpa using h3)
  have hne : p ∈ l.filter (fun p => p.1 == u) := List.mem_filter.2 ⟨hp, by simpa using hu⟩
  unfold tyU
  generalize l.filter (fun p => p.1 == u) = f at hty hne
  cases f with
  | nil => cases hne
  | cons a r =>
    have ha := hty a (.head _)
    have hr : ∀ q ∈ r, q.2.1 = 2 := fun q hq => hty q (.tail _ hq)
    show r.foldl (fun t q => (jnT t q.2.1 (hasB up u)).1) a.2.1 = 2
    rw [ha]
    clear hty hne ha
    induction r with
    | nil => rfl
    | cons b r ih =>
      rw [List.foldl_cons, hr b (.head _)]
      rw [show (jnT 2 2 (hasB up u)).1 = 2 by simp [jnT, isT]]
      exact ih fun q hq => hr q (.tail _ hq)
end
theorem setT_cases {t s : Int} (h : setT t s ≠ 0) : 1 ≤ setT t s ∧ setT t s ≤ 4 ∧ 0 ≤ s ∧ s ≤ 2 ∧ ((setT t s = 1 ∨ setT t s = 3) → (t = 1 ∨ t = 3)) ∧ (setT t s = 2 → t = 2) ∧ setT (setT t s) s = setT t s := by
  unfold setT at h ⊢
  split at h
  · exact absurd rfl h
  · rename_i h1
    rw [if_neg h1]
    have h1' : isT t = true ∧ 0 ≤ s ∧ s ≤ 2 := by
      simp only [not_or] at h1
      exact ⟨by cases hh : isT t <;> simp_all, by omega, by omega⟩
    obtain ⟨g1, g2, g3⟩ := h1'
    have g1' := isT_iff.1 g1
    split at h
    · exact absurd rfl h
    · rename_i h2
      rw [if_neg h2]
      split
      · rename_i h3
        have h4 : s = 0 := h3.2
        subst h4
        simp [isT]
        omega
      · rename_i h3
        refine ⟨by omega, by omega, g2, g3, fun hx => by omega, fun hx => hx, ?_⟩
        simp only [h1, h2, h3, if_false]
theorem nowS_is (up half : List Str) (u : Str) : nowS up half u = 0 ∨ nowS up half u = 1 ∨ nowS up half u = 2 := by
  unfold nowS
  split
  · exact .inr (.inl rfl)
  · split
    · exact .inr (.inr rfl)
    · exact .inl rfl
theorem nowS_one {up half : List Str} {u : Str} (h : nowS up half u = 1) : hasB up u = true := by
  unfold nowS at h
  split at h
  · assumption
  · split at h <;> omega
theorem nowS_zero {up half : List Str} {u : Str} (h : nowS up half u = 0) : hasB up u = false ∧ hasB half u = false := by
  unfold nowS at h
  split at h
  · omega
  · rename_i h1
    split at h
    · omega
    · rename_i h2
      exact ⟨by simpa using h1, by simpa using h2⟩
theorem setT_two {t s : Int} (h : setT t s = 2) : t = 2 := by
  have := setT_cases (t := t) (s := s) (by omega)
  exact this.2.2.2.2.2.1 h
theorem mem_unitsL {l : List Pl} {u : Str} : u ∈ unitsL l ↔ ∃ p ∈ l, p.1 = u := by
  unfold unitsL
  rw [mem_canon toS, List.mem_map]
/-- What the jobs say of a unit. -/
theorem mem_jobsT {up half : List Str} {l : List Pl} {j : Jb} : j ∈ jobsT up half l ↔ (∃ p ∈ l, p.1 = j.1) ∧ setU up half l j.1 ≠ 0 ∧ j = (j.1, setU up half l j.1, 1, 0) := by
  unfold jobsT
  rw [List.mem_filterMap]
  constructor
  · rintro ⟨u, hu, h⟩
    split at h
    · cases h
    · rename_i h0
      injection h with h
      subst h
      exact ⟨mem_unitsL.1 hu, h0, rfl⟩
  · rintro ⟨hu, h0, h⟩
    refine ⟨j.1, mem_unitsL.2 hu, ?_⟩
    rw [if_neg h0, ← h]
theorem jobsT_up (up half : List Str) (l : List Pl) : (jobsT up half l).Pairwise (fun a b => ltS a.1 b.1 = true) := by
  unfold jobsT
  refine List.Pairwise.filterMap _ (R := fun x y => ltS x y = true) ?_ (canon_ss toS _)
  intro a b hab x hx y hy
  split at hx
  · cases hx
  · split at hy
    · cases hy
    · injection hx with hx
      injection hy with hy
      subst hx; subst hy
      exact hab
theorem tyU_none {up : List Str} {l : List Pl} {u : Str} (h : ¬ ∃ p ∈ l, p.1 = u) : tyU up l u = 0 := by
  unfold tyU
  have : l.filter (fun p => p.1 == u) = [] := List.filter_eq_nil_iff.2 fun p hp he => h ⟨p, hp, by simpa using he⟩
  rw [this]; rfl
theorem setU_none {up half : List Str} {l : List Pl} {u : Str} (h : ¬ ∃ p ∈ l, p.1 = u) : setU up half l u = 0 := by
  unfold setU
  rw [tyU_none h]
  rfl
section
variable {ns : List Nd} {es : List Ed} {up half : List Str} {first : Jp} {gone l : List Pl}
/-- Of each job: its unit is there; what begins is loaded; it is to be done. -/
theorem Left.job (h : Left ns es up half first gone l) {j : Jb} (hj : j ∈ jobsT up half l) :
    j.2.2.1 = 1 ∧ j.2.2.2 = 0 ∧ (nodeOf ns j.1).isSome = true ∧ ((j.2.1 = 1 ∨ j.2.1 = 3) → stN ns j.1 = 1) ∧ setT j.2.1 (nowS up half j.1) = j.2.1 := by
  obtain ⟨hu, h0, e⟩ := mem_jobsT.1 hj
  obtain ⟨c1, c2, c3, c4, c5, c6, c7⟩ := setT_cases (t := tyU up l j.1) (s := nowS up half j.1) h0
  have e1 : j.2.1 = setU up half l j.1 := by rw [e]
  have e2 : j.2.2.1 = 1 := by rw [e]
  have e3 : j.2.2.2 = 0 := by rw [e]
  refine ⟨e2, e3, ?_, fun hb => ?_, ?_⟩
  · obtain ⟨p, hp, hpu⟩ := hu
    rw [← hpu]; exact (h.type hp).1
  · rw [e1] at hb
    have h5 := c5 hb
    have hs : ∀ p ∈ l, p.1 = j.1 → p.2.1 ≠ 2 := fun p hp hpu h2 => by
      have := h.stop hp hpu h2
      omega
    obtain ⟨q, hq, hqu, hqt⟩ := (h.free hu hs).2.1 h5
    rw [← hqu]
    exact h.sick q hq (by unfold beginsP; rcases hqt with e | e <;> rw [e] <;> rfl)
  · rw [e1]; exact c7
/-- What went: not needed, brought by another. -/
theorem Left.went (h : Left ns es up half first gone l) {p : Pl} (hp : p ∈ gone) : p.2.2.1 = false ∧ p.2.2.2 ≠ [] := ⟨h.ok.free p hp, h.gn.by_ p hp⟩
/-- Whom a unit that begins requires. -/
theorem Left.needs (h : Left ns es up half first gone l) {p : Pl} (hp : p ∈ l) (hb : p.2.1 = 1 ∨ p.2.1 = 3) {v : Str} (hv : (p.1, v, 1) ∈ es ∨ (p.1, v, 4) ∈ es) :
    setU up half l v ≠ 2 ∧ (setU up half l v = 0 → hasB up v = true) := by
  have hbp : beginsP p = true := by unfold beginsP; rcases hb with e | e <;> rw [e] <;> rfl
  have hm := h.lack p hp hbp
  have hmiss : ∃ rel : Int, missU up l rel v = false := by
    unfold missP at hm
    rw [Bool.or_eq_false_iff, Bool.or_eq_false_iff] at hm
    rcases hv with hv | hv
    · refine ⟨1, ?_⟩
      have := List.any_eq_false.1 hm.2.1 v (mem_outS.2 hv)
      simpa using this
    · refine ⟨4, ?_⟩
      have := List.any_eq_false.1 hm.2.2 v (mem_outS.2 hv)
      simpa using this
  obtain ⟨rel, hmiss⟩ := hmiss
  unfold missU at hmiss
  rw [Bool.or_eq_false_iff] at hmiss
  obtain ⟨m1, m2⟩ := hmiss
  have hstart : startL l v = true → ∃ q ∈ l, q.1 = v ∧ (q.2.1 = 1 ∨ q.2.1 = 3) := fun hs => by
    unfold startL at hs
    obtain ⟨q, hq, hq2⟩ := List.any_eq_true.1 hs
    rw [Bool.and_eq_true] at hq2
    refine ⟨q, hq, by simpa using hq2.1, ?_⟩
    have := hq2.2
    unfold beginsP at this
    simpa using this
  have hs : ∀ q ∈ l, q.1 = v → q.2.1 ≠ 2 := fun q hq hqv h2 => by
    have hstop : stopL l v = true := List.any_eq_true.2 ⟨q, hq, by rw [hqv, h2]; simp⟩
    rw [hstop] at m2
    have hst : startL l v = true := by
      cases hh : startL l v
      · rw [hh] at m2; simp at m2
      · rfl
    obtain ⟨r, hr, hrv, hrt⟩ := hstart hst
    have := h.both q hq h2 r hr (by rw [hrv, hqv])
    omega
  refine ⟨fun h2 => ?_, fun h0 => ?_⟩
  · have h3 := setT_two h2
    by_cases hu : ∃ p ∈ l, p.1 = v
    · have := (h.free hu hs).1
      omega
    · rw [tyU_none hu] at h3
      omega
  · cases hup : hasB up v
    · exfalso
      rw [hup] at m1
      have hst : startL l v = true := by
        cases hh : startL l v
        · rw [hh] at m1; simp at m1
        · rfl
      obtain ⟨r, hr, hrv, hrt⟩ := hstart hst
      have ht := (h.free ⟨r, hr, hrv⟩ hs).2.2 hup ⟨r, hr, hrv, hrt⟩
      have hn : nowS up half v = 0 ∨ nowS up half v = 2 := by
        rcases nowS_is up half v with e | e | e
        · exact .inl e
        · have := nowS_one e
          rw [hup] at this; cases this
        · exact .inr e
      unfold setU at h0
      rcases ht with e | e <;> rcases hn with e2 | e2 <;> rw [e, e2] at h0 <;> simp [setT, isT] at h0
    · rfl
/-- Whom a unit that begins can't be with. -/
theorem Left.apart (h : Left ns es up half first gone l) {p : Pl} (hp : p ∈ l) (hb : p.2.1 = 1 ∨ p.2.1 = 3) {o : Str} (ho : (p.1, o, 6) ∈ es ∨ (o, p.1, 6) ∈ es) :
    setU up half l o = 2 ∨ (setU up half l o = 0 ∧ hasB up o = false ∧ hasB half o = false) := by
  have hstop : ∀ {u v : Str} {t : Int}, (t = 1 ∨ t = 3) → ((u, v, 6) ∈ es ∨ (v, u, 6) ∈ es) → (((v, 2), true) : Bg) ∈ bringB es up half (u, t) := fun ht he =>
    mem_bringB.2 (.inl ⟨ht, mem_startB.2 (.inr (.inr ⟨rfl, rfl, he⟩))⟩)
  have hout : outB gone (o, 2) = false := by
    cases hc : outB gone (o, 2)
    · rfl
    · exfalso
      obtain ⟨g, hg, e⟩ := List.mem_map.1 (outB_iff.1 hc)
      have e2 : g.2.1 = 2 := by have := congrArg Prod.snd e; exact this
      have e1 : g.1 = o := by have := congrArg Prod.fst e; exact this
      obtain ⟨q, hq1, hq2, hq3⟩ := h.gn.stop g hg e2
      have hbr : (((p.1, 2), true) : Bg) ∈ bringB es up half q := by
        have hqe : q = (q.1, q.2) := rfl
        rw [hqe]
        exact hstop hq2 (by rw [hq1, e1]; exact ho.symm)
      have hn2 : NeedT es up half first (p.1, 2) := Rj.more hq3 (List.mem_filter.2 ⟨hbr, rfl⟩) rfl
      obtain ⟨s, hs, es'⟩ := h.has (need_pull ((need_same h.gn).2 hn2))
      have s1 : s.1 = p.1 := by have := congrArg Prod.fst es'; exact this
      have s2 : s.2.1 = 2 := by have := congrArg Prod.snd es'; exact this
      have := h.both s hs s2 p hp s1.symm
      omega
  have hk : Rj (bringB es up half) (outB gone) first (o, 2) := by
    have hbr : (((o, 2), true) : Bg) ∈ bringB es up half (keyP p) := hstop hb ho
    exact Rj.more (h.reach hp) hbr hout
  obtain ⟨s, hs, es'⟩ := h.has hk
  have s1 : s.1 = o := by have := congrArg Prod.fst es'; exact this
  have s2 : s.2.1 = 2 := by have := congrArg Prod.snd es'; exact this
  have ht := h.stop hs s1 s2
  unfold setU
  rw [ht]
  rcases nowS_is up half o with e | e | e
  · refine .inr ⟨?_, nowS_zero e⟩
    rw [e]; simp [setT, isT]
  · left; rw [e]; simp [setT, isT]
  · left; rw [e]; simp [setT, isT]
/-- Two of a unit go together. -/
theorem Left.joins (h : Left ns es up half first gone l) {p q : Pl} (hp : p ∈ l) (hq : q ∈ l) (he : p.1 = q.1) : (jnT p.2.1 q.2.1 true).2 = true := by
  have h1 := (h.type hp).2
  have h2 := (h.type hq).2
  have b1 := h.both p hp
  have b2 := h.both q hq
  have i1 : isT p.2.1 = true := isT_iff.2 h1
  have i2 : isT q.2.1 = true := isT_iff.2 h2
  unfold jnT
  rw [if_neg (by rw [i1, i2]; simp)]
  split
  · rfl
  · rename_i hne
    rw [if_neg (by
      rintro (e | e)
      · have := b1 e q hq he.symm
        omega
      · have := b2 e p hp he
        omega)]
    split
    · rfl
    · rfl
end
end Od
end Go.Proofs.YtbllehjhmfehbaaGreat
end
