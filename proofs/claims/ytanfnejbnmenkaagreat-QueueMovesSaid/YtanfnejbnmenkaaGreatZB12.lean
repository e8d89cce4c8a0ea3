/- My texts, joined for the claim: QConcat QLacksW QLaw. -/
import Derived.Test.YtanfnejbnmenkaaGreatZB11
import Derived.Test.YtanfnejbnmenkaaGreatZB5
import Derived.Test.YtanfnejbnmenkaaGreatZB1

section
/- slices.Grow of nothing, slices.Concat of two rows of texts, slices.DeleteFunc of a row of texts of the call's own. (bel2) -/
namespace Go.Proofs.YtanfnejbnmenkaaGreat
open Go.RowKit Go.Sort
set_option linter.unusedSimpArgs false

section
variable {w : World} {base e k n c : Nat} {xs : List Value} {g : Nat}
/-- What is left of it when its end is cut. -/
theorem own_cut (h : w.ownsRow base e k (.slice (some ⟨g, 0, none⟩) n c) n xs) {i : Nat} (hi : i ≤ n) : w.ownsRow base e k (.slice (some ⟨g, 0, none⟩) i c) i (xs.take (i * k)) := by
  obtain ⟨hl, ⟨hv, _⟩ | ⟨g', cap, cur, hv, hg, hh, h1, h2, h3, h4⟩⟩ := h
  · injection hv with h1; cases h1
  · injection hv with e1 _ e3
    injection e1 with e1
    injection e1 with e1
    subst e1 e3
    have hik : i * k ≤ n * k := Nat.mul_le_mul_right k hi
    exact ⟨by rw [List.length_take, hl, Nat.min_eq_left hik], .inr ⟨g, c, cur, rfl, hg, hh, by omega, h2, h3, by rw [← h4, List.take_take, Nat.min_eq_left hik]⟩⟩
theorem own_setCells {i : Nat} : ∀ (vs : List Value) (o : Nat) (w : World) (xs : List Value), i ≤ o → w.ownsRow base e k (.slice (some ⟨g, 0, none⟩) n c) n xs →
    ∃ xs', (w.setCells g o vs).ownsRow base e k (.slice (some ⟨g, 0, none⟩) n c) n xs' ∧ xs'.take i = xs.take i
  | [], _, _, xs, _, h => ⟨xs, h, rfl⟩
  | v :: r, o, _, xs, ho, h => by
    obtain ⟨xs', h1, h2⟩ := own_setCells (i := i) r (o + 1) _ _ (by omega) (own_set h (j := o) v)
    exact ⟨xs', h1, by rw [h2, List.take_set_of_le ho]⟩
theorem below_setCells {B : Nat} {w0 : World} : ∀ (vs : List Value) (o : Nat) (w : World), B ≤ g → Below B w0 w → Below B w0 (w.setCells g o vs)
  | [], _, _, _, h => h
  | v :: r, o, _, hg, h => below_setCells r (o + 1) _ hg (h.setCell hg v)
end
namespace Od
theorem OwnS.ofq {ss : List Str} {w w' : World} {v : Value} (h : w'.ownsRow w.heap.size 9 1 v ss.length (svs ss)) (hb : Below w.heap.size w w') : OwnS ss w (.returned v) w' := by
  obtain ⟨A, c, rfl, _⟩ := own_rd h
  exact ⟨A, c, rfl, h, hb⟩
set_option maxHeartbeats 1000000 in
theorem GrowS_own (n : Nat) (w : World) (hn : n ≤ 1000000) : Calls Tryz.prog 126 #[.slice none 0 0, .int .i64 n] w fun e w' => ∃ A c, e = .returned (.slice A 0 c) ∧ w'.ownsRow w.heap.size 9 1 (.slice A 0 c) 0 [] ∧ Below w.heap.size w w' := by
  obtain ⟨i0, hi, hz0, hz1, hz2⟩ := info_parts infoS
  rcases Nat.eq_zero_or_pos n with h0 | h0
  · subst h0
    refine (show Calls Tryz.prog 126 _ w _ from Go.Proofs.Any8.slices_Grow_room (P := Tryz.prog) Tryz.growS none 0 0 0 w (by omega) (by omega) (by omega) (by omega)).mono ?_
    rintro e w' ⟨rfl, rfl⟩
    exact ⟨none, 0, rfl, World.ownsRow_nil _ _ _ _, Below.refl _ _⟩
  · refine (show Calls Tryz.prog 126 _ w _ from Go.Proofs.Any8.slices_Grow_grow (P := Tryz.prog) Tryz.growS i0 (.string ⟨#[]⟩) hi hz0 (by rw [hz1]; omega) none 0 0 n [] w (by omega) (by omega) (by rw [hz2]; omega) (by omega) (by simp) (fun _ => rfl) (fun a h => by cases h)).mono ?_
    rintro e w' ⟨rfl, rfl⟩
    have hle := grownCap_le_maxLen w (0 + n) 0 9 (by unfold maxLen; omega)
    refine ⟨_, _, rfl, ⟨rfl, .inr ⟨w.heap.size, _, _, rfl, Nat.le_refl _, by show (w.heap.push _)[w.heap.size]? = _; exact Array.getElem?_push_size, Nat.zero_le _, hle, ?_, by simp⟩⟩, (Below.drew (Below.refl _ _)).alloc (Nat.le_refl _) _⟩
    have hge2 := grownCap_ge w n 0 (Tryz.growS_ren.t 25)
    simp [size_zeroCells, Value.cells]
    omega
set_option maxRecDepth 100000 in
set_option maxHeartbeats 8000000 in
theorem Concat2_any (b : Nat) (A1 A2 : Option Addr) (c1 c2 : Nat) (xs ys : List Str) (w : World) (hc0 : w.cell? ⟨b, 0, none⟩ = some (.slice A1 xs.length c1)) (hc1 : w.cell? ⟨b, 1, none⟩ = some (.slice A2 ys.length c2))
    (h1 : Rd w w.heap.size 1 A1 xs.length (svs xs)) (h2 : Rd w w.heap.size 1 A2 ys.length (svs ys)) (hx : xs.length ≤ 300000) (hy : ys.length ≤ 300000) :
    Calls Tryz.prog 107 #[.slice (some ⟨b, 0, none⟩) 2 2] w (OwnS (xs ++ ys) w) := by
  obtain ⟨i0, hi, hz0, hz1, hz2⟩ := info_parts infoS
  have hbk := cell_blk hc0
  simp only at hbk
  have H1 := Lib.hid h1
  have H2 := Lib.hid h2
  have hlen : (xs ++ ys).length = xs.length + ys.length := List.length_append
  have HL := Lib.hid hlen
  clear h1 h2 hlen
  have hbw : b < w.heap.size := hbk
  have hq0 := hc0
  have hq1 := hc1
  have HW1 := H1
  have HW2 := H2
  go_enter Tryz.func107, Tryz.ntmps107
  go_wp2_with fail
  go_loop [3, 11] (fun s i => (s = .int .i64 0 ∧ i = .int .i64 0) ∨ (s = .int .i64 xs.length ∧ i = .int .i64 1) ∨ (s = .int .i64 (xs.length + ys.length : Nat) ∧ i = .int .i64 2)) (fun _ i => 2 - (intOf i).toNat)
  case atStart => exact .inl ⟨rfl, rfl⟩
  case round =>
    have hw1 : IntKind.i64.wrap ((xs.length : Int)) = (xs.length : Int) := IntWalk.i64_in _ (by omega)
    have hw2 : IntKind.i64.wrap ((xs.length : Int) + (ys.length : Int)) = ((xs.length : Int) + (ys.length : Int)) := IntWalk.i64_in _ (by omega)
    have hn1 : decide ((xs.length : Int) < 0) = false := by simp
    have hn2 : decide ((xs.length : Int) + (ys.length : Int) < 0) = false := by rw [decide_eq_false_iff_not]; omega
    rcases hrel with ⟨rfl, rfl⟩ | ⟨rfl, rfl⟩ | ⟨rfl, rfl⟩
    · go_wp2_with fail
      go_round
      case rel => exact .inr (.inl ⟨rfl, rfl⟩)
      case measure => simp [intOf]
    · go_wp2_with fail
      go_round
      case rel => exact .inr (.inr ⟨by simp, rfl⟩)
      case measure => simp [intOf]
    · go_wp2_with fail
      refine (GrowS_own (xs.length + ys.length) w (by omega)).mono ?_
      rintro e w2 ⟨A, c, rfl, ho, hb⟩
      have HO := Lib.hid ho
      replace hc0 := cellAt hc0 hb (by omega)
      replace hc1 := cellAt hc1 hb (by omega)
      replace H1 := Lib.hid (H1.out.at hb)
      replace H2 := Lib.hid (H2.out.at hb)
      replace hbk : b < w2.heap.size := ltAt hbk hb
      have HB := Lib.hid hb
      clear hb ho
      go_wp2_with fail
      go_loopw [6, 27] (fun v i wr => Below w.heap.size w wr ∧ ((i = .int .i64 0 ∧ wr.ownsRow w.heap.size 9 1 v 0 []) ∨ (i = .int .i64 1 ∧ wr.ownsRow w.heap.size 9 1 v xs.length (svs xs)) ∨ (i = .int .i64 2 ∧ wr.ownsRow w.heap.size 9 1 v (xs ++ ys).length (svs (xs ++ ys))))) (fun _ i _ => 2 - (intOf i).toNat)
      case atStart => exact ⟨HB.out, .inl ⟨rfl, HO.out⟩⟩
      case round =>
        obtain ⟨hb, hcase⟩ := hrel
        have HBr := Lib.hid hb
        clear HB HO
        have hsz : w.heap.size ≤ wr.heap.size := hb.size
        have hd0 := (hb.cell (p := ⟨b, 0, none⟩) hbw).trans hq0
        have hd1 := (hb.cell (p := ⟨b, 1, none⟩) hbw).trans hq1
        have HR1 := Lib.hid (HW1.out.at hb)
        have HR2 := Lib.hid (HW2.out.at hb)
        clear hb hc0 hc1 hq0 hq1
        rcases hcase with ⟨rfl, ho⟩ | ⟨rfl, ho⟩ | ⟨rfl, ho⟩
        · obtain ⟨A6, c6, rfl, _⟩ := own_rd ho
          have HOr := Lib.hid ho
          clear ho hd1
          have h63 : 0 + xs.length ≤ maxLen := by unfold maxLen; omega
          have hby : (0 + xs.length) * 16 ≤ 140737488355328 := by omega
          go_wp2_with (first
            | (at_builtin; refine wpList_append_rd _ (by rfl) (.tmp 31) (.tmp 32) 37 (by rfl) w.heap.size 9 i0 _ 1 16 Tryz.underlying37 hi hz0 hz1 hz2 rfl (by decide) _ 0 [] (by rfl) HOr.out _ A1 xs.length c1 (svs xs) (by rfl) HR1.out (one_svs xs) h63 hby hsz ?_; intro A7 c7 w7 ho7 hg7 hat7)
            | fail)
          go_roundw
          case rel => exact ⟨HBr.out.grown hg7 hsz (fun j hj => (HOr.out.lt j hj).1), .inr (.inl ⟨rfl, by simpa using ho7⟩)⟩
          case measure => simp [intOf]
        · obtain ⟨A6, c6, rfl, _⟩ := own_rd ho
          have HOr := Lib.hid ho
          clear ho hd0
          have h63 : xs.length + ys.length ≤ maxLen := by unfold maxLen; omega
          have hby : (xs.length + ys.length) * 16 ≤ 140737488355328 := by omega
          go_wp2_with (first
            | (at_builtin; refine wpList_append_rd _ (by rfl) (.tmp 31) (.tmp 32) 37 (by rfl) w.heap.size 9 i0 _ 1 16 Tryz.underlying37 hi hz0 hz1 hz2 rfl (by decide) _ xs.length (svs xs) (by rfl) HOr.out _ A2 ys.length c2 (svs ys) (by rfl) HR2.out (one_svs ys) h63 hby hsz ?_; intro A7 c7 w7 ho7 hg7 hat7)
            | fail)
          go_roundw
          case rel => exact ⟨HBr.out.grown hg7 hsz (fun j hj => (HOr.out.lt j hj).1), .inr (.inr ⟨rfl, by rw [HL.out]; simpa [svs] using ho7⟩)⟩
          case measure => simp [intOf]
        · have HOr := Lib.hid ho
          clear ho
          go_wp2_with fail
          go_ret
          exact OwnS.ofq HOr.out HBr.out
/-- A function value that says of a text whether p, whatever has been made since w0, and whatever was written at base and above. -/
structure SaysB2 (g : Nat) (caps : Array Value) (p : Str → Bool) (base : Nat) (w0 : World) : Prop where
  enters : ∀ (args : Array Value) (W : World), (callFunc g args).run Tryz.prog W = .ok (.enter g args) W
  says : ∀ (W : World) (s : Str), Below base w0 W → Calls Tryz.prog g (#[sv s] ++ caps) W fun e w' => e = .returned (.bool (p s)) ∧ Below W.heap.size W w'
theorem SaysB2.at {g : Nat} {caps : Array Value} {p : Str → Bool} {base : Nat} {w0 w : World} (h : SaysB2 g caps p base w0) (hb : Below base w0 w) (hs : base ≤ w.heap.size) : SaysS g caps p w := ⟨h.enters, fun W s hW => h.says W s (hb.trans (hW.mono hs))⟩
theorem filter_all_of {p : Str → Bool} {L : List Str} (h : L.find? p = none) : L.filter (fun s => !p s) = L := by
  rw [List.filter_eq_self]
  intro s hs
  have := List.find?_eq_none.1 h s hs
  simpa using this
theorem filter_first {p : Str → Bool} {L : List Str} {k : Nat} (hk : k < L.length) (h1 : p L[k] = true) (h0 : ∀ j, ∀ hj : j < k, p (L[j]'(by omega)) = false) : (L.take (k + 1)).filter (fun s => !p s) = L.take k := by
  rw [List.take_succ_eq_append_getElem hk, List.filter_append]
  have e1 : [L[k]].filter (fun s => !p s) = [] := by simp [h1]
  rw [e1, List.append_nil, List.filter_eq_self]
  intro s hs
  obtain ⟨j, hj, rfl⟩ := List.mem_iff_getElem.1 hs
  have hj' : j < k := by simp at hj; omega
  have := h0 j hj'
  simp only [List.getElem_take]
  simpa using this
set_option maxRecDepth 100000 in
set_option maxHeartbeats 8000000 in
theorem DeleteFuncS_own (base c n : Nat) (A : Option Addr) (L : List Str) (g : Nat) (caps : Array Value) (p : Str → Bool) (w0 w : World) (h : w.ownsRow base 9 1 (.slice A n c) n (svs L)) (hL : L.length = n) (hn : n ≤ 1000000) (hp : SaysB2 g caps p base w0) (hb0 : Below base w0 w) (hbase : base ≤ w.heap.size) :
    Calls Tryz.prog 109 #[.slice A n c, .func (.func g) #[] caps] w fun e w' => ∃ A' c', e = .returned (.slice A' (L.filter (fun s => !p s)).length c') ∧ w'.ownsRow base 9 1 (.slice A' (L.filter (fun s => !p s)).length c') (L.filter (fun s => !p s)).length (svs (L.filter (fun s => !p s))) ∧ Below base w0 w' := by
  obtain ⟨i0, hi, hz0, hz1, hz2⟩ := info_parts infoS
  have Ho := Lib.hid h
  have Hp := Lib.hid hp
  have Hb0 := Lib.hid hb0
  have eg := hp.enters
  have hr := own_rd' h
  have hcap := own_cap h
  subst hL
  have Hr := Lib.hid hr
  clear h hp hb0 hr
  go_enter Tryz.func109, Tryz.ntmps109
  go_wp2_with fail
  refine (IndexFuncS A c L g caps p w Hr.out hn (Hp.out.at Hb0.out hbase)).mono ?_
  rintro e w2 ⟨r, rfl, hcase, hb⟩
  have HO2 := Lib.hid (own_on Ho.out hb)
  have HB2 := Lib.hid (Hb0.out.trans (hb.mono hbase))
  have hbase2 : base ≤ w2.heap.size := Nat.le_trans hbase hb.size
  clear hb Ho Hr Hb0
  rcases hcase with ⟨rfl, hnone⟩ | ⟨k, hk, rfl, _, hpk, hbef⟩
  · have HF := Lib.hid (filter_all_of hnone)
    go_wp2_with fail
    go_ret
    rw [HF.out]
    exact ⟨A, c, rfl, HO2.out, HB2.out⟩
  · have hfirst := filter_first hk hpk hbef
    have HF := Lib.hid hfirst
    clear hfirst hpk hbef
    obtain ⟨gb, rfl, hgb, hgl, _⟩ := own_open HO2.out (by omega)
    have hneq : ((k : Int) == -1) = false := by rw [beq_eq_false_iff_ne]; omega
    have hw1 : IntKind.i64.wrap ((k : Int) + 1) = (k : Int) + 1 := IntWalk.i64_in _ (by omega)
    go_wp2_with fail
    go_loopw [5, 6] (fun iv jv wr => ∃ (i j : Nat) (M : List Str), iv = .int .i64 i ∧ jv = .int .i64 j ∧ i < j ∧ j ≤ L.length ∧ M.length = L.length ∧ M.take i = (L.take j).filter (fun s => !p s) ∧ M.drop j = L.drop j ∧ wr.ownsRow base 9 1 (.slice (some ⟨gb, 0, none⟩) L.length c) L.length (svs M) ∧ Below base w0 wr) (fun _ jv _ => L.length - (intOf jv).toNat)
    case atStart => exact ⟨k, k + 1, L, rfl, by simp, by omega, hk, rfl, HF.out.symm, rfl, HO2.out, HB2.out⟩
    case round =>
      obtain ⟨i, j, M, rfl, rfl, hij, hj, hM, htk, hdr, ho, hb⟩ := hrel
      have HOr := Lib.hid ho
      have HBr := Lib.hid hb
      have hzr : base ≤ wr.heap.size := Nat.le_of_lt (Nat.lt_of_le_of_lt hgb (ho.lt gb rfl).2)
      clear ho hb HO2 HB2
      by_cases hlt : j < L.length
      · have hxM : M[j]'(by omega) = L[j] := by
          have h1 : (M.drop j)[0]'(by simp; omega) = (L.drop j)[0]'(by simp; omega) := by congr 1
          simpa using h1
        have hcj := own_cell HOr.out (j := j) (by simp [svs]; omega)
        have hcj' : wr.cell? ⟨gb, j, none⟩ = some (sv L[j]) := by rw [hcj]; simp [svs, hxM]
        have hfi := own_fro HOr.out (j := i)
        have hci := own_cell HOr.out (j := i) (by simp [svs]; omega)
        have hft : (L.take (j + 1)).filter (fun s => !p s) = (L.take j).filter (fun s => !p s) ++ (if (!p L[j]) = true then [L[j]] else []) := filter_take_succ hlt
        have hdr2 : M.drop (j + 1) = L.drop (j + 1) := by rw [← List.drop_drop, ← List.drop_drop, hdr]
        generalize L[j] = x at hcj' hft
        have hcall := Hp.out.says wr x HBr.out
        have HFt := Lib.hid hft
        have Hcall := Lib.hid hcall
        have HTk := Lib.hid htk
        have HDr := Lib.hid hdr2
        clear hft hcall htk hdr hdr2 hcj hxM
        have j1 : (0 : Int) ≤ (j : Int) := by omega
        have j2 : (j : Int) < (L.length : Int) := by omega
        have j3 : (0 : Int) ≤ (i : Int) := by omega
        have j4 : (i : Int) < (L.length : Int) := by omega
        have hwj : IntKind.i64.wrap ((j : Int) + 1) = (j : Int) + 1 := IntWalk.i64_in _ (by omega)
        have hwi : IntKind.i64.wrap ((i : Int) + 1) = (i : Int) + 1 := IntWalk.i64_in _ (by omega)
        go_wp2_with fail
        refine Hcall.out.mono ?_
        rintro e w5 ⟨rfl, hb5⟩
        have hfi5 := (hb5.frozen (p := ⟨gb, i, none⟩) (HOr.out.lt gb rfl).2).trans hfi
        have hci5 := (hb5.cell (p := ⟨gb, i, none⟩) (HOr.out.lt gb rfl).2).trans hci
        have HO5 := Lib.hid (own_on HOr.out hb5)
        have HB5 := Lib.hid (HBr.out.trans (hb5.mono hzr))
        clear hb5 hfi hci hcj'
        cases hpx : p x
        · have HF2 := Lib.hid (show (L.take (j + 1)).filter (fun s => !p s) = (L.take j).filter (fun s => !p s) ++ [x] by rw [HFt.out, hpx]; simp)
          go_wp2_with fail
          go_roundw
          case rel =>
            have ho6 := own_set HO5.out (j := i) (sv x)
            rw [show (svs M).set i (sv x) = svs (M.set i x) from by simp [svs, List.map_set]] at ho6
            refine ⟨i + 1, j + 1, M.set i x, by go_num, by go_num, by omega, by omega, by simp [hM], ?_, ?_, ho6, HB5.out.setCell hgb _⟩
            · rw [HF2.out, ← HTk.out, List.take_succ_eq_append_getElem (by simp; omega), List.take_set_of_le (Nat.le_refl _)]
              simp
            · rw [List.drop_set_of_lt (by omega)]; exact HDr.out
          case measure => simp [intOf]; omega
        · have HF2 := Lib.hid (show (L.take (j + 1)).filter (fun s => !p s) = (L.take j).filter (fun s => !p s) by rw [HFt.out, hpx]; simp)
          go_wp2_with fail
          go_roundw
          case rel => exact ⟨i, j + 1, M, rfl, by go_num, by omega, by omega, hM, by rw [HF2.out]; exact HTk.out, HDr.out, HO5.out, HB5.out⟩
          case measure => simp [intOf]; omega
      · have hjL : j = L.length := by omega
        subst hjL
        rw [List.take_length] at htk
        have hs2 := run_slice_tail (P := Tryz.prog) Tryz.underlying37 hi (some ⟨gb, 0, none⟩) L.length c i (by omega)
        rw [hz1] at hs2
        have hAd : dropA (some ⟨gb, 0, none⟩) c i 1 = some ⟨gb, i, none⟩ := by
          unfold dropA
          rw [if_neg (by omega)]
          simp [Addr.add]
          intro h
          omega
        rw [hAd] at hs2
        have hclr := fun ty => Lib.run_clear_slice (P := Tryz.prog) wr 37 9 ty (.string ⟨#[]⟩) Tryz.underlying37 (fun w => Tryz.zeroValue9 w) rfl rfl gb i (L.length - i) (c - i) (by omega)
          (fun m hm => by rw [own_cell HOr.out (j := i + m) (by simp [svs]; omega)]; rfl) (fun m hm => own_fro HOr.out)
        have hil : i ≤ L.length := by omega
        have HTk := Lib.hid htk
        obtain ⟨w9, hw9⟩ : ∃ w9, w9 = wr.setCells gb i (List.replicate (L.length - i) (.string ⟨#[]⟩)) := ⟨_, rfl⟩
        rw [← hw9] at hclr
        have hb9 : Below base w0 w9 := by rw [hw9]; exact below_setCells _ _ _ hgb HBr.out
        have ho9 := own_setCells (i := i) (List.replicate (L.length - i) (.string ⟨#[]⟩)) i wr _ (Nat.le_refl _) HOr.out
        rw [← hw9] at ho9
        obtain ⟨xs', ho9, ht9⟩ := ho9
        have ho10 := own_cut ho9 hil
        rw [Nat.mul_one, ht9, show (svs M).take i = svs (M.take i) from by simp [svs, List.map_take], htk] at ho10
        have hml : (L.filter (fun s => !p s)).length = i := by rw [← htk, List.length_take, hM]; omega
        have HO10 := Lib.hid ho10
        have HB9 := Lib.hid hb9
        have HML := Lib.hid hml
        clear htk hdr ho9 ht9 ho10 hb9 hml hw9
        have j3 : (0 : Int) ≤ (i : Int) := by omega
        go_wp2_with fail
        go_ret
        rw [HML.out]
        exact ⟨some ⟨gb, 0, none⟩, c, rfl, HO10.out, HB9.out⟩
end Od
end Go.Proofs.YtanfnejbnmenkaaGreat
end

section
/- The walks of queue.Needs and queue.lacks. (bel2) -/
namespace Go.Proofs.YtanfnejbnmenkaaGreat
open Go.RowKit Go.Sort
set_option linter.unusedSimpArgs false

namespace Od
set_option maxHeartbeats 1000000 in
theorem Needs1_any (o u : Str) (pg pu : Nat) (An Ae : Option Addr) (nn cn ce : Nat) (es : List Ed) (w : World) (hg0 : w.cell? ⟨pg, 0, none⟩ = some (.slice An nn cn)) (hg1 : w.cell? ⟨pg, 1, none⟩ = some (.slice Ae es.length ce)) (hu : w.cell? ⟨pu, 0, none⟩ = some (sv u)) (hr : Rd w w.heap.size 3 Ae es.length (edsC es)) (hl : es.length ≤ 1000000) :
    Calls Tryz.prog 110 #[sv o, .pointer (some ⟨pg, 0, none⟩), .pointer (some ⟨pu, 0, none⟩)] w fun e w' => e = .returned (.bool (!Ah es o u)) ∧ Below w.heap.size w w' := by
  go_enter Tryz.func110, Tryz.ntmps110
  go_wp2_with fail
  refine (Ahead_any An Ae nn cn ce es o u w hr hl).mono ?_
  rintro e w2 ⟨rfl, hb⟩
  go_wp2_with fail
  go_ret
  exact ⟨rfl, hb⟩
theorem says_needs (u : Str) (pg pu B : Nat) (An Ae : Option Addr) (nn cn ce : Nat) (es : List Ed) (base : Nat) (w : World) (hg0 : w.cell? ⟨pg, 0, none⟩ = some (.slice An nn cn)) (hg1 : w.cell? ⟨pg, 1, none⟩ = some (.slice Ae es.length ce)) (hu : w.cell? ⟨pu, 0, none⟩ = some (sv u)) (hr : Rd w B 3 Ae es.length (edsC es)) (hl : es.length ≤ 1000000) (h1 : pg < base) (h2 : pu < base) (h3 : B ≤ base) (hz : base ≤ w.heap.size) :
    SaysB2 110 #[.pointer (some ⟨pg, 0, none⟩), .pointer (some ⟨pu, 0, none⟩)] (fun o => !Ah es o u) base w where
  enters := enters_of Tryz.func110 (by kernel_rfl) rfl
  says := fun W s h => Needs1_any s u pg pu An Ae nn cn ce es W ((h.cell (p := ⟨pg, 0, none⟩) h1).trans hg0) ((h.cell (p := ⟨pg, 1, none⟩) h1).trans hg1) ((h.cell (p := ⟨pu, 0, none⟩) h2).trans hu)
    ((hr.below (h.mono h3)).more (Nat.le_trans h3 (Nat.le_trans hz h.size))) hl
theorem outS_le (es : List Ed) (u : Str) (rel : Int) : (outS es u rel).length ≤ es.length := Nat.le_trans (onceS_len _) (outRaw_len es u rel)
set_option maxRecDepth 100000 in
set_option maxHeartbeats 2000000 in
theorem Needs_any (An Ae : Option Addr) (nn cn ce : Nat) (es : List Ed) (u : Str) (w : World) (hr : Rd w w.heap.size 3 Ae es.length (edsC es)) (hl : es.length ≤ 100000) :
    Calls Tryz.prog 87 #[gV An nn cn Ae es.length ce, sv u] w (OwnS (needsU es u) w) := by
  have Hr := Lib.hid hr
  clear hr
  have l1 := outS_le es u 1
  have l4 := outS_le es u 4
  obtain ⟨L, hL⟩ : ∃ L, L = outS es u 1 ++ outS es u 4 := ⟨_, rfl⟩
  have hLl : L.length ≤ 1000000 := by rw [hL, List.length_append]; omega
  have HU := Lib.hid (show L.filter (fun s => !(!Ah es s u)) = needsU es u by rw [hL]; unfold needsU; simp)
  have HLq := Lib.hid hL
  clear hL
  go_enter Tryz.func87, Tryz.ntmps87
  go_wp2_with fail
  first | (refine wp_named ?_; intro W1 hW) | (refine calls_named ?_; intro W1 hW)
  have B1 : Below w.heap.size w W1 := by rw [hW]; exact (by repeat (first | exact Below.refl _ _ | assumption | refine Below.alloc ?_ (by first | omega | (simp <;> omega)) _ | refine Below.setCell ?_ (by first | omega | (simp <;> omega)) _ | refine Below.drew ?_))
  replace Hr := Lib.hid (Hr.out.at B1)
  have n1 : w.heap.size < W1.heap.size := by rw [hW]; simp <;> omega
  have n2 : w.heap.size + 1 < W1.heap.size := by rw [hW]; simp <;> omega
  have g0 : W1.cell? ⟨w.heap.size, 0, none⟩ = some (.slice An nn cn) := by rw [hW]; go_simp
  have g1 : W1.cell? ⟨w.heap.size, 1, none⟩ = some (.slice Ae es.length ce) := by rw [hW]; go_simp
  have x0 : W1.cell? ⟨w.heap.size + 1, 0, none⟩ = some (sv u) := by rw [hW]; go_simp
  clear hW
  have HB := Lib.hid B1
  have HR0 := Hr
  have hn1 := n1
  have hn2 := n2
  clear B1
  try go_wp2_with fail
  refine wp_region_held_drew (S := fun w' => Below W1.heap.size W1 w') (by kernel_rfl) (Below.drew (Below.refl _ _)) (fun hHeld => ?_)
  refine tY (i := 0) (v := ?_) rfl ?_ hHeld ?_; rotate_left 1; focus (intro w' hSw; have hCell := fun (b o : Nat) (h : b < W1.heap.size) => hSw.cell (p := ⟨b, o, none⟩) h; clear hSw; go_simp; try with_reducible rfl)
  (try simp only [Act.put, zn1, zn2, zn3])
  refine tY (i := 1) (v := ?_) rfl ?_ hHeld ?_; rotate_left 1; focus (intro w' hSw; have hCell := fun (b o : Nat) (h : b < W1.heap.size) => hSw.cell (p := ⟨b, o, none⟩) h; clear hSw; go_simp; try with_reducible rfl)
  (try simp only [Act.put, zn1, zn2, zn3])
  refine tY (i := 3) (v := ?_) rfl ?_ hHeld ?_; rotate_left 1; focus (intro w' hSw; have hCell := fun (b o : Nat) (h : b < W1.heap.size) => hSw.cell (p := ⟨b, o, none⟩) h; clear hSw; go_simp; try with_reducible rfl)
  (try simp only [Act.put, zn1, zn2, zn3])
  refine tY (i := 4) (v := ?_) rfl ?_ hHeld ?_; rotate_left 1; focus (intro w' hSw; have hCell := fun (b o : Nat) (h : b < W1.heap.size) => hSw.cell (p := ⟨b, o, none⟩) h; clear hSw; go_simp; try with_reducible rfl)
  (try simp only [Act.put, zn1, zn2, zn3])
  refine ready_one (i := 2) rfl (by kernel_rfl) (fun K hK => ?_)
  go_simp
  refine (Out_any An Ae nn cn ce es u 1 _ (Hr.out.at hHeld) (by omega)).mono ?_
  rintro e v1 ⟨A1, c1, rfl, ho1, hb⟩
  have HR1 := Lib.hid (own_rd' ho1)
  clear ho1
  refine hK.out _ _ ?_ (fun hHeld2 => ?_)
  · (try dsimp only); first | exact Below.trans hHeld (Below.mono hb hHeld.size) | exact hHeld | exact Below.drew hHeld | exact (by repeat (first | exact Below.refl _ _ | assumption | refine Below.alloc ?_ (by first | omega | (simp <;> omega)) _ | refine Below.setCell ?_ (by first | omega | (simp <;> omega)) _ | refine Below.drew ?_))
  clear hK K hHeld; have hHeld := hHeld2; clear hHeld2; (try simp only [Act.put, zn1, zn2, zn3])
  refine ready_one (i := 5) rfl (by kernel_rfl) (fun K hK => ?_)
  go_simp
  refine (Out_any An Ae nn cn ce es u 4 _ (Hr.out.at hHeld) (by omega)).mono ?_
  rintro e v2 ⟨A2, c2, rfl, ho2, hb⟩
  have HR2 := Lib.hid (own_rd' ho2)
  have HR1b := Lib.hid (HR1.out.at hb)
  have hz21 := hHeld.size
  have hz22 := hb.size
  clear ho2
  refine hK.out _ _ ?_ (fun hHeld2 => ?_)
  · (try dsimp only); first | exact Below.trans hHeld (Below.mono hb hHeld.size) | exact hHeld | exact Below.drew hHeld | exact (by repeat (first | exact Below.refl _ _ | assumption | refine Below.alloc ?_ (by first | omega | (simp <;> omega)) _ | refine Below.setCell ?_ (by first | omega | (simp <;> omega)) _ | refine Below.drew ?_))
  clear hK K hHeld; have hHeld := hHeld2; clear hHeld2; (try simp only [Act.put, zn1, zn2, zn3])
  refine ready_one (i := 6) rfl (by kernel_rfl) (fun K hK => ?_)
  go_simp
  refine hK.out _ _ ?_ (fun hHeld2 => ?_)
  · (try dsimp only); first | exact hHeld | exact (by repeat (first | exact Below.refl _ _ | assumption | refine Below.alloc ?_ (by first | omega | (simp <;> omega)) _ | refine Below.setCell ?_ (by first | omega | (simp <;> omega)) _ | refine Below.drew ?_))
  clear hK K hHeld; have hHeld := hHeld2; clear hHeld2; (try simp only [Act.put, zn1, zn2, zn3])
  refine ready_one (i := 7) rfl (by kernel_rfl) (fun K hK => ?_)
  go_simp
  refine (Concat2_any v2.heap.size A1 A2 c1 c2 (outS es u 1) (outS es u 4) _ (by go_simp) (by go_simp) ((HR1b.out.alloc (Nat.le_refl _) _).more (by simp)) ((HR2.out.alloc (Nat.le_refl _) _).more (by simp)) (by omega) (by omega)).mono ?_
  rw [← HLq.out]
  rintro e v3 ⟨A3, c3, rfl, ho3, hb⟩
  have HO3 := Lib.hid ho3
  have hs23 : v2.heap.size + 1 ≤ v3.heap.size := by have := hb.size; simpa using this
  have hs12 := hHeld.size
  clear ho3
  refine hK.out _ _ ?_ (fun hHeld2 => ?_)
  · (try dsimp only); first | exact Below.trans hHeld (Below.mono hb hHeld.size) | exact hHeld | exact Below.drew hHeld | exact (by repeat (first | exact Below.refl _ _ | assumption | refine Below.alloc ?_ (by first | omega | (simp <;> omega)) _ | refine Below.setCell ?_ (by first | omega | (simp <;> omega)) _ | refine Below.drew ?_))
  clear hK K hHeld; have hHeld := hHeld2; clear hHeld2; (try simp only [Act.put, zn1, zn2, zn3])
  refine tY (i := 8) (v := ?_) rfl ?_ hHeld ?_; rotate_left 1; focus (intro w' hSw; clear hSw; go_simp; try with_reducible rfl)
  (try simp only [Act.put, zn1, zn2, zn3])
  refine wpAnyH_done (by kernel_rfl) ?_ _
  have HR3 := Lib.hid (HR0.out.below hHeld)
  replace g0 := cellAt g0 hHeld (by omega)
  replace g1 := cellAt g1 hHeld (by omega)
  replace x0 := cellAt x0 hHeld (by omega)
  replace Hr := Lib.hid (Hr.out.at hHeld)
  replace n1 : w.heap.size < v3.heap.size := ltAt n1 hHeld
  replace n2 : w.heap.size + 1 < v3.heap.size := ltAt n2 hHeld
  replace HB := Lib.hid (lift HB.out hHeld)
  clear hHeld
  simp only [World.size_alloc] at HO3 hs12
  go_wp2_with fail
  refine (DeleteFuncS_own (v2.heap.size + 1) c3 L.length A3 L _ _ (fun o => !Ah es o u) v3 v3 HO3.out rfl hLl
    (says_needs u w.heap.size (w.heap.size + 1) W1.heap.size An Ae nn cn ce es (v2.heap.size + 1) v3 g0 g1 x0 HR3.out (by omega) (by omega) (by omega) (by omega) hs23) (Below.refl _ _) hs23).mono ?_
  rintro e v4 ⟨A4, c4, rfl, ho4, hb⟩
  rw [HU.out] at ho4 ⊢
  have HO4 := Lib.hid ho4
  have HB4 := Lib.hid (HB.out.trans (hb.mono (show w.heap.size ≤ v2.heap.size + 1 by omega)))
  have hwz : w.heap.size ≤ v2.heap.size + 1 := by omega
  clear ho4 hb
  go_wp2_with fail
  go_ret
  exact ⟨A4, c4, rfl, own_base HO4.out hwz, HB4.out⟩
/-! What did not come -/
def lackV (j : Jb) : Bool := !openB j && (startsB j && j.2.2.2 != 1)
set_option maxRecDepth 100000 in
set_option maxHeartbeats 4000000 in
theorem lacks1_any (o : Str) (pq : Nat) (A : Option Addr) (c : Nat) (q : List Jb) (w : World) (hp : w.cell? ⟨pq, 0, none⟩ = some (.slice A q.length c)) (hr : Rd w w.heap.size 4 A q.length (jbsC q)) (hl : q.length ≤ 1000000) :
    Calls Tryz.prog 88 #[sv o, .pointer (some ⟨pq, 0, none⟩)] w fun e w' => e = .returned (.bool (lackJ q o)) ∧ Below w.heap.size w w' := by
  have Hq := Lib.hid hr
  have hpl := cell_blk hp
  simp only at hpl
  clear hr
  go_enter Tryz.func88, Tryz.ntmps88
  go_wp2_with fail
  refine (find_any A c q o w Hq.out hl).mono ?_
  rintro e w2 ⟨r, rfl, hcase, hb⟩
  have HC := Lib.hid hcase
  have HB := Lib.hid hb
  replace hp := cellAt hp hb (by omega)
  replace Hq := Lib.hid (Hq.out.at hb)
  replace hpl : pq < w2.heap.size := ltAt hpl hb
  clear hb hcase
  rcases HC.out with ⟨rfl, hnone⟩ | ⟨k, hk, rfl, hfind, _, _⟩
  · have HL := Lib.hid (show lackJ q o = false by unfold lackJ jobOf; rw [hnone])
    clear hnone
    go_wp2_with fail
    go_ret
    exact ⟨ret_bool (by rw [HL.out]), HB.out⟩
  · have hpos : decide ((0 : Int) ≤ (k : Int)) = true := by simp
    obtain ⟨b, o1, hA, hB, y0, y1, y2, y3⟩ := Hq.out.job hk
    subst hA
    have hlj : lackJ q o = lackV q[k] := by unfold lackJ jobOf; rw [hfind]; rfl
    generalize q[k] = x at y0 y1 y2 y3 hlj
    clear hfind
    obtain ⟨s, t, r, d⟩ := x
    simp only at y0 y1 y2 y3
    have HL := Lib.hid (hlj.trans (show lackV (s, t, r, d) = (!openB (s, t, r, d) && (startsB (s, t, r, d) && d != 1)) from rfl))
    clear hlj HC
    have k1 : (0 : Int) ≤ (k : Int) := by omega
    have k2 : (k : Int) < (q.length : Int) := by omega
    go_wp2_with fail
    refine (open_any s t r d w2).mono ?_
    rintro e w3 ⟨rfl, hb⟩
    replace hp := cellAt hp hb (by omega)
    replace y0 := cellAt y0 hb (by omega)
    replace y1 := cellAt y1 hb (by omega)
    replace y2 := cellAt y2 hb (by omega)
    replace y3 := cellAt y3 hb (by omega)
    replace Hq := Lib.hid (Hq.out.at hb)
    replace hpl : pq < w3.heap.size := ltAt hpl hb
    replace HB := Lib.hid (lift HB.out hb)
    replace hB : b < w3.heap.size := ltAt hB hb
    clear hb
    cases h1 : openB (s, t, r, d)
    · have H1 := Lib.hid h1
      go_wp2_with fail
      refine (Starts_any s t r d w3).mono ?_
      rintro e w4 ⟨rfl, hb⟩
      replace hp := cellAt hp hb (by omega)
      replace y0 := cellAt y0 hb (by omega)
      replace y1 := cellAt y1 hb (by omega)
      replace y2 := cellAt y2 hb (by omega)
      replace y3 := cellAt y3 hb (by omega)
      replace Hq := Lib.hid (Hq.out.at hb)
      replace hpl : pq < w4.heap.size := ltAt hpl hb
      replace HB := Lib.hid (lift HB.out hb)
      replace hB : b < w4.heap.size := ltAt hB hb
      clear hb
      cases h2 : startsB (s, t, r, d)
      · have H2 := Lib.hid h2
        go_wp2_with fail
        go_ret
        exact ⟨ret_bool (by rw [HL.out]; simp [H1.out, H2.out]), HB.out⟩
      · have H2 := Lib.hid h2
        cases h3 : (d != 1)
        · have H3 := Lib.hid h3
          go_wp2_with fail
          go_ret
          exact ⟨ret_bool (by rw [HL.out]; simp [H1.out, H2.out, H3.out]), HB.out⟩
        · have H3 := Lib.hid h3
          go_wp2_with fail
          go_ret
          exact ⟨ret_bool (by rw [HL.out]; simp [H1.out, H2.out, H3.out]), HB.out⟩
    · have H1 := Lib.hid h1
      go_wp2_with fail
      go_ret
      exact ⟨ret_bool (by rw [HL.out]; simp [H1.out]), HB.out⟩
theorem says_lacks (pq : Nat) (A : Option Addr) (c : Nat) (q : List Jb) (w : World) (hp : w.cell? ⟨pq, 0, none⟩ = some (.slice A q.length c)) (hr : Rd w w.heap.size 4 A q.length (jbsC q)) (hl : q.length ≤ 1000000) :
    SaysS 88 #[.pointer (some ⟨pq, 0, none⟩)] (lackJ q) w where
  enters := enters_of Tryz.func88 (by kernel_rfl) rfl
  says := fun W s h => lacks1_any s pq A c q W ((h.cell (p := ⟨pq, 0, none⟩) (cell_blk hp)).trans hp) (hr.at h) hl
set_option maxRecDepth 100000 in
set_option maxHeartbeats 4000000 in
theorem lacks_any (An Ae : Option Addr) (nn cn ce : Nat) (es : List Ed) (A : Option Addr) (c : Nat) (q : List Jb) (u : Str) (w : World) (hr : Rd w w.heap.size 3 Ae es.length (edsC es)) (hq : Rd w w.heap.size 4 A q.length (jbsC q)) (hl : es.length ≤ 100000) (hlq : q.length ≤ 1000000) :
    Calls Tryz.prog 54 #[gV An nn cn Ae es.length ce, .slice A q.length c, sv u] w fun e w' => e = .returned (.bool (lacksQ es q u)) ∧ Below w.heap.size w w' := by
  have Hr := Lib.hid hr
  have Hq := Lib.hid hq
  have hnl : (needsU es u).length ≤ 1000000 := by
    have l1 := outS_le es u 1
    have l4 := outS_le es u 4
    have := List.length_filter_le (fun o => Ah es o u) (outS es u 1 ++ outS es u 4)
    rw [List.length_append] at this
    show ((outS es u 1 ++ outS es u 4).filter (fun o => Ah es o u)).length ≤ 1000000
    omega
  clear hr hq
  go_enter Tryz.func54, Tryz.ntmps54
  go_wp2_with fail
  first | (refine wp_named ?_; intro W1 hW) | (refine calls_named ?_; intro W1 hW)
  have B1 : Below w.heap.size w W1 := by rw [hW]; exact (by repeat (first | exact Below.refl _ _ | assumption | refine Below.alloc ?_ (by first | omega | (simp <;> omega)) _ | refine Below.setCell ?_ (by first | omega | (simp <;> omega)) _ | refine Below.drew ?_))
  replace Hr := Lib.hid (Hr.out.at B1)
  replace Hq := Lib.hid (Hq.out.at B1)
  have n1 : w.heap.size < W1.heap.size := by rw [hW]; simp <;> omega
  have n2 : w.heap.size + 1 < W1.heap.size := by rw [hW]; simp <;> omega
  have g0 : W1.cell? ⟨w.heap.size, 0, none⟩ = some (.slice An nn cn) := by rw [hW]; go_simp
  have g1 : W1.cell? ⟨w.heap.size, 1, none⟩ = some (.slice Ae es.length ce) := by rw [hW]; go_simp
  have x0 : W1.cell? ⟨w.heap.size + 1, 0, none⟩ = some (.slice A q.length c) := by rw [hW]; go_simp
  clear hW
  have HB := Lib.hid B1
  clear B1
  refine (Needs_any An Ae nn cn ce es u W1 Hr.out hl).mono ?_
  rintro e w2 ⟨A2, c2, rfl, ho2, hb⟩
  have HR2 := Lib.hid (own_rd' ho2)
  replace g0 := cellAt g0 hb (by omega)
  replace g1 := cellAt g1 hb (by omega)
  replace x0 := cellAt x0 hb (by omega)
  replace Hr := Lib.hid (Hr.out.at hb)
  replace Hq := Lib.hid (Hq.out.at hb)
  replace n1 : w.heap.size < w2.heap.size := ltAt n1 hb
  replace n2 : w.heap.size + 1 < w2.heap.size := ltAt n2 hb
  replace HB := Lib.hid (lift HB.out hb)
  clear hb ho2
  go_wp2_with fail
  refine (ContainsFuncS A2 c2 (needsU es u) _ _ (lackJ q) w2 HR2.out hnl (says_lacks (w.heap.size + 1) A c q w2 x0 Hq.out hlq)).mono ?_
  rintro e w3 ⟨rfl, hb⟩
  replace g0 := cellAt g0 hb (by omega)
  replace g1 := cellAt g1 hb (by omega)
  replace x0 := cellAt x0 hb (by omega)
  replace Hr := Lib.hid (Hr.out.at hb)
  replace Hq := Lib.hid (Hq.out.at hb)
  replace n1 : w.heap.size < w3.heap.size := ltAt n1 hb
  replace n2 : w.heap.size + 1 < w3.heap.size := ltAt n2 hb
  replace HB := Lib.hid (lift HB.out hb)
  clear hb
  go_wp2_with fail
  go_ret
  exact ⟨rfl, HB.out⟩
end Od
end Go.Proofs.YtanfnejbnmenkaaGreat
end

section
/- Plain laws of chapter 20: what the statements QueueSound, QueueNever, QueueApart, QueueDiamond, QueueStops say of lists. No program. -/
namespace Go.Proofs.YtanfnejbnmenkaaGreat
set_option linter.unusedSimpArgs false
namespace Od
/-- Of some that go round nowhere one has nobody of them ahead of it. -/
theorem low_exists {l : List Pr} (h : Acyclic l) {left : List Str} : ∀ (n : Nat) (u : Str), u ∈ left → (left.filter (fun w => decide (u ∈ reachL l w))).length ≤ n → ∃ u ∈ left, ∀ v ∈ left, (v, u) ∉ l
  | n, u, hu, hn => by
    by_cases hw : ∃ v ∈ left, (v, u) ∈ l
    · obtain ⟨v, hv, hvu⟩ := hw
      have hlt : (left.filter (fun w => decide (v ∈ reachL l w))).length < (left.filter (fun w => decide (u ∈ reachL l w))).length := by
        have h1 : (left.filter (fun w => decide (v ∈ reachL l w))) = (left.filter (fun w => decide (u ∈ reachL l w))).filter (fun w => decide (v ∈ reachL l w)) := by
          rw [List.filter_filter]
          refine List.filter_congr fun w _ => ?_
          by_cases hvw : v ∈ reachL l w
          · have : u ∈ reachL l w := mem_reachL.2 ((mem_reachL.1 hvw).snoc hvu)
            simp [hvw, this]
          · simp [hvw]
        rw [h1]
        refine Nat.lt_of_le_of_ne (List.length_filter_le _ _) fun e => ?_
        have h2 := List.length_filter_eq_length_iff.1 e v (List.mem_filter.2 ⟨hv, by simpa using mem_reachL.2 (R.one hvu)⟩)
        exact h v (mem_reachL.1 (by simpa using h2))
      cases n with
      | zero => omega
      | succ n => exact low_exists h n v hv (by omega)
    · exact ⟨u, hu, fun v hv hvu => hw ⟨v, hv, hvu⟩⟩
theorem R_swap {l : List Pr} {a b : Str} (h : R (l.map Prod.swap) a b) : R l b a := by
  have hm : ∀ {x y : Str}, (x, y) ∈ l.map Prod.swap → (y, x) ∈ l := by
    intro x y hxy
    obtain ⟨⟨p, r⟩, h1, h2⟩ := List.mem_map.1 hxy
    injection h2 with h3 h4
    simp only at h3 h4
    subst h3 h4
    exact h1
  unfold R at h
  induction h with
  | single h => exact R.one (hm h)
  | tail _ h ih => exact (R.one (hm h)).trans ih
theorem high_exists {l : List Pr} (h : Acyclic l) {left : List Str} {u : Str} (hu : u ∈ left) : ∃ u ∈ left, ∀ v ∈ left, (u, v) ∉ l := by
  have h' : Acyclic (l.map Prod.swap) := fun a ha => h a (R_swap ha)
  obtain ⟨w, h1, h2⟩ := low_exists h' _ u hu (Nat.le_refl _)
  exact ⟨w, h1, fun v hv hwv => h2 v hv (List.mem_map.2 ⟨(w, v), hwv, rfl⟩)⟩
theorem may_state {j : Jb} (h : mayJ j = true) : j.2.2.1 = 1 ∨ j.2.2.1 = 2 ∨ j.2.2.1 = 3 := by
  rw [mayJ_iff] at h; omega
theorem ahead_wait (es : List Ed) {x y : Jb} (h1 : x.2.2.1 = 1) (hne : x.1 ≠ y.1) : aheadJ es x y = ((Ah es y.1 x.1 && endsB x) || (Ah es x.1 y.1 && !endsB y)) := by
  unfold aheadJ
  rw [if_neg (by rw [h1]; intro h; rcases h with h | h
                 · cases h
                 · exact hne h), if_neg (by rw [h1]; decide)]
theorem never {ns : List Nd} {es : List Ed} {q : List Jb} (hs : soundQ ns es q = true) (ho : ∃ j ∈ q, j.2.2.1 ≠ 3) (hr : ∀ j ∈ q, j.2.2.1 ≠ 2) : readyQ es q ≠ [] := by
  obtain ⟨_, hi, hm, _⟩ := soundQ_iff.1 hs
  have hst : ∀ x ∈ q, x.2.2.1 = 1 ∨ x.2.2.1 = 3 := fun x hx => by
    have h1 := may_state ((mayQ_iff.1 hm).2.1 x hx)
    have h2 := hr x hx
    omega
  have hac := isB_iff.1 hi
  have key : ∃ j ∈ q, j.2.2.1 = 1 ∧ FreeJ es q j := by
    by_cases hE : ∃ j ∈ q, j.2.2.1 = 1 ∧ endsB j = true
    · obtain ⟨j0, hj0, hj1, hj2⟩ := hE
      have hmem : ∀ {u : Str}, u ∈ (q.filter (fun j => j.2.2.1 == 1 && endsB j)).map (·.1) ↔ ∃ j ∈ q, (j.2.2.1 = 1 ∧ endsB j = true) ∧ j.1 = u := by
        intro u; simp [List.mem_map, List.mem_filter, and_assoc]
      obtain ⟨u, hu, hmin⟩ := high_exists hac (left := (q.filter (fun j => j.2.2.1 == 1 && endsB j)).map (·.1)) (u := j0.1) (hmem.2 ⟨j0, hj0, ⟨hj1, hj2⟩, rfl⟩)
      obtain ⟨j, hj, ⟨h1, h2⟩, rfl⟩ := hmem.1 hu
      refine ⟨j, hj, h1, fun x hx => ?_⟩
      by_cases hne : x.1 = j.1
      · unfold aheadJ; rw [if_pos (.inr hne)]
      · rcases hst x hx with h3 | h3
        · rw [ahead_wait es h3 hne, h2]
          simp only [Bool.not_true, Bool.and_false, Bool.or_false]
          cases h4 : endsB x
          · simp
          · cases h5 : Ah es j.1 x.1
            · rfl
            · exact absurd (Ah_prs.1 h5) (hmin x.1 (hmem.2 ⟨x, hx, ⟨h3, h4⟩, rfl⟩))
        · unfold aheadJ; rw [if_pos (.inl h3)]
    · obtain ⟨j0, hj0, hj1⟩ := ho
      have hmem : ∀ {u : Str}, u ∈ (q.filter (fun j => j.2.2.1 == 1)).map (·.1) ↔ ∃ j ∈ q, j.2.2.1 = 1 ∧ j.1 = u := by
        intro u; simp [List.mem_map, List.mem_filter, and_assoc]
      have hj1' : j0.2.2.1 = 1 := by have := hst j0 hj0; omega
      obtain ⟨u, hu, hmin⟩ := low_exists hac (left := (q.filter (fun j => j.2.2.1 == 1)).map (·.1)) _ j0.1 (hmem.2 ⟨j0, hj0, hj1', rfl⟩) (Nat.le_refl _)
      obtain ⟨j, hj, h1, rfl⟩ := hmem.1 hu
      refine ⟨j, hj, h1, fun x hx => ?_⟩
      by_cases hne : x.1 = j.1
      · unfold aheadJ; rw [if_pos (.inr hne)]
      · rcases hst x hx with h3 | h3
        · have h4 : endsB x = false := by
            cases h5 : endsB x
            · rfl
            · exact absurd ⟨x, hx, h3, h5⟩ hE
          rw [ahead_wait es h3 hne, h4]
          simp only [Bool.and_false, Bool.false_or]
          cases h5 : Ah es x.1 j.1
          · rfl
          · exact absurd (Ah_prs.1 h5) (hmin x.1 (hmem.2 ⟨x, hx, h3, rfl⟩))
        · unfold aheadJ; rw [if_pos (.inl h3)]
  obtain ⟨j, hj, h1, h2⟩ := key
  intro e
  have := (mem_readyQ hm).2 ⟨j, hj, rfl, h1, h2⟩
  rw [e] at this
  cases this
/-- What may go on: it runs, or it is ready. -/
def Goes (es : List Ed) (q : List Jb) (j : Jb) : Prop := j.2.2.1 = 2 ∨ (j.2.2.1 = 1 ∧ FreeJ es q j)
theorem apart {es : List Ed} {q : List Jb} (hn : NoRun es q) {a b : Jb} (ha : a ∈ q) (hb : b ∈ q) (hne : a.1 ≠ b.1) (sa : Goes es q a) (sb : Goes es q b) : Ah es a.1 b.1 = false ∧ Ah es b.1 a.1 = false := by
  rcases sa with sa | ⟨sa, fa⟩
  · rcases sb with sb | ⟨sb, fb⟩
    · exact ⟨hn a ha b hb sa sb, hn b hb a ha sb sa⟩
    · exact ahead_run (fb a ha) sa hne
  · rcases sb with sb | ⟨sb, fb⟩
    · have := ahead_run (fa b hb) sb (Ne.symm hne)
      exact ⟨this.2, this.1⟩
    · have h1 := fb a ha
      have h2 := fa b hb
      rw [ahead_wait es sa hne] at h1
      rw [ahead_wait es sb (Ne.symm hne)] at h2
      revert h1 h2
      cases Ah es a.1 b.1 <;> cases Ah es b.1 a.1 <;> cases endsB a <;> cases endsB b <;> simp
theorem ahead_far {es : List Ed} {x y : Jb} (h1 : Ah es x.1 y.1 = false) (h2 : Ah es y.1 x.1 = false) : aheadJ es x y = false := by
  unfold aheadJ
  split
  · rfl
  · split <;> simp [h1, h2]
theorem mem_upd_ne {q : List Jb} {u : Str} {f : Jb → Jb} {j : Jb} (hj : j ∈ q) (hne : j.1 ≠ u) : j ∈ updJ q u f := mem_updJ.2 ⟨j, hj, by rw [if_neg hne]⟩
theorem free_upd {es : List Ed} {q : List Jb} {a : Str} {f : Jb → Jb} (hf : ∀ x, (f x).1 = x.1) {j : Jb} (hj : FreeJ es q j) (h1 : Ah es a j.1 = false) (h2 : Ah es j.1 a = false) : FreeJ es (updJ q a f) j := by
  intro y hy
  obtain ⟨x, hx, rfl⟩ := mem_updJ.1 hy
  split
  · rename_i e
    exact ahead_far (by rw [hf, e]; exact h1) (by rw [hf, e]; exact h2)
  · exact hj x hx
theorem any_same {α : Type} {p r : α → Bool} : ∀ {l : List α}, (∀ x ∈ l, p x = r x) → l.any p = l.any r
  | [], _ => rfl
  | x :: l, h => by rw [List.any_cons, List.any_cons, h x (.head _), any_same fun y hy => h y (.tail _ hy)]
theorem lacks_upd {es : List Ed} {q : List Jb} {a b : Str} {f : Jb → Jb} (hf : ∀ x, (f x).1 = x.1) (h : Ah es a b = false) : lacksQ es (updJ q a f) b = lacksQ es q b := by
  unfold lacksQ
  refine any_same fun o ho => ?_
  have h1 := (mem_needsU.1 ho).2
  have hne : o ≠ a := fun e => by subst e; rw [h] at h1; cases h1
  unfold lackJ
  rw [jobOf_upd_ne (fun x e => by rw [hf, e]) hne]
/-- A unit begins, if it is ready, or ends, if it runs. -/
def runsB (q : List Jb) (u : Str) : Bool := q.any (fun j => j.1 == u && j.2.2.1 == 2)
def stepQ (es : List Ed) (q : List Jb) (u : Str) (e : Int) : Option (List Jb) := if runsB q u = true then finishQ q u e else beginQ es q u
theorem runsB_iff {q : List Jb} {u : Str} : runsB q u = true ↔ ∃ j ∈ q, j.1 = u ∧ j.2.2.1 = 2 := by simp [runsB]
theorem runsB_at {q : List Jb} (hd : DQ q) {j : Jb} (hj : j ∈ q) : runsB q j.1 = (j.2.2.1 == 2) := by
  rw [Bool.eq_iff_iff, runsB_iff, beq_iff_eq]
  constructor
  · rintro ⟨x, h1, h2, h3⟩; rw [← hd.eq h1 hj h2]; exact h3
  · intro h; exact ⟨j, hj, rfl, h⟩
/-- What a step makes of the unit's job. -/
def newF (es : List Ed) (q : List Jb) (e : Int) (j : Jb) : Jb := if j.2.2.1 = 2 then ended e j else begun es q j
theorem newF_unit (es : List Ed) (q : List Jb) (e : Int) (j : Jb) : (newF es q e j).1 = j.1 := by
  unfold newF
  split
  · exact ended_unit _ _
  · exact begun_unit _ _ _
theorem finish_of {q : List Jb} (hm : mayQ q = true) {j : Jb} (hj : j ∈ q) {e : Int} (he : mayEnd e j = true) : finishQ q j.1 e = some (updJ q j.1 (ended e)) := by
  unfold finishQ; rw [jobOf_of (mayQ.dq hm) hj]; simp [hm, he]
theorem begin_of {es : List Ed} {q : List Jb} (hm : mayQ q = true) {j : Jb} (hj : j ∈ q) (h1 : j.2.2.1 = 1) (hf : FreeJ es q j) : beginQ es q j.1 = some (updJ q j.1 (begun es q)) := by
  unfold beginQ; rw [if_pos ((mem_readyQ hm).2 ⟨j, hj, rfl, h1, hf⟩)]
/-- A step goes just if the unit's job goes on; a running one's end has to be one. -/
theorem step_some {es : List Ed} {q x : List Jb} {u : Str} {e : Int} (h : stepQ es q u e = some x) :
    mayQ q = true ∧ ∃ j ∈ q, j.1 = u ∧ Goes es q j ∧ (j.2.2.1 = 2 → 1 ≤ e ∧ e ≤ 4) ∧ x = updJ q u (newF es q e) := by
  unfold stepQ at h
  split at h
  · rename_i hr
    obtain ⟨j, hj, rfl, h2⟩ := runsB_iff.1 hr
    obtain ⟨hm, rfl, j', hj', e1, hme⟩ := finish_some h
    refine ⟨hm, j, hj, rfl, .inl h2, fun _ => ⟨(mayEnd_iff.1 hme).1, (mayEnd_iff.1 hme).2.1⟩, updJ_congr fun y hy ey => ?_⟩
    rw [(mayQ.dq hm).eq hy hj ey]
    unfold newF
    rw [if_pos h2]
  · obtain ⟨hm, rfl, j, hj, rfl, h1, hf⟩ := begin_some h
    refine ⟨hm, j, hj, rfl, .inr ⟨h1, hf⟩, fun h2 => by omega, updJ_congr fun y hy ey => ?_⟩
    rw [(mayQ.dq hm).eq hy hj ey]
    unfold newF
    rw [if_neg (by omega)]
theorem step_of {es : List Ed} {q : List Jb} {e : Int} (hm : mayQ q = true) {j : Jb} (hj : j ∈ q) (hg : Goes es q j) (he : j.2.2.1 = 2 → 1 ≤ e ∧ e ≤ 4) : stepQ es q j.1 e = some (updJ q j.1 (newF es q e)) := by
  unfold stepQ
  rw [runsB_at (mayQ.dq hm) hj]
  rcases hg with h2 | ⟨h1, hf⟩
  · rw [if_pos (by simp [h2]), finish_of hm hj (mayEnd_iff.2 ⟨(he h2).1, (he h2).2, by omega, by omega⟩)]
    refine congrArg some (updJ_congr fun y hy ey => ?_)
    rw [(mayQ.dq hm).eq hy hj ey]
    unfold newF
    rw [if_pos h2]
  · rw [if_neg (by simp [h1]), begin_of hm hj h1 hf]
    refine congrArg some (updJ_congr fun y hy ey => ?_)
    rw [(mayQ.dq hm).eq hy hj ey]
    unfold newF
    rw [if_neg (by omega)]
theorem may_step {es : List Ed} {q x : List Jb} {u : Str} {e : Int} (h : stepQ es q u e = some x) : mayQ x = true := by
  unfold stepQ at h
  split at h
  · exact may_finish h
  · exact may_begin h
theorem noRun_step {es : List Ed} (hi : isB es = true) {q x : List Jb} {u : Str} {e : Int} (hn : NoRun es q) (h : stepQ es q u e = some x) : NoRun es x := by
  unfold stepQ at h
  split at h
  · exact noRun_finish hn h
  · exact noRun_begin hi hn h
theorem sound_step {ns : List Nd} {es : List Ed} {q x : List Jb} {u : Str} {e : Int} (hs : soundQ ns es q = true) (h : stepQ es q u e = some x) : soundQ ns es x = true := by
  obtain ⟨h1, h2, h3, h4⟩ := soundQ_iff.1 hs
  exact soundQ_iff.2 ⟨h1, h2, may_step h, noRun_step h2 h4 h⟩
/-- What goes on still does when another one has gone on. -/
theorem goes_on {es : List Ed} {q x : List Jb} {a : Jb} {e : Int} (hn : NoRun es q) (ha : a ∈ q) (ga : Goes es q a) (hx : x = updJ q a.1 (newF es q e)) {b : Jb} (hb : b ∈ q) (hne : a.1 ≠ b.1) (gb : Goes es q b) :
    b ∈ x ∧ Goes es x b ∧ ∀ e', newF es x e' b = newF es q e' b := by
  obtain ⟨h1, h2⟩ := apart hn ha hb hne ga gb
  have hu : ∀ j, (newF es q e j).1 = j.1 := newF_unit es q e
  subst hx
  refine ⟨mem_upd_ne hb (Ne.symm hne), ?_, fun e' => ?_⟩
  · rcases gb with gb | ⟨gb, fb⟩
    · exact .inl gb
    · exact .inr ⟨gb, free_upd hu fb h1 h2⟩
  · have hl := lacks_upd (q := q) hu h1
    unfold newF begun at *
    split
    · rfl
    · rw [hl]
theorem diamond {ns : List Nd} {es : List Ed} {q x y : List Jb} {a b : Str} {e0 e1 : Int} (hs : soundQ ns es q = true) (hab : a ≠ b) (hx : stepQ es q a e0 = some x) (hy : stepQ es q b e1 = some y) :
    ∃ z, stepQ es x b e1 = some z ∧ stepQ es y a e0 = some z := by
  obtain ⟨_, hi, hm, hn⟩ := soundQ_iff.1 hs
  have mx := may_step hx
  have my := may_step hy
  obtain ⟨_, ja, hja, rfl, ga, ea, hx'⟩ := step_some hx
  obtain ⟨_, jb, hjb, rfl, gb, eb, hy'⟩ := step_some hy
  obtain ⟨b1, b2, b3⟩ := goes_on hn hja ga hx' hjb hab gb
  obtain ⟨a1, a2, a3⟩ := goes_on hn hjb gb hy' hja (Ne.symm hab) ga
  refine ⟨_, step_of mx b1 b2 eb, ?_⟩
  rw [step_of my a1 a2 ea]
  refine congrArg some ?_
  have c1 : updJ x jb.1 (newF es x e1) = updJ x jb.1 (newF es q e1) := updJ_congr fun z hz ez => by rw [(mayQ.dq mx).eq hz b1 ez]; exact b3 e1
  have c2 : updJ y ja.1 (newF es y e0) = updJ y ja.1 (newF es q e0) := updJ_congr fun z hz ez => by rw [(mayQ.dq my).eq hz a1 ez]; exact a3 e0
  rw [c1, c2, hx', hy']
  exact updJ_comm (Ne.symm hab) (newF_unit es q e1) (newF_unit es q e0)
/-! Who is ended first -/
theorem mem_waits {es : List Ed} {q : List Jb} (hm : mayQ q = true) {x j : Jb} (hx : x ∈ q) (hj : j ∈ q) (h1 : j.2.2.1 = 1) : x.1 ∈ waitsQ es q j.1 ↔ aheadJ es x j = true := by
  rw [waitsQ_of hm hj h1]
  unfold waitsJ
  rw [List.mem_map]
  constructor
  · rintro ⟨y, h2, h3⟩
    obtain ⟨h4, h5⟩ := List.mem_filter.1 h2
    rw [← (mayQ.dq hm).eq h4 hx h3]; exact h5
  · intro h; exact ⟨x, List.mem_filter.2 ⟨hx, h⟩, rfl⟩
theorem stops {es : List Ed} {q : List Jb} (hi : isB es = true) (hm : mayQ q = true) {a b : Jb} (ha : a ∈ q) (hb : b ∈ q) (h1 : a.2.2.1 = 1) (h2 : b.2.2.1 = 1) (hab : Ah es a.1 b.1 = true) :
    (b.1 ∈ waitsQ es q a.1 ↔ endsB b = true) ∧ (a.1 ∈ waitsQ es q b.1 ↔ endsB b = false) := by
  have hne : a.1 ≠ b.1 := fun e => by rw [e, Ah_self hi] at hab; cases hab
  have hba := Ah_not hi hab
  rw [mem_waits hm hb ha h1, mem_waits hm ha hb h2, ahead_wait es h2 (Ne.symm hne), ahead_wait es h1 hne, hab, hba]
  cases endsB b <;> simp
/-- The type of the last job that is one of some; else t. -/
def pickT (p : Jb → Bool) (t : Int) (q : List Jb) : Int := q.foldl (fun t k => if p k = true then k.2.1 else t) t
theorem pick_all {p : Jb → Bool} {c : Int} : ∀ {q : List Jb}, (∀ x ∈ q, p x = true → x.2.1 = c) → pickT p c q = c
  | [], _ => rfl
  | k :: q, h => by
    show pickT p (if p k = true then k.2.1 else c) q = c
    split
    · rename_i hk; rw [h k (.head _) hk]; exact pick_all fun x hx => h x (.tail _ hx)
    · exact pick_all fun x hx => h x (.tail _ hx)
theorem pick_some {p : Jb → Bool} {c : Int} : ∀ {q : List Jb} {t : Int}, (∀ x ∈ q, p x = true → x.2.1 = c) → (∃ x ∈ q, p x = true) → pickT p t q = c
  | [], _, _, h => by obtain ⟨x, hx, _⟩ := h; cases hx
  | k :: q, t, h, hex => by
    show pickT p (if p k = true then k.2.1 else t) q = c
    by_cases hk : p k = true
    · rw [if_pos hk, h k (.head _) hk]; exact pick_all fun x hx => h x (.tail _ hx)
    · rw [if_neg hk]
      refine pick_some (fun x hx => h x (.tail _ hx)) ?_
      obtain ⟨x, hx, hp⟩ := hex
      rcases List.mem_cons.1 hx with rfl | hx
      · exact absurd hp hk
      · exact ⟨x, hx, hp⟩
theorem pick_none {p : Jb → Bool} : ∀ {q : List Jb} {t : Int}, (∀ x ∈ q, p x = false) → pickT p t q = t
  | [], _, _ => rfl
  | k :: q, t, h => by
    show pickT p (if p k = true then k.2.1 else t) q = t
    rw [h k (.head _)]
    exact pick_none fun x hx => h x (.tail _ hx)
theorem pick_nz {p : Jb → Bool} {q : List Jb} {t : Int} (h : pickT p t q ≠ t) : ∃ x ∈ q, p x = true := by
  refine Classical.byContradiction fun hn => h (pick_none fun x hx => ?_)
  cases hp : p x
  · rfl
  · exact absurd ⟨x, hx, hp⟩ hn
theorem pick_succ {p : Jb → Bool} {q : List Jb} {k : Nat} (hk : k < q.length) (t : Int) : pickT p t (q.take (k + 1)) = if p q[k] = true then q[k].2.1 else pickT p t (q.take k) := by
  unfold pickT
  rw [List.take_succ_eq_append_getElem hk, List.foldl_append]
  rfl
def waitAt (u : Str) (j : Jb) : Bool := j.2.2.1 == 1 && j.1 == u
theorem wait_type {q : List Jb} {u : Str} (hd : DQ q) (h : pickT (waitAt u) 0 q ≠ 0) : ∃ j ∈ q, j.1 = u ∧ j.2.2.1 = 1 ∧ j.2.1 = pickT (waitAt u) 0 q := by
  obtain ⟨j, hj, hp⟩ := pick_nz h
  have hp2 : j.2.2.1 = 1 ∧ j.1 = u := by simpa [waitAt] using hp
  refine ⟨j, hj, hp2.2, hp2.1, (pick_some (fun x hx hpx => ?_) ⟨j, hj, hp⟩).symm⟩
  have : x.1 = u := by simp [waitAt] at hpx; exact hpx.2
  rw [hd.eq hx hj (by rw [this, hp2.2])]
end Od
end Go.Proofs.YtanfnejbnmenkaaGreat
end
