/- My texts, joined for the claim: PAskW GrowB PConcat PIn PStart GMap2 PTurn. -/
import Derived.Test.YtbllehjhmfehbaaGreatZB4
import Derived.Test.YtbllehjhmfehbaaGreatZB8
import Derived.Shelf.Spec.SlicesGrow
import Derived.Ground.Names8Prog
import Derived.Test.YtbllehjhmfehbaaGreatProg
import Derived.Test.YtbllehjhmfehbaaGreatZB2
import Derived.Test.YtbllehjhmfehbaaGreatZB5
import Derived.Test.YtbllehjhmfehbaaGreatZB0
import Derived.Test.YtbllehjhmfehbaaGreatZB7

section
/- slices.Contains at long rows; (asker).there; some: jobs of some units. (bel2) -/
namespace Go.Proofs.YtbllehjhmfehbaaGreat
open Go.RowKit
set_option linter.unusedSimpArgs false
namespace Od
theorem containsS_big (A : Option Addr) (c : Nat) (ss : List Str) (x : Str) (w : World) (hr : Rd w w.heap.size 1 A ss.length (svs ss)) (hl : ss.length ≤ 140737488355328) :
    Calls Tryz.prog 108 #[.slice A ss.length c, sv x] w fun e w' => e = .returned (.bool (hasB ss x)) ∧ w' = w := by
  have he : hasB ss x = decide (x ∈ ss) := by
    rw [Bool.eq_iff_iff, hasB_iff, decide_eq_true_eq]
  rw [he]
  rcases Nat.eq_zero_or_pos ss.length with h0 | h0
  · have hn := List.length_eq_zero_iff.1 h0
    subst hn
    refine (Tryz.slices_Contains_string_empty A c _ w).mono ?_
    rintro e w' ⟨rfl, rfl⟩
    exact ⟨by simp, rfl⟩
  · obtain ⟨b, o, rfl, hb, hc⟩ := hr.open h0
    refine (Tryz.slices_Contains_string b o ss.length c (ss.map fun s => ⟨s.toArray⟩) ⟨x.toArray⟩ w (by simp) (by omega) (fun j hj => ?_)).mono ?_
    · have hj' : j < ss.length := by simpa using hj
      rw [hc j (by omega)]
      simp [svs, hj']
    · rintro e w' ⟨rfl, rfl⟩
      exact ⟨by rw [List.take_of_length_le (by simp), idxOf_zs], rfl⟩
/-- A row of texts that was handed in. -/
structure SIn (w : World) (A : Option Addr) (ss : List Str) : Prop where
  rd : Rd w w.heap.size 1 A ss.length (svs ss)
  len : ss.length ≤ 140737488355328
theorem SIn.at {w w' : World} {A : Option Addr} {ss : List Str} (h : SIn w A ss) (hb : Below w.heap.size w w') : SIn w' A ss := ⟨h.rd.at hb, h.len⟩
abbrev askV (An : Option Addr) (nn cn : Nat) (Ae : Option Addr) (ne ce : Nat) (Au : Option Addr) (nu cu : Nat) (Ah : Option Addr) (nh ch : Nat) : Value := .agg #[.slice An nn cn, .slice Ae ne ce, .slice Au nu cu, .slice Ah nh ch]
set_option maxHeartbeats 1000000 in
theorem there_any (An Ae Au Ah : Option Addr) (nn cn ne ce cu ch : Nat) (up half : List Str) (u : Str) (w : World) (hu : SIn w Au up) (hh : SIn w Ah half) :
    Calls Tryz.prog 214 #[askV An nn cn Ae ne ce Au up.length cu Ah half.length ch, sv u] w fun e w' => e = .returned (.bool (upB up half u)) ∧ Below w.heap.size w w' := by
  have Hu := Lib.hid hu
  have Hh := Lib.hid hh
  clear hu hh
  have hb : Below w.heap.size w (w.alloc (.cells #[.slice An nn cn, .slice Ae ne ce, .slice Au up.length cu, .slice Ah half.length ch] 76)) := (Below.refl _ _).alloc (Nat.le_refl _) _
  have H1 := Lib.hid (Hu.out.at hb)
  have H2 := Lib.hid (Hh.out.at hb)
  have HB := Lib.hid hb
  clear hb
  go_enter Tryz.func214, Tryz.ntmps214
  cases h1 : hasB up u
  · cases h2 : hasB half u
    · have h3 : upB up half u = false := by unfold upB; rw [h1, h2]; rfl
      go_wp2_with fail
      refine (containsS_big _ _ _ _ _ H1.out.rd H1.out.len).mono ?_
      rintro e w' ⟨rfl, rfl⟩
      rw [h1]
      go_wp2_with fail
      refine (containsS_big _ _ _ _ _ H2.out.rd H2.out.len).mono ?_
      rintro e w' ⟨rfl, rfl⟩
      rw [h2]
      go_wp2_with fail
      go_ret
      exact ⟨by rw [h3]; rfl, HB.out⟩
    · have h3 : upB up half u = true := by unfold upB; rw [h1, h2]; rfl
      go_wp2_with fail
      refine (containsS_big _ _ _ _ _ H1.out.rd H1.out.len).mono ?_
      rintro e w' ⟨rfl, rfl⟩
      rw [h1]
      go_wp2_with fail
      refine (containsS_big _ _ _ _ _ H2.out.rd H2.out.len).mono ?_
      rintro e w' ⟨rfl, rfl⟩
      rw [h2]
      go_wp2_with fail
      go_ret
      exact ⟨by rw [h3]; rfl, HB.out⟩
  · have h3 : upB up half u = true := by unfold upB; rw [h1]; rfl
    go_wp2_with fail
    refine (containsS_big _ _ _ _ _ H1.out.rd H1.out.len).mono ?_
    rintro e w' ⟨rfl, rfl⟩
    rw [h1]
    go_wp2_with fail
    go_ret
    exact ⟨by rw [h3]; rfl, HB.out⟩
def OwnB (l : List Bg) (w : World) (e : Ending) (w' : World) : Prop := ∃ A c, e = .returned (.slice A l.length c) ∧ w'.ownsRow w.heap.size 145 3 (.slice A l.length c) l.length (brsC l) ∧ Below w.heap.size w w'
theorem infoBr : (Tryz.prog.info? 145).map (fun i => (i.zero, i.size, i.bytes)) = some (some (.agg #[.string ⟨#[]⟩, .int .i64 0, .bool false]), 3, 32) := by kernel_rfl
theorem eachB_take {us : List Str} {t : Int} {n : Bool} {k : Nat} (hk : k < us.length) : eachB (us.take (k + 1)) t n = eachB (us.take k) t n ++ [((us[k], t), n)] := by
  unfold eachB
  rw [List.take_succ_eq_append_getElem hk, List.map_append]
  rfl
theorem eachB_len (us : List Str) (t : Int) (n : Bool) : (eachB us t n).length = us.length := by simp [eachB]
set_option maxRecDepth 100000 in
set_option maxHeartbeats 1000000 in
theorem some_any (A : Option Addr) (c : Nat) (us : List Str) (t : Int) (n : Bool) (w : World) (hr : Rd w w.heap.size 1 A us.length (svs us)) (hl : us.length ≤ 1000000) :
    Calls Tryz.prog 210 #[.slice A us.length c, .int .i64 t, .bool n] w (OwnB (eachB us t n) w) := by
  obtain ⟨i0, hi, hz0, hz1, hz2⟩ := info_parts infoBr
  have Hr := Lib.hid hr
  clear hr
  go_enter Tryz.func210, Tryz.ntmps210
  go_wp2_with fail
  go_loopw [7, 12] (fun v i wr => ∃ k : Nat, k ≤ us.length ∧ i = .int .i64 k ∧ wr.ownsRow w.heap.size 145 3 v k (brsC (eachB (us.take k) t n)) ∧ Below w.heap.size w wr) (fun _ i _ => us.length - (intOf i).toNat)
  case atStart => exact ⟨0, Nat.zero_le _, rfl, World.ownsRow_nil _ _ _ _, Below.refl _ _⟩
  case round =>
    obtain ⟨k, hk, rfl, hown, hbel⟩ := hrel
    by_cases hlt : k < us.length
    · obtain ⟨bb, o, rfl, hB, hc0⟩ := (Hr.out.on (Nat.le_refl _) hbel).str hlt
      have hz := hbel.size
      have n1 : bb < wr.heap.size := by omega
      have h63 : k + 1 ≤ maxLen := by unfold maxLen; omega
      have hby : (k + 1) * 32 ≤ 140737488355328 := by omega
      have hft := eachB_take (t := t) (n := n) hlt
      generalize hx : us[k] = x at hc0 hft
      clear hx
      have Hbel := Lib.hid hbel
      have Hown := Lib.hid hown
      have Hft := Lib.hid hft
      clear hbel hown hft
      go_wp2_with (first | (at_builtin; refine wpList_pushm w wr (by rfl) _ _ 175 (by rfl) w.heap.size 145 i0 _ 3 32 Tryz.underlying175 hi hz0 hz1 hz2 rfl (by decide) _ _ _ (by rfl) Hown.out [sv x, .int .i64 t, .bool n] (wr.heap.size) (by simp) (by rfl) rfl (by simp [Value.oneCell']) h63 hby hz Hbel.out ?_; intro A1 c1 w1 hown1 hbel1 hg1 hat1) | fail)
      go_roundw
      case rel => exact ⟨k + 1, by omega, by go_num, by rw [Hft.out, brsC_app, brsC_one]; exact hown1, hbel1⟩
      case measure => simp [intOf]; omega
    · have hkl : k = us.length := by omega
      subst hkl
      rw [List.take_length] at hown
      obtain ⟨A1, c1, rfl, _⟩ := own_rd hown
      have Hown := Lib.hid hown
      have Hbel := Lib.hid hbel
      clear hown hbel
      go_wp2_with fail
      go_ret
      exact ⟨A1, c1, by rw [eachB_len]; rfl, by rw [eachB_len]; exact Hown.out, Hbel.out⟩
end Od
end Go.Proofs.YtbllehjhmfehbaaGreat
end

section
/-
  DERIVED: THE SHELF's CONTRACTS AT THIS DUMP, IN PLAIN WORDS (tools/lay-plain.mjs out of 'TryzGrowB.lean', which tools/lay-shelf.mjs wrote): THE SAME DECLARATIONS UNDER THE SAME NAMES: 'import', 'namespace', 'open', 'def', 'theorem' AND NOTHING ELSE: no command of the shelf's: FOR A HAND-IN. Each laying: the table of numbers ('.._ren') and one theorem, a field a fact of the dump's own or the kernel's comparison; each contract: ONE APPLICATION.
-/
namespace Go.Proofs.YtbllehjhmfehbaaGreat
open Go.Shelf
def Tryz.growB_ren : Go.Shelf.Ren := ⟨fun | 4 => 233 | n => n, fun | 22 => 175 | 25 => 145 | 3 => 3 | 4 => 4 | 9 => 9 | 20 => 20 | 0 => 0 | n => n, fun | n => n⟩
theorem Tryz.growB : Go.Proofs.Lays8.n4 Tryz.prog Tryz.growB_ren := {
  mixed := by kernel_rfl
  f4 := ⟨Tryz.f233.name, by decide, Tryz.func233.trans (congrArg some (by kernel_rfl))⟩
  t0 := Tryz.underlying0
  a0 := Tryz.isAgg0
  z0 := Tryz.sizeOf0
  v0 := Tryz.zeroValue0
  t3 := Tryz.underlying3
  a3 := Tryz.isAgg3
  z3 := Tryz.sizeOf3
  v3 := Tryz.zeroValue3
  t4 := Tryz.underlying4
  a4 := Tryz.isAgg4
  z4 := Tryz.sizeOf4
  v4 := Tryz.zeroValue4
  t9 := Tryz.underlying9
  a9 := Tryz.isAgg9
  z9 := Tryz.sizeOf9
  v9 := Tryz.zeroValue9
  t20 := Tryz.underlying20
  a20 := Tryz.isAgg20
  z20 := Tryz.sizeOf20
  v20 := Tryz.zeroValue20
  t22 := Tryz.underlying175
  a22 := Tryz.isAgg175
  z22 := Tryz.sizeOf175
  v22 := Tryz.zeroValue175 }
end Go.Proofs.YtbllehjhmfehbaaGreat
end

section
/- slices.Concat of rows of jobs that are brought. (bel2) -/
namespace Go.Proofs.YtbllehjhmfehbaaGreat
open Go.RowKit Go.Sort
set_option linter.unusedSimpArgs false
namespace Od
abbrev BRow := Option Addr × Nat × List Bg
def rowsF (rows : List BRow) : List Bg := rows.flatMap (·.2.2)
theorem rowsF_take {rows : List BRow} {k : Nat} (hk : k < rows.length) : rowsF (rows.take (k + 1)) = rowsF (rows.take k) ++ rows[k].2.2 := by
  unfold rowsF
  rw [List.take_succ_eq_append_getElem hk, List.flatMap_append]
  simp
theorem rowsF_le {rows : List BRow} (k : Nat) : (rowsF (rows.take k)).length ≤ (rowsF rows).length := by
  have h : rowsF rows = rowsF (rows.take k) ++ rowsF (rows.drop k) := by
    unfold rowsF
    rw [← List.flatMap_append, List.take_append_drop]
  rw [h, List.length_append]; omega
/-- The rows to be joined, as they lie behind a slice. -/
structure BRows (w : World) (b : Nat) (rows : List BRow) : Prop where
  cell : ∀ i, ∀ hi : i < rows.length, w.cell? ⟨b, i, none⟩ = some (.slice rows[i].1 rows[i].2.2.length rows[i].2.1)
  rd : ∀ i, ∀ hi : i < rows.length, Rd w w.heap.size 3 rows[i].1 rows[i].2.2.length (brsC rows[i].2.2)
  lt : b < w.heap.size
theorem BRows.at {w w' : World} {b : Nat} {rows : List BRow} (h : BRows w b rows) (hb : Below w.heap.size w w') : BRows w' b rows :=
  ⟨fun i hi => (hb.cell (p := ⟨b, i, none⟩) h.lt).trans (h.cell i hi), fun i hi => (h.rd i hi).at hb, Nat.lt_of_lt_of_le h.lt hb.size⟩
theorem GrowB_own (n : Nat) (w : World) (hn : n ≤ 1000000) : Calls Tryz.prog 233 #[.slice none 0 0, .int .i64 n] w fun e w' => ∃ A c, e = .returned (.slice A 0 c) ∧ w'.ownsRow w.heap.size 145 3 (.slice A 0 c) 0 [] ∧ Below w.heap.size w w' := by
  obtain ⟨i0, hi, hz0, hz1, hz2⟩ := info_parts infoBr
  rcases Nat.eq_zero_or_pos n with h0 | h0
  · subst h0
    refine (show Calls Tryz.prog 233 _ w _ from Go.Proofs.Any8.slices_Grow_room (P := Tryz.prog) Tryz.growB none 0 0 0 w (by omega) (by omega) (by omega) (by omega)).mono ?_
    rintro e w' ⟨rfl, rfl⟩
    exact ⟨none, 0, rfl, World.ownsRow_nil _ _ _ _, Below.refl _ _⟩
  · refine (show Calls Tryz.prog 233 _ w _ from Go.Proofs.Any8.slices_Grow_grow (P := Tryz.prog) Tryz.growB i0 (.agg #[.string ⟨#[]⟩, .int .i64 0, .bool false]) hi hz0 (by rw [hz1]; omega) none 0 0 n [] w (by omega) (by omega) (by rw [hz2]; omega) (by omega) (by simp) (fun _ => rfl) (fun a h => by cases h)).mono ?_
    rintro e w' ⟨rfl, rfl⟩
    have hle := grownCap_le_maxLen w (0 + n) 0 145 (by unfold maxLen; omega)
    refine ⟨_, _, rfl, ⟨rfl, .inr ⟨w.heap.size, _, _, rfl, Nat.le_refl _, by show (w.heap.push _)[w.heap.size]? = _; exact Array.getElem?_push_size, Nat.zero_le _, hle, ?_, by simp⟩⟩, (Below.drew (Below.refl _ _)).alloc (Nat.le_refl _) _⟩
    have hge2 := grownCap_ge w n 0 (Tryz.growB_ren.t 25)
    simp [size_zeroCells, Value.cells]
    omega
set_option maxRecDepth 100000 in
set_option maxHeartbeats 8000000 in
theorem ConcatB_any (b : Nat) (rows : List BRow) (w : World) (h : BRows w b rows) (hl : (rowsF rows).length ≤ 1000000) (hr : rows.length ≤ 100) :
    Calls Tryz.prog 209 #[.slice (some ⟨b, 0, none⟩) rows.length rows.length] w (OwnB (rowsF rows) w) := by
  obtain ⟨i0, hi, hz0, hz1, hz2⟩ := info_parts infoBr
  have H := Lib.hid h
  clear h
  go_enter Tryz.func209, Tryz.ntmps209
  go_wp2_with fail
  go_loop [3, 11] (fun s i => ∃ k : Nat, k ≤ rows.length ∧ i = .int .i64 k ∧ s = .int .i64 ((rowsF (rows.take k)).length : Nat)) (fun _ i => rows.length - (intOf i).toNat)
  case atStart => exact ⟨0, Nat.zero_le _, rfl, rfl⟩
  case round =>
    obtain ⟨k, hk, rfl, rfl⟩ := hrel
    by_cases hlt : k < rows.length
    · have hc := H.out.cell k hlt
      have hft := congrArg List.length (rowsF_take hlt)
      have hle := rowsF_le (rows := rows) (k + 1)
      rw [hft] at hle
      rw [List.length_append] at hft hle
      generalize (rowsF (rows.take k)).length = m at hft hle
      generalize rows[k] = x at hc hft hle
      obtain ⟨A, c, l⟩ := x
      simp only at hc hft hle
      have hw1 : IntKind.i64.wrap ((m : Int) + (l.length : Int)) = ((m : Int) + (l.length : Int)) := IntWalk.i64_in _ (by omega)
      have hn1 : decide ((m : Int) + (l.length : Int) < 0) = false := by rw [decide_eq_false_iff_not]; omega
      have Hft := Lib.hid hft
      clear hft hle
      go_wp2_with fail
      go_round
      case rel => exact ⟨k + 1, by omega, by go_num, by rw [Hft.out]; simp⟩
      case measure => simp [intOf]; omega
    · have hkl : k = rows.length := by omega
      subst hkl
      rw [List.take_length]
      go_wp2_with fail
      refine (GrowB_own (rowsF rows).length w hl).mono ?_
      rintro e w2 ⟨A, c, rfl, ho, hb⟩
      have HO := Lib.hid ho
      have HB := Lib.hid hb
      clear hb ho
      go_wp2_with fail
      go_loopw [6, 27] (fun v i wr => ∃ k : Nat, k ≤ rows.length ∧ i = .int .i64 k ∧ wr.ownsRow w.heap.size 145 3 v (rowsF (rows.take k)).length (brsC (rowsF (rows.take k))) ∧ Below w.heap.size w wr) (fun _ i _ => rows.length - (intOf i).toNat)
      case atStart => exact ⟨0, Nat.zero_le _, rfl, HO.out, HB.out⟩
      case round =>
        obtain ⟨k, hk, rfl, hown, hbel⟩ := hrel
        clear HO HB
        obtain ⟨A6, c6, rfl, _⟩ := own_rd hown
        have hsz : w.heap.size ≤ wr.heap.size := hbel.size
        have HR := Lib.hid (H.out.at hbel)
        by_cases hlt : k < rows.length
        · have hc := HR.out.cell k hlt
          have hrd := HR.out.rd k hlt
          have hft := rowsF_take hlt
          have hle := rowsF_le (rows := rows) (k + 1)
          rw [hft, List.length_append] at hle
          generalize rowsF (rows.take k) = L at hft hle hown
          generalize rows[k] = x at hc hft hle hrd
          obtain ⟨Ax, cx, l⟩ := x
          simp only at hc hft hle hrd
          have h63 : L.length + l.length ≤ maxLen := by unfold maxLen; omega
          have hby : (L.length + l.length) * 32 ≤ 140737488355328 := by omega
          have Hft := Lib.hid hft
          have Hrd := Lib.hid hrd
          have HOr := Lib.hid hown
          have HBr := Lib.hid hbel
          clear hft hrd hown hbel
          go_wp2_with (first
            | (at_builtin; refine wpList_append_rd _ (by rfl) (.tmp 31) (.tmp 32) 175 (by rfl) w.heap.size 145 i0 _ 3 32 Tryz.underlying175 hi hz0 hz1 hz2 rfl (by decide) _ L.length (brsC L) (by rfl) HOr.out _ Ax l.length cx (brsC l) (by rfl) Hrd.out (one_brsC l) h63 hby hsz ?_; intro A7 c7 w7 ho7 hg7 hat7)
            | fail)
          go_roundw
          case rel => exact ⟨k + 1, by omega, by go_num, by rw [Hft.out, List.length_append, brsC_app]; exact ho7, HBr.out.grown hg7 hsz (fun j hj => (HOr.out.lt j hj).1)⟩
          case measure => simp [intOf]; omega
        · have hkl : k = rows.length := by omega
          subst hkl
          rw [List.take_length] at hown ⊢
          have HOr := Lib.hid hown
          have HBr := Lib.hid hbel
          clear hown hbel
          go_wp2_with fail
          go_ret
          exact ⟨A6, c6, rfl, HOr.out, HBr.out⟩
end Od
end Go.Proofs.YtbllehjhmfehbaaGreat
end

section
/- The walk of graph.In. -/
namespace Go.Proofs.YtbllehjhmfehbaaGreat
open Go.RowKit Go.Sort
namespace Od
def inwP (u : Str) (rel : Int) (e : Ed) : Bool := e.2.1 == u && e.2.2 == rel
theorem inwRaw_is (es : List Ed) (u : Str) (rel : Int) : inwRaw es u rel = (es.filter (inwP u rel)).map (fun e => e.1) := rfl
theorem inwRaw_len (es : List Ed) (u : Str) (rel : Int) : (inwRaw es u rel).length ≤ es.length := by
  rw [inwRaw_is, List.length_map]; exact List.length_filter_le _ _
set_option maxRecDepth 100000 in
set_option maxHeartbeats 2000000 in
theorem GIn_any (An Ae : Option Addr) (nn cn ce : Nat) (es : List Ed) (u : Str) (rel : Int) (w : World) (hr : Rd w w.heap.size 3 Ae es.length (edsC es)) (hl : es.length ≤ 1000000) :
    Calls Tryz.prog 211 #[gV An nn cn Ae es.length ce, sv u, .int .i64 rel] w (OwnS (inwS es u rel) w) := by
  obtain ⟨i0, hi, hz0, hz1, hz2⟩ := info_parts infoS
  have Hr := Lib.hid hr
  clear hr
  go_enter Tryz.func211, Tryz.ntmps211
  go_wp2_with fail
  go_loopw [7, 13] (fun v i wr => ∃ k : Nat, k ≤ es.length ∧ i = .int .i64 k ∧ wr.ownsRow w.heap.size 9 1 v (inwRaw (es.take k) u rel).length (svs (inwRaw (es.take k) u rel)) ∧ Below w.heap.size w wr) (fun _ i _ => es.length - (intOf i).toNat)
  case atStart => exact ⟨0, Nat.zero_le _, rfl, World.ownsRow_nil _ _ _ _, (Below.refl _ _).alloc (Nat.le_refl _) _⟩
  case round =>
    obtain ⟨k, hk, rfl, hown, hbel⟩ := hrel
    by_cases hlt : k < es.length
    · obtain ⟨bb, o, rfl, hB, hc0, hc1, hc2⟩ := (Hr.out.on (Nat.le_refl _) hbel).edge hlt
      have hz := hbel.size
      have n1 : bb < wr.heap.size := by omega
      have Hbel := Lib.hid (hbel.alloc hz (.cells #[sv es[k].1, sv es[k].2.1, .int .i64 es[k].2.2] 45))
      have Hown := Lib.hid (hown.alloc (.cells #[sv es[k].1, sv es[k].2.1, .int .i64 es[k].2.2] 45))
      have hln : (inwRaw (es.take k) u rel).length ≤ k := Nat.le_trans (inwRaw_len _ _ _) (by simp; omega)
      have h63 : (inwRaw (es.take k) u rel).length + 1 ≤ maxLen := by unfold maxLen; omega
      have hby : ((inwRaw (es.take k) u rel).length + 1) * 16 ≤ 140737488355328 := by omega
      have hft : inwRaw (es.take (k + 1)) u rel = inwRaw (es.take k) u rel ++ (if inwP u rel es[k] then [es[k].1] else []) := by
        rw [inwRaw_is, inwRaw_is, filter_take_succ hlt, List.map_append]; split <;> simp
      clear hbel hown
      generalize hx : es[k] = x at hc0 hc1 hc2 hft Hbel Hown
      obtain ⟨s, d, r⟩ := x
      clear hx
      simp only at hc0 hc1 hc2 Hbel Hown
      have hsz : w.heap.size ≤ (wr.alloc (.cells #[sv s, sv d, .int .i64 r] 45)).heap.size := by simp; omega
      cases hp : inwP u rel (s, d, r)
      · rw [hp] at hft
        simp only [Bool.false_eq_true, if_false, List.append_nil] at hft
        have Hft := Lib.hid hft
        clear hft
        have hp' : (d == u) = false ∨ ((d == u) = true ∧ (r == rel) = false) := by
          unfold inwP at hp
          cases h1 : (d == u)
          · exact .inl rfl
          · simp only [h1, Bool.true_and] at hp; exact .inr ⟨rfl, hp⟩
        rcases hp' with h1 | ⟨h1, h2⟩
        · have h1' : ¬ d = u := by simpa using h1
          go_wp2_with fail
          go_roundw
          case rel => exact ⟨k + 1, by omega, by go_num, by rw [Hft.out]; exact Hown.out, Hbel.out⟩
          case measure => simp [intOf]; omega
        · have h1' : d = u := by simpa using h1
          subst h1'
          have h2' : ¬ r = rel := by simpa using h2
          go_wp2_with fail
          go_roundw
          case rel => exact ⟨k + 1, by omega, by go_num, by rw [Hft.out]; exact Hown.out, Hbel.out⟩
          case measure => simp [intOf]; omega
      · rw [hp] at hft
        simp only [if_true] at hft
        have Hft := Lib.hid hft
        clear hft
        have hp2 : d = u ∧ r = rel := by simpa [inwP] using hp
        obtain ⟨rfl, rfl⟩ := hp2
        go_wp2_with (at_builtin; refine wpList_pushm w (wr.alloc (.cells #[sv s, sv d, .int .i64 r] 45)) (by rfl) _ _ 26 (by rfl) w.heap.size 9 i0 (.string ⟨#[]⟩) 1 16 Tryz.underlying26 hi hz0 hz1 hz2 rfl (by decide) _ _ _ (by rfl) Hown.out [sv s] (wr.heap.size + 1) (by simp) (by rfl) rfl (by simp [Value.oneCell']) h63 hby hsz Hbel.out ?_; intro A1 c1 w1 hown1 hbel1 hg1 hat1)
        go_roundw
        case rel => exact ⟨k + 1, by omega, by go_num, by rw [Hft.out]; simpa [svs] using hown1, hbel1⟩
        case measure => simp [intOf]; omega
    · have hkl : k = es.length := by omega
      subst hkl
      rw [List.take_length] at hown
      obtain ⟨A, c, rfl, _⟩ := own_rd hown
      have Hown := Lib.hid hown
      have Hbel := Lib.hid hbel
      clear hown hbel
      have hln := inwRaw_len es u rel
      go_wp2_with fail
      refine (once_own _ c A (inwRaw es u rel) _ Hown.out (by omega)).mono ?_
      rintro e w2 ⟨rfl, h2, g2⟩
      have H2 := Lib.hid h2
      have G2 := Lib.hid g2
      clear h2 g2
      go_wp2_with fail
      go_ret
      exact ⟨A, c, rfl, H2.out, Hbel.out.grown G2.out Hbel.out.size (fun j hj => (Hown.out.lt j hj).1)⟩
end Od
end Go.Proofs.YtbllehjhmfehbaaGreat
end

section
/- (asker).start: what a start brings. (bel2) -/
namespace Go.Proofs.YtbllehjhmfehbaaGreat
open Go.RowKit Go.Sort
set_option linter.unusedSimpArgs false
namespace Od
def browV (r : BRow) : Value := .slice r.1 r.2.2.length r.2.1
theorem BRows.lit (w : World) (rows : List BRow) (e : TypeId) (h : ∀ r ∈ rows, Rd w w.heap.size 3 r.1 r.2.2.length (brsC r.2.2)) : BRows (w.alloc (.cells (rows.map browV).toArray e)) w.heap.size rows := by
  have hb : Below w.heap.size w (w.alloc (.cells (rows.map browV).toArray e)) := (Below.refl _ _).alloc (Nat.le_refl _) _
  refine ⟨fun i hi => ?_, fun i hi => (h _ (List.getElem_mem hi)).at hb, by simp⟩
  have h1 : (w.alloc (.cells (rows.map browV).toArray e)).heap[w.heap.size]? = some (.cells (rows.map browV).toArray e (0, 0)) := by
    show (w.heap.push _)[w.heap.size]? = _
    exact Array.getElem?_push_size
  unfold World.cell?
  simp only [h1]
  simp [hi, browV]
theorem inwS_len (es : List Ed) (u : Str) (rel : Int) : (inwS es u rel).length ≤ es.length := Nat.le_trans (onceS_len _) (inwRaw_len _ _ _)
theorem outS_len (es : List Ed) (u : Str) (rel : Int) : (outS es u rel).length ≤ es.length := Nat.le_trans (onceS_len _) (outRaw_len _ _ _)
theorem startB_len (es : List Ed) (u : Str) : (startB es u).length ≤ 5 * es.length := by
  unfold startB
  simp only [List.length_append, eachB_len]
  have h1 := outS_len es u 1
  have h2 := outS_len es u 4
  have h3 := outS_len es u 2
  have h4 := outS_len es u 6
  have h5 := inwS_len es u 6
  omega
theorem brows5 (w : World) (a b c d f : BRow) (e : TypeId) (h1 : Rd w w.heap.size 3 a.1 a.2.2.length (brsC a.2.2)) (h2 : Rd w w.heap.size 3 b.1 b.2.2.length (brsC b.2.2)) (h3 : Rd w w.heap.size 3 c.1 c.2.2.length (brsC c.2.2)) (h4 : Rd w w.heap.size 3 d.1 d.2.2.length (brsC d.2.2)) (h5 : Rd w w.heap.size 3 f.1 f.2.2.length (brsC f.2.2)) :
    BRows (w.alloc (.cells #[browV a, browV b, browV c, browV d, browV f] e)) w.heap.size [a, b, c, d, f] := by
  refine BRows.lit w [a, b, c, d, f] e fun r hr => ?_
  simp only [List.mem_cons, List.not_mem_nil, or_false] at hr
  rcases hr with rfl | rfl | rfl | rfl | rfl <;> assumption
theorem startB_rows {es : List Ed} {u : Str} {E0 E1 E2 E3 E4 : Option Addr} {d0 d1 d2 d3 d4 : Nat} : rowsF [(E0, d0, eachB (outS es u 1) 1 true), (E1, d1, eachB (outS es u 4) 1 true), (E2, d2, eachB (outS es u 2) 1 false), (E3, d3, eachB (outS es u 6) 2 true), (E4, d4, eachB (inwS es u 6) 2 true)] = startB es u := by
  unfold rowsF startB
  simp
set_option maxRecDepth 100000 in
set_option maxHeartbeats 4000000 in
theorem start_any (An Ae Au Ah : Option Addr) (nn cn ce nu cu nh ch : Nat) (es : List Ed) (u : Str) (w : World) (hr : Rd w w.heap.size 3 Ae es.length (edsC es)) (hl : es.length ≤ 10000) :
    Calls Tryz.prog 179 #[askV An nn cn Ae es.length ce Au nu cu Ah nh ch, sv u] w (OwnB (startB es u) w) := by
  have Hr := Lib.hid hr
  clear hr
  go_enter Tryz.func179, Tryz.ntmps179
  go_wp2_with fail
  first | (refine wp_named ?_; intro W1 hW) | (refine calls_named ?_; intro W1 hW)
  have B1 : Below w.heap.size w W1 := by rw [hW]; exact (by repeat (first | exact Below.refl _ _ | assumption | refine Below.alloc ?_ (by first | omega | (simp <;> omega)) _ | refine Below.setCell ?_ (by first | omega | (simp <;> omega)) _ | refine Below.drew ?_))
  replace Hr := Lib.hid (Hr.out.at B1)
  have n1 : w.heap.size < W1.heap.size := by rw [hW]; simp <;> omega
  have g0 : W1.cell? ⟨w.heap.size, 0, none⟩ = some (.slice An nn cn) := by rw [hW]; go_simp
  have g1 : W1.cell? ⟨w.heap.size, 1, none⟩ = some (.slice Ae es.length ce) := by rw [hW]; go_simp
  clear hW
  have HB1 := Lib.hid B1
  clear B1
  try go_wp2_with fail
  refine wp_region_held_drew (S := fun w' => Below W1.heap.size W1 w') (by kernel_rfl) (Below.drew (Below.refl _ _)) (fun hHeld => ?_)
  refine tY (i := 0) (v := ?_) rfl ?_ hHeld ?_; rotate_left 1; focus (intro w' hSw; clear hSw; go_simp; try with_reducible rfl)
  (try simp only [Act.put, zn1, zn2, zn3])
  refine tY (i := 1) (v := ?_) rfl ?_ hHeld ?_; rotate_left 1; focus (intro w' hSw; have hCell := fun (b o : Nat) (h : b < W1.heap.size) => hSw.cell (p := ⟨b, o, none⟩) h; clear hSw; go_simp; try with_reducible rfl)
  (try simp only [Act.put, zn1, zn2, zn3])
  refine tY (i := 2) (v := ?_) rfl ?_ hHeld ?_; rotate_left 1; focus (intro w' hSw; clear hSw; go_simp; try with_reducible rfl)
  (try simp only [Act.put, zn1, zn2, zn3])
  refine tY (i := 5) (v := ?_) rfl ?_ hHeld ?_; rotate_left 1; focus (intro w' hSw; clear hSw; go_simp; try with_reducible rfl)
  (try simp only [Act.put, zn1, zn2, zn3])
  refine tY (i := 6) (v := ?_) rfl ?_ hHeld ?_; rotate_left 1; focus (intro w' hSw; have hCell := fun (b o : Nat) (h : b < W1.heap.size) => hSw.cell (p := ⟨b, o, none⟩) h; clear hSw; go_simp; try with_reducible rfl)
  (try simp only [Act.put, zn1, zn2, zn3])
  refine tY (i := 7) (v := ?_) rfl ?_ hHeld ?_; rotate_left 1; focus (intro w' hSw; clear hSw; go_simp; try with_reducible rfl)
  (try simp only [Act.put, zn1, zn2, zn3])
  refine tY (i := 10) (v := ?_) rfl ?_ hHeld ?_; rotate_left 1; focus (intro w' hSw; clear hSw; go_simp; try with_reducible rfl)
  (try simp only [Act.put, zn1, zn2, zn3])
  refine tY (i := 11) (v := ?_) rfl ?_ hHeld ?_; rotate_left 1; focus (intro w' hSw; have hCell := fun (b o : Nat) (h : b < W1.heap.size) => hSw.cell (p := ⟨b, o, none⟩) h; clear hSw; go_simp; try with_reducible rfl)
  (try simp only [Act.put, zn1, zn2, zn3])
  refine tY (i := 12) (v := ?_) rfl ?_ hHeld ?_; rotate_left 1; focus (intro w' hSw; clear hSw; go_simp; try with_reducible rfl)
  (try simp only [Act.put, zn1, zn2, zn3])
  refine tY (i := 15) (v := ?_) rfl ?_ hHeld ?_; rotate_left 1; focus (intro w' hSw; clear hSw; go_simp; try with_reducible rfl)
  (try simp only [Act.put, zn1, zn2, zn3])
  refine tY (i := 16) (v := ?_) rfl ?_ hHeld ?_; rotate_left 1; focus (intro w' hSw; have hCell := fun (b o : Nat) (h : b < W1.heap.size) => hSw.cell (p := ⟨b, o, none⟩) h; clear hSw; go_simp; try with_reducible rfl)
  (try simp only [Act.put, zn1, zn2, zn3])
  refine tY (i := 17) (v := ?_) rfl ?_ hHeld ?_; rotate_left 1; focus (intro w' hSw; clear hSw; go_simp; try with_reducible rfl)
  (try simp only [Act.put, zn1, zn2, zn3])
  refine tY (i := 20) (v := ?_) rfl ?_ hHeld ?_; rotate_left 1; focus (intro w' hSw; clear hSw; go_simp; try with_reducible rfl)
  (try simp only [Act.put, zn1, zn2, zn3])
  refine tY (i := 21) (v := ?_) rfl ?_ hHeld ?_; rotate_left 1; focus (intro w' hSw; have hCell := fun (b o : Nat) (h : b < W1.heap.size) => hSw.cell (p := ⟨b, o, none⟩) h; clear hSw; go_simp; try with_reducible rfl)
  (try simp only [Act.put, zn1, zn2, zn3])
  refine tY (i := 22) (v := ?_) rfl ?_ hHeld ?_; rotate_left 1; focus (intro w' hSw; clear hSw; go_simp; try with_reducible rfl)
  (try simp only [Act.put, zn1, zn2, zn3])
  refine ready_one (i := 3) rfl (by kernel_rfl) (fun K hK => ?_)
  go_simp
  refine (Out_any An Ae nn cn ce es u 1 _ (Hr.out.at hHeld) (by omega)).mono ?_
  rintro e y0a ⟨A0, c0, rfl, ho, hb⟩
  have HS0 := Lib.hid (own_rd' ho)
  clear ho
  refine hK.out _ _ ?_ (fun hHeld2 => ?_)
  · (try dsimp only); first | exact Below.trans hHeld (Below.mono hb hHeld.size) | exact hHeld | exact Below.drew hHeld | exact (by repeat (first | exact Below.refl _ _ | assumption | refine Below.alloc ?_ (by first | omega | (simp <;> omega)) _ | refine Below.setCell ?_ (by first | omega | (simp <;> omega)) _ | refine Below.drew ?_))
  clear hK K hHeld; have hHeld := hHeld2; clear hHeld2; (try simp only [Act.put, zn1, zn2, zn3])
  refine ready_one (i := 4) rfl (by kernel_rfl) (fun K hK => ?_)
  go_simp
  have hln := outS_len es u 1
  refine (some_any A0 c0 (outS es u 1) 1 true _ HS0.out (by omega)).mono ?_
  rintro e y0b ⟨E0, d0, rfl, ho, hb⟩
  have HT0 := Lib.hid (own_rd' ho)
  clear ho hln
  refine hK.out _ _ ?_ (fun hHeld2 => ?_)
  · (try dsimp only); first | exact Below.trans hHeld (Below.mono hb hHeld.size) | exact hHeld | exact Below.drew hHeld | exact (by repeat (first | exact Below.refl _ _ | assumption | refine Below.alloc ?_ (by first | omega | (simp <;> omega)) _ | refine Below.setCell ?_ (by first | omega | (simp <;> omega)) _ | refine Below.drew ?_))
  clear hK K hHeld; have hHeld := hHeld2; clear hHeld2; (try simp only [Act.put, zn1, zn2, zn3])
  refine ready_one (i := 8) rfl (by kernel_rfl) (fun K hK => ?_)
  go_simp
  refine (Out_any An Ae nn cn ce es u 4 _ (Hr.out.at hHeld) (by omega)).mono ?_
  rintro e y1a ⟨A1, c1, rfl, ho, hb⟩
  have HS1 := Lib.hid (own_rd' ho)
  have HT0_1a := Lib.hid (HT0.out.at hb)
  clear ho
  refine hK.out _ _ ?_ (fun hHeld2 => ?_)
  · (try dsimp only); first | exact Below.trans hHeld (Below.mono hb hHeld.size) | exact hHeld | exact Below.drew hHeld | exact (by repeat (first | exact Below.refl _ _ | assumption | refine Below.alloc ?_ (by first | omega | (simp <;> omega)) _ | refine Below.setCell ?_ (by first | omega | (simp <;> omega)) _ | refine Below.drew ?_))
  clear hK K hHeld; have hHeld := hHeld2; clear hHeld2; (try simp only [Act.put, zn1, zn2, zn3])
  refine ready_one (i := 9) rfl (by kernel_rfl) (fun K hK => ?_)
  go_simp
  have hln := outS_len es u 4
  refine (some_any A1 c1 (outS es u 4) 1 true _ HS1.out (by omega)).mono ?_
  rintro e y1b ⟨E1, d1, rfl, ho, hb⟩
  have HT1 := Lib.hid (own_rd' ho)
  have HT0_1b := Lib.hid (HT0_1a.out.at hb)
  clear ho hln
  refine hK.out _ _ ?_ (fun hHeld2 => ?_)
  · (try dsimp only); first | exact Below.trans hHeld (Below.mono hb hHeld.size) | exact hHeld | exact Below.drew hHeld | exact (by repeat (first | exact Below.refl _ _ | assumption | refine Below.alloc ?_ (by first | omega | (simp <;> omega)) _ | refine Below.setCell ?_ (by first | omega | (simp <;> omega)) _ | refine Below.drew ?_))
  clear hK K hHeld; have hHeld := hHeld2; clear hHeld2; (try simp only [Act.put, zn1, zn2, zn3])
  refine ready_one (i := 13) rfl (by kernel_rfl) (fun K hK => ?_)
  go_simp
  refine (Out_any An Ae nn cn ce es u 2 _ (Hr.out.at hHeld) (by omega)).mono ?_
  rintro e y2a ⟨A2, c2, rfl, ho, hb⟩
  have HS2 := Lib.hid (own_rd' ho)
  have HT0_2a := Lib.hid (HT0_1b.out.at hb)
  have HT1_2a := Lib.hid (HT1.out.at hb)
  clear ho
  refine hK.out _ _ ?_ (fun hHeld2 => ?_)
  · (try dsimp only); first | exact Below.trans hHeld (Below.mono hb hHeld.size) | exact hHeld | exact Below.drew hHeld | exact (by repeat (first | exact Below.refl _ _ | assumption | refine Below.alloc ?_ (by first | omega | (simp <;> omega)) _ | refine Below.setCell ?_ (by first | omega | (simp <;> omega)) _ | refine Below.drew ?_))
  clear hK K hHeld; have hHeld := hHeld2; clear hHeld2; (try simp only [Act.put, zn1, zn2, zn3])
  refine ready_one (i := 14) rfl (by kernel_rfl) (fun K hK => ?_)
  go_simp
  have hln := outS_len es u 2
  refine (some_any A2 c2 (outS es u 2) 1 false _ HS2.out (by omega)).mono ?_
  rintro e y2b ⟨E2, d2, rfl, ho, hb⟩
  have HT2 := Lib.hid (own_rd' ho)
  have HT0_2b := Lib.hid (HT0_2a.out.at hb)
  have HT1_2b := Lib.hid (HT1_2a.out.at hb)
  clear ho hln
  refine hK.out _ _ ?_ (fun hHeld2 => ?_)
  · (try dsimp only); first | exact Below.trans hHeld (Below.mono hb hHeld.size) | exact hHeld | exact Below.drew hHeld | exact (by repeat (first | exact Below.refl _ _ | assumption | refine Below.alloc ?_ (by first | omega | (simp <;> omega)) _ | refine Below.setCell ?_ (by first | omega | (simp <;> omega)) _ | refine Below.drew ?_))
  clear hK K hHeld; have hHeld := hHeld2; clear hHeld2; (try simp only [Act.put, zn1, zn2, zn3])
  refine ready_one (i := 18) rfl (by kernel_rfl) (fun K hK => ?_)
  go_simp
  refine (Out_any An Ae nn cn ce es u 6 _ (Hr.out.at hHeld) (by omega)).mono ?_
  rintro e y3a ⟨A3, c3, rfl, ho, hb⟩
  have HS3 := Lib.hid (own_rd' ho)
  have HT0_3a := Lib.hid (HT0_2b.out.at hb)
  have HT1_3a := Lib.hid (HT1_2b.out.at hb)
  have HT2_3a := Lib.hid (HT2.out.at hb)
  clear ho
  refine hK.out _ _ ?_ (fun hHeld2 => ?_)
  · (try dsimp only); first | exact Below.trans hHeld (Below.mono hb hHeld.size) | exact hHeld | exact Below.drew hHeld | exact (by repeat (first | exact Below.refl _ _ | assumption | refine Below.alloc ?_ (by first | omega | (simp <;> omega)) _ | refine Below.setCell ?_ (by first | omega | (simp <;> omega)) _ | refine Below.drew ?_))
  clear hK K hHeld; have hHeld := hHeld2; clear hHeld2; (try simp only [Act.put, zn1, zn2, zn3])
  refine ready_one (i := 19) rfl (by kernel_rfl) (fun K hK => ?_)
  go_simp
  have hln := outS_len es u 6
  refine (some_any A3 c3 (outS es u 6) 2 true _ HS3.out (by omega)).mono ?_
  rintro e y3b ⟨E3, d3, rfl, ho, hb⟩
  have HT3 := Lib.hid (own_rd' ho)
  have HT0_3b := Lib.hid (HT0_3a.out.at hb)
  have HT1_3b := Lib.hid (HT1_3a.out.at hb)
  have HT2_3b := Lib.hid (HT2_3a.out.at hb)
  clear ho hln
  refine hK.out _ _ ?_ (fun hHeld2 => ?_)
  · (try dsimp only); first | exact Below.trans hHeld (Below.mono hb hHeld.size) | exact hHeld | exact Below.drew hHeld | exact (by repeat (first | exact Below.refl _ _ | assumption | refine Below.alloc ?_ (by first | omega | (simp <;> omega)) _ | refine Below.setCell ?_ (by first | omega | (simp <;> omega)) _ | refine Below.drew ?_))
  clear hK K hHeld; have hHeld := hHeld2; clear hHeld2; (try simp only [Act.put, zn1, zn2, zn3])
  refine ready_one (i := 23) rfl (by kernel_rfl) (fun K hK => ?_)
  go_simp
  refine (GIn_any An Ae nn cn ce es u 6 _ (Hr.out.at hHeld) (by omega)).mono ?_
  rintro e y4a ⟨A4, c4, rfl, ho, hb⟩
  have HS4 := Lib.hid (own_rd' ho)
  have HT0_4a := Lib.hid (HT0_3b.out.at hb)
  have HT1_4a := Lib.hid (HT1_3b.out.at hb)
  have HT2_4a := Lib.hid (HT2_3b.out.at hb)
  have HT3_4a := Lib.hid (HT3.out.at hb)
  clear ho
  refine hK.out _ _ ?_ (fun hHeld2 => ?_)
  · (try dsimp only); first | exact Below.trans hHeld (Below.mono hb hHeld.size) | exact hHeld | exact Below.drew hHeld | exact (by repeat (first | exact Below.refl _ _ | assumption | refine Below.alloc ?_ (by first | omega | (simp <;> omega)) _ | refine Below.setCell ?_ (by first | omega | (simp <;> omega)) _ | refine Below.drew ?_))
  clear hK K hHeld; have hHeld := hHeld2; clear hHeld2; (try simp only [Act.put, zn1, zn2, zn3])
  refine ready_one (i := 24) rfl (by kernel_rfl) (fun K hK => ?_)
  go_simp
  have hln := inwS_len es u 6
  refine (some_any A4 c4 (inwS es u 6) 2 true _ HS4.out (by omega)).mono ?_
  rintro e y4b ⟨E4, d4, rfl, ho, hb⟩
  have hz4 : W1.heap.size ≤ y4b.heap.size := Nat.le_trans hHeld.size hb.size
  have HT4 := Lib.hid (own_rd' ho)
  have HT0_4b := Lib.hid (HT0_4a.out.at hb)
  have HT1_4b := Lib.hid (HT1_4a.out.at hb)
  have HT2_4b := Lib.hid (HT2_4a.out.at hb)
  have HT3_4b := Lib.hid (HT3_4a.out.at hb)
  clear ho hln
  refine hK.out _ _ ?_ (fun hHeld2 => ?_)
  · (try dsimp only); first | exact Below.trans hHeld (Below.mono hb hHeld.size) | exact hHeld | exact Below.drew hHeld | exact (by repeat (first | exact Below.refl _ _ | assumption | refine Below.alloc ?_ (by first | omega | (simp <;> omega)) _ | refine Below.setCell ?_ (by first | omega | (simp <;> omega)) _ | refine Below.drew ?_))
  clear hK K hHeld; have hHeld := hHeld2; clear hHeld2; (try simp only [Act.put, zn1, zn2, zn3])
  refine ready_one (i := 25) rfl (by kernel_rfl) (fun K hK => ?_)
  go_simp
  refine hK.out _ _ ?_ (fun hHeld2 => ?_)
  · (try dsimp only); first | exact hHeld | exact (by repeat (first | exact Below.refl _ _ | assumption | refine Below.alloc ?_ (by first | omega | (simp <;> omega)) _ | refine Below.setCell ?_ (by first | omega | (simp <;> omega)) _ | refine Below.drew ?_))
  clear hK K hHeld; have hHeld := hHeld2; clear hHeld2; (try simp only [Act.put, zn1, zn2, zn3])
  refine ready_one (i := 26) rfl (by kernel_rfl) (fun K hK => ?_)
  go_simp
  have hrows := brows5 y4b (E0, d0, eachB (outS es u 1) 1 true) (E1, d1, eachB (outS es u 4) 1 true) (E2, d2, eachB (outS es u 2) 1 false) (E3, d3, eachB (outS es u 6) 2 true) (E4, d4, eachB (inwS es u 6) 2 true) 175 HT0_4b.out HT1_4b.out HT2_4b.out HT3_4b.out HT4.out
  have hlen : (rowsF [(E0, d0, eachB (outS es u 1) 1 true), (E1, d1, eachB (outS es u 4) 1 true), (E2, d2, eachB (outS es u 2) 1 false), (E3, d3, eachB (outS es u 6) 2 true), (E4, d4, eachB (inwS es u 6) 2 true)]).length ≤ 1000000 := by rw [startB_rows]; have := startB_len es u; omega
  refine (ConcatB_any y4b.heap.size [(E0, d0, eachB (outS es u 1) 1 true), (E1, d1, eachB (outS es u 4) 1 true), (E2, d2, eachB (outS es u 2) 1 false), (E3, d3, eachB (outS es u 6) 2 true), (E4, d4, eachB (inwS es u 6) 2 true)] _ hrows hlen (by simp)).mono ?_
  rw [startB_rows]
  rintro e y5 ⟨A9, c9, rfl, ho9, hb⟩
  have HO9 := Lib.hid (show y5.ownsRow w.heap.size _ _ _ _ _ from ho9.mono (by have := hHeld.size; have := HB1.out.size; simp at *; omega))
  clear ho9
  refine hK.out _ _ ?_ (fun hHeld2 => ?_)
  · (try dsimp only); first | exact Below.trans hHeld (Below.mono hb hHeld.size) | exact hHeld | exact Below.drew hHeld | exact (by repeat (first | exact Below.refl _ _ | assumption | refine Below.alloc ?_ (by first | omega | (simp <;> omega)) _ | refine Below.setCell ?_ (by first | omega | (simp <;> omega)) _ | refine Below.drew ?_))
  clear hK K hHeld; have hHeld := hHeld2; clear hHeld2; (try simp only [Act.put, zn1, zn2, zn3])
  refine tY (i := 27) (v := ?_) rfl ?_ hHeld ?_; rotate_left 1; focus (intro w' hSw; clear hSw; go_simp; try with_reducible rfl)
  (try simp only [Act.put, zn1, zn2, zn3])
  refine wpAnyH_done (by kernel_rfl) ?_ _
  go_wp2_with fail
  go_ret
  exact ⟨A9, c9, rfl, HO9.out, lift HB1.out hHeld⟩
end Od
end Go.Proofs.YtbllehjhmfehbaaGreat
end

section
/- More of maps of the call's own: a look-up that tells whether it is there; a delete; at a walk and at a step of a region that draws its order. -/
namespace Go.Proofs.YtbllehjhmfehbaaGreat
open Go.RowKit Go.Maps

section
variable {P : Program} {k : TypeId} {α : Type} {κ : KeyKind P k α} {w w' : World} {b n : Nat} {f : α → Option Value}
theorem MapIs.lookOk {t e : TypeId} {z : Value} (h : MapIs κ w b n f) (ht : P.underlying t = some (.map k e)) (hz : (zeroValue e).run P w = .ok z w) {x : α} (hx : κ.ok x) :
    (Instr.lookup t (.map (some b)) (κ.val x) true).run P w = .ok (.tuple #[(f x).getD z, .bool (f x).isSome]) w := by
  obtain ⟨D, h, hf⟩ := h
  obtain ⟨v, ps, hrun, hv⟩ := h.look_ok κ.law ht hz (zd := .held z) (zp := []) rfl (κ.key x hx)
  rw [(hf x hx).2] at hv
  rw [hrun, (hf x hx).1]
  cases hfx : f x
  · rw [hfx] at hv
    simp only [idR, Option.map_none, Option.getD_none, Option.some.injEq, Prod.mk.injEq, DataW.held.injEq] at hv
    rw [hv.1]; rfl
  · rw [hfx] at hv
    simp only [idR, Option.map_some, Option.getD_some, Option.some.injEq, Prod.mk.injEq, DataW.held.injEq] at hv
    rw [hv.1]; rfl
open Classical in
theorem MapIs.drop {t e : TypeId} (h : MapIs κ w b n f) (ht : P.underlying t = some (.map k e)) {x : α} (hx : κ.ok x) (ty : TypeId) :
    ∃ w', (Builtin.delete_ #[t, k] ty #[.map (some b), κ.val x]).run P w = .ok (.tuple #[]) w' ∧ MapIs κ w' b n (fun y => if y = x then none else f y) ∧ w.grownBy w' (some b) := by
  obtain ⟨D, h, hf⟩ := h
  have him := h.isMap
  obtain ⟨w', hrun, h', hg⟩ := h.drop κ.law ht (key := κ.val x) (κ.key x hx) ty
  refine ⟨w', hrun, ⟨_, h', fun y hy => ?_⟩, hg.grown⟩
  by_cases hyx : y = x
  · subst hyx
    refine ⟨?_, fun z => ?_⟩
    · rw [Maps.has_del_same]; simp
    · rw [Maps.atKey_of_not_has (by rw [Maps.has_del_same])]; simp
  · have hne : κ.kl y ≠ κ.kl x := fun e => hyx (κ.kl_inj hy hx e)
    exact ⟨by rw [Maps.has_del_other hne]; simp [hyx, hf y hy], fun z => by rw [Maps.atKey_del_other hne]; simp [hyx, hf y hy]⟩
end
section
variable {P : Program} {k : TypeId} {α : Type} {κ : KeyKind P k α} {ops : Array Oper} {rest : List Oper} {o : Oper} {a : Act} {K : Act → World → Prop} {Q : Exit → Act → World → Prop} {E : Prop} (w : World)
theorem wpList_lookOk_is (hg : o.guard = none) (m x : Operand) (t : TypeId) (hop : o.op = Op.lookup t m x true) (e : TypeId) (ht : P.underlying t = some (.map k e)) (z : Value) (hz : (zeroValue e).run P w = .ok z w)
    (b n : Nat) (f : α → Option Value) (hm : a.eval m = .map (some b)) (h : MapIs κ w b n f) (key : α) (hx : a.eval x = κ.val key) (hk : κ.ok key)
    (hK : wpList P ops Q rest (a.put o.dst (.tuple #[(f key).getD z, .bool (f key).isSome])) w) : wpList P ops Q (o :: rest) a w := by
  refine wpList_plain hg fun K' hK' => ?_
  have hrun := h.lookOk ht hz hk
  unfold Oper.wp
  simp [execOp, hop, hm, hx, hrun, Result.andThen]
  exact hK' _ _ hK
theorem step_lookOk_is (hw : Region.wanted o (yielded ops a.tmps) = true) (m x : Operand) (t : TypeId) (hop : o.op = Op.lookup t m x true) (e : TypeId) (ht : P.underlying t = some (.map k e)) (z : Value) (hz : (zeroValue e).run P w = .ok z w)
    (b n : Nat) (f : α → Option Value) (hm : a.eval m = .map (some b)) (h : MapIs κ w b n f) (key : α) (hx : a.eval x = κ.val key) (hk : κ.ok key)
    (hK : K (a.put o.dst (.tuple #[(f key).getD z, .bool (f key).isSome])) w) : if Region.wanted o (yielded ops a.tmps) = true then Oper.wp P o a w K Q else E := by
  rw [if_pos hw]
  have hrun := h.lookOk ht hz hk
  unfold Oper.wp
  simp [execOp, hop, hm, hx, hrun, Result.andThen]
  exact hK
open Classical in
theorem wpList_drop_is (hg : o.guard = none) (m x : Operand) (t : TypeId) (hop : o.op = Op.call { callee := Callee.builtin Builtin.delete, args := #[m, x], argTypes := #[t, k] }) (e : TypeId) (ht : P.underlying t = some (.map k e))
    (b n : Nat) (f : α → Option Value) (hm : a.eval m = .map (some b)) (h : MapIs κ w b n f) (key : α) (hx : a.eval x = κ.val key) (hk : κ.ok key)
    (hK : ∀ w', MapIs κ w' b n (fun y => if y = key then none else f y) → w.grownBy w' (some b) → wpList P ops Q rest (a.put o.dst (.tuple #[])) w') : wpList P ops Q (o :: rest) a w := by
  refine wpList_plain hg fun K' hK' => ?_
  obtain ⟨w', hrun, h1, h2⟩ := h.drop ht hk o.type
  unfold Oper.wp execOp
  simp only [hop, resolve, invoke, builtin, Sem.run_bind, Sem.run_pure, Result.andThen_ok, List.map_toArray, List.map_cons, List.map_nil, hm, hx, hrun]
  exact hK' _ _ (hK w' h1 h2)
end
end Go.Proofs.YtbllehjhmfehbaaGreat
end

section
/- One block turned, the others kept; a row in a cell of the call's own. No program. (bel2) -/
namespace Go.Proofs.YtbllehjhmfehbaaGreat
open Go.RowKit Go.Sort Go.Maps
set_option linter.unusedSimpArgs false
theorem grownBy_setCell (w : World) (p : Addr) (u : Value) : w.grownBy (w.setCell p u) (some p.block) :=
  ⟨rfl, rfl, rfl, by simp [World.setCell], fun k _ hne => Below.heap_setCell _ _ _ _ (fun e => hne (by rw [e]))⟩
theorem cell_kept {w w' : World} {b o : Nat} {v : Value} {row : Option Nat} (c : w.cell? ⟨b, o, none⟩ = some v) (hg : w.grownBy w' row) (hb : b < w.heap.size) (hne : row ≠ some b) : w'.cell? ⟨b, o, none⟩ = some v :=
  (World.cell?_of_block (a := ⟨b, o, none⟩) (hg.block b hb (fun e => hne e.symm))).trans c
theorem fro_kept {w w' : World} {b o : Nat} {row : Option Nat} (c : w.frozen? ⟨b, o, none⟩ = false) (hg : w.grownBy w' row) (hb : b < w.heap.size) (hne : row ≠ some b) : w'.frozen? ⟨b, o, none⟩ = false :=
  (World.frozen?_of_block (a := ⟨b, o, none⟩) (hg.block b hb (fun e => hne e.symm))).trans c
namespace Od
/-- All blocks but one. -/
def But (w : World) (md : Nat) (b : Nat) : Prop := b < w.heap.size ∧ b ≠ md
section
variable {w w' : World} {md : Nat}
theorem But.below (hb : Below w.heap.size w w') : Keeps (But w md) w w' := ⟨hb.os, hb.tape, hb.output, hb.size, fun j hj => hb.block j hj.1⟩
theorem But.trans {w'' : World} (h : Keeps (But w md) w w') (h' : Keeps (But w' md) w' w'') : Keeps (But w md) w w'' :=
  ⟨h'.os.trans h.os, h'.tape.trans h.tape, h'.output.trans h.output, Nat.le_trans h.size h'.size, fun j hj => (h'.block j ⟨Nat.lt_of_lt_of_le hj.1 h.size, hj.2⟩).trans (h.block j hj)⟩
theorem cellK {b o : Nat} {v : Value} (c : w.cell? ⟨b, o, none⟩ = some v) (hk : Keeps (But w md) w w') (h : b < w.heap.size) (hne : ¬ b = md) : w'.cell? ⟨b, o, none⟩ = some v := (World.cell?_of_block (a := ⟨b, o, none⟩) (hk.block b ⟨h, hne⟩)).trans c
theorem froK {b o : Nat} (c : w.frozen? ⟨b, o, none⟩ = false) (hk : Keeps (But w md) w w') (h : b < w.heap.size) (hne : ¬ b = md) : w'.frozen? ⟨b, o, none⟩ = false := (World.frozen?_of_block (a := ⟨b, o, none⟩) (hk.block b ⟨h, hne⟩)).trans c
theorem But.grown (hg : w.grownBy w' (some md)) : Keeps (But w md) w w' := ⟨hg.os, hg.tape, hg.output, hg.size, fun j hj => hg.block j hj.1 (fun e => hj.2 (by injection e))⟩
theorem But.two {w1 w2 : World} {mj : Nat} (h : Keeps (But w mj) w w1) (hb : Below w1.heap.size w1 w2) : Keeps (But w mj) w w2 := But.trans h (But.below hb)
theorem But.low {w0 w1 : World} (hb : Below w0.heap.size w0 w) (h : Keeps (But w md) w w1) (hm : w0.heap.size ≤ md) : Below w0.heap.size w0 w1 :=
  ⟨h.os.trans hb.os, h.tape.trans hb.tape, h.output.trans hb.output, Nat.le_trans hb.size h.size, fun j hj => (h.block j ⟨Nat.lt_of_lt_of_le hj hb.size, by omega⟩).trans (hb.block j hj)⟩
theorem But.own {base e k n : Nat} {v : Value} {xs : List Value} (h : Keeps (But w md) w w') (ho : w.ownsRow base e k v n xs) (hne : v.ownBlock ≠ some md) : w'.ownsRow base e k v n xs :=
  h.own ho fun g hg => ⟨(ho.lt g hg).2, fun e => hne (by rw [hg, e])⟩
end
/-- The blocks of F may be turned, and what was made since; F' is of F or new. -/
def TookB (F F' : Nat → Prop) (w w' : World) : Prop := Keeps (fun k => k < w.heap.size ∧ ¬ F k) w w' ∧ ∀ k, F' k → F k ∨ w.heap.size ≤ k
theorem TookB.refl (F : Nat → Prop) (w : World) : TookB F F w w := ⟨Keeps.refl _ _, fun _ h => .inl h⟩
theorem TookB.below {F : Nat → Prop} {w w' : World} (h : Below w.heap.size w w') : TookB F F w w' := ⟨Keeps.of_below (fun _ h => h.1) h, fun _ h => .inl h⟩
theorem TookB.trans {F F1 F2 : Nat → Prop} {w w1 w2 : World} (h : TookB F F1 w w1) (h' : TookB F1 F2 w1 w2) : TookB F F2 w w2 := by
  refine ⟨⟨h'.1.os.trans h.1.os, h'.1.tape.trans h.1.tape, h'.1.output.trans h.1.output, Nat.le_trans h.1.size h'.1.size, fun j hj => ?_⟩, fun k hk => ?_⟩
  · rw [h'.1.block j ⟨Nat.lt_of_lt_of_le hj.1 h.1.size, fun hf => ?_⟩, h.1.block j hj]
    rcases h.2 j hf with h1 | h1
    · exact hj.2 h1
    · exact absurd hj.1 (by omega)
  · rcases h'.2 k hk with h1 | h1
    · exact h.2 k h1
    · exact .inr (Nat.le_trans h.1.size h1)
theorem TookB.then {F F1 : Nat → Prop} {w w1 w2 : World} (h : TookB F F1 w w1) (hb : Below w1.heap.size w1 w2) : TookB F F1 w w2 := h.trans (TookB.below hb)
theorem TookB.cell {F F1 : Nat → Prop} {w w1 : World} {b o : Nat} {v : Value} (h : TookB F F1 w w1) (c : w.cell? ⟨b, o, none⟩ = some v) (hb : b < w.heap.size) (hF : ¬ F b) : w1.cell? ⟨b, o, none⟩ = some v := (World.cell?_of_block (a := ⟨b, o, none⟩) (h.1.block b ⟨hb, hF⟩)).trans c
theorem TookB.own {F F1 : Nat → Prop} {w w1 : World} {base e k n : Nat} {v : Value} {xs : List Value} (h : TookB F F1 w w1) (ho : w.ownsRow base e k v n xs) (hF : ∀ b, v.ownBlock = some b → ¬ F b) : w1.ownsRow base e k v n xs :=
  h.1.own ho fun g hg => ⟨(ho.lt g hg).2, hF g hg⟩
theorem own_lit {w : World} {e k n : Nat} (cs : List Value) (hl : cs.length = n * k) (hn : n ≤ maxLen) : (w.alloc (.cells cs.toArray e)).ownsRow w.heap.size e k (.slice (some ⟨w.heap.size, 0, none⟩) n n) n cs := by
  refine ⟨hl, .inr ⟨w.heap.size, n, cs.toArray, rfl, Nat.le_refl _, ?_, Nat.le_refl _, hn, by simpa using hl, ?_⟩⟩
  · show (w.heap.push _)[w.heap.size]? = _
    exact Array.getElem?_push_size
  · simp only [List.toList_toArray, ← hl, List.take_length]
theorem infoJp : (Tryz.prog.info? 73).map (fun i => (i.zero, i.size, i.bytes)) = some (some (.agg #[.string ⟨#[]⟩, .int .i64 0]), 2, 24) := by kernel_rfl
theorem zeroS (w : World) : (zeroValue 9).run Tryz.prog w = .ok (.string ⟨#[]⟩) w := Tryz.zeroValue9 w
abbrev okJ (p : Jp) : Prop := p.1.length ≤ maxLen ∧ (Lit.int .i64 p.2).wf = true
def byV (m : Ms) (k : Jp) : Option Value := (byF m k).map sv
theorem byV_push {m : Ms} {k : Jp} {s : Str} (h : knownP m k = false) : (fun y => if y = k then some (sv s) else byV m y) = byV (m ++ [(k, s)]) := by
  funext y
  unfold byV
  rw [byF_push h]
  show _ = (if y = k then some s else byF m y).map sv
  split <;> rfl
theorem MapIs.if_ {w : World} {b n : Nat} {k : Jp} {a : Option Value} {f : Jp → Option Value} (h : MapIs kindJ w b n (fun y => @ite (Option Value) (y = k) (Classical.propDecidable _) a (f y))) : MapIs kindJ w b n (fun y => if y = k then a else f y) := by
  have e : (fun y => @ite (Option Value) (y = k) (Classical.propDecidable _) a (f y)) = (fun y => if y = k then a else f y) := by
    funext y
    by_cases e : y = k <;> simp [e]
  rwa [e] at h
def noO : Jp → Bool := fun _ => false
theorem addP_no {out : Jp → Bool} {s : Ms × List Jp} {p : Jp × Str} (h : out p.1 = false) : addP noO s p = addP out s p := by
  unfold addP noO; rw [h]
theorem fold_no {out : Jp → Bool} : ∀ (l : List (Jp × Str)) (s : Ms × List Jp), (l.filter (fun p => !out p.1)).foldl (addP noO) s = l.foldl (addP out) s
  | [], _ => rfl
  | p :: l, s => by
    rw [List.filter_cons]
    by_cases h : out p.1 = true
    · have e : addP out s p = s := by unfold addP; rw [h]; simp
      rw [show (!out p.1) = false by rw [h]; rfl, if_neg (by simp), List.foldl_cons, e]
      exact fold_no l s
    · have h' : out p.1 = false := by simpa using h
      rw [show (!out p.1) = true by rw [h']; rfl, if_pos rfl, List.foldl_cons, List.foldl_cons, addP_no h']
      exact fold_no l _
def bysB (u : Str) (D : List Bg) : List (Jp × Str) := D.map (fun b => (b.1, u))
theorem bysB_filter (out : Jp → Bool) (u : Str) (L : List Bg) : bysB u (L.filter (fun b => !out b.1)) = (bysB u L).filter (fun p => !out p.1) := by
  unfold bysB
  rw [List.filter_map]; rfl
end Od
end Go.Proofs.YtbllehjhmfehbaaGreat
end
