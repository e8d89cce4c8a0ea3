/- My texts, joined for the claim: DDropsL DRank LdF. -/
import Derived.Test.YtgfdcmlmgeoimaaGreatZB11
import Derived.Test.YtgfdcmlmgeoimaaGreatZB9
import Derived.Test.YtgfdcmlmgeoimaaGreatZB0
import Derived.Test.YtgfdcmlmgeoimaaGreatZB12
import Derived.Test.YtgfdcmlmgeoimaaGreatZB3
import Derived.Laws.Cover1

section
/- What the row of texts laid over a unit is like; no program. (bel2) -/
namespace Go.Proofs.YtgfdcmlmgeoimaaGreat
open Go.RowKit Go.Sort
set_option linter.unusedSimpArgs false
namespace Od
theorem foldE_len (k : Nat) : (foldE k).length ≤ 9 := by unfold foldE; split; decide; split <;> decide
theorem place_le {p : Str} (h : p ∈ placesL) : p.length ≤ 3 := by
  unfold placesL at h
  simp only [List.mem_cons, List.not_mem_nil, or_false] at h
  rcases h with rfl | rfl | rfl <;> decide
theorem way_len {s : Str} (h : wayS s ≠ way0) : s.length ≤ 300 := by
  rcases spl_cases s with ⟨_, e2⟩ | ⟨p, u, _, e2, hu, hp, hs, _⟩ | ⟨p, u, g, k, _, e2, hk, hu, hp, hs⟩
  · exact absurd e2 h
  · rw [hs]
    have h1 := place_le hp
    have h2 := (kind_parts hu).1
    rw [List.length_append, List.length_cons]
    omega
  · rw [e2] at h
    have h1 := place_le hp
    have h2 := (kind_parts hu).1
    have h3 := foldE_len k
    have h4 : g.length ≤ 200 := by
      unfold wayF at h
      split at h
      · cases h5 : endsW g confS with
        | none => rw [h5] at h; exact absurd rfl h
        | some x =>
          rw [h5] at h
          simp only at h
          split at h
          · rename_i hd
            unfold dropN at hd
            simp only [Bool.and_eq_true, Bool.not_eq_true', beq_eq_false_iff_ne, ne_eq, decide_eq_false_iff_not] at hd
            rw [(endsW_some.1 h5).1, List.length_append]
            have : confS.length = 5 := rfl
            omega
          · exact absurd rfl h
      · split at h
        · rename_i hd
          simp only [Bool.and_eq_true, bne_iff_ne, ne_eq] at hd
          have := (kind_parts hd.1).1
          omega
        · exact absurd rfl h
    rw [hs]
    simp only [List.length_append, List.length_cons]
    omega
theorem may_short {fs : List Fl} (h : mayFs fs = true) : ∀ f ∈ fs, f.1.length ≤ 1099511627776 := fun f hf => Nat.le_trans (way_len (way_ne ((mayFs_iff.1 h).2.1 f hf))) (by decide)
theorem way_place {s : Str} (h : wayS s ≠ way0) : (wayS s).2.1 ∈ placesL := by
  rcases spl_cases s with ⟨_, e2⟩ | ⟨p, u, _, e2, hu, hp, hs, _⟩ | ⟨p, u, g, k, _, e2, hk, hu, hp, hs⟩
  · exact absurd e2 h
  · rw [e2]; exact hp
  · rw [e2] at h ⊢
    unfold wayF at h ⊢
    split at h
    · rename_i hk1
      rw [if_pos hk1]
      cases h5 : endsW g confS with
      | none => rw [h5] at h; exact absurd rfl h
      | some x =>
        rw [h5] at h
        simp only at h ⊢
        split at h
        · rename_i hd; rw [if_pos hd]; exact hp
        · exact absurd rfl h
    · rename_i hk1
      rw [if_neg hk1]
      split at h
      · rename_i hd; rw [if_pos hd]; exact hp
      · exact absurd rfl h
def othD (d : Str) : Str := (wayS d).2.2.2
def lastD (ds : List Str) : Nat → Str
  | 0 => []
  | k + 1 => ((ds[k]?).map othD).getD []
theorem lastD_succ {ds : List Str} {k : Nat} (hk : k < ds.length) : lastD ds (k + 1) = othD ds[k] := by
  show ((ds[k]?).map othD).getD [] = _
  rw [List.getElem?_eq_getElem hk]
  rfl
structure DropD (fs : List Fl) (n : Str) (m : Bool) (ds : List Str) : Prop where
  len : ds.length ≤ 120
  each : ∀ d ∈ ds, ∃ p v x, wayS d = (2, p, v, x) ∧ (v = n ∨ v = templS n) ∧ ∀ f ∈ fs, (wayS f.1).1 = 2 → (wayS f.1).2.2.2 = x → ¬ ((wayS f.1).2.2.1 = n ∧ v ≠ n) ∧ ¬ ((wayS f.1).2.2.1 = v ∧ idxP (wayS f.1).2.1 < idxP p)
  up : ∀ k (h : k < ds.length), ltS (lastD ds k) (othD ds[k]) = true
  all : m = false → ∀ f ∈ fs, (wayS f.1).1 = 2 → (wayS f.1).2.2.1 = n → ds.any (fun d => othD d == (wayS f.1).2.2.2) = true
theorem DropD.nil (fs : List Fl) (n : Str) : DropD fs n true [] := ⟨by simp, by simp, by simp, by simp⟩
theorem nil_lt {x : Str} (h : x ≠ []) : ltS [] x = true := by
  rw [ltS_iff]
  cases x with
  | nil => exact absurd rfl h
  | cons a x => exact List.nil_lt_cons a x
theorem DropD.of {fs : List Fl} (h : mayFs fs = true) {n : Str} (hn : kindS n ≠ 0) : DropD fs n false (dropsF fs n) := by
  have hX : ∀ x ∈ canon ltS (fs.filterMap (overF (foldersF n))), _ := fun x hx => drop_at h hn (x := x) (by rw [mem_canon toS] at hx; exact hx)
  have hS : SS ltS (canon ltS (fs.filterMap (overF (foldersF n)))) := canon_ss toS _
  have hM : ∀ x, x ∈ canon ltS (fs.filterMap (overF (foldersF n))) ↔ x ∈ fs.filterMap (overF (foldersF n)) := fun x => mem_canon toS
  have hL : (canon ltS (fs.filterMap (overF (foldersF n)))).length ≤ 120 := Nat.le_trans (canon_len (lt := ltS) _) (Nat.le_trans (List.length_filterMap_le _ _) (mayFs_iff.1 h).1)
  unfold dropsF
  generalize canon ltS (fs.filterMap (overF (foldersF n))) = X at *
  have ho : ∀ x ∈ X, othD (bestF fs n x) = x := fun x hx => by
    obtain ⟨p, v, e, _⟩ := hX x hx
    unfold othD
    rw [e]
  refine ⟨by rw [List.length_map]; exact hL, fun d hd => ?_, fun k hk => ?_, fun _ f hf h1 h2 => ?_⟩
  · obtain ⟨x, hx, rfl⟩ := List.mem_map.1 hd
    obtain ⟨p, v, e, hv, _, hf⟩ := hX x hx
    exact ⟨p, v, x, e, hv, hf⟩
  · rw [List.length_map] at hk
    rw [List.getElem_map, ho _ (List.getElem_mem hk)]
    cases k with
    | zero =>
      obtain ⟨p, v, _, _, hx, _⟩ := hX _ (List.getElem_mem hk)
      exact nil_lt hx
    | succ k =>
      rw [lastD_succ (by rw [List.length_map]; omega), List.getElem_map, ho _ (List.getElem_mem (by omega))]
      exact List.pairwise_iff_getElem.1 hS k (k + 1) (by omega) hk (by omega)
  · have hx : (wayS f.1).2.2.2 ∈ X := by
      rw [hM, List.mem_filterMap]
      refine ⟨f, hf, ?_⟩
      unfold overF
      rw [if_pos ⟨h1, by rw [h2]; unfold foldersF; exact .head _⟩]
    rw [List.any_eq_true]
    exact ⟨_, List.mem_map.2 ⟨_, hx, rfl⟩, by rw [ho _ hx]; simp⟩
theorem DropD.find {fs : List Fl} {u : Str} (he : (findF fs u).2 = 0) : mayFs fs = true ∧ kindS (findF fs u).1.1 ≠ 0 ∧ DropD fs (findF fs u).1.1 (findF fs u).1.2.2.1 (findF fs u).1.2.2.2 := by
  obtain ⟨h1, h2, h3, h4⟩ := find_kind (x := (findF fs u).1) (Prod.ext rfl he)
  refine ⟨h1, h2, ?_⟩
  cases hm : (findF fs u).1.2.2.1
  · rw [h3 hm]; exact DropD.of h1 h2
  · rw [h4 hm]; exact DropD.nil _ _
end Od
end Go.Proofs.YtgfdcmlmgeoimaaGreat
end

section
/- matinslaw12.rank. (bel2) -/
namespace Go.Proofs.YtgfdcmlmgeoimaaGreat
open Go.RowKit Go.Sort
set_option linter.unusedSimpArgs false
namespace Od
def rankZ (p : Str) : Int := if idxP p < 0 then 9 else idxP p
theorem rank_at {p : Str} {k : Nat} (hk : k < placesL.length) (h : placesL[k] = p) : rankZ p = (k : Int) := by
  subst h
  rcases k with _ | _ | _ | k
  · show rankZ etcS = 0; decide
  · show rankZ runS = 1; decide
  · show rankZ libS = 2; decide
  · exact absurd hk (by show ¬ k + 3 < 3; omega)
theorem rank_none {p : Str} (h : ∀ j (hj : j < placesL.length), placesL[j] ≠ p) : rankZ p = 9 := by
  unfold rankZ
  rw [if_pos]
  rw [idxP_mem]
  intro hm
  obtain ⟨j, hj, e⟩ := List.getElem_of_mem hm
  exact h j hj e
theorem rank_in {p : Str} (h : p ∈ placesL) : rankZ p = idxP p := by
  unfold rankZ
  rw [if_neg]
  rw [idxP_mem]
  exact fun e => e h
set_option maxRecDepth 100000 in
set_option maxHeartbeats 4000000 in
theorem rank_any (p : Str) (w : World) : Calls Tryz.prog 20 #[sv p] w fun e w' => e = .returned (.int .i64 (rankZ p)) ∧ Below w.heap.size w w' := by
  go_enter Tryz.func20, Tryz.ntmps20
  go_wp2_with fail
  refine (Places_any w).mono ?_
  rintro e w2 ⟨A1, c1, rfl, hc1, hr1, hb⟩
  have HR1 := Lib.hid hr1
  have HB := Lib.hid hb
  clear hb hr1
  have hpl : placesL.length = 3 := rfl
  go_wp2_with fail
  go_loopw [7] (fun i wr => ∃ k : Nat, k ≤ placesL.length ∧ i = .int .i64 k ∧ Hid (∀ j (hj : j < placesL.length), j < k → placesL[j] ≠ p) ∧ Hid (Below w2.heap.size w2 wr)) (fun i _ => placesL.length - (intOf i).toNat)
  case atStart => exact ⟨0, Nat.zero_le _, rfl, fun _ _ h => absurd h (by omega), Below.refl _ _⟩
  case round =>
    obtain ⟨k, hk, rfl, HNo, HB2⟩ := hrel
    obtain ⟨w6, rfl⟩ : ∃ wo : World, wo = wr := ⟨_, rfl⟩
    by_cases hlt : k < placesL.length
    · obtain ⟨b2, o2, hA, hB2, x0⟩ := (HR1.out.at HB2.out).str hlt
      subst hA
      have hno := HNo.out
      have hat := rank_at (p := p) hlt
      have hnx : placesL[k] ≠ p → ∀ j (hj : j < placesL.length), j < k + 1 → placesL[j] ≠ p := fun h0 j hj h1 => by
        rcases Nat.lt_or_eq_of_le (Nat.le_of_lt_succ h1) with h2 | h2
        · exact hno j hj h2
        · subst h2; exact h0
      generalize placesL[k] = v at x0 hat hnx
      have i1 : (0 : Int) ≤ (k : Int) := by omega
      have i2 : (k : Int) < (placesL.length : Int) := by omega
      have HNx := Lib.hid hnx
      have HAt := Lib.hid hat
      clear hnx hat hno
      cases hv : (v == p)
      · have HN2 := Lib.hid (HNx.out (by simpa using hv))
        clear HNx HAt
        go_wp2_with fail
        go_roundw
        case rel => exact ⟨k + 1, by omega, by go_num, HN2, HB2⟩
        case measure => simp [intOf]; omega
      · have HR := Lib.hid (HAt.out (by simpa using hv))
        clear HNx HAt
        have HBz := Lib.hid (lift HB.out HB2.out)
        go_wp2_with fail
        go_ret
        exact ⟨by rw [HR.out]; rfl, HBz.out⟩
    · obtain rfl : k = placesL.length := by omega
      have HR := Lib.hid (rank_none fun j hj => HNo.out j hj hj)
      have HBz := Lib.hid (lift HB.out HB2.out)
      go_wp2_with fail
      go_ret
      exact ⟨by rw [HR.out]; rfl, HBz.out⟩
end Od
end Go.Proofs.YtgfdcmlmgeoimaaGreat
end

section
/- The walk of the law DiskDrops. (bel2) -/
namespace Go.Proofs.YtgfdcmlmgeoimaaGreat
open Go.RowKit Go.Sort
set_option linter.unusedSimpArgs false
namespace Od

theorem fldW3 (r : Wy) (w : World) : (Instr.field 42 (wyV r) 3).run Tryz.prog w = .ok (sv r.2.2.2) w := by kernel_rfl
/-- A text behind another is no text ahead of it. -/
theorem lt_leq {a b : Str} (h : ltS a b = true) : Op.bytesLess b a = false ∧ (b == a) = false := by
  constructor
  · cases h2 : Op.bytesLess b a
    · rfl
    · have := toS.trans h (show ltS b a = true from h2)
      rw [toS.irrefl] at this; cases this
  · simp only [beq_eq_false_iff_ne]; intro e; subst e; rw [toS.irrefl] at h; cases h
theorem drop_left {fs : List Fl} {n : Str} {f : Fl} (hf : f ∈ fs) {kd : Nat} {pl un ot : Str} (hw : wayS f.1 = (kd, pl, un, ot)) {p v x : Str} (hp : p ∈ placesL)
    (he : ∀ f ∈ fs, (wayS f.1).1 = 2 → (wayS f.1).2.2.2 = x → ¬ ((wayS f.1).2.2.1 = n ∧ v ≠ n) ∧ ¬ ((wayS f.1).2.2.1 = v ∧ idxP (wayS f.1).2.1 < idxP p)) (h2 : kd = 2) (ho : ot = x) : ¬ (un = n ∧ v ≠ n) ∧ (un = v → decide (rankZ pl < rankZ p) = false) := by
  have h3 := he f hf
  rw [hw] at h3
  simp only at h3
  obtain ⟨a, b⟩ := h3 h2 ho
  refine ⟨a, fun e => ?_⟩
  have hpl : pl ∈ placesL := by
    have := way_place (s := f.1) (by rw [hw, h2]; intro e; injection e with e _; cases e)
    rw [hw] at this
    exact this
  rw [rank_in hpl, rank_in hp, decide_eq_false_iff_not]
  exact fun hlt => b ⟨e, hlt⟩
set_option maxRecDepth 100000 in
set_option maxHeartbeats 16000000 in
theorem diskDrops_any (A : Option Addr) (c : Nat) (fs : List Fl) (nm : Str) (w : World) (h : FlIn w A fs) (hl : fs.length * 48 ≤ 140737488351232) (hu : nm.length ≤ 140737488351232) :
    Calls Tryz.prog 6 #[.slice A fs.length c, sv nm] w fun e w' => e = .returned (.bool true) ∧ Below w.heap.size w w' := by
  have HF := Lib.hid h
  have HX := Lib.hid (fun W (h : FlIn W A fs) => Find_any A c fs nm W h (by omega) (by omega))
  have hdf := DropD.find (fs := fs) (u := nm)
  clear h
  generalize findF fs nm = R at *
  obtain ⟨⟨n, p0, m, ds⟩, k0⟩ := R
  simp only at hdf
  go_enter Tryz.func6, Tryz.ntmps6
  go_wp2_with fail
  refine (shown12_any w).mono ?_
  rintro e w1 ⟨rfl, hb⟩
  replace HF := Lib.hid (HF.out.at hb)
  have HB := Lib.hid hb
  clear hb
  go_wp2_with fail
  refine (HX.out w1 HF.out).mono ?_
  rintro e w2 ⟨A2, c2, rfl, hr, hb⟩
  simp only at hr ⊢
  have HR2 := Lib.hid hr
  replace HF := Lib.hid (HF.out.at hb)
  replace HB := Lib.hid (lift HB.out hb)
  clear hb hr HX
  by_cases he : k0 = 0
  · subst he
    obtain ⟨hm, hkn, hD⟩ := hdf rfl
    have HD := Lib.hid hD
    have HSh := Lib.hid (may_short hm)
    have hlen := (mayFs_iff.1 hm).1
    have hdl := hD.len
    have hnl := kind_len hkn
    clear hdf hD
    go_upto_region 6 with fail
    first | (refine wp_named ?_; intro W3 hW) | (refine calls_named ?_; intro W3 hW) | (refine exit_named ?_; intro W3 hW)
    have B3 : Below w2.heap.size w2 W3 := by rw [hW]; exact (by repeat (first | exact Below.refl _ _ | assumption | refine Below.alloc ?_ (by first | omega | (simp <;> omega)) _ | refine Below.setCell ?_ (by first | omega | (simp <;> omega)) _ | refine Below.drew ?_))
    replace HF := Lib.hid (HF.out.at B3)
    replace HB := Lib.hid (lift HB.out B3)
    replace HR2 := Lib.hid (HR2.out.at B3)
    have n3 : w2.heap.size < W3.heap.size := by rw [hW]; simp <;> omega
    have b0 : W3.cell? ⟨w2.heap.size, 0, none⟩ = some (sv n) := by rw [hW]; go_simp
    have b2 : W3.cell? ⟨w2.heap.size, 2, none⟩ = some (.bool m) := by rw [hW]; go_simp
    have b3 : W3.cell? ⟨w2.heap.size, 3, none⟩ = some (.slice A2 ds.length c2) := by rw [hW]; go_simp
    clear hW
    clear B3
    go_wp2_with fail
    go_loopw [7, 33] (fun v i wr => ∃ k : Nat, k ≤ ds.length ∧ v = sv (lastD ds k) ∧ i = .int .i64 k ∧ Hid (Below W3.heap.size W3 wr)) (fun _ i _ => ds.length - (intOf i).toNat)
    case atStart => exact ⟨0, Nat.zero_le _, rfl, rfl, Below.refl _ _⟩
    case round =>
      obtain ⟨k, hk, rfl, rfl, HBk⟩ := hrel
      obtain ⟨w4, rfl⟩ : ∃ wo : World, wo = wr := ⟨_, rfl⟩
      have hb4 := HBk.out
      replace b0 := cellAt b0 hb4 (by omega)
      replace b2 := cellAt b2 hb4 (by omega)
      replace b3 := cellAt b3 hb4 (by omega)
      replace HF := Lib.hid (HF.out.at hb4)
      replace HB := Lib.hid (lift HB.out hb4)
      replace HR2 := Lib.hid (HR2.out.at hb4)
      replace n3 : w2.heap.size < w4.heap.size := ltAt n3 hb4
      clear hb4
      by_cases hlt : k < ds.length
      · obtain ⟨b5, o5, hA, hB5, x0⟩ := HR2.out.str hlt
        subst hA
        have hup := HD.out.up k hlt
        have hls := lastD_succ hlt
        obtain ⟨p, v, x, hwd, hvn, hfa⟩ := HD.out.each _ (List.getElem_mem hlt)
        have hdl2 := way_len (s := ds[k]) (by rw [hwd]; intro e; injection e with e _; cases e)
        have hpp := way_place (s := ds[k]) (by rw [hwd]; intro e; injection e with e _; cases e)
        rw [hwd] at hpp
        simp only at hpp
        have hpa := fun W => Path_any ds[k] W (Nat.le_trans hdl2 (by decide))
        rw [hwd] at hpa
        have hox : othD ds[k] = x := by unfold othD; rw [hwd]
        rw [hox] at hup hls
        generalize ds[k] = d at x0 hpa hdl2
        generalize lastD ds k = la at *
        obtain ⟨q1, q2⟩ := lt_leq hup
        have HLs := Lib.hid hls
        have HFa := Lib.hid (fun f hf kd pl un ot hw => drop_left (f := f) hf (kd := kd) (pl := pl) (un := un) (ot := ot) hw hpp hfa)
        have i1 : (0 : Int) ≤ (k : Int) := by omega
        have i2 : (k : Int) < (ds.length : Int) := by omega
        clear hwd hox hls hfa hup hpp hdl2
        go_wp2_with fail
        refine (hpa w4).mono ?_
        rintro e w5 ⟨rfl, hb⟩
        simp only
        replace b0 := cellAt b0 hb (by omega)
        replace b2 := cellAt b2 hb (by omega)
        replace b3 := cellAt b3 hb (by omega)
        replace HF := Lib.hid (HF.out.at hb)
        replace HB := Lib.hid (lift HB.out hb)
        replace HR2 := Lib.hid (HR2.out.at hb)
        replace n3 : w2.heap.size < w5.heap.size := ltAt n3 hb
        have HBk5 := Lib.hid (lift HBk.out hb)
        clear hb hpa x0
        go_upto_region 11 with fail
        first | (refine wp_named ?_; intro W6 hW) | (refine calls_named ?_; intro W6 hW) | (refine exit_named ?_; intro W6 hW)
        have B6 : Below w5.heap.size w5 W6 := by rw [hW]; exact (by repeat (first | exact Below.refl _ _ | assumption | refine Below.alloc ?_ (by first | omega | (simp <;> omega)) _ | refine Below.setCell ?_ (by first | omega | (simp <;> omega)) _ | refine Below.drew ?_))
        replace b0 := cellAt b0 B6 (by omega)
        replace b2 := cellAt b2 B6 (by omega)
        replace b3 := cellAt b3 B6 (by omega)
        replace HF := Lib.hid (HF.out.at B6)
        replace HB := Lib.hid (lift HB.out B6)
        replace HR2 := Lib.hid (HR2.out.at B6)
        replace n3 : w2.heap.size < W6.heap.size := ltAt n3 B6
        have n6 : w5.heap.size < W6.heap.size := by rw [hW]; simp <;> omega
        have y0 : W6.cell? ⟨w5.heap.size, 0, none⟩ = some (.int .i64 2) := by rw [hW]; go_simp
        have y1 : W6.cell? ⟨w5.heap.size, 1, none⟩ = some (sv p) := by rw [hW]; go_simp
        have y2 : W6.cell? ⟨w5.heap.size, 2, none⟩ = some (sv v) := by rw [hW]; go_simp
        have y3 : W6.cell? ⟨w5.heap.size, 3, none⟩ = some (sv x) := by rw [hW]; go_simp
        clear hW
        have HBk6 := Lib.hid (lift HBk5.out B6)
        clear B6 HBk5 HBk
        go_cut [62] (fun cd wx => cd = .bool false ∧ Below W6.heap.size W6 wx)
        case first =>
          cases hv : (v == n)
          · have htn : (v == templS n) = true := by
              rcases hvn with h | h
              · rw [h] at hv; simp at hv
              · rw [h]; simp
            have HTm := Lib.hid (fun W => Template1_any n W (by omega))
            generalize templS n = tn at *
            try go_wp2_with fail
            refine wp_region_held_drew (S := fun w' => Below W6.heap.size W6 w') (by kernel_rfl) (Below.drew (Below.refl _ _)) (fun hHeld => ?_)
            refine tY (i := 0) (v := ?_) rfl ?_ hHeld ?_; rotate_left 1; focus (intro w' hSw; clear hSw; go_simp; try with_reducible rfl)
            (try simp only [Act.put, zn1, zn2, zn3])
            refine tY (i := 1) (v := ?_) rfl ?_ hHeld ?_; rotate_left 1; focus (intro w' hSw; have hCell := fun (b o : Nat) (h : b < W6.heap.size) => hSw.cell (p := ⟨b, o, none⟩) h; clear hSw; go_simp; try with_reducible rfl)
            (try simp only [Act.put, zn1, zn2, zn3])
            refine tY (i := 2) (v := ?_) rfl ?_ hHeld ?_; rotate_left 1; focus (intro w' hSw; clear hSw; go_simp; try with_reducible rfl)
            (try simp only [Act.put, zn1, zn2, zn3])
            refine tY (i := 3) (v := ?_) rfl ?_ hHeld ?_; rotate_left 1; focus (intro w' hSw; clear hSw; go_simp; try with_reducible rfl)
            (try simp only [Act.put, zn1, zn2, zn3])
            refine tY (i := 4) (v := ?_) rfl ?_ hHeld ?_; rotate_left 1; focus (intro w' hSw; clear hSw; go_simp; try with_reducible rfl)
            (try simp only [Act.put, zn1, zn2, zn3])
            refine tY (i := 5) (v := ?_) rfl ?_ hHeld ?_; rotate_left 1; focus (intro w' hSw; have hCell := fun (b o : Nat) (h : b < W6.heap.size) => hSw.cell (p := ⟨b, o, none⟩) h; clear hSw; go_simp; try with_reducible rfl)
            (try simp only [Act.put, zn1, zn2, zn3])
            refine tY (i := 6) (v := ?_) rfl ?_ hHeld ?_; rotate_left 1; focus (intro w' hSw; clear hSw; go_simp; try with_reducible rfl)
            (try simp only [Act.put, zn1, zn2, zn3])
            refine tY (i := 7) (v := ?_) rfl ?_ hHeld ?_; rotate_left 1; focus (intro w' hSw; clear hSw; go_simp; try with_reducible rfl)
            (try simp only [Act.put, zn1, zn2, zn3])
            refine tY (i := 8) (v := ?_) rfl ?_ hHeld ?_; rotate_left 1; focus (intro w' hSw; clear hSw; go_simp; try with_reducible rfl)
            (try simp only [Act.put, zn1, zn2, zn3])
            refine tY (i := 9) (v := ?_) rfl ?_ hHeld ?_; rotate_left 1; focus (intro w' hSw; clear hSw; go_simp; try with_reducible rfl)
            (try simp only [Act.put, zn1, zn2, zn3])
            refine tY (i := 10) (v := ?_) rfl ?_ hHeld ?_; rotate_left 1; focus (intro w' hSw; clear hSw; go_simp; try with_reducible rfl)
            (try simp only [Act.put, zn1, zn2, zn3])
            refine tY (i := 11) (v := ?_) rfl ?_ hHeld ?_; rotate_left 1; focus (intro w' hSw; have hCell := fun (b o : Nat) (h : b < W6.heap.size) => hSw.cell (p := ⟨b, o, none⟩) h; clear hSw; go_simp; try with_reducible rfl)
            (try simp only [Act.put, zn1, zn2, zn3])
            refine tY (i := 12) (v := ?_) rfl ?_ hHeld ?_; rotate_left 1; focus (intro w' hSw; clear hSw; go_simp; try with_reducible rfl)
            (try simp only [Act.put, zn1, zn2, zn3])
            refine tY (i := 13) (v := ?_) rfl ?_ hHeld ?_; rotate_left 1; focus (intro w' hSw; have hCell := fun (b o : Nat) (h : b < W6.heap.size) => hSw.cell (p := ⟨b, o, none⟩) h; clear hSw; go_simp; try with_reducible rfl)
            (try simp only [Act.put, zn1, zn2, zn3])
            refine tY (i := 14) (v := ?_) rfl ?_ hHeld ?_; rotate_left 1; focus (intro w' hSw; clear hSw; go_simp; try with_reducible rfl)
            (try simp only [Act.put, zn1, zn2, zn3])
            refine tY (i := 15) (v := ?_) rfl ?_ hHeld ?_; rotate_left 1; focus (intro w' hSw; clear hSw; go_simp; try with_reducible rfl)
            (try simp only [Act.put, zn1, zn2, zn3])
            refine tY (i := 16) (v := ?_) rfl ?_ hHeld ?_; rotate_left 1; focus (intro w' hSw; clear hSw; go_simp; try with_reducible rfl)
            (try simp only [Act.put, zn1, zn2, zn3])
            refine tY (i := 17) (v := ?_) rfl ?_ hHeld ?_; rotate_left 1; focus (intro w' hSw; have hCell := fun (b o : Nat) (h : b < W6.heap.size) => hSw.cell (p := ⟨b, o, none⟩) h; clear hSw; go_simp; try with_reducible rfl)
            (try simp only [Act.put, zn1, zn2, zn3])
            refine tY (i := 18) (v := ?_) rfl ?_ hHeld ?_; rotate_left 1; focus (intro w' hSw; clear hSw; go_simp; try with_reducible rfl)
            (try simp only [Act.put, zn1, zn2, zn3])
            refine tY (i := 19) (v := ?_) rfl ?_ hHeld ?_; rotate_left 1; focus (intro w' hSw; have hCell := fun (b o : Nat) (h : b < W6.heap.size) => hSw.cell (p := ⟨b, o, none⟩) h; clear hSw; go_simp; try with_reducible rfl)
            (try simp only [Act.put, zn1, zn2, zn3])
            refine ready_one (i := 20) rfl (by kernel_rfl) (fun K hK => ?_)
            go_simp
            refine (HTm.out _).mono ?_
            rintro e y7 ⟨rfl, hb⟩
            refine hK.out _ _ ?_ (fun hHeld2 => ?_)
            · (try dsimp only); first | exact Below.trans hHeld (Below.mono hb hHeld.size) | exact hHeld | exact Below.drew hHeld | exact (by repeat (first | exact Below.refl _ _ | assumption | refine Below.alloc ?_ (by first | omega | (simp <;> omega)) _ | refine Below.setCell ?_ (by first | omega | (simp <;> omega)) _ | refine Below.drew ?_))
            clear hK K hHeld; have hHeld := hHeld2; clear hHeld2; (try simp only [Act.put, zn1, zn2, zn3])
            refine tY (i := 21) (v := ?_) rfl ?_ hHeld ?_; rotate_left 1; focus (intro w' hSw; clear hSw; go_simp; try with_reducible rfl)
            (try simp only [Act.put, zn1, zn2, zn3])
            refine tY (i := 22) (v := ?_) rfl ?_ hHeld ?_; rotate_left 1; focus (intro w' hSw; clear hSw; go_simp; try with_reducible rfl)
            (try simp only [Act.put, zn1, zn2, zn3])
            refine tY (i := 23) (v := ?_) rfl ?_ hHeld ?_; rotate_left 1; focus (intro w' hSw; clear hSw; go_simp; try with_reducible rfl)
            (try simp only [Act.put, zn1, zn2, zn3])
            refine wpAnyH_done (by kernel_rfl) ?_ _
            go_wp2_with fail
            go_meet
            exact ⟨rfl, hHeld⟩
          · skip
            try go_wp2_with fail
            refine wp_region_held_drew (S := fun w' => Below W6.heap.size W6 w') (by kernel_rfl) (Below.drew (Below.refl _ _)) (fun hHeld => ?_)
            refine tY (i := 0) (v := ?_) rfl ?_ hHeld ?_; rotate_left 1; focus (intro w' hSw; clear hSw; go_simp; try with_reducible rfl)
            (try simp only [Act.put, zn1, zn2, zn3])
            refine tY (i := 1) (v := ?_) rfl ?_ hHeld ?_; rotate_left 1; focus (intro w' hSw; have hCell := fun (b o : Nat) (h : b < W6.heap.size) => hSw.cell (p := ⟨b, o, none⟩) h; clear hSw; go_simp; try with_reducible rfl)
            (try simp only [Act.put, zn1, zn2, zn3])
            refine tY (i := 2) (v := ?_) rfl ?_ hHeld ?_; rotate_left 1; focus (intro w' hSw; clear hSw; go_simp; try with_reducible rfl)
            (try simp only [Act.put, zn1, zn2, zn3])
            refine tY (i := 3) (v := ?_) rfl ?_ hHeld ?_; rotate_left 1; focus (intro w' hSw; clear hSw; go_simp; try with_reducible rfl)
            (try simp only [Act.put, zn1, zn2, zn3])
            refine tY (i := 4) (v := ?_) rfl ?_ hHeld ?_; rotate_left 1; focus (intro w' hSw; clear hSw; go_simp; try with_reducible rfl)
            (try simp only [Act.put, zn1, zn2, zn3])
            refine tY (i := 5) (v := ?_) rfl ?_ hHeld ?_; rotate_left 1; focus (intro w' hSw; have hCell := fun (b o : Nat) (h : b < W6.heap.size) => hSw.cell (p := ⟨b, o, none⟩) h; clear hSw; go_simp; try with_reducible rfl)
            (try simp only [Act.put, zn1, zn2, zn3])
            refine tY (i := 6) (v := ?_) rfl ?_ hHeld ?_; rotate_left 1; focus (intro w' hSw; clear hSw; go_simp; try with_reducible rfl)
            (try simp only [Act.put, zn1, zn2, zn3])
            refine tY (i := 7) (v := ?_) rfl ?_ hHeld ?_; rotate_left 1; focus (intro w' hSw; clear hSw; go_simp; try with_reducible rfl)
            (try simp only [Act.put, zn1, zn2, zn3])
            refine tY (i := 8) (v := ?_) rfl ?_ hHeld ?_; rotate_left 1; focus (intro w' hSw; clear hSw; go_simp; try with_reducible rfl)
            (try simp only [Act.put, zn1, zn2, zn3])
            refine tY (i := 9) (v := ?_) rfl ?_ hHeld ?_; rotate_left 1; focus (intro w' hSw; clear hSw; go_simp; try with_reducible rfl)
            (try simp only [Act.put, zn1, zn2, zn3])
            refine tY (i := 10) (v := ?_) rfl ?_ hHeld ?_; rotate_left 1; focus (intro w' hSw; clear hSw; go_simp; try with_reducible rfl)
            (try simp only [Act.put, zn1, zn2, zn3])
            refine tY (i := 11) (v := ?_) rfl ?_ hHeld ?_; rotate_left 1; focus (intro w' hSw; have hCell := fun (b o : Nat) (h : b < W6.heap.size) => hSw.cell (p := ⟨b, o, none⟩) h; clear hSw; go_simp; try with_reducible rfl)
            (try simp only [Act.put, zn1, zn2, zn3])
            refine tY (i := 12) (v := ?_) rfl ?_ hHeld ?_; rotate_left 1; focus (intro w' hSw; clear hSw; go_simp; try with_reducible rfl)
            (try simp only [Act.put, zn1, zn2, zn3])
            refine tY (i := 13) (v := ?_) rfl ?_ hHeld ?_; rotate_left 1; focus (intro w' hSw; have hCell := fun (b o : Nat) (h : b < W6.heap.size) => hSw.cell (p := ⟨b, o, none⟩) h; clear hSw; go_simp; try with_reducible rfl)
            (try simp only [Act.put, zn1, zn2, zn3])
            refine tY (i := 14) (v := ?_) rfl ?_ hHeld ?_; rotate_left 1; focus (intro w' hSw; clear hSw; go_simp; try with_reducible rfl)
            (try simp only [Act.put, zn1, zn2, zn3])
            refine tY (i := 15) (v := ?_) rfl ?_ hHeld ?_; rotate_left 1; focus (intro w' hSw; clear hSw; go_simp; try with_reducible rfl)
            (try simp only [Act.put, zn1, zn2, zn3])
            refine tS (i := 16) rfl hHeld ?_; (try simp only [Act.put, zn1, zn2, zn3])
            refine tS (i := 17) rfl hHeld ?_; (try simp only [Act.put, zn1, zn2, zn3])
            refine tS (i := 18) rfl hHeld ?_; (try simp only [Act.put, zn1, zn2, zn3])
            refine tS (i := 19) rfl hHeld ?_; (try simp only [Act.put, zn1, zn2, zn3])
            refine tS (i := 20) rfl hHeld ?_; (try simp only [Act.put, zn1, zn2, zn3])
            refine tS (i := 21) rfl hHeld ?_; (try simp only [Act.put, zn1, zn2, zn3])
            refine tY (i := 22) (v := ?_) rfl ?_ hHeld ?_; rotate_left 1; focus (intro w' hSw; clear hSw; go_simp; try with_reducible rfl)
            (try simp only [Act.put, zn1, zn2, zn3])
            refine tY (i := 23) (v := ?_) rfl ?_ hHeld ?_; rotate_left 1; focus (intro w' hSw; clear hSw; go_simp; try with_reducible rfl)
            (try simp only [Act.put, zn1, zn2, zn3])
            refine wpAnyH_done (by kernel_rfl) ?_ _
            go_wp2_with fail
            go_meet
            exact ⟨rfl, hHeld⟩
        case rest =>
          obtain ⟨rfl, hb⟩ := hcut
          replace b0 := cellAt b0 hb (by omega)
          replace b2 := cellAt b2 hb (by omega)
          replace b3 := cellAt b3 hb (by omega)
          replace y0 := cellAt y0 hb (by omega)
          replace y1 := cellAt y1 hb (by omega)
          replace y2 := cellAt y2 hb (by omega)
          replace y3 := cellAt y3 hb (by omega)
          replace HF := Lib.hid (HF.out.at hb)
          replace HB := Lib.hid (lift HB.out hb)
          replace HR2 := Lib.hid (HR2.out.at hb)
          replace n3 : w2.heap.size < wc.heap.size := ltAt n3 hb
          replace n6 : w5.heap.size < wc.heap.size := ltAt n6 hb
          replace HBk6 := Lib.hid (lift HBk6.out hb)
          clear hb
          obtain ⟨w7, rfl⟩ : ∃ wo : World, wo = wc := ⟨_, rfl⟩
          go_wp2_with fail
          go_loopw [67] (fun i wr => ∃ j : Nat, j ≤ fs.length ∧ i = .int .i64 j ∧ Hid (Below w7.heap.size w7 wr)) (fun i _ => fs.length - (intOf i).toNat)
          case atStart => exact ⟨0, Nat.zero_le _, rfl, Below.refl _ _⟩
          case round =>
            obtain ⟨j, hj, rfl, HB8⟩ := hrel
            obtain ⟨w8, rfl⟩ : ∃ wo : World, wo = wr := ⟨_, rfl⟩
            have hb8 := HB8.out
            replace b0 := cellAt b0 hb8 (by omega)
            replace b2 := cellAt b2 hb8 (by omega)
            replace b3 := cellAt b3 hb8 (by omega)
            replace y0 := cellAt y0 hb8 (by omega)
            replace y1 := cellAt y1 hb8 (by omega)
            replace y2 := cellAt y2 hb8 (by omega)
            replace y3 := cellAt y3 hb8 (by omega)
            replace HF := Lib.hid (HF.out.at hb8)
            replace HB := Lib.hid (lift HB.out hb8)
            replace HR2 := Lib.hid (HR2.out.at hb8)
            replace n3 : w2.heap.size < w8.heap.size := ltAt n3 hb8
            replace n6 : w5.heap.size < w8.heap.size := ltAt n6 hb8
            replace HBk6 := Lib.hid (lift HBk6.out hb8)
            clear hb8
            by_cases hjt : j < fs.length
            · obtain ⟨b6, o6, hA, hB6, x0, x1, x2⟩ := HF.out.rd.fl hjt
              have hfs := HSh.out _ (List.getElem_mem hjt)
              have hfa := HFa.out fs[j] (List.getElem_mem hjt)
              subst hA
              generalize fs[j] = f at x0 x1 x2 hfs hfa
              obtain ⟨fp, ft, fl⟩ := f
              simp only at x0 x1 x2 hfs hfa
              have hpa := fun W => Path_any fp W hfs
              rcases hxw : wayS fp with ⟨kd, pl, un, ot⟩
              rw [hxw] at hpa
              have HFl := Lib.hid (hfa kd pl un ot hxw)
              have i3 : (0 : Int) ≤ (j : Int) := by omega
              have i4 : (j : Int) < (fs.length : Int) := by omega
              clear hfa hxw
              go_wp2_with fail
              first | (refine wp_named ?_; intro W9 hW) | (refine calls_named ?_; intro W9 hW) | (refine exit_named ?_; intro W9 hW)
              have B9 : Below w8.heap.size w8 W9 := by rw [hW]; exact (by repeat (first | exact Below.refl _ _ | assumption | refine Below.alloc ?_ (by first | omega | (simp <;> omega)) _ | refine Below.setCell ?_ (by first | omega | (simp <;> omega)) _ | refine Below.drew ?_))
              replace b0 := cellAt b0 B9 (by omega)
              replace b2 := cellAt b2 B9 (by omega)
              replace b3 := cellAt b3 B9 (by omega)
              replace y0 := cellAt y0 B9 (by omega)
              replace y1 := cellAt y1 B9 (by omega)
              replace y2 := cellAt y2 B9 (by omega)
              replace y3 := cellAt y3 B9 (by omega)
              replace HF := Lib.hid (HF.out.at B9)
              replace HB := Lib.hid (lift HB.out B9)
              replace HR2 := Lib.hid (HR2.out.at B9)
              replace n3 : w2.heap.size < W9.heap.size := ltAt n3 B9
              replace n6 : w5.heap.size < W9.heap.size := ltAt n6 B9
              replace HBk6 := Lib.hid (lift HBk6.out B9)
              replace HB8 := Lib.hid (lift HB8.out B9)
              clear hW
              clear B9 x0 x1 x2
              refine (hpa W9).mono ?_
              rintro e w10 ⟨rfl, hb⟩
              simp only
              replace b0 := cellAt b0 hb (by omega)
              replace b2 := cellAt b2 hb (by omega)
              replace b3 := cellAt b3 hb (by omega)
              replace y0 := cellAt y0 hb (by omega)
              replace y1 := cellAt y1 hb (by omega)
              replace y2 := cellAt y2 hb (by omega)
              replace y3 := cellAt y3 hb (by omega)
              replace HF := Lib.hid (HF.out.at hb)
              replace HB := Lib.hid (lift HB.out hb)
              replace HR2 := Lib.hid (HR2.out.at hb)
              replace n3 : w2.heap.size < w10.heap.size := ltAt n3 hb
              replace n6 : w5.heap.size < w10.heap.size := ltAt n6 hb
              replace HBk6 := Lib.hid (lift HBk6.out hb)
              replace HB8 := Lib.hid (lift HB8.out hb)
              clear hb hpa
              go_upto_region 18 with fail
              first | (refine wp_named ?_; intro W11 hW) | (refine calls_named ?_; intro W11 hW) | (refine exit_named ?_; intro W11 hW)
              have B11 : Below w10.heap.size w10 W11 := by rw [hW]; exact (by repeat (first | exact Below.refl _ _ | assumption | refine Below.alloc ?_ (by first | omega | (simp <;> omega)) _ | refine Below.setCell ?_ (by first | omega | (simp <;> omega)) _ | refine Below.drew ?_))
              replace b0 := cellAt b0 B11 (by omega)
              replace b2 := cellAt b2 B11 (by omega)
              replace b3 := cellAt b3 B11 (by omega)
              replace y0 := cellAt y0 B11 (by omega)
              replace y1 := cellAt y1 B11 (by omega)
              replace y2 := cellAt y2 B11 (by omega)
              replace y3 := cellAt y3 B11 (by omega)
              replace HF := Lib.hid (HF.out.at B11)
              replace HB := Lib.hid (lift HB.out B11)
              replace HR2 := Lib.hid (HR2.out.at B11)
              replace n3 : w2.heap.size < W11.heap.size := ltAt n3 B11
              replace n6 : w5.heap.size < W11.heap.size := ltAt n6 B11
              replace HBk6 := Lib.hid (lift HBk6.out B11)
              replace HB8 := Lib.hid (lift HB8.out B11)
              have n11 : w10.heap.size < W11.heap.size := by rw [hW]; simp <;> omega
              have g0 : W11.cell? ⟨w10.heap.size, 0, none⟩ = some (.int .i64 kd) := by rw [hW]; go_simp
              have g1 : W11.cell? ⟨w10.heap.size, 1, none⟩ = some (sv pl) := by rw [hW]; go_simp
              have g2 : W11.cell? ⟨w10.heap.size, 2, none⟩ = some (sv un) := by rw [hW]; go_simp
              have g3 : W11.cell? ⟨w10.heap.size, 3, none⟩ = some (sv ot) := by rw [hW]; go_simp
              clear hW
              clear B11
              by_cases h2 : kd = 2
              · have bk : ((kd : Int) == 2) = true := by rw [beq_iff_eq]; omega
                cases hot : (ot == x)
                · skip
                  go_wp2_with fail
                  go_roundw
                  case rel => exact ⟨j + 1, by omega, by go_num, HB8⟩
                  case measure => simp [intOf]; omega
                · obtain ⟨ha, hr⟩ := HFl.out h2 (by simpa using hot)
                  go_upto_region 19 with fail
                  cases hun : (un == n)
                  · cases huv : (un == v)
                    · skip
                      try go_wp2_with fail
                      refine wp_region_held_drew (S := fun w' => Below W11.heap.size W11 w') (by kernel_rfl) (Below.drew (Below.refl _ _)) (fun hHeld => ?_)
                      refine tY (i := 0) (v := ?_) rfl ?_ hHeld ?_; rotate_left 1; focus (intro w' hSw; clear hSw; go_simp; try with_reducible rfl)
                      (try simp only [Act.put, zn1, zn2, zn3])
                      refine tY (i := 1) (v := ?_) rfl ?_ hHeld ?_; rotate_left 1; focus (intro w' hSw; have hCell := fun (b o : Nat) (h : b < W11.heap.size) => hSw.cell (p := ⟨b, o, none⟩) h; clear hSw; go_simp; try with_reducible rfl)
                      (try simp only [Act.put, zn1, zn2, zn3])
                      refine tY (i := 2) (v := ?_) rfl ?_ hHeld ?_; rotate_left 1; focus (intro w' hSw; clear hSw; go_simp; try with_reducible rfl)
                      (try simp only [Act.put, zn1, zn2, zn3])
                      refine tY (i := 3) (v := ?_) rfl ?_ hHeld ?_; rotate_left 1; focus (intro w' hSw; have hCell := fun (b o : Nat) (h : b < W11.heap.size) => hSw.cell (p := ⟨b, o, none⟩) h; clear hSw; go_simp; try with_reducible rfl)
                      (try simp only [Act.put, zn1, zn2, zn3])
                      refine tY (i := 4) (v := ?_) rfl ?_ hHeld ?_; rotate_left 1; focus (intro w' hSw; clear hSw; go_simp; try with_reducible rfl)
                      (try simp only [Act.put, zn1, zn2, zn3])
                      refine tY (i := 5) (v := ?_) rfl ?_ hHeld ?_; rotate_left 1; focus (intro w' hSw; clear hSw; go_simp; try with_reducible rfl)
                      (try simp only [Act.put, zn1, zn2, zn3])
                      refine tS (i := 6) rfl hHeld ?_; (try simp only [Act.put, zn1, zn2, zn3])
                      refine tS (i := 7) rfl hHeld ?_; (try simp only [Act.put, zn1, zn2, zn3])
                      refine tS (i := 8) rfl hHeld ?_; (try simp only [Act.put, zn1, zn2, zn3])
                      refine tS (i := 9) rfl hHeld ?_; (try simp only [Act.put, zn1, zn2, zn3])
                      refine tS (i := 10) rfl hHeld ?_; (try simp only [Act.put, zn1, zn2, zn3])
                      refine tY (i := 11) (v := ?_) rfl ?_ hHeld ?_; rotate_left 1; focus (intro w' hSw; clear hSw; go_simp; try with_reducible rfl)
                      (try simp only [Act.put, zn1, zn2, zn3])
                      refine tY (i := 12) (v := ?_) rfl ?_ hHeld ?_; rotate_left 1; focus (intro w' hSw; clear hSw; go_simp; try with_reducible rfl)
                      (try simp only [Act.put, zn1, zn2, zn3])
                      refine tY (i := 13) (v := ?_) rfl ?_ hHeld ?_; rotate_left 1; focus (intro w' hSw; clear hSw; go_simp; try with_reducible rfl)
                      (try simp only [Act.put, zn1, zn2, zn3])
                      refine tY (i := 14) (v := ?_) rfl ?_ hHeld ?_; rotate_left 1; focus (intro w' hSw; have hCell := fun (b o : Nat) (h : b < W11.heap.size) => hSw.cell (p := ⟨b, o, none⟩) h; clear hSw; go_simp; try with_reducible rfl)
                      (try simp only [Act.put, zn1, zn2, zn3])
                      refine tY (i := 15) (v := ?_) rfl ?_ hHeld ?_; rotate_left 1; focus (intro w' hSw; clear hSw; go_simp; try with_reducible rfl)
                      (try simp only [Act.put, zn1, zn2, zn3])
                      refine tY (i := 16) (v := ?_) rfl ?_ hHeld ?_; rotate_left 1; focus (intro w' hSw; have hCell := fun (b o : Nat) (h : b < W11.heap.size) => hSw.cell (p := ⟨b, o, none⟩) h; clear hSw; go_simp; try with_reducible rfl)
                      (try simp only [Act.put, zn1, zn2, zn3])
                      refine tY (i := 17) (v := ?_) rfl ?_ hHeld ?_; rotate_left 1; focus (intro w' hSw; clear hSw; go_simp; try with_reducible rfl)
                      (try simp only [Act.put, zn1, zn2, zn3])
                      refine tY (i := 18) (v := ?_) rfl ?_ hHeld ?_; rotate_left 1; focus (intro w' hSw; clear hSw; go_simp; try with_reducible rfl)
                      (try simp only [Act.put, zn1, zn2, zn3])
                      refine tS (i := 19) rfl hHeld ?_; (try simp only [Act.put, zn1, zn2, zn3])
                      refine tS (i := 20) rfl hHeld ?_; (try simp only [Act.put, zn1, zn2, zn3])
                      refine tS (i := 21) rfl hHeld ?_; (try simp only [Act.put, zn1, zn2, zn3])
                      refine tS (i := 22) rfl hHeld ?_; (try simp only [Act.put, zn1, zn2, zn3])
                      refine tS (i := 23) rfl hHeld ?_; (try simp only [Act.put, zn1, zn2, zn3])
                      refine tS (i := 24) rfl hHeld ?_; (try simp only [Act.put, zn1, zn2, zn3])
                      refine tS (i := 25) rfl hHeld ?_; (try simp only [Act.put, zn1, zn2, zn3])
                      refine tY (i := 26) (v := ?_) rfl ?_ hHeld ?_; rotate_left 1; focus (intro w' hSw; clear hSw; go_simp; try with_reducible rfl)
                      (try simp only [Act.put, zn1, zn2, zn3])
                      refine tY (i := 27) (v := ?_) rfl ?_ hHeld ?_; rotate_left 1; focus (intro w' hSw; clear hSw; go_simp; try with_reducible rfl)
                      (try simp only [Act.put, zn1, zn2, zn3])
                      refine wpAnyH_done (by kernel_rfl) ?_ _
                      go_wp2_with fail
                      go_roundw
                      case rel => exact ⟨j + 1, by omega, by go_num, lift HB8.out hHeld⟩
                      case measure => simp [intOf]; omega
                    · have hr1 := hr (by simpa using huv)
                      generalize hr0 : rankZ pl = ra at hr1
                      generalize hr00 : rankZ p = rb at hr1
                      try go_wp2_with fail
                      refine wp_region_held_drew (S := fun w' => Below W11.heap.size W11 w') (by kernel_rfl) (Below.drew (Below.refl _ _)) (fun hHeld => ?_)
                      refine tY (i := 0) (v := ?_) rfl ?_ hHeld ?_; rotate_left 1; focus (intro w' hSw; clear hSw; go_simp; try with_reducible rfl)
                      (try simp only [Act.put, zn1, zn2, zn3])
                      refine tY (i := 1) (v := ?_) rfl ?_ hHeld ?_; rotate_left 1; focus (intro w' hSw; have hCell := fun (b o : Nat) (h : b < W11.heap.size) => hSw.cell (p := ⟨b, o, none⟩) h; clear hSw; go_simp; try with_reducible rfl)
                      (try simp only [Act.put, zn1, zn2, zn3])
                      refine tY (i := 2) (v := ?_) rfl ?_ hHeld ?_; rotate_left 1; focus (intro w' hSw; clear hSw; go_simp; try with_reducible rfl)
                      (try simp only [Act.put, zn1, zn2, zn3])
                      refine tY (i := 3) (v := ?_) rfl ?_ hHeld ?_; rotate_left 1; focus (intro w' hSw; have hCell := fun (b o : Nat) (h : b < W11.heap.size) => hSw.cell (p := ⟨b, o, none⟩) h; clear hSw; go_simp; try with_reducible rfl)
                      (try simp only [Act.put, zn1, zn2, zn3])
                      refine tY (i := 4) (v := ?_) rfl ?_ hHeld ?_; rotate_left 1; focus (intro w' hSw; clear hSw; go_simp; try with_reducible rfl)
                      (try simp only [Act.put, zn1, zn2, zn3])
                      refine tY (i := 5) (v := ?_) rfl ?_ hHeld ?_; rotate_left 1; focus (intro w' hSw; clear hSw; go_simp; try with_reducible rfl)
                      (try simp only [Act.put, zn1, zn2, zn3])
                      refine tS (i := 6) rfl hHeld ?_; (try simp only [Act.put, zn1, zn2, zn3])
                      refine tS (i := 7) rfl hHeld ?_; (try simp only [Act.put, zn1, zn2, zn3])
                      refine tS (i := 8) rfl hHeld ?_; (try simp only [Act.put, zn1, zn2, zn3])
                      refine tS (i := 9) rfl hHeld ?_; (try simp only [Act.put, zn1, zn2, zn3])
                      refine tS (i := 10) rfl hHeld ?_; (try simp only [Act.put, zn1, zn2, zn3])
                      refine tY (i := 11) (v := ?_) rfl ?_ hHeld ?_; rotate_left 1; focus (intro w' hSw; clear hSw; go_simp; try with_reducible rfl)
                      (try simp only [Act.put, zn1, zn2, zn3])
                      refine tY (i := 12) (v := ?_) rfl ?_ hHeld ?_; rotate_left 1; focus (intro w' hSw; clear hSw; go_simp; try with_reducible rfl)
                      (try simp only [Act.put, zn1, zn2, zn3])
                      refine tY (i := 13) (v := ?_) rfl ?_ hHeld ?_; rotate_left 1; focus (intro w' hSw; clear hSw; go_simp; try with_reducible rfl)
                      (try simp only [Act.put, zn1, zn2, zn3])
                      refine tY (i := 14) (v := ?_) rfl ?_ hHeld ?_; rotate_left 1; focus (intro w' hSw; have hCell := fun (b o : Nat) (h : b < W11.heap.size) => hSw.cell (p := ⟨b, o, none⟩) h; clear hSw; go_simp; try with_reducible rfl)
                      (try simp only [Act.put, zn1, zn2, zn3])
                      refine tY (i := 15) (v := ?_) rfl ?_ hHeld ?_; rotate_left 1; focus (intro w' hSw; clear hSw; go_simp; try with_reducible rfl)
                      (try simp only [Act.put, zn1, zn2, zn3])
                      refine tY (i := 16) (v := ?_) rfl ?_ hHeld ?_; rotate_left 1; focus (intro w' hSw; have hCell := fun (b o : Nat) (h : b < W11.heap.size) => hSw.cell (p := ⟨b, o, none⟩) h; clear hSw; go_simp; try with_reducible rfl)
                      (try simp only [Act.put, zn1, zn2, zn3])
                      refine tY (i := 17) (v := ?_) rfl ?_ hHeld ?_; rotate_left 1; focus (intro w' hSw; clear hSw; go_simp; try with_reducible rfl)
                      (try simp only [Act.put, zn1, zn2, zn3])
                      refine tY (i := 18) (v := ?_) rfl ?_ hHeld ?_; rotate_left 1; focus (intro w' hSw; clear hSw; go_simp; try with_reducible rfl)
                      (try simp only [Act.put, zn1, zn2, zn3])
                      refine tY (i := 19) (v := ?_) rfl ?_ hHeld ?_; rotate_left 1; focus (intro w' hSw; clear hSw; go_simp; try with_reducible rfl)
                      (try simp only [Act.put, zn1, zn2, zn3])
                      refine tY (i := 20) (v := ?_) rfl ?_ hHeld ?_; rotate_left 1; focus (intro w' hSw; have hCell := fun (b o : Nat) (h : b < W11.heap.size) => hSw.cell (p := ⟨b, o, none⟩) h; clear hSw; go_simp; try with_reducible rfl)
                      (try simp only [Act.put, zn1, zn2, zn3])
                      refine tY (i := 22) (v := ?_) rfl ?_ hHeld ?_; rotate_left 1; focus (intro w' hSw; clear hSw; go_simp; try with_reducible rfl)
                      (try simp only [Act.put, zn1, zn2, zn3])
                      refine tY (i := 23) (v := ?_) rfl ?_ hHeld ?_; rotate_left 1; focus (intro w' hSw; have hCell := fun (b o : Nat) (h : b < W11.heap.size) => hSw.cell (p := ⟨b, o, none⟩) h; clear hSw; go_simp; try with_reducible rfl)
                      (try simp only [Act.put, zn1, zn2, zn3])
                      refine ready_one (i := 21) rfl (by kernel_rfl) (fun K hK => ?_)
                      go_simp
                      refine (rank_any pl _).mono ?_
                      rintro e yr ⟨rfl, hb⟩
                      rw [hr0]
                      refine hK.out _ _ ?_ (fun hHeld2 => ?_)
                      · (try dsimp only); first | exact Below.trans hHeld (Below.mono hb hHeld.size) | exact hHeld | exact Below.drew hHeld | exact (by repeat (first | exact Below.refl _ _ | assumption | refine Below.alloc ?_ (by first | omega | (simp <;> omega)) _ | refine Below.setCell ?_ (by first | omega | (simp <;> omega)) _ | refine Below.drew ?_))
                      clear hK K hHeld; have hHeld := hHeld2; clear hHeld2; (try simp only [Act.put, zn1, zn2, zn3])
                      refine ready_one (i := 24) rfl (by kernel_rfl) (fun K hK => ?_)
                      go_simp
                      refine (rank_any p _).mono ?_
                      rintro e ys ⟨rfl, hb⟩
                      rw [hr00]
                      refine hK.out _ _ ?_ (fun hHeld2 => ?_)
                      · (try dsimp only); first | exact Below.trans hHeld (Below.mono hb hHeld.size) | exact hHeld | exact Below.drew hHeld | exact (by repeat (first | exact Below.refl _ _ | assumption | refine Below.alloc ?_ (by first | omega | (simp <;> omega)) _ | refine Below.setCell ?_ (by first | omega | (simp <;> omega)) _ | refine Below.drew ?_))
                      clear hK K hHeld; have hHeld := hHeld2; clear hHeld2; (try simp only [Act.put, zn1, zn2, zn3])
                      refine tY (i := 25) (v := ?_) rfl ?_ hHeld ?_; rotate_left 1; focus (intro w' hSw; clear hSw; go_simp; try with_reducible rfl)
                      (try simp only [Act.put, zn1, zn2, zn3])
                      refine tY (i := 26) (v := ?_) rfl ?_ hHeld ?_; rotate_left 1; focus (intro w' hSw; clear hSw; go_simp; try with_reducible rfl)
                      (try simp only [Act.put, zn1, zn2, zn3])
                      refine tY (i := 27) (v := ?_) rfl ?_ hHeld ?_; rotate_left 1; focus (intro w' hSw; clear hSw; go_simp; try with_reducible rfl)
                      (try simp only [Act.put, zn1, zn2, zn3])
                      refine wpAnyH_done (by kernel_rfl) ?_ _
                      go_wp2_with fail
                      go_roundw
                      case rel => exact ⟨j + 1, by omega, by go_num, lift HB8.out hHeld⟩
                      case measure => simp [intOf]; omega
                  · have hvn2 : (v == n) = true := by
                      have h1 : un = n := by simpa using hun
                      have h3 : v = n := Classical.not_not.1 fun h => ha ⟨h1, h⟩
                      simpa using h3
                    have huv : (un == v) = true := by
                      have h1 : un = n := by simpa using hun
                      have h3 : v = n := by simpa using hvn2
                      rw [h1, h3]; simp
                    have hr1 := hr (by simpa using huv)
                    generalize hr0 : rankZ pl = ra at hr1
                    generalize hr00 : rankZ p = rb at hr1
                    try go_wp2_with fail
                    refine wp_region_held_drew (S := fun w' => Below W11.heap.size W11 w') (by kernel_rfl) (Below.drew (Below.refl _ _)) (fun hHeld => ?_)
                    refine tY (i := 0) (v := ?_) rfl ?_ hHeld ?_; rotate_left 1; focus (intro w' hSw; clear hSw; go_simp; try with_reducible rfl)
                    (try simp only [Act.put, zn1, zn2, zn3])
                    refine tY (i := 1) (v := ?_) rfl ?_ hHeld ?_; rotate_left 1; focus (intro w' hSw; have hCell := fun (b o : Nat) (h : b < W11.heap.size) => hSw.cell (p := ⟨b, o, none⟩) h; clear hSw; go_simp; try with_reducible rfl)
                    (try simp only [Act.put, zn1, zn2, zn3])
                    refine tY (i := 2) (v := ?_) rfl ?_ hHeld ?_; rotate_left 1; focus (intro w' hSw; clear hSw; go_simp; try with_reducible rfl)
                    (try simp only [Act.put, zn1, zn2, zn3])
                    refine tY (i := 3) (v := ?_) rfl ?_ hHeld ?_; rotate_left 1; focus (intro w' hSw; have hCell := fun (b o : Nat) (h : b < W11.heap.size) => hSw.cell (p := ⟨b, o, none⟩) h; clear hSw; go_simp; try with_reducible rfl)
                    (try simp only [Act.put, zn1, zn2, zn3])
                    refine tY (i := 4) (v := ?_) rfl ?_ hHeld ?_; rotate_left 1; focus (intro w' hSw; clear hSw; go_simp; try with_reducible rfl)
                    (try simp only [Act.put, zn1, zn2, zn3])
                    refine tY (i := 5) (v := ?_) rfl ?_ hHeld ?_; rotate_left 1; focus (intro w' hSw; clear hSw; go_simp; try with_reducible rfl)
                    (try simp only [Act.put, zn1, zn2, zn3])
                    refine tY (i := 6) (v := ?_) rfl ?_ hHeld ?_; rotate_left 1; focus (intro w' hSw; clear hSw; go_simp; try with_reducible rfl)
                    (try simp only [Act.put, zn1, zn2, zn3])
                    refine tY (i := 7) (v := ?_) rfl ?_ hHeld ?_; rotate_left 1; focus (intro w' hSw; have hCell := fun (b o : Nat) (h : b < W11.heap.size) => hSw.cell (p := ⟨b, o, none⟩) h; clear hSw; go_simp; try with_reducible rfl)
                    (try simp only [Act.put, zn1, zn2, zn3])
                    refine tY (i := 8) (v := ?_) rfl ?_ hHeld ?_; rotate_left 1; focus (intro w' hSw; clear hSw; go_simp; try with_reducible rfl)
                    (try simp only [Act.put, zn1, zn2, zn3])
                    refine tY (i := 9) (v := ?_) rfl ?_ hHeld ?_; rotate_left 1; focus (intro w' hSw; have hCell := fun (b o : Nat) (h : b < W11.heap.size) => hSw.cell (p := ⟨b, o, none⟩) h; clear hSw; go_simp; try with_reducible rfl)
                    (try simp only [Act.put, zn1, zn2, zn3])
                    refine tY (i := 10) (v := ?_) rfl ?_ hHeld ?_; rotate_left 1; focus (intro w' hSw; clear hSw; go_simp; try with_reducible rfl)
                    (try simp only [Act.put, zn1, zn2, zn3])
                    refine tY (i := 11) (v := ?_) rfl ?_ hHeld ?_; rotate_left 1; focus (intro w' hSw; clear hSw; go_simp; try with_reducible rfl)
                    (try simp only [Act.put, zn1, zn2, zn3])
                    refine tY (i := 12) (v := ?_) rfl ?_ hHeld ?_; rotate_left 1; focus (intro w' hSw; clear hSw; go_simp; try with_reducible rfl)
                    (try simp only [Act.put, zn1, zn2, zn3])
                    refine tY (i := 13) (v := ?_) rfl ?_ hHeld ?_; rotate_left 1; focus (intro w' hSw; clear hSw; go_simp; try with_reducible rfl)
                    (try simp only [Act.put, zn1, zn2, zn3])
                    refine tY (i := 14) (v := ?_) rfl ?_ hHeld ?_; rotate_left 1; focus (intro w' hSw; have hCell := fun (b o : Nat) (h : b < W11.heap.size) => hSw.cell (p := ⟨b, o, none⟩) h; clear hSw; go_simp; try with_reducible rfl)
                    (try simp only [Act.put, zn1, zn2, zn3])
                    refine tY (i := 15) (v := ?_) rfl ?_ hHeld ?_; rotate_left 1; focus (intro w' hSw; clear hSw; go_simp; try with_reducible rfl)
                    (try simp only [Act.put, zn1, zn2, zn3])
                    refine tY (i := 16) (v := ?_) rfl ?_ hHeld ?_; rotate_left 1; focus (intro w' hSw; have hCell := fun (b o : Nat) (h : b < W11.heap.size) => hSw.cell (p := ⟨b, o, none⟩) h; clear hSw; go_simp; try with_reducible rfl)
                    (try simp only [Act.put, zn1, zn2, zn3])
                    refine tY (i := 17) (v := ?_) rfl ?_ hHeld ?_; rotate_left 1; focus (intro w' hSw; clear hSw; go_simp; try with_reducible rfl)
                    (try simp only [Act.put, zn1, zn2, zn3])
                    refine tY (i := 18) (v := ?_) rfl ?_ hHeld ?_; rotate_left 1; focus (intro w' hSw; clear hSw; go_simp; try with_reducible rfl)
                    (try simp only [Act.put, zn1, zn2, zn3])
                    refine tY (i := 19) (v := ?_) rfl ?_ hHeld ?_; rotate_left 1; focus (intro w' hSw; clear hSw; go_simp; try with_reducible rfl)
                    (try simp only [Act.put, zn1, zn2, zn3])
                    refine tY (i := 20) (v := ?_) rfl ?_ hHeld ?_; rotate_left 1; focus (intro w' hSw; have hCell := fun (b o : Nat) (h : b < W11.heap.size) => hSw.cell (p := ⟨b, o, none⟩) h; clear hSw; go_simp; try with_reducible rfl)
                    (try simp only [Act.put, zn1, zn2, zn3])
                    refine tY (i := 22) (v := ?_) rfl ?_ hHeld ?_; rotate_left 1; focus (intro w' hSw; clear hSw; go_simp; try with_reducible rfl)
                    (try simp only [Act.put, zn1, zn2, zn3])
                    refine tY (i := 23) (v := ?_) rfl ?_ hHeld ?_; rotate_left 1; focus (intro w' hSw; have hCell := fun (b o : Nat) (h : b < W11.heap.size) => hSw.cell (p := ⟨b, o, none⟩) h; clear hSw; go_simp; try with_reducible rfl)
                    (try simp only [Act.put, zn1, zn2, zn3])
                    refine ready_one (i := 21) rfl (by kernel_rfl) (fun K hK => ?_)
                    go_simp
                    refine (rank_any pl _).mono ?_
                    rintro e yr ⟨rfl, hb⟩
                    rw [hr0]
                    refine hK.out _ _ ?_ (fun hHeld2 => ?_)
                    · (try dsimp only); first | exact Below.trans hHeld (Below.mono hb hHeld.size) | exact hHeld | exact Below.drew hHeld | exact (by repeat (first | exact Below.refl _ _ | assumption | refine Below.alloc ?_ (by first | omega | (simp <;> omega)) _ | refine Below.setCell ?_ (by first | omega | (simp <;> omega)) _ | refine Below.drew ?_))
                    clear hK K hHeld; have hHeld := hHeld2; clear hHeld2; (try simp only [Act.put, zn1, zn2, zn3])
                    refine ready_one (i := 24) rfl (by kernel_rfl) (fun K hK => ?_)
                    go_simp
                    refine (rank_any p _).mono ?_
                    rintro e ys ⟨rfl, hb⟩
                    rw [hr00]
                    refine hK.out _ _ ?_ (fun hHeld2 => ?_)
                    · (try dsimp only); first | exact Below.trans hHeld (Below.mono hb hHeld.size) | exact hHeld | exact Below.drew hHeld | exact (by repeat (first | exact Below.refl _ _ | assumption | refine Below.alloc ?_ (by first | omega | (simp <;> omega)) _ | refine Below.setCell ?_ (by first | omega | (simp <;> omega)) _ | refine Below.drew ?_))
                    clear hK K hHeld; have hHeld := hHeld2; clear hHeld2; (try simp only [Act.put, zn1, zn2, zn3])
                    refine tY (i := 25) (v := ?_) rfl ?_ hHeld ?_; rotate_left 1; focus (intro w' hSw; clear hSw; go_simp; try with_reducible rfl)
                    (try simp only [Act.put, zn1, zn2, zn3])
                    refine tY (i := 26) (v := ?_) rfl ?_ hHeld ?_; rotate_left 1; focus (intro w' hSw; clear hSw; go_simp; try with_reducible rfl)
                    (try simp only [Act.put, zn1, zn2, zn3])
                    refine tY (i := 27) (v := ?_) rfl ?_ hHeld ?_; rotate_left 1; focus (intro w' hSw; clear hSw; go_simp; try with_reducible rfl)
                    (try simp only [Act.put, zn1, zn2, zn3])
                    refine wpAnyH_done (by kernel_rfl) ?_ _
                    go_wp2_with fail
                    go_roundw
                    case rel => exact ⟨j + 1, by omega, by go_num, lift HB8.out hHeld⟩
                    case measure => simp [intOf]; omega
              · have bk : ((kd : Int) == 2) = false := by rw [beq_eq_false_iff_ne]; omega
                go_wp2_with fail
                go_roundw
                case rel => exact ⟨j + 1, by omega, by go_num, HB8⟩
                case measure => simp [intOf]; omega
            · obtain rfl : j = fs.length := by omega
              go_wp2_with fail
              go_roundw
              case rel => exact ⟨k + 1, by omega, by rw [HLs.out], by go_num, HBk6⟩
              case measure => simp [intOf]; omega
      · obtain rfl : k = ds.length := by omega
        clear HBk
        go_wp2_with fail
        go_loopw [116] (fun i wr => ∃ j : Nat, j ≤ fs.length ∧ i = .int .i64 j ∧ Hid (Below w4.heap.size w4 wr)) (fun i _ => fs.length - (intOf i).toNat)
        case atStart => exact ⟨0, Nat.zero_le _, rfl, Below.refl _ _⟩
        case round =>
          obtain ⟨j, hj, rfl, HB8⟩ := hrel
          obtain ⟨w8, rfl⟩ : ∃ wo : World, wo = wr := ⟨_, rfl⟩
          have hb8 := HB8.out
          replace b0 := cellAt b0 hb8 (by omega)
          replace b2 := cellAt b2 hb8 (by omega)
          replace b3 := cellAt b3 hb8 (by omega)
          replace HF := Lib.hid (HF.out.at hb8)
          replace HB := Lib.hid (lift HB.out hb8)
          replace HR2 := Lib.hid (HR2.out.at hb8)
          replace n3 : w2.heap.size < w8.heap.size := ltAt n3 hb8
          clear hb8
          by_cases hjt : j < fs.length
          · obtain ⟨b6, o6, hA, hB6, x0, x1, x2⟩ := HF.out.rd.fl hjt
            have hfs := HSh.out _ (List.getElem_mem hjt)
            have hal := fun hm => HD.out.all hm fs[j] (List.getElem_mem hjt)
            subst hA
            generalize fs[j] = f at x0 x1 x2 hfs hal
            obtain ⟨fp, ft, fl⟩ := f
            simp only at x0 x1 x2 hfs hal
            have hpa := fun W => Path_any fp W hfs
            rcases hxw : wayS fp with ⟨kd, pl, un, ot⟩
            rw [hxw] at hpa hal
            simp only at hal
            have HAl := Lib.hid hal
            have i3 : (0 : Int) ≤ (j : Int) := by omega
            have i4 : (j : Int) < (fs.length : Int) := by omega
            clear hal hxw
            go_wp2_with fail
            first | (refine wp_named ?_; intro W9 hW) | (refine calls_named ?_; intro W9 hW) | (refine exit_named ?_; intro W9 hW)
            have B9 : Below w8.heap.size w8 W9 := by rw [hW]; exact (by repeat (first | exact Below.refl _ _ | assumption | refine Below.alloc ?_ (by first | omega | (simp <;> omega)) _ | refine Below.setCell ?_ (by first | omega | (simp <;> omega)) _ | refine Below.drew ?_))
            replace b0 := cellAt b0 B9 (by omega)
            replace b2 := cellAt b2 B9 (by omega)
            replace b3 := cellAt b3 B9 (by omega)
            replace HF := Lib.hid (HF.out.at B9)
            replace HB := Lib.hid (lift HB.out B9)
            replace HR2 := Lib.hid (HR2.out.at B9)
            replace n3 : w2.heap.size < W9.heap.size := ltAt n3 B9
            replace HB8 := Lib.hid (lift HB8.out B9)
            clear hW
            clear B9 x0 x1 x2
            refine (hpa W9).mono ?_
            rintro e w10 ⟨rfl, hb⟩
            simp only
            replace b0 := cellAt b0 hb (by omega)
            replace b2 := cellAt b2 hb (by omega)
            replace b3 := cellAt b3 hb (by omega)
            replace HF := Lib.hid (HF.out.at hb)
            replace HB := Lib.hid (lift HB.out hb)
            replace HR2 := Lib.hid (HR2.out.at hb)
            replace n3 : w2.heap.size < w10.heap.size := ltAt n3 hb
            replace HB8 := Lib.hid (lift HB8.out hb)
            clear hb hpa
            go_upto_region 27 with fail
            first | (refine wp_named ?_; intro W11 hW) | (refine calls_named ?_; intro W11 hW) | (refine exit_named ?_; intro W11 hW)
            have B11 : Below w10.heap.size w10 W11 := by rw [hW]; exact (by repeat (first | exact Below.refl _ _ | assumption | refine Below.alloc ?_ (by first | omega | (simp <;> omega)) _ | refine Below.setCell ?_ (by first | omega | (simp <;> omega)) _ | refine Below.drew ?_))
            replace b0 := cellAt b0 B11 (by omega)
            replace b2 := cellAt b2 B11 (by omega)
            replace b3 := cellAt b3 B11 (by omega)
            replace HF := Lib.hid (HF.out.at B11)
            replace HB := Lib.hid (lift HB.out B11)
            replace HR2 := Lib.hid (HR2.out.at B11)
            replace n3 : w2.heap.size < W11.heap.size := ltAt n3 B11
            replace HB8 := Lib.hid (lift HB8.out B11)
            have n11 : w10.heap.size < W11.heap.size := by rw [hW]; simp <;> omega
            have g0 : W11.cell? ⟨w10.heap.size, 0, none⟩ = some (.int .i64 kd) := by rw [hW]; go_simp
            have g2 : W11.cell? ⟨w10.heap.size, 2, none⟩ = some (sv un) := by rw [hW]; go_simp
            have g3 : W11.cell? ⟨w10.heap.size, 3, none⟩ = some (sv ot) := by rw [hW]; go_simp
            clear hW
            clear B11
            by_cases h2 : kd = 2
            · subst h2
              have bk : (((2 : Nat) : Int) == 2) = true := rfl
              cases hun : (un == n)
              · skip
                go_wp2_with fail
                go_roundw
                case rel => exact ⟨j + 1, by omega, by go_num, HB8⟩
                case measure => simp [intOf]; omega
              · cases m
                · have hany := HAl.out rfl rfl (by simpa using hun)
                  have HAny := Lib.hid hany
                  clear hany HAl
                  go_wp2_with fail
                  go_loopw [17, 140] (fun v i wr => ∃ q : Nat, q ≤ ds.length ∧ v = .bool ((ds.take q).any (fun d => othD d == ot)) ∧ i = .int .i64 q ∧ Hid (Below W11.heap.size W11 wr)) (fun _ i _ => ds.length - (intOf i).toNat)
                  case atStart => exact ⟨0, Nat.zero_le _, rfl, rfl, Below.refl _ _⟩
                  case round =>
                    obtain ⟨q, hq, rfl, rfl, HB12⟩ := hrel
                    obtain ⟨w12, rfl⟩ : ∃ wo : World, wo = wr := ⟨_, rfl⟩
                    have hb12 := HB12.out
                    replace b0 := cellAt b0 hb12 (by omega)
                    replace b2 := cellAt b2 hb12 (by omega)
                    replace b3 := cellAt b3 hb12 (by omega)
                    replace g0 := cellAt g0 hb12 (by omega)
                    replace g2 := cellAt g2 hb12 (by omega)
                    replace g3 := cellAt g3 hb12 (by omega)
                    replace HF := Lib.hid (HF.out.at hb12)
                    replace HB := Lib.hid (lift HB.out hb12)
                    replace HR2 := Lib.hid (HR2.out.at hb12)
                    replace n3 : w2.heap.size < w12.heap.size := ltAt n3 hb12
                    replace HB8 := Lib.hid (lift HB8.out hb12)
                    replace n11 : w10.heap.size < w12.heap.size := ltAt n11 hb12
                    clear hb12
                    by_cases hqt : q < ds.length
                    · obtain ⟨b7, o7, hA, hB7, x0⟩ := HR2.out.str hqt
                      subst hA
                      have hts := any_take_succ (p := fun d => othD d == ot) hqt
                      obtain ⟨p, v, x, hwd, hvn, hfa⟩ := HD.out.each _ (List.getElem_mem hqt)
                      have hdl2 := way_len (s := ds[q]) (by rw [hwd]; intro e; injection e with e _; cases e)
                      have hpa := fun W => Path_any ds[q] W (Nat.le_trans hdl2 (by decide))
                      rw [hwd] at hpa
                      have hox : othD ds[q] = x := by unfold othD; rw [hwd]
                      simp only [hox] at hts
                      generalize ds[q] = d at x0 hpa hdl2
                      have hfd := fldW3 (2, p, v, x)
                      simp only at hfd
                      have i5 : (0 : Int) ≤ (q : Int) := by omega
                      have i6 : (q : Int) < (ds.length : Int) := by omega
                      generalize (ds.take q).any (fun d => othD d == ot) = has at *
                      have HTs := Lib.hid hts
                      clear hwd hox hfa hdl2 hts
                      go_upto_region 32 with fail
                      cases has
                      · cases hxo : (x == ot)
                        · skip
                          try go_wp2_with fail
                          refine wp_region_held_drew (S := fun w' => Below w12.heap.size w12 w') (by kernel_rfl) (Below.drew (Below.refl _ _)) (fun hHeld => ?_)
                          refine tY (i := 0) (v := ?_) rfl ?_ hHeld ?_; rotate_left 1; focus (intro w' hSw; clear hSw; go_simp; try with_reducible rfl)
                          (try simp only [Act.put, zn1, zn2, zn3])
                          refine tY (i := 1) (v := ?_) rfl ?_ hHeld ?_; rotate_left 1; focus (intro w' hSw; clear hSw; go_simp; try with_reducible rfl)
                          (try simp only [Act.put, zn1, zn2, zn3])
                          refine tY (i := 2) (v := ?_) rfl ?_ hHeld ?_; rotate_left 1; focus (intro w' hSw; clear hSw; go_simp; try with_reducible rfl)
                          (try simp only [Act.put, zn1, zn2, zn3])
                          refine tY (i := 5) (v := ?_) rfl ?_ hHeld ?_; rotate_left 1; focus (intro w' hSw; clear hSw; go_simp; try with_reducible rfl)
                          (try simp only [Act.put, zn1, zn2, zn3])
                          refine tY (i := 6) (v := ?_) rfl ?_ hHeld ?_; rotate_left 1; focus (intro w' hSw; have hCell := fun (b o : Nat) (h : b < w12.heap.size) => hSw.cell (p := ⟨b, o, none⟩) h; clear hSw; go_simp; try with_reducible rfl)
                          (try simp only [Act.put, zn1, zn2, zn3])
                          refine ready_one (i := 3) rfl (by kernel_rfl) (fun K hK => ?_)
                          go_simp
                          refine (hpa _).mono ?_
                          rintro e yr ⟨rfl, hb⟩
                          refine hK.out _ _ ?_ (fun hHeld2 => ?_)
                          · (try dsimp only); first | exact Below.trans hHeld (Below.mono hb hHeld.size) | exact hHeld | exact Below.drew hHeld | exact (by repeat (first | exact Below.refl _ _ | assumption | refine Below.alloc ?_ (by first | omega | (simp <;> omega)) _ | refine Below.setCell ?_ (by first | omega | (simp <;> omega)) _ | refine Below.drew ?_))
                          clear hK K hHeld; have hHeld := hHeld2; clear hHeld2; (try simp only [Act.put, zn1, zn2, zn3])
                          refine tY (i := 4) (v := ?_) rfl ?_ hHeld ?_; rotate_left 1; focus (intro w' hSw; clear hSw; go_simp; try with_reducible rfl)
                          (try simp only [Act.put, zn1, zn2, zn3])
                          refine tY (i := 7) (v := ?_) rfl ?_ hHeld ?_; rotate_left 1; focus (intro w' hSw; clear hSw; go_simp; try with_reducible rfl)
                          (try simp only [Act.put, zn1, zn2, zn3])
                          refine tY (i := 8) (v := ?_) rfl ?_ hHeld ?_; rotate_left 1; focus (intro w' hSw; clear hSw; go_simp; try with_reducible rfl)
                          (try simp only [Act.put, zn1, zn2, zn3])
                          refine tY (i := 9) (v := ?_) rfl ?_ hHeld ?_; rotate_left 1; focus (intro w' hSw; clear hSw; go_simp; try with_reducible rfl)
                          (try simp only [Act.put, zn1, zn2, zn3])
                          refine wpAnyH_done (by kernel_rfl) ?_ _
                          go_wp2_with fail
                          go_roundw
                          case rel => exact ⟨q + 1, by omega, by rw [HTs.out, hxo]; rfl, by go_num, lift HB12.out hHeld⟩
                          case measure => simp [intOf]; omega
                        · skip
                          try go_wp2_with fail
                          refine wp_region_held_drew (S := fun w' => Below w12.heap.size w12 w') (by kernel_rfl) (Below.drew (Below.refl _ _)) (fun hHeld => ?_)
                          refine tY (i := 0) (v := ?_) rfl ?_ hHeld ?_; rotate_left 1; focus (intro w' hSw; clear hSw; go_simp; try with_reducible rfl)
                          (try simp only [Act.put, zn1, zn2, zn3])
                          refine tY (i := 1) (v := ?_) rfl ?_ hHeld ?_; rotate_left 1; focus (intro w' hSw; clear hSw; go_simp; try with_reducible rfl)
                          (try simp only [Act.put, zn1, zn2, zn3])
                          refine tY (i := 2) (v := ?_) rfl ?_ hHeld ?_; rotate_left 1; focus (intro w' hSw; clear hSw; go_simp; try with_reducible rfl)
                          (try simp only [Act.put, zn1, zn2, zn3])
                          refine tY (i := 5) (v := ?_) rfl ?_ hHeld ?_; rotate_left 1; focus (intro w' hSw; clear hSw; go_simp; try with_reducible rfl)
                          (try simp only [Act.put, zn1, zn2, zn3])
                          refine tY (i := 6) (v := ?_) rfl ?_ hHeld ?_; rotate_left 1; focus (intro w' hSw; have hCell := fun (b o : Nat) (h : b < w12.heap.size) => hSw.cell (p := ⟨b, o, none⟩) h; clear hSw; go_simp; try with_reducible rfl)
                          (try simp only [Act.put, zn1, zn2, zn3])
                          refine ready_one (i := 3) rfl (by kernel_rfl) (fun K hK => ?_)
                          go_simp
                          refine (hpa _).mono ?_
                          rintro e yr ⟨rfl, hb⟩
                          refine hK.out _ _ ?_ (fun hHeld2 => ?_)
                          · (try dsimp only); first | exact Below.trans hHeld (Below.mono hb hHeld.size) | exact hHeld | exact Below.drew hHeld | exact (by repeat (first | exact Below.refl _ _ | assumption | refine Below.alloc ?_ (by first | omega | (simp <;> omega)) _ | refine Below.setCell ?_ (by first | omega | (simp <;> omega)) _ | refine Below.drew ?_))
                          clear hK K hHeld; have hHeld := hHeld2; clear hHeld2; (try simp only [Act.put, zn1, zn2, zn3])
                          refine tY (i := 4) (v := ?_) rfl ?_ hHeld ?_; rotate_left 1; focus (intro w' hSw; clear hSw; go_simp; try with_reducible rfl)
                          (try simp only [Act.put, zn1, zn2, zn3])
                          refine tY (i := 7) (v := ?_) rfl ?_ hHeld ?_; rotate_left 1; focus (intro w' hSw; clear hSw; go_simp; try with_reducible rfl)
                          (try simp only [Act.put, zn1, zn2, zn3])
                          refine tY (i := 8) (v := ?_) rfl ?_ hHeld ?_; rotate_left 1; focus (intro w' hSw; clear hSw; go_simp; try with_reducible rfl)
                          (try simp only [Act.put, zn1, zn2, zn3])
                          refine tY (i := 9) (v := ?_) rfl ?_ hHeld ?_; rotate_left 1; focus (intro w' hSw; clear hSw; go_simp; try with_reducible rfl)
                          (try simp only [Act.put, zn1, zn2, zn3])
                          refine wpAnyH_done (by kernel_rfl) ?_ _
                          go_wp2_with fail
                          go_roundw
                          case rel => exact ⟨q + 1, by omega, by rw [HTs.out, hxo]; rfl, by go_num, lift HB12.out hHeld⟩
                          case measure => simp [intOf]; omega
                      · skip
                        try go_wp2_with fail
                        refine wp_region_held_drew (S := fun w' => Below w12.heap.size w12 w') (by kernel_rfl) (Below.drew (Below.refl _ _)) (fun hHeld => ?_)
                        refine tY (i := 0) (v := ?_) rfl ?_ hHeld ?_; rotate_left 1; focus (intro w' hSw; clear hSw; go_simp; try with_reducible rfl)
                        (try simp only [Act.put, zn1, zn2, zn3])
                        refine tY (i := 1) (v := ?_) rfl ?_ hHeld ?_; rotate_left 1; focus (intro w' hSw; clear hSw; go_simp; try with_reducible rfl)
                        (try simp only [Act.put, zn1, zn2, zn3])
                        refine tS (i := 2) rfl hHeld ?_; (try simp only [Act.put, zn1, zn2, zn3])
                        refine tS (i := 3) rfl hHeld ?_; (try simp only [Act.put, zn1, zn2, zn3])
                        refine tS (i := 4) rfl hHeld ?_; (try simp only [Act.put, zn1, zn2, zn3])
                        refine tS (i := 5) rfl hHeld ?_; (try simp only [Act.put, zn1, zn2, zn3])
                        refine tS (i := 6) rfl hHeld ?_; (try simp only [Act.put, zn1, zn2, zn3])
                        refine tS (i := 7) rfl hHeld ?_; (try simp only [Act.put, zn1, zn2, zn3])
                        refine tY (i := 8) (v := ?_) rfl ?_ hHeld ?_; rotate_left 1; focus (intro w' hSw; clear hSw; go_simp; try with_reducible rfl)
                        (try simp only [Act.put, zn1, zn2, zn3])
                        refine tY (i := 9) (v := ?_) rfl ?_ hHeld ?_; rotate_left 1; focus (intro w' hSw; clear hSw; go_simp; try with_reducible rfl)
                        (try simp only [Act.put, zn1, zn2, zn3])
                        refine wpAnyH_done (by kernel_rfl) ?_ _
                        go_wp2_with fail
                        go_roundw
                        case rel => exact ⟨q + 1, by omega, by rw [HTs.out]; rfl, by go_num, lift HB12.out hHeld⟩
                        case measure => simp [intOf]; omega
                    · obtain rfl : q = ds.length := by omega
                      rw [List.take_length, HAny.out]
                      go_wp2_with fail
                      go_roundw
                      case rel => exact ⟨j + 1, by omega, by go_num, HB8⟩
                      case measure => simp [intOf]; omega
                · skip
                  go_wp2_with fail
                  go_roundw
                  case rel => exact ⟨j + 1, by omega, by go_num, HB8⟩
                  case measure => simp [intOf]; omega
            · have bk : ((kd : Int) == 2) = false := by rw [beq_eq_false_iff_ne]; omega
              go_wp2_with fail
              go_roundw
              case rel => exact ⟨j + 1, by omega, by go_num, HB8⟩
              case measure => simp [intOf]; omega
          · obtain rfl : j = fs.length := by omega
            go_wp2_with fail
            go_ret
            exact ⟨rfl, HB.out⟩
  · have hek : (k0 == (0 : Int)) = false := by simpa using he
    go_wp2_with fail
    go_ret
    have hB0 := HB.out
    have hz2 := hB0.size
    refine ⟨rfl, ?_⟩
    repeat (first | (with_reducible exact hB0) | (with_reducible refine Below.alloc ?_ ?zs _; case zs => first | omega | (simp <;> omega)) | (with_reducible refine Below.setCell ?_ ?zs _; case zs => first | omega | (simp <;> omega)))
end Od
end Go.Proofs.YtgfdcmlmgeoimaaGreat
end
