/- My texts, joined for the claim: DMayR DSplitP DSplitW. -/
import Derived.Test.YtgfdcmlmgeoimaaGreatZB6
import Derived.Test.YtgfdcmlmgeoimaaGreatZB5

section
/- May of the reference; of the program. (bel2) -/
namespace Go.Proofs.YtgfdcmlmgeoimaaGreat
open Go.RowKit Go.Sort Go.Maps
set_option linter.unusedSimpArgs false
namespace Od
theorem setF_put (D : List Str) (s : Str) : (fun y => if y = s then some (Value.bool true) else setF D y) = setF (D ++ [s]) := by
  funext y
  unfold setF
  by_cases e : y = s
  · subst e; simp
  · simp [e]
theorem setF_has (D : List Str) (s : Str) : (setF D s).getD (.bool false) = .bool (decide (s ∈ D)) := by
  unfold setF
  by_cases h : s ∈ D <;> simp [h]
theorem okS_of {s : Str} (h : s.length ≤ 140737488351232) : okS s := by unfold okS maxLen; omega
theorem map_made (w : World) : MapIs strK (w.alloc (.map #[] 0)) w.heap.size 0 (setF []) := by
  have h := MapIs.made strK w
  rwa [show (fun _ => none : Str → Option Value) = setF [] from by funext s; simp [setF]] at h
/-- What has been looked at. -/
structure Seen (fs : List Fl) (k : Nat) : Prop where
  may : ∀ j (hj : j < fs.length), j < k → mayF fs[j] = true
  nd : ((fs.take k).map (·.1)).Nodup
theorem Seen.start (fs : List Fl) : Seen fs 0 := ⟨fun _ _ h => absurd h (by omega), by simp⟩
theorem Seen.next {fs : List Fl} {k : Nat} (h : Seen fs k) (hk : k < fs.length) (hm : mayF fs[k] = true) (hn : fs[k].1 ∉ (fs.take k).map (·.1)) : Seen fs (k + 1) :=
  ⟨fun j hj h1 => by
    rcases Nat.lt_or_eq_of_le (Nat.le_of_lt_succ h1) with h2 | h2
    · exact h.may j hj h2
    · subst h2; exact hm, by
    rw [List.take_succ_eq_append_getElem hk, List.map_append, List.nodup_append]
    refine ⟨h.nd, by simp, fun a ha b hb e => hn ?_⟩
    rw [List.map_cons, List.map_nil, List.mem_singleton] at hb
    rw [← hb, ← e]; exact ha⟩
theorem Seen.bad {fs : List Fl} {k : Nat} (hk : k < fs.length) (h : mayF fs[k] = false ∨ fs[k].1 ∈ (fs.take k).map (·.1)) : mayFs fs = false := by
  cases hm : mayFs fs
  · rfl
  · exfalso
    obtain ⟨_, h2, h3⟩ := mayFs_iff.1 hm
    rcases h with h | h
    · rw [h2 _ (List.getElem_mem hk)] at h; cases h
    · have e : fs = fs.take k ++ (fs[k] :: fs.drop (k + 1)) := by rw [List.getElem_cons_drop, List.take_append_drop]
      have h4 : ((fs.take k ++ (fs[k] :: fs.drop (k + 1))).map (·.1)).Nodup := by rw [← e]; exact h3
      rw [List.map_append, List.map_cons, List.nodup_append] at h4
      exact h4.2.2 _ h _ (.head _) rfl
theorem Seen.all {fs : List Fl} (h : Seen fs fs.length) : mayFs fs = decide (fs.length ≤ 120) := by
  rw [Bool.eq_iff_iff, mayFs_iff, decide_eq_true_eq]
  have h2 := h.nd
  rw [List.take_length] at h2
  exact ⟨fun a => a.1, fun a => ⟨a, fun f hf => by obtain ⟨j, hj, rfl⟩ := List.getElem_of_mem hf; exact h.may j hj hj, h2⟩⟩
theorem path_take {fs : List Fl} {k : Nat} (hk : k < fs.length) : (fs.take (k + 1)).map (·.1) = (fs.take k).map (·.1) ++ [fs[k].1] := by rw [List.take_succ_eq_append_getElem hk, List.map_append]; rfl
set_option maxRecDepth 100000 in
set_option maxHeartbeats 8000000 in
theorem May12_any (A : Option Addr) (c : Nat) (fs : List Fl) (w : World) (h : FlIn w A fs) (hs : Short fs) : Calls Tryz.prog 13 #[.slice A fs.length c] w fun e w' => e = .returned (.bool (mayFs fs)) ∧ Below w.heap.size w w' := by
  have HF := Lib.hid h
  have HS := Lib.hid hs
  clear h hs
  by_cases h120 : 120 < fs.length
  · have d1 : decide ((120 : Int) < (fs.length : Int)) = true := by rw [decide_eq_true_eq]; omega
    have d2 : decide (120 < fs.length) = true := by rw [decide_eq_true_eq]; omega
    have HM := Lib.hid (show mayFs fs = false by unfold mayFs; rw [decide_eq_false (by omega)]; rfl)
    clear h120
    go_enter Tryz.func13, Tryz.ntmps13
    go_wp2_with fail
    go_ret
    exact ⟨ret_bool (by rw [HM.out]), (by repeat (first | exact Below.refl _ _ | assumption | refine Below.alloc ?_ (by first | omega | (simp <;> omega)) _ | refine Below.setCell ?_ (by first | omega | (simp <;> omega)) _ | refine Below.drew ?_))⟩
  · have d1 : decide ((120 : Int) < (fs.length : Int)) = false := by rw [decide_eq_false_iff_not]; omega
    have d2 : decide (120 < fs.length) = false := by rw [decide_eq_false_iff_not]; omega
    have HL := Lib.hid (show fs.length ≤ 120 by omega)
    have hmm : ∀ (t : TypeId) (w : World), (Instr.makeMap t none).run Tryz.prog w = .ok (.map (some w.heap.size)) (w.alloc (.map #[] 0)) := fun _ _ => rfl
    clear h120
    go_enter Tryz.func13, Tryz.ntmps13
    go_wp2_with fail
    have HM0 := Lib.hid (map_made w)
    go_loopw [12] (fun i wr => ∃ k : Nat, k ≤ fs.length ∧ i = .int .i64 k ∧ Hid (Seen fs k) ∧ Hid (MapIs strK wr w.heap.size k (setF ((fs.take k).map (·.1)))) ∧ Hid (Below w.heap.size w wr)) (fun i _ => fs.length - (intOf i).toNat)
    case atStart => exact ⟨0, Nat.zero_le _, rfl, Seen.start fs, HM0, (Below.refl _ _).alloc (Nat.le_refl _) _⟩
    case round =>
      obtain ⟨k, hk, rfl, HSe, HMk, HB⟩ := hrel
      obtain ⟨w6, rfl⟩ : ∃ wo : World, wo = wr := ⟨_, rfl⟩
      have hz6 := HB.out.size
      have hmlt := HMk.out.lt
      have hl120 := HL.out
      by_cases hlt : k < fs.length
      · obtain ⟨b2, o2, hA, hB2, x0, x1, x2⟩ := (HF.out.at HB.out).rd.fl hlt
        subst hA
        have hok := (HF.out.ok _ (List.getElem_mem hlt))
        have hsh := HS.out _ (List.getElem_mem hlt)
        have htk := path_take hlt
        have hnx := fun a b => HSe.out.next hlt a b
        have hbd := fun a => Seen.bad (fs := fs) hlt a
        have hkm : k < maxLen := by have := HL.out; unfold maxLen; omega
        generalize fs[k] = p at x0 x1 x2 hok hsh htk hnx hbd
        obtain ⟨s, t, l⟩ := p
        simp only at x0 x1 x2 htk hnx hbd
        have hos : okS s := okS_of hok.1
        have hok2 : t.length ≤ 140737488355328 := Nat.le_trans hok.2.1 (by decide)
        have hok3 : l.length ≤ 140737488355328 := Nat.le_trans hok.2.2 (by decide)
        have HTk := Lib.hid htk
        have HNx := Lib.hid hnx
        have HBd := Lib.hid hbd
        have HKm := Lib.hid hkm
        have i1 : (0 : Int) ≤ (k : Int) := by omega
        have i2 : (k : Int) < (fs.length : Int) := by omega
        have hmf := mayFile_any s t l
        have hhas := setF_has ((fs.take k).map (·.1)) s
        clear htk hnx hbd hkm hok
        generalize (fs.take k).map (·.1) = D at *
        cases hin : decide (s ∈ D)
        · rw [hin] at hhas
          have HH := Lib.hid hhas
          clear hhas
          go_wp2_with (first | (at_lookup; refine wpList_lookup_is _ (by rfl) (.tmp 16) (.tmp 18) 59 (by rfl) 4 Tryz.underlying59 (.bool false) (zeroB _) w.heap.size _ _ (by rfl) (HMk.out.alloc _) s (by rfl) hos ?_; rw [HH.out]) | fail)
          first | (refine wp_named ?_; intro W7 hW) | (refine calls_named ?_; intro W7 hW) | (refine exit_named ?_; intro W7 hW)
          have B7 : Below w6.heap.size w6 W7 := by rw [hW]; exact (by repeat (first | exact Below.refl _ _ | assumption | refine Below.alloc ?_ (by first | omega | (simp <;> omega)) _ | refine Below.setCell ?_ (by first | omega | (simp <;> omega)) _ | refine Below.drew ?_))
          have m7 : w6.heap.size < W7.heap.size := by rw [hW]; simp <;> omega
          have y0 : W7.cell? ⟨w6.heap.size, 0, none⟩ = some (sv s) := by rw [hW]; go_simp
          clear hW
          have HB7 := Lib.hid (lift HB.out B7)
          have HM7 := Lib.hid (HMk.out.on B7)
          clear B7 x0 x1 x2 HMk
          refine (hmf W7 hsh hok2 hok3).mono ?_
          rintro e w8 ⟨rfl, hb8⟩
          replace y0 := cellAt y0 hb8 (by omega)
          replace m7 : w6.heap.size < w8.heap.size := ltAt m7 hb8
          have HB8 := Lib.hid (lift HB7.out hb8)
          have HM8 := Lib.hid (HM7.out.on hb8)
          clear hb8 HM7
          cases hmay : mayF (s, t, l)
          · have HN := Lib.hid (HBd.out (.inl hmay))
            go_wp2_with fail
            go_ret
            exact ⟨ret_bool (by rw [HN.out]), HB8.out⟩
          · have HSe2 := Lib.hid (HNx.out hmay (by simpa using hin))
            go_wp2_with (first | (at_mapUpdate; refine wpList_update_is _ (by rfl) (.tmp 25) (.tmp 27) (.const (.bool true)) 59 (by rfl) 4 Tryz.underlying59 w.heap.size _ _ (by rfl) HM8.out HKm.out s (.bool true) (by rfl) (by rfl) hos ?_; intro w9 hm9 hg9; have HM9 := Lib.hid (setS_if hm9); have HB9 := Lib.hid (HB8.out.grown hg9 (by have := HB8.out.size; omega) (fun g hg => by cases hg; exact Nat.le_refl _)); clear hm9 hg9) | fail)
            go_roundw
            case rel =>
              have h9 := HM9.out
              rw [setF_put, ← HTk.out] at h9
              exact ⟨k + 1, by omega, by go_num, HSe2, h9, HB9⟩
            case measure => simp [intOf]; omega
        · rw [hin] at hhas
          have HH := Lib.hid hhas
          have HN := Lib.hid (HBd.out (.inr (by simpa using hin)))
          clear hhas
          go_wp2_with (first | (at_lookup; refine wpList_lookup_is _ (by rfl) (.tmp 16) (.tmp 18) 59 (by rfl) 4 Tryz.underlying59 (.bool false) (zeroB _) w.heap.size _ _ (by rfl) (HMk.out.alloc _) s (by rfl) hos ?_; rw [HH.out]) | fail)
          go_ret
          exact ⟨ret_bool (by rw [HN.out]), HB.out.alloc hz6 _⟩
      · obtain rfl : k = fs.length := by omega
        have HN := Lib.hid (HSe.out.all.trans (decide_eq_true HL.out))
        go_wp2_with fail
        go_ret
        exact ⟨ret_bool (by rw [HN.out]), HB.out⟩
end Od
end Go.Proofs.YtgfdcmlmgeoimaaGreat
end

section
/- The walk of disk.split. (bel2) -/
namespace Go.Proofs.YtgfdcmlmgeoimaaGreat
open Go.RowKit Go.Sort
set_option linter.unusedSimpArgs false
namespace Od
abbrev phV (x : Ph) : Value := .agg #[.int .i64 x.1, sv x.2.1, sv x.2.2.1, sv x.2.2.2]
abbrev phB (x : Ph × Bool) : Value := .tuple #[phV x.1, .bool x.2]
theorem WyC.set1 {w : World} {b : Nat} {k : Int} {p u o : Str} (h : WyC w b k p u o) (p' : Str) : WyC (w.setCell ⟨b, 1, none⟩ (sv p')) b k p' u o :=
  ⟨(World.cell?_setCell_other _ _ _ _ (adr_ne (by decide))).trans h.c0, World.cell?_setCell_same _ _ _ h.c1, (World.cell?_setCell_other _ _ _ _ (adr_ne (by decide))).trans h.c2, (World.cell?_setCell_other _ _ _ _ (adr_ne (by decide))).trans h.c3,
   by rw [World.frozen?_setCell]; exact h.f0, by rw [World.frozen?_setCell]; exact h.f1, by rw [World.frozen?_setCell]; exact h.f2, by rw [World.frozen?_setCell]; exact h.f3⟩
theorem idx_places (p : Str) : Lib.idxOfS (placesL.map fun s => (⟨s.toArray⟩ : ByteArray)) ⟨p.toArray⟩ = idxP p := by
  unfold idxP
  by_cases h1 : p = etcS
  · subst h1; decide +kernel
  · rw [if_neg h1]
    by_cases h2 : p = runS
    · subst h2; decide +kernel
    · rw [if_neg h2]
      by_cases h3 : p = libS
      · subst h3; decide +kernel
      · rw [if_neg h3]
        refine Lib.idxOfS_miss (placesL.map fun s => (⟨s.toArray⟩ : ByteArray)) 3 ⟨p.toArray⟩ fun j hj e => ?_
        have : j = 0 ∨ j = 1 ∨ j = 2 := by omega
        rcases this with rfl | rfl | rfl
        · injection e with e; exact h1 (by simpa using e.symm)
        · injection e with e; exact h2 (by simpa using e.symm)
        · injection e with e; exact h3 (by simpa using e.symm)
theorem Index_places (A : Option Addr) (c : Nat) (p : Str) (w : World) (hr : Rd w w.heap.size 1 A placesL.length (svs placesL)) : Calls Tryz.prog 56 #[.slice A placesL.length c, sv p] w fun e w' => e = .returned (.int .i64 (idxP p)) ∧ w = w' := by
  obtain ⟨b, o, rfl, hb, hc⟩ := hr.open (by decide)
  refine (Tryz.slices_Index_string b o placesL.length c (placesL.map fun s => ⟨s.toArray⟩) ⟨p.toArray⟩ w (by simp) (by decide) (fun j hj => ?_)).mono ?_
  · have hj' : j < placesL.length := by simpa using hj
    rw [hc j (by omega)]
    simp [svs, hj']
  · rintro e w' ⟨rfl, rfl⟩
    exact ⟨by rw [List.take_of_length_le (by simp), idx_places], rfl⟩
/-- strings.CutSuffix. -/
def cutSx (s e : Str) : Str × Bool := (Lib.trimSuffix s e, Lib.hasSuffix s e)
theorem CutSuffix_any (s e : Str) (w : World) (hl : s.length ≤ 140737488355328) : Calls Tryz.prog 61 #[sv s, sv e] w fun en w' => en = .returned (pairV (cutSx s e)) ∧ w = w' :=
  (Tryz.strings_CutSuffix ⟨s.toArray⟩ ⟨e.toArray⟩ w (by show s.length ≤ _; omega)).mono fun _ _ ⟨h1, h2⟩ => ⟨h1, h2.symm⟩
theorem cutSx_ends {s e u : Str} (h : endsW s e = some u) : cutSx s e = (u, true) := by
  obtain ⟨h1, _⟩ := endsW_some.1 h
  have hs : Lib.hasSuffix s e = true := by
    unfold Lib.hasSuffix
    rw [List.isSuffixOf_iff_suffix]
    exact ⟨u, h1.symm⟩
  unfold cutSx Lib.trimSuffix
  rw [hs, if_pos rfl, h1]
  simp
theorem cutSx_none {s e : Str} (h : endsW s e = none) : (cutSx s e).2 = false ∨ (cutSx s e).1 = [] := by
  cases hs : Lib.hasSuffix s e
  · left; exact hs
  · right
    have h2 := hs
    unfold Lib.hasSuffix at h2
    rw [List.isSuffixOf_iff_suffix] at h2
    obtain ⟨u, hu⟩ := h2
    unfold cutSx Lib.trimSuffix
    rw [hs]
    simp only [if_true]
    rw [← hu]
    by_cases h0 : u = []
    · subst h0; simp
    · rw [endsW_some.2 ⟨hu.symm, h0⟩] at h; cases h
theorem cutSx_le (s e : Str) : (cutSx s e).1.length ≤ s.length := by
  unfold cutSx Lib.trimSuffix
  split <;> simp
/-- Whether a folder's end fits. -/
theorem cutSx_ok (s e : Str) : ((cutSx s e).2 && kindS (cutSx s e).1 != 0) = (okU (endsW s e)).isSome := by
  cases h : endsW s e with
  | some u =>
    rw [cutSx_ends h]
    unfold okU
    by_cases hk : kindS u = 0
    · simp [hk]
    · simp [hk]
  | none =>
    rcases cutSx_none h with h1 | h1
    · rw [h1]; rfl
    · rw [h1, kindS_nil]; simp [okU]
theorem cutSx_some {s e u : Str} (h : okU (endsW s e) = some u) : cutSx s e = (u, true) ∧ kindS u ≠ 0 := ⟨cutSx_ends (okU_some h).1, (okU_some h).2⟩
theorem foldS_at {h u : Str} {k : Nat} (hk : k < 3) (hn : ∀ j, j < k → okU (endsW h (endE j)) = none) (hs : okU (endsW h (endE k)) = some u) : foldS h = some (k + 1, u) := by
  have hf : foldS h = match okU (endsW h (endE 0)) with | some u => some (1, u) | none => match okU (endsW h (endE 1)) with | some u => some (2, u) | none => (okU (endsW h (endE 2))).map fun u => (3, u) := rfl
  rw [hf]
  have : k = 0 ∨ k = 1 ∨ k = 2 := by omega
  rcases this with rfl | rfl | rfl
  · rw [hs]
  · rw [hn 0 (by omega), hs]
  · rw [hn 0 (by omega), hn 1 (by omega), hs]; rfl
theorem foldS_no {h : Str} (hn : ∀ j, j < 3 → okU (endsW h (endE j)) = none) : foldS h = none := by
  have hf : foldS h = match okU (endsW h (endE 0)) with | some u => some (1, u) | none => match okU (endsW h (endE 1)) with | some u => some (2, u) | none => (okU (endsW h (endE 2))).map fun u => (3, u) := rfl
  rw [hf, hn 0 (by omega), hn 1 (by omega), hn 2 (by omega)]
  rfl
end Od
end Go.Proofs.YtgfdcmlmgeoimaaGreat
end

section
/- The walk of disk.split. (bel2) -/
namespace Go.Proofs.YtgfdcmlmgeoimaaGreat
open Go.RowKit Go.Sort
set_option linter.unusedSimpArgs false
namespace Od
set_option maxRecDepth 100000 in
set_option maxHeartbeats 16000000 in
theorem split_any (s : Str) (w : World) (hl : s.length ≤ 140737488355328) : Calls Tryz.prog 47 #[sv s] w fun e w' => e = .returned (phB (splP s)) ∧ Below w.heap.size w w' := by
  have hsp : splP s = match cutR 47 s with
    | none => (ph0, false)
    | some (p, r) => if idxP p < 0 then (ph0, false) else
        match cutR 47 r with
        | none => ((idxP p, r, [], []), kindS r != 0)
        | some (h, f) => match foldS h with
          | none => (ph0, false)
          | some (k, u) => ((idxP p, u, foldE k, f), true) := rfl
  cases h1 : cutR 47 s with
  | none =>
    rw [h1] at hsp
    have HW := Lib.hid (show splP s = (ph0, false) from hsp)
    have hcut := slCut_none h1
    clear hsp
    go_enter Tryz.func47, Tryz.ntmps47
    go_wp2_with fail
    first | (refine wp_named ?_; intro W1 hW) | (refine calls_named ?_; intro W1 hW) | (refine exit_named ?_; intro W1 hW)
    have B1 : Below w.heap.size w W1 := by rw [hW]; exact (by repeat (first | exact Below.refl _ _ | assumption | refine Below.alloc ?_ (by first | omega | (simp <;> omega)) _ | refine Below.setCell ?_ (by first | omega | (simp <;> omega)) _ | refine Below.drew ?_))
    have n0 : w.heap.size < W1.heap.size := by rw [hW]; simp <;> omega
    have r0 : W1.cell? ⟨w.heap.size, 0, none⟩ = some (.int .i64 0) := by rw [hW]; go_simp
    have r1 : W1.cell? ⟨w.heap.size, 1, none⟩ = some (.string ⟨#[]⟩) := by rw [hW]; go_simp
    have r2 : W1.cell? ⟨w.heap.size, 2, none⟩ = some (.string ⟨#[]⟩) := by rw [hW]; go_simp
    have r3 : W1.cell? ⟨w.heap.size, 3, none⟩ = some (.string ⟨#[]⟩) := by rw [hW]; go_simp
    have z0 : W1.frozen? ⟨w.heap.size, 0, none⟩ = false := by rw [hW]; go_simp
    have z1 : W1.frozen? ⟨w.heap.size, 1, none⟩ = false := by rw [hW]; go_simp
    have z2 : W1.frozen? ⟨w.heap.size, 2, none⟩ = false := by rw [hW]; go_simp
    have z3 : W1.frozen? ⟨w.heap.size, 3, none⟩ = false := by rw [hW]; go_simp
    clear hW
    have HB1 := Lib.hid B1
    clear B1
    refine (Cut_sl s W1 hl).mono ?_
    rintro e w2 ⟨rfl, hb⟩
    rw [hcut]
    have HB2 := Lib.hid (lift HB1.out hb)
    replace r0 := cellAt r0 hb (by omega)
    replace r1 := cellAt r1 hb (by omega)
    replace r2 := cellAt r2 hb (by omega)
    replace r3 := cellAt r3 hb (by omega)
    replace z0 := froAt z0 hb (by omega)
    replace z1 := froAt z1 hb (by omega)
    replace z2 := froAt z2 hb (by omega)
    replace z3 := froAt z3 hb (by omega)
    replace n0 : w.heap.size < w2.heap.size := ltAt n0 hb
    clear hb
    go_wp2_with fail
    refine (Places_any w2).mono ?_
    rintro e w3 ⟨A, c, rfl, hcc, hrd, hb⟩
    have HB3 := Lib.hid (lift HB2.out hb)
    replace r0 := cellAt r0 hb (by omega)
    replace r1 := cellAt r1 hb (by omega)
    replace r2 := cellAt r2 hb (by omega)
    replace r3 := cellAt r3 hb (by omega)
    replace z0 := froAt z0 hb (by omega)
    replace z1 := froAt z1 hb (by omega)
    replace z2 := froAt z2 hb (by omega)
    replace z3 := froAt z3 hb (by omega)
    replace n0 : w.heap.size < w3.heap.size := ltAt n0 hb
    clear hb
    go_wp2_with fail
    refine (Index_places A c s w3 hrd).mono ?_
    rintro e w4 ⟨rfl, rfl⟩
    clear hrd
    have hn3 : w.heap.size < w3.heap.size := n0
    go_wp2_with fail
    have hB0 := HB3.out
    refine bodyPost_ret (v := .tuple #[.agg #[.int .i64 0, sv [], sv [], sv []], .bool false]) (by simp only [results, Tryz.results47]; go_simp) rfl ⟨by rw [HW.out] <;> rfl, ?_⟩
    repeat (first | (with_reducible exact hB0) | (with_reducible refine Below.drew ?_) | (with_reducible refine Below.alloc ?_ ?zs _; case zs => first | omega | (simp <;> omega)) | (with_reducible refine Below.setCell ?_ ?zs _; case zs => first | omega | (simp <;> omega)))
  | some q =>
    obtain ⟨p, r⟩ := q
    rw [h1] at hsp
    simp only at hsp
    have hcut := slCut_some h1
    have hrl : r.length ≤ 140737488355328 := by
      have h2 := congrArg List.length (cutR_some.1 h1).1
      rw [List.length_append, List.length_cons] at h2
      omega
    by_cases hp : idxP p < 0
    · have HW := Lib.hid (show splP s = (ph0, false) by rw [hsp, if_pos hp])
      have hd : decide (idxP p < 0) = true := decide_eq_true hp
      clear hp
      go_enter Tryz.func47, Tryz.ntmps47
      go_wp2_with fail
      first | (refine wp_named ?_; intro W1 hW) | (refine calls_named ?_; intro W1 hW) | (refine exit_named ?_; intro W1 hW)
      have B1 : Below w.heap.size w W1 := by rw [hW]; exact (by repeat (first | exact Below.refl _ _ | assumption | refine Below.alloc ?_ (by first | omega | (simp <;> omega)) _ | refine Below.setCell ?_ (by first | omega | (simp <;> omega)) _ | refine Below.drew ?_))
      have n0 : w.heap.size < W1.heap.size := by rw [hW]; simp <;> omega
      have r0 : W1.cell? ⟨w.heap.size, 0, none⟩ = some (.int .i64 0) := by rw [hW]; go_simp
      have r1 : W1.cell? ⟨w.heap.size, 1, none⟩ = some (.string ⟨#[]⟩) := by rw [hW]; go_simp
      have r2 : W1.cell? ⟨w.heap.size, 2, none⟩ = some (.string ⟨#[]⟩) := by rw [hW]; go_simp
      have r3 : W1.cell? ⟨w.heap.size, 3, none⟩ = some (.string ⟨#[]⟩) := by rw [hW]; go_simp
      have z0 : W1.frozen? ⟨w.heap.size, 0, none⟩ = false := by rw [hW]; go_simp
      have z1 : W1.frozen? ⟨w.heap.size, 1, none⟩ = false := by rw [hW]; go_simp
      have z2 : W1.frozen? ⟨w.heap.size, 2, none⟩ = false := by rw [hW]; go_simp
      have z3 : W1.frozen? ⟨w.heap.size, 3, none⟩ = false := by rw [hW]; go_simp
      clear hW
      have HB1 := Lib.hid B1
      clear B1
      refine (Cut_sl s W1 hl).mono ?_
      rintro e w2 ⟨rfl, hb⟩
      rw [hcut]
      have HB2 := Lib.hid (lift HB1.out hb)
      replace r0 := cellAt r0 hb (by omega)
      replace r1 := cellAt r1 hb (by omega)
      replace r2 := cellAt r2 hb (by omega)
      replace r3 := cellAt r3 hb (by omega)
      replace z0 := froAt z0 hb (by omega)
      replace z1 := froAt z1 hb (by omega)
      replace z2 := froAt z2 hb (by omega)
      replace z3 := froAt z3 hb (by omega)
      replace n0 : w.heap.size < w2.heap.size := ltAt n0 hb
      clear hb
      go_wp2_with fail
      refine (Places_any w2).mono ?_
      rintro e w3 ⟨A, c, rfl, hcc, hrd, hb⟩
      have HB3 := Lib.hid (lift HB2.out hb)
      replace r0 := cellAt r0 hb (by omega)
      replace r1 := cellAt r1 hb (by omega)
      replace r2 := cellAt r2 hb (by omega)
      replace r3 := cellAt r3 hb (by omega)
      replace z0 := froAt z0 hb (by omega)
      replace z1 := froAt z1 hb (by omega)
      replace z2 := froAt z2 hb (by omega)
      replace z3 := froAt z3 hb (by omega)
      replace n0 : w.heap.size < w3.heap.size := ltAt n0 hb
      clear hb
      go_wp2_with fail
      refine (Index_places A c p w3 hrd).mono ?_
      rintro e w4 ⟨rfl, rfl⟩
      clear hrd
      have hn3 : w.heap.size < w3.heap.size := n0
      go_wp2_with fail
      have hB0 := HB3.out
      refine bodyPost_ret (v := .tuple #[.agg #[.int .i64 0, sv [], sv [], sv []], .bool false]) (by simp only [results, Tryz.results47]; go_simp) rfl ⟨by rw [HW.out] <;> rfl, ?_⟩
      repeat (first | (with_reducible exact hB0) | (with_reducible refine Below.drew ?_) | (with_reducible refine Below.alloc ?_ ?zs _; case zs => first | omega | (simp <;> omega)) | (with_reducible refine Below.setCell ?_ ?zs _; case zs => first | omega | (simp <;> omega)))
    · have hd : decide (idxP p < 0) = false := decide_eq_false hp
      rw [if_neg hp] at hsp
      clear hp
      cases h2 : cutR 47 r with
      | none =>
        rw [h2] at hsp
        simp only at hsp
        have HW0 := Lib.hid hsp
        have hcut2 := slCut_none h2
        clear hsp
        go_enter Tryz.func47, Tryz.ntmps47
        go_wp2_with fail
        first | (refine wp_named ?_; intro W1 hW) | (refine calls_named ?_; intro W1 hW) | (refine exit_named ?_; intro W1 hW)
        have B1 : Below w.heap.size w W1 := by rw [hW]; exact (by repeat (first | exact Below.refl _ _ | assumption | refine Below.alloc ?_ (by first | omega | (simp <;> omega)) _ | refine Below.setCell ?_ (by first | omega | (simp <;> omega)) _ | refine Below.drew ?_))
        have n0 : w.heap.size < W1.heap.size := by rw [hW]; simp <;> omega
        have r0 : W1.cell? ⟨w.heap.size, 0, none⟩ = some (.int .i64 0) := by rw [hW]; go_simp
        have r1 : W1.cell? ⟨w.heap.size, 1, none⟩ = some (.string ⟨#[]⟩) := by rw [hW]; go_simp
        have r2 : W1.cell? ⟨w.heap.size, 2, none⟩ = some (.string ⟨#[]⟩) := by rw [hW]; go_simp
        have r3 : W1.cell? ⟨w.heap.size, 3, none⟩ = some (.string ⟨#[]⟩) := by rw [hW]; go_simp
        have z0 : W1.frozen? ⟨w.heap.size, 0, none⟩ = false := by rw [hW]; go_simp
        have z1 : W1.frozen? ⟨w.heap.size, 1, none⟩ = false := by rw [hW]; go_simp
        have z2 : W1.frozen? ⟨w.heap.size, 2, none⟩ = false := by rw [hW]; go_simp
        have z3 : W1.frozen? ⟨w.heap.size, 3, none⟩ = false := by rw [hW]; go_simp
        clear hW
        have HB1 := Lib.hid B1
        clear B1
        refine (Cut_sl s W1 hl).mono ?_
        rintro e w2 ⟨rfl, hb⟩
        rw [hcut]
        have HB2 := Lib.hid (lift HB1.out hb)
        replace r0 := cellAt r0 hb (by omega)
        replace r1 := cellAt r1 hb (by omega)
        replace r2 := cellAt r2 hb (by omega)
        replace r3 := cellAt r3 hb (by omega)
        replace z0 := froAt z0 hb (by omega)
        replace z1 := froAt z1 hb (by omega)
        replace z2 := froAt z2 hb (by omega)
        replace z3 := froAt z3 hb (by omega)
        replace n0 : w.heap.size < w2.heap.size := ltAt n0 hb
        clear hb
        go_wp2_with fail
        refine (Places_any w2).mono ?_
        rintro e w3 ⟨A, c, rfl, hcc, hrd, hb⟩
        have HB3 := Lib.hid (lift HB2.out hb)
        replace r0 := cellAt r0 hb (by omega)
        replace r1 := cellAt r1 hb (by omega)
        replace r2 := cellAt r2 hb (by omega)
        replace r3 := cellAt r3 hb (by omega)
        replace z0 := froAt z0 hb (by omega)
        replace z1 := froAt z1 hb (by omega)
        replace z2 := froAt z2 hb (by omega)
        replace z3 := froAt z3 hb (by omega)
        replace n0 : w.heap.size < w3.heap.size := ltAt n0 hb
        clear hb
        go_wp2_with fail
        refine (Index_places A c p w3 hrd).mono ?_
        rintro e w4 ⟨rfl, rfl⟩
        clear hrd
        have hn3 : w.heap.size < w3.heap.size := n0
        generalize idxP p = ip at *
        go_wp2_with fail
        first | (refine wp_named ?_; intro W5 hW) | (refine calls_named ?_; intro W5 hW) | (refine exit_named ?_; intro W5 hW)
        have B5 : Below w3.heap.size w3 W5 := by rw [hW]; exact (by repeat (first | exact Below.refl _ _ | assumption | refine Below.alloc ?_ (by first | omega | (simp <;> omega)) _ | refine Below.setCell ?_ (by first | omega | (simp <;> omega)) _ | refine Below.drew ?_))
        replace r0 := cellAt r0 B5 (by omega)
        replace r1 := cellAt r1 B5 (by omega)
        replace r2 := cellAt r2 B5 (by omega)
        replace r3 := cellAt r3 B5 (by omega)
        replace z0 := froAt z0 B5 (by omega)
        replace z1 := froAt z1 B5 (by omega)
        replace z2 := froAt z2 B5 (by omega)
        replace z3 := froAt z3 B5 (by omega)
        replace n0 : w.heap.size < W5.heap.size := ltAt n0 B5
        have m0 : w3.heap.size < W5.heap.size := by rw [hW]; simp <;> omega
        have y0 : W5.cell? ⟨w3.heap.size, 0, none⟩ = some (.int .i64 ip) := by rw [hW]; go_simp
        have y1 : W5.cell? ⟨w3.heap.size, 1, none⟩ = some (.string ⟨#[]⟩) := by rw [hW]; go_simp
        have y2 : W5.cell? ⟨w3.heap.size, 2, none⟩ = some (.string ⟨#[]⟩) := by rw [hW]; go_simp
        have y3 : W5.cell? ⟨w3.heap.size, 3, none⟩ = some (.string ⟨#[]⟩) := by rw [hW]; go_simp
        have q0 : W5.frozen? ⟨w3.heap.size, 0, none⟩ = false := by rw [hW]; go_simp
        have q1 : W5.frozen? ⟨w3.heap.size, 1, none⟩ = false := by rw [hW]; go_simp
        have q2 : W5.frozen? ⟨w3.heap.size, 2, none⟩ = false := by rw [hW]; go_simp
        have q3 : W5.frozen? ⟨w3.heap.size, 3, none⟩ = false := by rw [hW]; go_simp
        clear hW
        have HB5 := Lib.hid (lift HB3.out B5)
        have hqw : ¬ w.heap.size = w3.heap.size := by omega
        have hwq : ¬ w3.heap.size = w.heap.size := fun e => hqw e.symm
        have hlw : w.heap.size ≤ w3.heap.size := HB3.out.size
        clear B5
        refine (Cut_sl r W5 hrl).mono ?_
        rintro e w6 ⟨rfl, hb⟩
        rw [hcut2]
        replace r0 := cellAt r0 hb (by omega)
        replace r1 := cellAt r1 hb (by omega)
        replace r2 := cellAt r2 hb (by omega)
        replace r3 := cellAt r3 hb (by omega)
        replace z0 := froAt z0 hb (by omega)
        replace z1 := froAt z1 hb (by omega)
        replace z2 := froAt z2 hb (by omega)
        replace z3 := froAt z3 hb (by omega)
        replace y0 := cellAt y0 hb (by omega)
        replace y1 := cellAt y1 hb (by omega)
        replace y2 := cellAt y2 hb (by omega)
        replace y3 := cellAt y3 hb (by omega)
        replace q0 := froAt q0 hb (by omega)
        replace q1 := froAt q1 hb (by omega)
        replace q2 := froAt q2 hb (by omega)
        replace q3 := froAt q3 hb (by omega)
        replace n0 : w.heap.size < w6.heap.size := ltAt n0 hb
        replace m0 : w3.heap.size < w6.heap.size := ltAt m0 hb
        have HB6 := Lib.hid (lift HB5.out hb)
        have HWy6 := Lib.hid (show WyC w6 w3.heap.size ip [] [] [] from ⟨y0, y1, y2, y3, q0, q1, q2, q3⟩)
        clear hb
        go_upto_region 7 with fail
        obtain ⟨w7, hw7⟩ : ∃ x, x = (w6.setCell ⟨w3.heap.size, 1, none⟩ (sv r)).setCell ⟨w3.heap.size, 3, none⟩ (sv []) := ⟨_, rfl⟩
        rw [← hw7]
        have HWy7 := Lib.hid (show WyC w7 w3.heap.size ip r [] [] by rw [hw7]; exact (HWy6.out.set1 _).set3 _)
        have hk7 : Keeps (But w6 w3.heap.size) w6 w7 := by rw [hw7]; exact But.trans (But.set w6 w3.heap.size 1 _) (But.set _ w3.heap.size 3 _)
        have HB7 := Lib.hid (But.low HB6.out hk7 hlw)
        replace r0 := cellK r0 hk7 (by omega) hqw
        replace r1 := cellK r1 hk7 (by omega) hqw
        replace r2 := cellK r2 hk7 (by omega) hqw
        replace r3 := cellK r3 hk7 (by omega) hqw
        replace z0 := froK z0 hk7 (by omega) hqw
        replace z1 := froK z1 hk7 (by omega) hqw
        replace z2 := froK z2 hk7 (by omega) hqw
        replace z3 := froK z3 hk7 (by omega) hqw
        replace n0 := Nat.lt_of_lt_of_le n0 hk7.size
        replace m0 := Nat.lt_of_lt_of_le m0 hk7.size
        clear hk7 hw7 y0 y1 y2 y3 q0 q1 q2 q3 HWy6
        have HW := Lib.hid (show splP s = ((ip, r, [], []), kindS r != 0) from HW0.out)
        have y0 := HWy7.out.c0
        have y1 := HWy7.out.c1
        have y2 := HWy7.out.c2
        have y3 := HWy7.out.c3
        have hmr := fun W => May_any r W hrl
        generalize (kindS r != 0) = kb at *
        go_upto_region 8 with fail
        try go_wp2_with fail
        refine wp_region_held_drew (S := fun w' => Keeps (But w7 w.heap.size) w7 w') (by kernel_rfl) (But.below (Below.drew (Below.refl _ _))) (fun hHeld => ?_)
        have r0 : (w7.drew).cell? ⟨w.heap.size, 0, none⟩ = _ := r0
        have r1 : (w7.drew).cell? ⟨w.heap.size, 1, none⟩ = _ := r1
        have r2 : (w7.drew).cell? ⟨w.heap.size, 2, none⟩ = _ := r2
        have r3 : (w7.drew).cell? ⟨w.heap.size, 3, none⟩ = _ := r3
        have z0 : (w7.drew).frozen? ⟨w.heap.size, 0, none⟩ = _ := z0
        have z1 : (w7.drew).frozen? ⟨w.heap.size, 1, none⟩ = _ := z1
        have z2 : (w7.drew).frozen? ⟨w.heap.size, 2, none⟩ = _ := z2
        have z3 : (w7.drew).frozen? ⟨w.heap.size, 3, none⟩ = _ := z3
        have nv : w.heap.size < (w7.drew).heap.size := n0
        have HBv : Below w.heap.size w (w7.drew) := Below.drew HB7.out
        generalize w7.drew = v0 at *
        refine tY (i := 0) (v := ?_) rfl ?_ hHeld ?_; rotate_left 1; focus (intro w' hSw; have hCell := fun (b o : Nat) (h : b < w7.heap.size) (h2 : ¬ b = w.heap.size) => World.cell?_of_block (a := ⟨b, o, none⟩) (hSw.block b ⟨h, h2⟩); clear hSw; go_simp; try with_reducible rfl)
        (try simp only [Act.put, zn1, zn2, zn3])
        refine tY (i := 1) (v := ?_) rfl ?_ hHeld ?_; rotate_left 1; focus (intro w' hSw; clear hSw; go_simp; try with_reducible rfl)
        (try simp only [Act.put, zn1, zn2, zn3])
        refine ready_one (i := 2) rfl (by kernel_rfl) (fun K hK => ?_)
        go_simp
        refine (hmr _).mono ?_
        rintro e y2' ⟨rfl, hb⟩
        replace r0 := cellAt r0 hb nv
        replace r1 := cellAt r1 hb nv
        replace r2 := cellAt r2 hb nv
        replace r3 := cellAt r3 hb nv
        replace z0 := froAt z0 hb nv
        replace z1 := froAt z1 hb nv
        replace z2 := froAt z2 hb nv
        replace z3 := froAt z3 hb nv
        replace nv := Nat.lt_of_lt_of_le nv hb.size
        replace HBv := lift HBv hb
        refine hK.out _ _ ?_ (fun hHeld2 => ?_)
        · (try dsimp only); exact But.two hHeld hb
        clear hK K hHeld hb; have hHeld := hHeld2; clear hHeld2; (try simp only [Act.put, zn1, zn2, zn3])
        refine ready_one (i := 3) rfl (by kernel_rfl) (fun K hK => ?_)
        go_simp
        refine hK.out _ _ ?_ (fun hHeld2 => ?_)
        · (try dsimp only); repeat (first | (with_reducible exact hHeld) | (with_reducible refine But.trans ?_ (But.set _ _ _ _)) | (with_reducible refine But.two ?_ (below_new _ _)))
        clear hK K hHeld; have hHeld := hHeld2; clear hHeld2; (try simp only [Act.put, zn1, zn2, zn3])
        refine tY (i := 4) (v := ?_) rfl ?_ hHeld ?_; rotate_left 1; focus (intro w' hSw; clear hSw; go_simp; try with_reducible rfl)
        (try simp only [Act.put, zn1, zn2, zn3])
        refine wpAnyH_done (by kernel_rfl) ?_ _
        go_wp2_with fail
        have hB0 := HBv
        refine bodyPost_ret (v := phB ((ip, r, [], []), kb)) (by simp only [results, Tryz.results47]; go_simp) rfl ⟨by rw [HW.out] <;> rfl, ?_⟩
        repeat (first | (with_reducible exact hB0) | (with_reducible refine Below.drew ?_) | (with_reducible refine Below.alloc ?_ ?zs _; case zs => first | omega | (simp <;> omega)) | (with_reducible refine Below.setCell ?_ ?zs _; case zs => first | omega | (simp <;> omega)))
      | some q2 =>
        obtain ⟨h, f⟩ := q2
        rw [h2] at hsp
        simp only at hsp
        have HW0 := Lib.hid hsp
        have hcut2 := slCut_some h2
        have hhl : h.length ≤ 140737488355328 := by
          have h3 := congrArg List.length (cutR_some.1 h2).1
          rw [List.length_append, List.length_cons] at h3
          omega
        clear hsp
        go_enter Tryz.func47, Tryz.ntmps47
        go_wp2_with fail
        first | (refine wp_named ?_; intro W1 hW) | (refine calls_named ?_; intro W1 hW) | (refine exit_named ?_; intro W1 hW)
        have B1 : Below w.heap.size w W1 := by rw [hW]; exact (by repeat (first | exact Below.refl _ _ | assumption | refine Below.alloc ?_ (by first | omega | (simp <;> omega)) _ | refine Below.setCell ?_ (by first | omega | (simp <;> omega)) _ | refine Below.drew ?_))
        have n0 : w.heap.size < W1.heap.size := by rw [hW]; simp <;> omega
        have r0 : W1.cell? ⟨w.heap.size, 0, none⟩ = some (.int .i64 0) := by rw [hW]; go_simp
        have r1 : W1.cell? ⟨w.heap.size, 1, none⟩ = some (.string ⟨#[]⟩) := by rw [hW]; go_simp
        have r2 : W1.cell? ⟨w.heap.size, 2, none⟩ = some (.string ⟨#[]⟩) := by rw [hW]; go_simp
        have r3 : W1.cell? ⟨w.heap.size, 3, none⟩ = some (.string ⟨#[]⟩) := by rw [hW]; go_simp
        have z0 : W1.frozen? ⟨w.heap.size, 0, none⟩ = false := by rw [hW]; go_simp
        have z1 : W1.frozen? ⟨w.heap.size, 1, none⟩ = false := by rw [hW]; go_simp
        have z2 : W1.frozen? ⟨w.heap.size, 2, none⟩ = false := by rw [hW]; go_simp
        have z3 : W1.frozen? ⟨w.heap.size, 3, none⟩ = false := by rw [hW]; go_simp
        clear hW
        have HB1 := Lib.hid B1
        clear B1
        refine (Cut_sl s W1 hl).mono ?_
        rintro e w2 ⟨rfl, hb⟩
        rw [hcut]
        have HB2 := Lib.hid (lift HB1.out hb)
        replace r0 := cellAt r0 hb (by omega)
        replace r1 := cellAt r1 hb (by omega)
        replace r2 := cellAt r2 hb (by omega)
        replace r3 := cellAt r3 hb (by omega)
        replace z0 := froAt z0 hb (by omega)
        replace z1 := froAt z1 hb (by omega)
        replace z2 := froAt z2 hb (by omega)
        replace z3 := froAt z3 hb (by omega)
        replace n0 : w.heap.size < w2.heap.size := ltAt n0 hb
        clear hb
        go_wp2_with fail
        refine (Places_any w2).mono ?_
        rintro e w3 ⟨A, c, rfl, hcc, hrd, hb⟩
        have HB3 := Lib.hid (lift HB2.out hb)
        replace r0 := cellAt r0 hb (by omega)
        replace r1 := cellAt r1 hb (by omega)
        replace r2 := cellAt r2 hb (by omega)
        replace r3 := cellAt r3 hb (by omega)
        replace z0 := froAt z0 hb (by omega)
        replace z1 := froAt z1 hb (by omega)
        replace z2 := froAt z2 hb (by omega)
        replace z3 := froAt z3 hb (by omega)
        replace n0 : w.heap.size < w3.heap.size := ltAt n0 hb
        clear hb
        go_wp2_with fail
        refine (Index_places A c p w3 hrd).mono ?_
        rintro e w4 ⟨rfl, rfl⟩
        clear hrd
        have hn3 : w.heap.size < w3.heap.size := n0
        generalize idxP p = ip at *
        go_wp2_with fail
        first | (refine wp_named ?_; intro W5 hW) | (refine calls_named ?_; intro W5 hW) | (refine exit_named ?_; intro W5 hW)
        have B5 : Below w3.heap.size w3 W5 := by rw [hW]; exact (by repeat (first | exact Below.refl _ _ | assumption | refine Below.alloc ?_ (by first | omega | (simp <;> omega)) _ | refine Below.setCell ?_ (by first | omega | (simp <;> omega)) _ | refine Below.drew ?_))
        replace r0 := cellAt r0 B5 (by omega)
        replace r1 := cellAt r1 B5 (by omega)
        replace r2 := cellAt r2 B5 (by omega)
        replace r3 := cellAt r3 B5 (by omega)
        replace z0 := froAt z0 B5 (by omega)
        replace z1 := froAt z1 B5 (by omega)
        replace z2 := froAt z2 B5 (by omega)
        replace z3 := froAt z3 B5 (by omega)
        replace n0 : w.heap.size < W5.heap.size := ltAt n0 B5
        have m0 : w3.heap.size < W5.heap.size := by rw [hW]; simp <;> omega
        have y0 : W5.cell? ⟨w3.heap.size, 0, none⟩ = some (.int .i64 ip) := by rw [hW]; go_simp
        have y1 : W5.cell? ⟨w3.heap.size, 1, none⟩ = some (.string ⟨#[]⟩) := by rw [hW]; go_simp
        have y2 : W5.cell? ⟨w3.heap.size, 2, none⟩ = some (.string ⟨#[]⟩) := by rw [hW]; go_simp
        have y3 : W5.cell? ⟨w3.heap.size, 3, none⟩ = some (.string ⟨#[]⟩) := by rw [hW]; go_simp
        have q0 : W5.frozen? ⟨w3.heap.size, 0, none⟩ = false := by rw [hW]; go_simp
        have q1 : W5.frozen? ⟨w3.heap.size, 1, none⟩ = false := by rw [hW]; go_simp
        have q2 : W5.frozen? ⟨w3.heap.size, 2, none⟩ = false := by rw [hW]; go_simp
        have q3 : W5.frozen? ⟨w3.heap.size, 3, none⟩ = false := by rw [hW]; go_simp
        clear hW
        have HB5 := Lib.hid (lift HB3.out B5)
        have hqw : ¬ w.heap.size = w3.heap.size := by omega
        have hwq : ¬ w3.heap.size = w.heap.size := fun e => hqw e.symm
        have hlw : w.heap.size ≤ w3.heap.size := HB3.out.size
        clear B5
        refine (Cut_sl r W5 hrl).mono ?_
        rintro e w6 ⟨rfl, hb⟩
        rw [hcut2]
        replace r0 := cellAt r0 hb (by omega)
        replace r1 := cellAt r1 hb (by omega)
        replace r2 := cellAt r2 hb (by omega)
        replace r3 := cellAt r3 hb (by omega)
        replace z0 := froAt z0 hb (by omega)
        replace z1 := froAt z1 hb (by omega)
        replace z2 := froAt z2 hb (by omega)
        replace z3 := froAt z3 hb (by omega)
        replace y0 := cellAt y0 hb (by omega)
        replace y1 := cellAt y1 hb (by omega)
        replace y2 := cellAt y2 hb (by omega)
        replace y3 := cellAt y3 hb (by omega)
        replace q0 := froAt q0 hb (by omega)
        replace q1 := froAt q1 hb (by omega)
        replace q2 := froAt q2 hb (by omega)
        replace q3 := froAt q3 hb (by omega)
        replace n0 : w.heap.size < w6.heap.size := ltAt n0 hb
        replace m0 : w3.heap.size < w6.heap.size := ltAt m0 hb
        have HB6 := Lib.hid (lift HB5.out hb)
        have HWy6 := Lib.hid (show WyC w6 w3.heap.size ip [] [] [] from ⟨y0, y1, y2, y3, q0, q1, q2, q3⟩)
        clear hb
        go_upto_region 7 with fail
        obtain ⟨w7, hw7⟩ : ∃ x, x = (w6.setCell ⟨w3.heap.size, 1, none⟩ (sv h)).setCell ⟨w3.heap.size, 3, none⟩ (sv f) := ⟨_, rfl⟩
        rw [← hw7]
        have HWy7 := Lib.hid (show WyC w7 w3.heap.size ip h [] f by rw [hw7]; exact (HWy6.out.set1 _).set3 _)
        have hk7 : Keeps (But w6 w3.heap.size) w6 w7 := by rw [hw7]; exact But.trans (But.set w6 w3.heap.size 1 _) (But.set _ w3.heap.size 3 _)
        have HB7 := Lib.hid (But.low HB6.out hk7 hlw)
        replace r0 := cellK r0 hk7 (by omega) hqw
        replace r1 := cellK r1 hk7 (by omega) hqw
        replace r2 := cellK r2 hk7 (by omega) hqw
        replace r3 := cellK r3 hk7 (by omega) hqw
        replace z0 := froK z0 hk7 (by omega) hqw
        replace z1 := froK z1 hk7 (by omega) hqw
        replace z2 := froK z2 hk7 (by omega) hqw
        replace z3 := froK z3 hk7 (by omega) hqw
        replace n0 := Nat.lt_of_lt_of_le n0 hk7.size
        replace m0 := Nat.lt_of_lt_of_le m0 hk7.size
        clear hk7 hw7 y0 y1 y2 y3 q0 q1 q2 q3 HWy6
        go_wp2_with fail
        first | (refine wp_named ?_; intro W8 hW) | (refine calls_named ?_; intro W8 hW) | (refine exit_named ?_; intro W8 hW)
        have B8 : Below w7.heap.size w7 W8 := by rw [hW]; exact (by repeat (first | exact Below.refl _ _ | assumption | refine Below.alloc ?_ (by first | omega | (simp <;> omega)) _ | refine Below.setCell ?_ (by first | omega | (simp <;> omega)) _ | refine Below.drew ?_))
        replace r0 := cellAt r0 B8 (by omega)
        replace r1 := cellAt r1 B8 (by omega)
        replace r2 := cellAt r2 B8 (by omega)
        replace r3 := cellAt r3 B8 (by omega)
        replace z0 := froAt z0 B8 (by omega)
        replace z1 := froAt z1 B8 (by omega)
        replace z2 := froAt z2 B8 (by omega)
        replace z3 := froAt z3 B8 (by omega)
        replace HWy7 := Lib.hid (HWy7.out.on B8)
        replace n0 : w.heap.size < W8.heap.size := ltAt n0 B8
        replace m0 : w3.heap.size < W8.heap.size := ltAt m0 B8
        have m8 : w7.heap.size < W8.heap.size := by rw [hW]; simp <;> omega
        have e0 : W8.cell? ⟨w7.heap.size, 0, none⟩ = some (sv dropsS) := by rw [hW]; go_simp; rfl
        have e1 : W8.cell? ⟨w7.heap.size, 1, none⟩ = some (sv wantsS) := by rw [hW]; go_simp; rfl
        have e2 : W8.cell? ⟨w7.heap.size, 2, none⟩ = some (sv reqsS) := by rw [hW]; go_simp; rfl
        clear hW
        have HE : Hid (∀ j, j < 3 → W8.cell? ⟨w7.heap.size, j, none⟩ = some (sv (endE j))) := Lib.hid fun j hj => by
          have : j = 0 ∨ j = 1 ∨ j = 2 := by omega
          rcases this with rfl | rfl | rfl
          · exact e0
          · exact e1
          · exact e2
        have HB8 := Lib.hid (lift HB7.out B8)
        have hm88 : w7.heap.size < W8.heap.size := m8
        clear B8 e0 e1 e2
        go_loopw [50] (fun i wr => ∃ k : Nat, k ≤ 3 ∧ i = .int .i64 k ∧ Hid (∀ j, j < k → okU (endsW h (endE j)) = none) ∧ Hid (Below W8.heap.size W8 wr)) (fun i _ => 3 - (intOf i).toNat)
        case atStart => exact ⟨0, by omega, rfl, fun j h => absurd h (by omega), Below.refl _ _⟩
        case round =>
          obtain ⟨k, hk, rfl, HNo, HB⟩ := hrel
          obtain ⟨w9, rfl⟩ : ∃ wo : World, wo = wr := ⟨_, rfl⟩
          have hb9 := HB.out
          replace r0 := cellAt r0 hb9 (by omega)
          replace r1 := cellAt r1 hb9 (by omega)
          replace r2 := cellAt r2 hb9 (by omega)
          replace r3 := cellAt r3 hb9 (by omega)
          replace z0 := froAt z0 hb9 (by omega)
          replace z1 := froAt z1 hb9 (by omega)
          replace z2 := froAt z2 hb9 (by omega)
          replace z3 := froAt z3 hb9 (by omega)
          replace HWy7 := Lib.hid (HWy7.out.on hb9)
          replace n0 : w.heap.size < w9.heap.size := ltAt n0 hb9
          replace m0 : w3.heap.size < w9.heap.size := ltAt m0 hb9
          replace m8 : w7.heap.size < w9.heap.size := ltAt m8 hb9
          have HB9 := Lib.hid (lift HB8.out HB.out)
          by_cases hlt : k < 3
          · have eC := cellAt (HE.out k hlt) hb9 hm88
            have hz9 : w7.heap.size < w9.heap.size := m8
            have hel : (endE k).length ≤ 9 := by
              have : k = 0 ∨ k = 1 ∨ k = 2 := by omega
              rcases this with rfl | rfl | rfl <;> decide
            have i1 : (0 : Int) ≤ (k : Int) := by omega
            have i2 : (k : Int) < 3 := by omega
            have hdk : decide ((k : Int) < 3) = true := by rw [decide_eq_true_eq]; omega
            have hok := cutSx_ok h (endE k)
            have hle := cutSx_le h (endE k)
            have hcs := fun W => CutSuffix_any h (endE k) W hhl
            clear hb9
            cases he : okU (endsW h (endE k)) with
            | none =>
              rw [he] at hok
              have HNo2 : Hid (∀ j, j < k + 1 → okU (endsW h (endE j)) = none) := Lib.hid fun j hj => by
                rcases Nat.lt_or_eq_of_le (Nat.le_of_lt_succ hj) with h9 | h9
                · exact HNo.out j h9
                · rw [h9]; exact he
              generalize cutSx h (endE k) = q at *
              obtain ⟨u', b'⟩ := q
              simp only at hok hle
              generalize hEk : endE k = E at *
              clear he hEk
              go_wp2_with fail
              refine (hcs w9).mono ?_
              rintro e w10 ⟨rfl, rfl⟩
              unfold pairV
              simp only
              cases b'
              · go_wp2_with fail
                go_roundw
                case rel => exact ⟨k + 1, by omega, by go_num, HNo2, HB⟩
                case measure => simp [intOf]; omega
              · rw [Bool.true_and] at hok
                go_wp2_with fail
                refine (May_any u' w9 (by omega)).mono ?_
                rintro e w10 ⟨rfl, hb⟩
                rw [hok]
                have HBn := Lib.hid (lift HB.out hb)
                go_wp2_with fail
                go_roundw
                case rel => exact ⟨k + 1, by omega, by go_num, HNo2, HBn⟩
                case measure => simp [intOf]; omega
            | some u =>
              obtain ⟨hcu, hku⟩ := cutSx_some he
              have hkb : (kindS u != 0) = true := by simpa using hku
              have HW := Lib.hid (show splP s = ((ip, u, endE k, f), true) by rw [HW0.out, foldS_at hlt HNo.out he]; rfl)
              rw [hcu] at hcs hle
              simp only at hle
              generalize hEk : endE k = E at *
              clear he hEk hok hcu
              have y0 := HWy7.out.c0
              have y1 := HWy7.out.c1
              have y2 := HWy7.out.c2
              have y3 := HWy7.out.c3
              have q1 := HWy7.out.f1
              have q2 := HWy7.out.f2
              go_wp2_with fail
              refine (hcs w9).mono ?_
              rintro e w10 ⟨rfl, rfl⟩
              unfold pairV
              simp only
              go_wp2_with fail
              refine (May_any u w9 (by omega)).mono ?_
              rintro e w10 ⟨rfl, hb⟩
              rw [hkb]
              replace r0 := cellAt r0 hb (by omega)
              replace r1 := cellAt r1 hb (by omega)
              replace r2 := cellAt r2 hb (by omega)
              replace r3 := cellAt r3 hb (by omega)
              replace z0 := froAt z0 hb (by omega)
              replace z1 := froAt z1 hb (by omega)
              replace z2 := froAt z2 hb (by omega)
              replace z3 := froAt z3 hb (by omega)
              replace y0 := cellAt y0 hb (by omega)
              replace y1 := cellAt y1 hb (by omega)
              replace y2 := cellAt y2 hb (by omega)
              replace y3 := cellAt y3 hb (by omega)
              replace q1 := froAt q1 hb (by omega)
              replace q2 := froAt q2 hb (by omega)
              replace HWy7 := Lib.hid (HWy7.out.on hb)
              replace n0 : w.heap.size < w10.heap.size := ltAt n0 hb
              replace m0 : w3.heap.size < w10.heap.size := ltAt m0 hb
              replace m8 : w7.heap.size < w10.heap.size := ltAt m8 hb
              have HB10 := Lib.hid (lift HB9.out hb)
              clear hb HWy7 eC
              go_wp2_with fail
              have hB0 := HB10.out
              refine bodyPost_ret (v := phB ((ip, u, E, f), true)) (by simp only [results, Tryz.results47]; go_simp) rfl ⟨by rw [HW.out] <;> rfl, ?_⟩
              repeat (first | (with_reducible exact hB0) | (with_reducible refine Below.drew ?_) | (with_reducible refine Below.alloc ?_ ?zs _; case zs => first | omega | (simp <;> omega)) | (with_reducible refine Below.setCell ?_ ?zs _; case zs => first | omega | (simp <;> omega)))
          · obtain rfl : k = 3 := by omega
            have HW := Lib.hid (show splP s = (ph0, false) by rw [HW0.out, foldS_no HNo.out])
            go_wp2_with fail
            have hB0 := HB9.out
            refine bodyPost_ret (v := .tuple #[.agg #[.int .i64 0, sv [], sv [], sv []], .bool false]) (by simp only [results, Tryz.results47]; go_simp) rfl ⟨by rw [HW.out] <;> rfl, ?_⟩
            repeat (first | (with_reducible exact hB0) | (with_reducible refine Below.drew ?_) | (with_reducible refine Below.alloc ?_ ?zs _; case zs => first | omega | (simp <;> omega)) | (with_reducible refine Below.setCell ?_ ?zs _; case zs => first | omega | (simp <;> omega)))
end Od
end Go.Proofs.YtgfdcmlmgeoimaaGreat
end
