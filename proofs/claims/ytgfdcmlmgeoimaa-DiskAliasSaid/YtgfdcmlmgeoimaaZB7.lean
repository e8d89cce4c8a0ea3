/- My texts, joined for the claim: DMayR DSplitP. -/
import Derived.Test.YtgfdcmlmgeoimaaZB6

section
/- May of the reference; of the program. (bel2) -/
namespace Go.Proofs.Ytgfdcmlmgeoimaa
open Go.RowKit Go.Sort Go.Maps
set_option linter.unusedSimpArgs false
namespace Od
theorem setF_put (D : List Str) (s : Str) : (fun y => if y = s then some (Value.bool true) else setF D y) = setF (D ++ [s]) := by
  funext y
  unfold setF
  by_cases e : y = s
  · subst e; simp
  · simp [e]
theorem setF_has (D : List Str) (s : Str) : (setF D s).getD (.bool false) = .bool (decide (s ∈ D)) := by
  unfold setF
  by_cases h : s ∈ D <;> simp [h]
theorem okS_of {s : Str} (h : s.length ≤ 140737488351232) : okS s := by unfold okS maxLen; omega
theorem map_made (w : World) : MapIs strK (w.alloc (.map #[] 0)) w.heap.size 0 (setF []) := by
  have h := MapIs.made strK w
  rwa [show (fun _ => none : Str → Option Value) = setF [] from by funext s; simp [setF]] at h
/-- What has been looked at. -/
structure Seen (fs : List Fl) (k : Nat) : Prop where
  may : ∀ j (hj : j < fs.length), j < k → mayF fs[j] = true
  nd : ((fs.take k).map (·.1)).Nodup
theorem Seen.start (fs : List Fl) : Seen fs 0 := ⟨fun _ _ h => absurd h (by omega), by simp⟩
theorem Seen.next {fs : List Fl} {k : Nat} (h : Seen fs k) (hk : k < fs.length) (hm : mayF fs[k] = true) (hn : fs[k].1 ∉ (fs.take k).map (·.1)) : Seen fs (k + 1) :=
  ⟨fun j hj h1 => by
    rcases Nat.lt_or_eq_of_le (Nat.le_of_lt_succ h1) with h2 | h2
    · exact h.may j hj h2
    · subst h2; exact hm, by
    rw [List.take_succ_eq_append_getElem hk, List.map_append, List.nodup_append]
    refine ⟨h.nd, by simp, fun a ha b hb e => hn ?_⟩
    rw [List.map_cons, List.map_nil, List.mem_singleton] at hb
    rw [← hb, ← e]; exact ha⟩
theorem Seen.bad {fs : List Fl} {k : Nat} (hk : k < fs.length) (h : mayF fs[k] = false ∨ fs[k].1 ∈ (fs.take k).map (·.1)) : mayFs fs = false := by
  cases hm : mayFs fs
  · rfl
  · exfalso
    obtain ⟨_, h2, h3⟩ := mayFs_iff.1 hm
    rcases h with h | h
    · rw [h2 _ (List.getElem_mem hk)] at h; cases h
    · have e : fs = fs.take k ++ (fs[k] :: fs.drop (k + 1)) := by rw [List.getElem_cons_drop, List.take_append_drop]
      have h4 : ((fs.take k ++ (fs[k] :: fs.drop (k + 1))).map (·.1)).Nodup := by rw [← e]; exact h3
      rw [List.map_append, List.map_cons, List.nodup_append] at h4
      exact h4.2.2 _ h _ (.head _) rfl
theorem Seen.all {fs : List Fl} (h : Seen fs fs.length) : mayFs fs = decide (fs.length ≤ 120) := by
  rw [Bool.eq_iff_iff, mayFs_iff, decide_eq_true_eq]
  have h2 := h.nd
  rw [List.take_length] at h2
  exact ⟨fun a => a.1, fun a => ⟨a, fun f hf => by obtain ⟨j, hj, rfl⟩ := List.getElem_of_mem hf; exact h.may j hj hj, h2⟩⟩
theorem path_take {fs : List Fl} {k : Nat} (hk : k < fs.length) : (fs.take (k + 1)).map (·.1) = (fs.take k).map (·.1) ++ [fs[k].1] := by rw [List.take_succ_eq_append_getElem hk, List.map_append]; rfl
end Od
end Go.Proofs.Ytgfdcmlmgeoimaa
end

section
/- The walk of disk.split. (bel2) -/
namespace Go.Proofs.Ytgfdcmlmgeoimaa
open Go.RowKit Go.Sort
set_option linter.unusedSimpArgs false
namespace Od
abbrev phV (x : Ph) : Value := .agg #[.int .i64 x.1, sv x.2.1, sv x.2.2.1, sv x.2.2.2]
abbrev phB (x : Ph × Bool) : Value := .tuple #[phV x.1, .bool x.2]
theorem WyC.set1 {w : World} {b : Nat} {k : Int} {p u o : Str} (h : WyC w b k p u o) (p' : Str) : WyC (w.setCell ⟨b, 1, none⟩ (sv p')) b k p' u o :=
  ⟨(World.cell?_setCell_other _ _ _ _ (adr_ne (by decide))).trans h.c0, World.cell?_setCell_same _ _ _ h.c1, (World.cell?_setCell_other _ _ _ _ (adr_ne (by decide))).trans h.c2, (World.cell?_setCell_other _ _ _ _ (adr_ne (by decide))).trans h.c3,
   by rw [World.frozen?_setCell]; exact h.f0, by rw [World.frozen?_setCell]; exact h.f1, by rw [World.frozen?_setCell]; exact h.f2, by rw [World.frozen?_setCell]; exact h.f3⟩
theorem idx_places (p : Str) : Lib.idxOfS (placesL.map fun s => (⟨s.toArray⟩ : ByteArray)) ⟨p.toArray⟩ = idxP p := by
  unfold idxP
  by_cases h1 : p = etcS
  · subst h1; decide +kernel
  · rw [if_neg h1]
    by_cases h2 : p = runS
    · subst h2; decide +kernel
    · rw [if_neg h2]
      by_cases h3 : p = libS
      · subst h3; decide +kernel
      · rw [if_neg h3]
        refine Lib.idxOfS_miss (placesL.map fun s => (⟨s.toArray⟩ : ByteArray)) 3 ⟨p.toArray⟩ fun j hj e => ?_
        have : j = 0 ∨ j = 1 ∨ j = 2 := by omega
        rcases this with rfl | rfl | rfl
        · injection e with e; exact h1 (by simpa using e.symm)
        · injection e with e; exact h2 (by simpa using e.symm)
        · injection e with e; exact h3 (by simpa using e.symm)
theorem Index_places (A : Option Addr) (c : Nat) (p : Str) (w : World) (hr : Rd w w.heap.size 1 A placesL.length (svs placesL)) : Calls Try.prog 33 #[.slice A placesL.length c, sv p] w fun e w' => e = .returned (.int .i64 (idxP p)) ∧ w = w' := by
  obtain ⟨b, o, rfl, hb, hc⟩ := hr.open (by decide)
  refine (Try.slices_Index_string b o placesL.length c (placesL.map fun s => ⟨s.toArray⟩) ⟨p.toArray⟩ w (by simp) (by decide) (fun j hj => ?_)).mono ?_
  · have hj' : j < placesL.length := by simpa using hj
    rw [hc j (by omega)]
    simp [svs, hj']
  · rintro e w' ⟨rfl, rfl⟩
    exact ⟨by rw [List.take_of_length_le (by simp), idx_places], rfl⟩
/-- strings.CutSuffix. -/
def cutSx (s e : Str) : Str × Bool := (Lib.trimSuffix s e, Lib.hasSuffix s e)
theorem CutSuffix_any (s e : Str) (w : World) (hl : s.length ≤ 140737488355328) : Calls Try.prog 37 #[sv s, sv e] w fun en w' => en = .returned (pairV (cutSx s e)) ∧ w = w' :=
  (Try.strings_CutSuffix ⟨s.toArray⟩ ⟨e.toArray⟩ w (by show s.length ≤ _; omega)).mono fun _ _ ⟨h1, h2⟩ => ⟨h1, h2.symm⟩
theorem cutSx_ends {s e u : Str} (h : endsW s e = some u) : cutSx s e = (u, true) := by
  obtain ⟨h1, _⟩ := endsW_some.1 h
  have hs : Lib.hasSuffix s e = true := by
    unfold Lib.hasSuffix
    rw [List.isSuffixOf_iff_suffix]
    exact ⟨u, h1.symm⟩
  unfold cutSx Lib.trimSuffix
  rw [hs, if_pos rfl, h1]
  simp
theorem cutSx_none {s e : Str} (h : endsW s e = none) : (cutSx s e).2 = false ∨ (cutSx s e).1 = [] := by
  cases hs : Lib.hasSuffix s e
  · left; exact hs
  · right
    have h2 := hs
    unfold Lib.hasSuffix at h2
    rw [List.isSuffixOf_iff_suffix] at h2
    obtain ⟨u, hu⟩ := h2
    unfold cutSx Lib.trimSuffix
    rw [hs]
    simp only [if_true]
    rw [← hu]
    by_cases h0 : u = []
    · subst h0; simp
    · rw [endsW_some.2 ⟨hu.symm, h0⟩] at h; cases h
theorem cutSx_le (s e : Str) : (cutSx s e).1.length ≤ s.length := by
  unfold cutSx Lib.trimSuffix
  split <;> simp
/-- Whether a folder's end fits. -/
theorem cutSx_ok (s e : Str) : ((cutSx s e).2 && kindS (cutSx s e).1 != 0) = (okU (endsW s e)).isSome := by
  cases h : endsW s e with
  | some u =>
    rw [cutSx_ends h]
    unfold okU
    by_cases hk : kindS u = 0
    · simp [hk]
    · simp [hk]
  | none =>
    rcases cutSx_none h with h1 | h1
    · rw [h1]; rfl
    · rw [h1, kindS_nil]; simp [okU]
theorem cutSx_some {s e u : Str} (h : okU (endsW s e) = some u) : cutSx s e = (u, true) ∧ kindS u ≠ 0 := ⟨cutSx_ends (okU_some h).1, (okU_some h).2⟩
theorem foldS_at {h u : Str} {k : Nat} (hk : k < 3) (hn : ∀ j, j < k → okU (endsW h (endE j)) = none) (hs : okU (endsW h (endE k)) = some u) : foldS h = some (k + 1, u) := by
  have hf : foldS h = match okU (endsW h (endE 0)) with | some u => some (1, u) | none => match okU (endsW h (endE 1)) with | some u => some (2, u) | none => (okU (endsW h (endE 2))).map fun u => (3, u) := rfl
  rw [hf]
  have : k = 0 ∨ k = 1 ∨ k = 2 := by omega
  rcases this with rfl | rfl | rfl
  · rw [hs]
  · rw [hn 0 (by omega), hs]
  · rw [hn 0 (by omega), hn 1 (by omega), hs]; rfl
theorem foldS_no {h : Str} (hn : ∀ j, j < 3 → okU (endsW h (endE j)) = none) : foldS h = none := by
  have hf : foldS h = match okU (endsW h (endE 0)) with | some u => some (1, u) | none => match okU (endsW h (endE 1)) with | some u => some (2, u) | none => (okU (endsW h (endE 2))).map fun u => (3, u) := rfl
  rw [hf, hn 0 (by omega), hn 1 (by omega), hn 2 (by omega)]
  rfl
end Od
end Go.Proofs.Ytgfdcmlmgeoimaa
end
