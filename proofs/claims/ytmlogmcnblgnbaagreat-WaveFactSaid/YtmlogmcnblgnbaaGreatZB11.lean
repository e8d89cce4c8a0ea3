/- My texts, joined for the claim: WLaws WRunM WDefs WFactM GMap2 WFst GrowS QConcat. -/
import Derived.Test.YtmlogmcnblgnbaaGreatZB10
import Derived.Test.YtmlogmcnblgnbaaGreatZB3
import Derived.Test.YtmlogmcnblgnbaaGreatZB1
import Derived.Test.YtmlogmcnblgnbaaGreatZB8
import Derived.Test.YtmlogmcnblgnbaaGreatZB9
import Derived.Shelf.Spec.SlicesGrow
import Derived.Ground.Names8Prog
import Derived.Test.YtmlogmcnblgnbaaGreatProg
import Derived.Test.YtmlogmcnblgnbaaGreatZB4

section
/- The rest of wave's plain law: what is needed, more that fail, one left out, some steps now, others that fail, ends alone. No program. -/
namespace Go.Proofs.YtmlogmcnblgnbaaGreat
set_option linter.unusedSimpArgs false
namespace Od
/-! What is needed (WaveNeeds) -/
def needB (es : List Ed) (u : Str) (y : Jb) : Bool := (hasE es u y.1 1 || hasE es u y.1 4) && (Ah es y.1 u && (startsB y && y.2.2.2 != 1))
theorem factJ_unit (es : List Ed) (fails : List Str) (q : List Jb) (j : Jb) : (factJ es fails q j).1 = j.1 := by unfold factJ; split <;> rfl
theorem factJ_over (es : List Ed) (fails : List Str) (q : List Jb) (j : Jb) : (factJ es fails q j).2.2.1 = 3 := by
  unfold factJ; split
  · rename_i h; exact h
  · rfl
theorem factJ_end {es : List Ed} (hi : isB es = true) {fails : List Str} {q : List Jb} (hd : DQ q) {j : Jb} (hj : j ∈ q) : (factJ es fails q j).2.2.2 = endU es fails q j.1 := by
  unfold factJ; split
  · rename_i h; rw [endU_eq hi hd hj]; unfold endF1; rw [if_pos h]
  · rfl
theorem factJ_starts (es : List Ed) (fails : List Str) (q : List Jb) (j : Jb) : startsB (factJ es fails q j) = startsB j := by
  unfold factJ startsB; split
  · rfl
  · simp only; split
    · rename_i h; rw [h]; rfl
    · rfl
theorem fact_len (es : List Ed) (fails : List Str) (q : List Jb) : (factQ es fails q).length = q.length := by unfold factQ; rw [List.length_map]
theorem fact_at {es : List Ed} {fails : List Str} {q : List Jb} {i : Nat} (h : i < q.length) : (factQ es fails q)[i]'(by rw [fact_len]; exact h) = factJ es fails q q[i] := by unfold factQ; rw [List.getElem_map]
theorem lacks_need {es : List Ed} (hi : isB es = true) {fails : List Str} {q : List Jb} (hd : DQ q) (u : Str) : lacksF es (endU es fails q) q u = (factQ es fails q).any (needB es u) := by
  rw [Bool.eq_iff_iff]
  unfold lacksF
  rw [List.any_eq_true, List.any_eq_true]
  constructor
  · rintro ⟨o, h1, h2⟩
    obtain ⟨h3, h4⟩ := mem_needsU.1 h1
    unfold lackF at h2
    cases hj : jobOf q o with
    | none => rw [hj] at h2; cases h2
    | some j =>
      rw [hj] at h2
      obtain ⟨h5, rfl⟩ := jobOf_mem hj
      refine ⟨factJ es fails q j, List.mem_map.2 ⟨j, h5, rfl⟩, ?_⟩
      unfold needB
      rw [factJ_unit, factJ_starts, factJ_end hi hd h5, h3, h4]
      simpa using h2
  · rintro ⟨x, h1, h2⟩
    obtain ⟨j, h5, rfl⟩ := List.mem_map.1 h1
    unfold needB at h2
    rw [factJ_unit, factJ_starts, factJ_end hi hd h5, Bool.and_eq_true, Bool.and_eq_true] at h2
    refine ⟨j.1, mem_needsU.2 ⟨h2.1, h2.2.1⟩, ?_⟩
    unfold lackF
    rw [jobOf_of hd h5]
    exact h2.2.2
theorem fact_needs {ns : List Nd} {es : List Ed} {fails : List Str} {q : List Jb} (hs : soundQ ns es q = true) {j : Jb} (hj : j ∈ q) (h3 : j.2.2.1 ≠ 3) (ht : (factJ es fails q j).2.1 = 1) (hr : runsB q j.1 = false) :
    (factQ es fails q).any (needB es j.1) = ((factJ es fails q j).2.2.2 == 3) := by
  obtain ⟨hm, hi⟩ := sound_ends hs
  have hd := mayQ.dq hm
  rw [← lacks_need hi hd, factJ_end hi hd hj, endU_eq hi hd hj]
  have hst := may_state ((mayQ_iff.1 hm).2.1 j hj)
  rw [runsB_at hd hj] at hr
  have h1 : j.2.2.1 = 1 := by
    rcases hst with h | h | h
    · exact h
    · rw [h] at hr; cases hr
    · exact absurd h h3
  have hty : j.2.1 = 1 ∨ j.2.1 = 3 := by
    unfold factJ at ht
    rw [if_neg h3] at ht
    simp only at ht
    split at ht
    · exact .inr (by assumption)
    · exact .inl ht
  unfold endF1
  rw [if_neg h3, if_neg (by omega)]
  have hsb : startsB j = true := by unfold startsB; rcases hty with h | h <;> rw [h] <;> rfl
  have hw : (j.2.1 == 3 || j.2.2.1 == 1) = true := by rw [h1]; simp
  rw [hsb, hw]
  cases lacksF es (endU es fails q) q j.1
  · simp only [Bool.and_false, Bool.false_eq_true, if_false]
    split <;> rfl
  · simp
/-! More that fail (WaveFails) -/
theorem lacksF_more {es : List Ed} (hi : isB es = true) {q : List Jb} {F G : Str → Int} {u : Str} (h : ∀ o, o ∈ q.map (·.1) → rank es q o < rank es q u → G o = 1 → F o = 1) (hl : lacksF es G q u = false) : lacksF es F q u = false := by
  unfold lacksF at *
  rw [List.any_eq_false] at *
  intro o ho
  have h1 := hl o ho
  obtain ⟨_, ha⟩ := mem_needsU.1 ho
  unfold lackF at *
  cases hj : jobOf q o with
  | none => simp
  | some j =>
    rw [hj] at h1
    simp only [Bool.and_eq_true, bne_iff_ne, ne_eq, not_and, Classical.not_not] at h1 ⊢
    exact fun hs => h o (jobOf_unit hj) (rank_lt hi (jobOf_unit hj) ha) (h1 hs)
theorem endU_less {es : List Ed} (hi : isB es = true) {a b : List Str} (hab : ∀ s ∈ a, s ∈ b) {q : List Jb} (hd : DQ q) : ∀ (n : Nat) (j : Jb), j ∈ q → rank es q j.1 < n → endU es b q j.1 = 1 → endU es a q j.1 = 1
  | 0, _, _, h, _ => by omega
  | n + 1, j, hj, hr, h => by
    rw [endU_eq hi hd hj] at h ⊢
    unfold endF1 at h ⊢
    by_cases h3 : j.2.2.1 = 3
    · rw [if_pos h3] at h ⊢; exact h
    · rw [if_neg h3] at h ⊢
      by_cases h2 : j.2.1 = 2
      · rw [if_pos h2]
      · rw [if_neg h2] at h ⊢
        have hl : (startsB j && ((j.2.1 == 3 || j.2.2.1 == 1) && lacksF es (endU es b q) q j.1)) = false := by
          cases hc : (startsB j && ((j.2.1 == 3 || j.2.2.1 == 1) && lacksF es (endU es b q) q j.1))
          · rfl
          · rw [if_pos hc] at h; omega
        have hnb : j.1 ∉ b := fun hin => by
          rw [hl, if_neg (by simp), if_pos hin] at h; omega
        have hl2 : (startsB j && ((j.2.1 == 3 || j.2.2.1 == 1) && lacksF es (endU es a q) q j.1)) = false := by
          cases hx : lacksF es (endU es b q) q j.1
          · have := lacksF_more hi (F := endU es a q) (fun o ho hro hg => by
              obtain ⟨k, hk, rfl⟩ := List.mem_map.1 ho
              exact endU_less hi hab hd n k hk (by omega) hg) hx
            rw [this]; simp
          · rw [hx] at hl
            simp only [Bool.and_true] at hl
            cases hsb : startsB j
            · simp
            · rw [hsb] at hl
              simp only [Bool.true_and] at hl
              rw [hl]; simp
        rw [hl2, if_neg (by simp), if_neg (fun hin => hnb (hab _ hin))]
theorem fact_less {ns : List Nd} {es : List Ed} {a b : List Str} (hab : ∀ s ∈ a, s ∈ b) {q : List Jb} (hs : soundQ ns es q = true) {j : Jb} (hj : j ∈ q) (h : (factJ es b q j).2.2.2 = 1) : (factJ es a q j).2.2.2 = 1 := by
  obtain ⟨hm, hi⟩ := sound_ends hs
  have hd := mayQ.dq hm
  rw [factJ_end hi hd hj] at h ⊢
  exact endU_less hi hab hd _ j hj (Nat.lt_succ_self _) h
theorem endU_clean {es : List Ed} (hi : isB es = true) {q : List Jb} (hd : DQ q) (hc : ∀ j ∈ q, j.2.2.1 ≠ 3 ∨ j.2.2.2 = 1) : ∀ (n : Nat) (j : Jb), j ∈ q → rank es q j.1 < n → endU es [] q j.1 = 1
  | 0, _, _, h => by omega
  | n + 1, j, hj, hr => by
    rw [endU_eq hi hd hj]
    unfold endF1
    by_cases h3 : j.2.2.1 = 3
    · rw [if_pos h3]; exact (hc j hj).resolve_left (fun h => h h3)
    · rw [if_neg h3]
      by_cases h2 : j.2.1 = 2
      · rw [if_pos h2]
      · rw [if_neg h2]
        have hl : lacksF es (endU es [] q) q j.1 = false := by
          unfold lacksF
          rw [List.any_eq_false]
          intro o ho
          obtain ⟨_, ha⟩ := mem_needsU.1 ho
          unfold lackF
          cases hk : jobOf q o with
          | none => simp
          | some k =>
            obtain ⟨hk1, rfl⟩ := jobOf_mem hk
            have hlt := rank_lt hi (List.mem_map.2 ⟨k, hk1, rfl⟩) ha
            simp [endU_clean hi hd hc n k hk1 (by omega)]
        rw [hl]; simp
theorem fact_clean {ns : List Nd} {es : List Ed} {q : List Jb} (hs : soundQ ns es q = true) (hc : ∀ j ∈ q, j.2.2.1 ≠ 3 ∨ j.2.2.2 = 1) {j : Jb} (hj : j ∈ q) : (factJ es [] q j).2.2.2 = 1 := by
  obtain ⟨hm, hi⟩ := sound_ends hs
  have hd := mayQ.dq hm
  rw [factJ_end hi hd hj]
  exact endU_clean hi hd hc _ j hj (Nat.lt_succ_self _)
theorem fact_own {ns : List Nd} {es : List Ed} {a : List Str} {q : List Jb} (hs : soundQ ns es q = true) {j : Jb} (hj : j ∈ q) (h3 : j.2.2.1 ≠ 3) (h : (factJ es a q j).2.2.2 = 2) : j.1 ∈ a := by
  obtain ⟨hm, hi⟩ := sound_ends hs
  have hd := mayQ.dq hm
  rw [factJ_end hi hd hj, endU_eq hi hd hj] at h
  unfold endF1 at h
  rw [if_neg h3] at h
  split at h
  · omega
  · split at h
    · omega
    · split at h
      · assumption
      · omega
/-! One left out (WavePart) -/
def dropAt {α : Type} (q : List α) (k : Nat) : List α := q.take k ++ q.drop (k + 1)
theorem dropAt_sub {α : Type} (q : List α) (k : Nat) : (dropAt q k).Sublist q := by
  have h : (q.take k ++ q.drop (k + 1)).Sublist (q.take k ++ q.drop k) := (List.Sublist.refl _).append (by
    rw [← List.drop_drop]; exact (List.drop_sublist 1 _))
  rwa [List.take_append_drop] at h
theorem mem_dropAt {q : List Jb} {k : Nat} (hk : k < q.length) {j : Jb} (hj : j ∈ q) (hne : j.1 ≠ q[k].1) : j ∈ dropAt q k := by
  have h1 : q = q.take k ++ q[k] :: q.drop (k + 1) := by rw [List.getElem_cons_drop, List.take_append_drop]
  rw [h1] at hj
  unfold dropAt
  rcases List.mem_append.1 hj with h | h
  · exact List.mem_append_left _ h
  · rcases List.mem_cons.1 h with h | h
    · exact absurd (by rw [h]) hne
    · exact List.mem_append_right _ h
theorem dropAt_ne {q : List Jb} (hd : DQ q) {k : Nat} (hk : k < q.length) {j : Jb} (hj : j ∈ dropAt q k) : j.1 ≠ q[k].1 := by
  have h1 : q = q.take k ++ q[k] :: q.drop (k + 1) := by rw [List.getElem_cons_drop, List.take_append_drop]
  have hd' := hd
  unfold DQ at hd'
  rw [h1, List.map_append, List.map_cons, List.nodup_append] at hd'
  obtain ⟨_, h2, h3⟩ := hd'
  obtain ⟨h4, _⟩ := List.nodup_cons.1 h2
  intro e
  rcases List.mem_append.1 hj with h | h
  · exact h3 j.1 (List.mem_map.2 ⟨j, h, rfl⟩) q[k].1 (.head _) e
  · exact h4 (List.mem_map.2 ⟨j, h, e⟩)
theorem sound_sub {ns : List Nd} {es : List Ed} {q l : List Jb} (hs : soundQ ns es q = true) (h : l.Sublist q) : soundQ ns es l = true := by
  obtain ⟨h1, h2, h3, h4⟩ := soundQ_iff.1 hs
  exact soundQ_iff.2 ⟨h1, h2, mayQ_sub h3 h, fun x hx y hy => h4 x (h.subset hx) y (h.subset hy)⟩
theorem jobOf_drop {q : List Jb} (hd : DQ q) {k : Nat} (hk : k < q.length) {o : Str} (ho : o ≠ q[k].1) : jobOf (dropAt q k) o = jobOf q o := by
  have hd2 : DQ (dropAt q k) := List.Nodup.sublist ((dropAt_sub q k).map _) hd
  cases hj : jobOf q o with
  | none =>
    rw [jobOf_none] at hj ⊢
    exact fun j h => hj j ((dropAt_sub q k).subset h)
  | some j =>
    obtain ⟨h1, rfl⟩ := jobOf_mem hj
    exact (jobOf_iff hd2).2 ⟨mem_dropAt hk h1 ho, rfl⟩
theorem fact_part {ns : List Nd} {es : List Ed} {fails : List Str} {q : List Jb} (hs : soundQ ns es q = true) {k : Nat} (hk : k < q.length) (hn : ∀ u, hasE es u q[k].1 1 = false ∧ hasE es u q[k].1 4 = false) :
    dropAt (factQ es fails q) k = factQ es fails (dropAt q k) := by
  obtain ⟨hm, hi⟩ := sound_ends hs
  have hd := mayQ.dq hm
  have hd2 : DQ (dropAt q k) := List.Nodup.sublist ((dropAt_sub q k).map _) hd
  have hl : ∀ (F : Str → Int) (u : Str), lacksF es F (dropAt q k) u = lacksF es F q u := fun F u => any_congr fun o ho => by
    have h1 := (mem_needsU.1 ho).1
    unfold lackF
    rw [jobOf_drop hd hk]
    intro e
    rw [e, (hn u).1, (hn u).2] at h1
    cases h1
  have he : ∀ j ∈ dropAt q k, endU es fails q j.1 = endU es fails (dropAt q k) j.1 := fun j hj => endU_only' hi hd2 (F := endU es fails q) (fun y hy => by
    rw [endU_eq hi hd ((dropAt_sub q k).subset hy)]
    unfold endF1
    rw [hl]) hj
  have e1 : dropAt (factQ es fails q) k = (dropAt q k).map (factJ es fails q) := by unfold dropAt factQ; rw [List.map_append, List.map_take, List.map_drop]
  rw [e1]
  unfold factQ
  refine List.map_congr_left fun j hj => ?_
  unfold factJ
  rw [he j hj]
/-! Others that fail (WaveOthers) -/
theorem endW_more {a b : List Str} {q : List Jb} (h : ∀ j ∈ q, j.2.1 ≠ 2 → (j.1 ∈ a ↔ j.1 ∈ b)) (u : Str) : endW a q u = endW b q u := by
  unfold endW
  cases hj : jobOf q u with
  | none => rfl
  | some j =>
    simp only
    unfold endJ
    by_cases h2 : j.2.1 = 2
    · simp [canF, h2]
    · have := h j (jobOf_mem hj).1 h2
      by_cases ha : j.1 ∈ a
      · simp [ha, this.1 ha]
      · have hb : j.1 ∉ b := fun e => ha (this.2 e)
        simp [ha, hb]
/-- Types that stand through a step. -/
def TySame (q x : List Jb) : Prop := ∀ j ∈ x, ∃ k ∈ q, k.1 = j.1 ∧ (j.2.1 ≠ 2 → k.2.1 ≠ 2)
theorem TySame.step {es : List Ed} {fails : List Str} {q : List Jb} {s s' : St} {j : Jb} (h : TySame q s.1) (hw : Went es fails s s' j) : TySame q s'.1 := by
  intro y hy
  rw [hw.jobs] at hy
  obtain ⟨z, hz, e⟩ := mem_updJ.1 hy
  by_cases hu : z.1 = j.1
  · rw [if_pos hu] at e
    subst e
    obtain ⟨k, hk, e1, e2⟩ := h j hw.here
    refine ⟨k, hk, by rw [e1, nextJ_unit], fun h2 => e2 fun h3 => h2 ?_⟩
    have := type_next es fails s.1 j
    rw [h3] at this
    simp only [show ¬ ((2 : Int) = 3) by decide, if_false] at this
    split at this
    · omega
    · exact this
  · rw [if_neg hu] at e
    subst e
    exact h _ hz
theorem run_others {es : List Ed} {a b : List Str} {picks : List Int} {q : List Jb} (hm : mayQ q = true) (h : ∀ j ∈ q, j.2.1 ≠ 2 → (j.1 ∈ a ↔ j.1 ∈ b)) : ∀ m, runN es a picks q m = runN es b picks q m ∧ TySame q (runN es a picks q m).1
  | 0 => ⟨rfl, fun j hj => ⟨j, hj, rfl, fun h => h⟩⟩
  | m + 1 => by
    obtain ⟨h1, h2⟩ := run_others hm h m
    have hmm := (runN_inv (P := fun _ => True) (es := es) (fails := a) (picks := picks) hm trivial (fun _ _ _ _ _ _ => trivial) m).1
    show goW es a picks m (runN es a picks q m) = goW es b picks m (runN es b picks q m) ∧ TySame q (goW es a picks m (runN es a picks q m)).1
    rw [← h1]
    generalize runN es a picks q m = s at *
    constructor
    · unfold goW
      have : ∀ u, stepW es a s.1 u = stepW es b s.1 u := fun u => by
        unfold stepW
        rw [endW_more (fun j hj h2' => ?_) u]
        obtain ⟨k, hk, e1, e2⟩ := h2 j hj
        rw [← e1]
        exact h k hk (e2 h2')
      simp only [this]
    · by_cases hn : stepsQ es s.1 = []
      · rw [go_stuck hn]; exact h2
      · obtain ⟨_, j, _, hw⟩ := go_went (fails := a) (picks := picks) (i := m) hmm hn
        exact h2.step hw
theorem runE_others {es : List Ed} {a b : List Str} {picks : List Int} {q : List Jb} (hm : mayQ q = true) (h : ∀ j ∈ q, j.2.1 ≠ 2 → (j.1 ∈ a ↔ j.1 ∈ b)) : runE es a picks q = runE es b picks q := (run_others hm h _).1
/-! Some steps now (WaveSplit) -/
theorem split_step {ns : List Nd} {es : List Ed} {fails : List Str} {q : List Jb} (hs : soundQ ns es q = true) {u : Str} (hu : u ∈ stepsQ es q) : ∃ x, stepW es fails q u = some x ∧ soundQ ns es x = true ∧ factQ es fails x = factQ es fails q := by
  obtain ⟨hm, hi⟩ := sound_ends hs
  obtain ⟨j, hj, rfl, hg⟩ := (mem_stepsQ hm).1 hu
  have h1 := stepW_of (fails := fails) hm hj hg
  exact ⟨_, h1, sound_step hs h1, fact_step hi hm hj hg⟩
/-! Ends alone (WaveStops) -/
def stopsQ (q : List Jb) : List Jb := (q.filter (fun j => j.2.2.1 == 1)).map (fun j => (j.1, 2, 1, 0))
def StopsOnly (q : List Jb) : Prop := ∀ j ∈ q, j.2.1 = 2
theorem stops_all (q : List Jb) : ∀ j ∈ stopsQ q, j.2.1 = 2 ∧ j.2.2.1 = 1 := by
  intro j hj
  obtain ⟨k, _, rfl⟩ := List.mem_map.1 hj
  exact ⟨rfl, rfl⟩
structure Ends (es : List Ed) (q : List Jb) (s : St) : Prop where
  two : ∀ j ∈ s.1, j.2.1 = 2
  done : ∀ d ∈ s.2, d.2.1 = 2 ∧ d.2.2 = 1
theorem Ends.step {es : List Ed} {fails : List Str} {q : List Jb} {s s' : St} {j : Jb} (h : Ends es q s) (hw : Went es fails s s' j) : Ends es q s' := by
  have hn : (nextJ es fails s.1 j).2.1 = 2 ∧ ((nextJ es fails s.1 j).2.2.1 = 3 → (nextJ es fails s.1 j).2.2.2 = 1) := by
    have h2 := h.two j hw.here
    unfold nextJ newF ended begun endJ canF
    rcases hw.goes with hg | ⟨hg, _⟩
    · rw [if_pos hg]; simp [h2]
    · rw [if_neg (by omega)]; simp [h2]
  refine ⟨fun y hy => ?_, fun d hd => ?_⟩
  · rw [hw.jobs] at hy
    obtain ⟨z, hz, e⟩ := mem_updJ.1 hy
    by_cases hu : z.1 = j.1
    · rw [if_pos hu] at e; subst e; exact hn.1
    · rw [if_neg hu] at e; subst e; exact h.two _ hz
  · rw [hw.over] at hd
    rcases List.mem_append.1 hd with hd | hd
    · exact h.done d hd
    · split at hd
      · rename_i h3
        rw [List.mem_singleton] at hd
        subst hd
        exact ⟨hn.1, hn.2 h3⟩
      · cases hd
theorem run_ends {es : List Ed} {fails : List Str} {picks : List Int} {q : List Jb} (hm : mayQ q = true) (h : StopsOnly q) (m : Nat) : Ends es q (runN es fails picks q m) :=
  (runN_inv (P := Ends es q) hm ⟨h, fun d hd => by cases hd⟩ (fun _ _ _ _ h2 h3 => h2.step h3) m).2
/-- In what ended, none comes ahead of one that it waits for. -/
theorem run_waits {ns : List Nd} {es : List Ed} {fails : List Str} {picks : List Int} {q : List Jb} (hs : soundQ ns es q = true) (h2 : StopsOnly q) (h1 : ∀ j ∈ q, j.2.2.1 = 1) :
    (runE es fails picks q).2.Pairwise (fun d e => e.1 ∉ waitsQ es q d.1) := by
  obtain ⟨hm, hi⟩ := sound_ends hs
  have hd := mayQ.dq hm
  have ht := run_told (es := es) (fails := fails) (picks := picks) hm (msQ q + 1)
  have hl := run_lined hi (fails := fails) (picks := picks) hm (msQ q + 1)
  have he := run_ends (es := es) (fails := fails) (picks := picks) hm h2 (msQ q + 1)
  have hmem : ∀ d ∈ (runN es fails picks q (msQ q + 1)).2, ∃ j ∈ q, j.1 = d.1 := fun d hdd => by
    obtain ⟨j, hj, _, rfl, _⟩ := ht.over d hdd
    obtain ⟨k, hk, e, _⟩ := ht.fro j hj
    exact ⟨k, hk, e⟩
  have key : ∀ d ∈ (runN es fails picks q (msQ q + 1)).2, ∀ e ∈ (runN es fails picks q (msQ q + 1)).2, (runsB q d.1 = false → clashD es d e = false) → e.1 ∉ waitsQ es q d.1 := by
    intro d hdd e hee hc hin
    obtain ⟨j, hj, ej⟩ := hmem d hdd
    obtain ⟨k, hk, ek⟩ := hmem e hee
    have hrun : runsB q d.1 = false := by rw [← ej, runsB_at hd hj, h1 j hj]; rfl
    have hcl := hc hrun
    unfold clashD at hcl
    rw [(he.done d hdd).1, (he.done e hee).1] at hcl
    have hah : Ah es d.1 e.1 = false := by simpa using hcl
    rw [← ek, ← ej] at hin hah
    have := (mem_waits hm hk hj (h1 j hj)).1 hin
    by_cases hne : k.1 = j.1
    · have : k = j := hd.eq hk hj hne
      subst this
      unfold aheadJ at *
      simp_all
    · rw [ahead_wait es (h1 k hk) hne] at this
      have e1 : endsB k = true := by unfold endsB; rw [h2 k hk]; rfl
      have e2 : endsB j = true := by unfold endsB; rw [h2 j hj]; rfl
      rw [e1, e2, hah] at this
      simp at this
  exact List.Pairwise.imp_of_mem (fun {a b} ha hb hab => key a ha b hb hab) hl.pw
/-! Two rows of picks (WaveTwo) -/
theorem run_over {ns : List Nd} {es : List Ed} {fails : List Str} {picks : List Int} {q : List Jb} (hs : soundQ ns es q = true) : ∀ j ∈ (runE es fails picks q).1, j.2.2.1 = 3 :=
  stuck_over (run_sound (fails := fails) (picks := picks) hs _).1 (runE_stuck (sound_ends hs).1)
theorem trace_len {ns : List Nd} {es : List Ed} {fails : List Str} {picks : List Int} {q : List Jb} (hs : soundQ ns es q = true) : (runE es fails picks q).2.length = openN q := by
  have h := (run_told (es := es) (fails := fails) (picks := picks) (sound_ends hs).1 (msQ q + 1)).len
  have h0 : openN (runE es fails picks q).1 = 0 := by
    have := run_over (fails := fails) (picks := picks) hs
    revert this
    generalize (runE es fails picks q).1 = l
    intro hl
    unfold openN
    induction l with
    | nil => rfl
    | cons a r ih =>
      rw [List.map_cons, List.sum_cons, ih fun j hj => hl j (.tail _ hj)]
      unfold opN
      rw [if_pos (hl a (.head _))]
  have h1 : openN (runN es fails picks q (msQ q + 1)).1 = 0 := h0
  show (runN es fails picks q (msQ q + 1)).2.length = _
  omega
theorem trace_same {ns : List Nd} {es : List Ed} {fails : List Str} {a b : List Int} {q : List Jb} (hs : soundQ ns es q = true) {d : Nd} (hd : d ∈ (runE es fails a q).2) : d ∈ (runE es fails b q).2 := by
  obtain ⟨hm, hi⟩ := sound_ends hs
  have h1 := run_told (es := es) (fails := fails) (picks := a) hm (msQ q + 1)
  have h2 := run_told (es := es) (fails := fails) (picks := b) hm (msQ q + 1)
  have e : (runN es fails a q (msQ q + 1)).1 = (runN es fails b q (msQ q + 1)).1 := (run_fact (fails := fails) (picks := a) hs).trans (run_fact (fails := fails) (picks := b) hs).symm
  obtain ⟨j, hj, h3, rfl, h4⟩ := h1.over d hd
  exact h2.all j (by rw [← e]; exact hj) h3 h4
theorem count_one : ∀ {y : List Nd} {d : Nd}, (y.map (·.1)).Nodup → d ∈ y → y.countP (fun e => d == e) = 1
  | [], _, _, h => by cases h
  | e :: r, d, hn, h => by
    obtain ⟨h1, h2⟩ := List.nodup_cons.1 (show (e.1 :: r.map (·.1)).Nodup from hn)
    rw [List.countP_cons]
    by_cases ed : d = e
    · have : r.countP (fun e => d == e) = 0 := List.countP_eq_zero.2 fun z hz => by
        simp only [beq_iff_eq]
        intro e2
        exact h1 (List.mem_map.2 ⟨z, hz, by rw [← e2, ed]⟩)
      rw [this, if_pos (by simpa using ed)]
    · rw [if_neg (by simpa using ed)]
      rcases List.mem_cons.1 h with e2 | h
      · exact absurd e2 ed
      · rw [count_one h2 h]
theorem trace_count {ns : List Nd} {es : List Ed} {fails : List Str} {a b : List Int} {q : List Jb} (hs : soundQ ns es q = true) {d : Nd} (hd : d ∈ (runE es fails a q).2) : (runE es fails b q).2.countP (fun e => d == e) = 1 :=
  count_one (run_told (es := es) (fails := fails) (picks := b) (sound_ends hs).1 (msQ q + 1)).once (trace_same hs hd)
/-! None ahead of one that it comes behind (WaveAhead) -/
theorem trace_pw {ns : List Nd} {es : List Ed} {fails : List Str} {picks : List Int} {q : List Jb} (hs : soundQ ns es q = true) : (runE es fails picks q).2.Pairwise (fun d e => clashD es d e = true → runsB q d.1 = true) :=
  (run_lined (sound_ends hs).2 (fails := fails) (picks := picks) (sound_ends hs).1 (msQ q + 1)).pw.imp fun {d e} h hc => by
    cases hr : runsB q d.1
    · rw [h hr] at hc; cases hc
    · rfl
end Od
end Go.Proofs.YtmlogmcnblgnbaaGreat
end

section
/- What a round of a run is, as both programs go it. No program. -/
namespace Go.Proofs.YtmlogmcnblgnbaaGreat
set_option linter.unusedSimpArgs false
namespace Od
def newlyB (p : Jb × Jb) : Bool := p.1.2.2.1 == 3 && p.2.2.2.1 != 3
def ovK (q x : List Jb) (i : Nat) : List Nd := (((x.zip q).take i).filter newlyB).map (fun p => doneOf p.1)
def ovs (q x : List Jb) : List Nd := ((x.zip q).filter newlyB).map (fun p => doneOf p.1)
theorem ovK_zero (q x : List Jb) : ovK q x 0 = [] := by simp [ovK]
theorem ovK_succ {q x : List Jb} {i : Nat} (hx : i < x.length) (hq : i < q.length) : ovK q x (i + 1) = ovK q x i ++ (if newlyB (x[i], q[i]) = true then [doneOf x[i]] else []) := by
  unfold ovK
  have hz : i < (x.zip q).length := by rw [List.length_zip]; omega
  rw [filter_take_succ hz, List.map_append, List.getElem_zip]
  split <;> simp
theorem ovK_all {q x : List Jb} (h : x.length = q.length) : ovK q x x.length = ovs q x := by
  unfold ovK ovs
  rw [List.take_of_length_le (by rw [List.length_zip]; omega)]
theorem ovK_len (q x : List Jb) (i : Nat) : (ovK q x i).length ≤ i := by
  unfold ovK
  rw [List.length_map]
  refine Nat.le_trans (List.length_filter_le _ _) ?_
  rw [List.length_take]; omega
theorem zip_self_none : ∀ r : List Jb, (r.zip r).filter newlyB = []
  | [] => rfl
  | y :: r => by
    rw [List.zip_cons_cons, List.filter_cons, zip_self_none r, if_neg]
    unfold newlyB
    simp
theorem ovs_upd {j x : Jb} (ho : j.2.2.1 ≠ 3) : ∀ {q : List Jb}, DQ q → j ∈ q → ovs q (updJ q j.1 (fun _ => x)) = if x.2.2.1 = 3 then [doneOf x] else []
  | [], _, h => by cases h
  | y :: r, hd, hj => by
    have hd' : (y.1 :: r.map (·.1)).Nodup := hd
    obtain ⟨h1, h2⟩ := List.nodup_cons.1 hd'
    by_cases hy : y.1 = j.1
    · have hr : ∀ z ∈ r, z.1 ≠ j.1 := fun z hz e => h1 (List.mem_map.2 ⟨z, hz, by rw [e, hy]⟩)
      have e1 : updJ (y :: r) j.1 (fun _ => x) = x :: r := by
        show (if y.1 = j.1 then x else y) :: updJ r j.1 (fun _ => x) = x :: r
        rw [if_pos hy, updJ_none hr]
      have e2 : y = j := hd.eq (.head _) hj hy
      rw [e1, e2]
      unfold ovs
      rw [List.zip_cons_cons, List.filter_cons, zip_self_none]
      by_cases h3 : x.2.2.1 = 3
      · rw [if_pos (by unfold newlyB; simp [h3, ho]), if_pos h3]; rfl
      · rw [if_neg (by unfold newlyB; simp [h3]), if_neg h3]; rfl
    · have e1 : updJ (y :: r) j.1 (fun _ => x) = y :: updJ r j.1 (fun _ => x) := by
        show (if y.1 = j.1 then x else y) :: updJ r j.1 (fun _ => x) = _
        rw [if_neg hy]
      rcases List.mem_cons.1 hj with e | hj'
      · exact absurd (by rw [e]) hy
      · have ih := ovs_upd (x := x) ho (q := r) h2 hj'
        rw [e1]
        unfold ovs at *
        rw [List.zip_cons_cons, List.filter_cons, if_neg (by unfold newlyB; simp)]
        exact ih
/-- A round that goes on, in whole. -/
theorem go_round_ {es : List Ed} {fails : List Str} {picks : List Int} {i : Nat} {s : St} (hm : mayQ s.1 = true) (hn : stepsQ es s.1 ≠ []) :
    ∃ (hk : pickW picks i (stepsQ es s.1).length < (stepsQ es s.1).length) (x : List Jb), stepW es fails s.1 ((stepsQ es s.1)[pickW picks i (stepsQ es s.1).length]) = some x ∧ mayQ x = true ∧ x.length = s.1.length ∧ msQ x < msQ s.1 ∧
      goW es fails picks i s = (x, s.2 ++ endedOf x ((stepsQ es s.1)[pickW picks i (stepsQ es s.1).length])) ∧ ovs s.1 x = endedOf x ((stepsQ es s.1)[pickW picks i (stepsQ es s.1).length]) := by
  obtain ⟨hk, j, hu, hw⟩ := go_went (fails := fails) (picks := picks) (i := i) hm hn
  have hd := mayQ.dq hm
  have hx := nextJ_unit es fails s.1 j
  have hst := stepW_of (fails := fails) hm hw.here hw.goes
  refine ⟨hk, _, by rw [hu]; exact hst, stepW_may hst, updJ_len _ _ _, ?_, ?_, ?_⟩
  · have := hw.less hm
    rw [hw.jobs] at this
    exact this
  · rw [hu]
    unfold goW
    rw [List.getElem?_eq_getElem hk, hu]
    simp only
    rw [hst]
  · rw [hu, ovs_upd hw.goes.open hd hw.here, endedOf_upd hd hw.here hx]
theorem runN_succ (es : List Ed) (fails : List Str) (picks : List Int) (q : List Jb) (m : Nat) : runN es fails picks q (m + 1) = goW es fails picks m (runN es fails picks q m) := rfl
/-- How far a run is: m rounds, none too many. -/
structure Far (es : List Ed) (fails : List Str) (picks : List Int) (q : List Jb) (m : Nat) (x : List Jb) (o : List Nd) : Prop where
  run : runN es fails picks q m = (x, o)
  may : mayQ x = true
  len : x.length = q.length
  left : msQ x + m ≤ msQ q
theorem Far.zero {es : List Ed} {fails : List Str} {picks : List Int} {q : List Jb} (h : mayQ q = true) : Far es fails picks q 0 q [] := ⟨rfl, h, rfl, by simp⟩
theorem Far.over {es : List Ed} {fails : List Str} {picks : List Int} {q x : List Jb} {o : List Nd} {m : Nat} (h : Far es fails picks q m x o) : o.length ≤ q.length := by
  have hq : mayQ q = true ∨ m = 0 := by
    cases m with
    | zero => exact .inr rfl
    | succ m =>
      left
      cases hm : mayQ q
      · exfalso
        have : ∀ k, runN es fails picks q k = (q, []) := fun k => by
          induction k with
          | zero => rfl
          | succ k ih => rw [runN_succ, ih]; exact go_stuck (stepsQ_no hm)
        have h1 := h.run
        rw [this] at h1
        injection h1 with h1 _
        have h2 := h.may
        rw [← h1, hm] at h2
        cases h2
      · rfl
  rcases hq with hq | rfl
  · have := (run_told (es := es) (fails := fails) (picks := picks) hq m).len_le
    rw [h.run] at this
    exact this
  · have := h.run
    injection this with _ h2
    rw [← h2]; simp
theorem Far.step {es : List Ed} {fails : List Str} {picks : List Int} {q x : List Jb} {o : List Nd} {m : Nat} (h : Far es fails picks q m x o) (hn : stepsQ es x ≠ []) :
    ∃ (hk : pickW picks m (stepsQ es x).length < (stepsQ es x).length) (y : List Jb), stepW es fails x ((stepsQ es x)[pickW picks m (stepsQ es x).length]) = some y ∧ Far es fails picks q (m + 1) y (o ++ endedOf y ((stepsQ es x)[pickW picks m (stepsQ es x).length])) ∧ ovs x y = endedOf y ((stepsQ es x)[pickW picks m (stepsQ es x).length]) := by
  obtain ⟨hk, y, h1, h2, h3, h4, h5, h6⟩ := go_round_ (es := es) (fails := fails) (picks := picks) (i := m) (s := (x, o)) h.may hn
  refine ⟨hk, y, h1, ⟨?_, h2, h3.trans h.len, ?_⟩, h6⟩
  · rw [runN_succ, h.run, h5]
  · have h7 : msQ y < msQ x := h4
    have := h.left
    omega
theorem Far.end_ {es : List Ed} {fails : List Str} {picks : List Int} {q x : List Jb} {o : List Nd} {m : Nat} (hq : mayQ q = true) (h : Far es fails picks q m x o) (hn : stepsQ es x = []) : runE es fails picks q = (x, o) := by
  rw [← runE_at hq (m := m) (by rw [h.run]; exact hn), h.run]
theorem Far.lt {es : List Ed} {fails : List Str} {picks : List Int} {q x : List Jb} {o : List Nd} {m : Nat} (h : Far es fails picks q m x o) : m ≤ 4 * q.length := by
  have := h.left
  have := ms_le q
  omega
end Od
end Go.Proofs.YtmlogmcnblgnbaaGreat
end

section
/- What the programs of chapter 21 hand back, in words; lengths. No program. -/
namespace Go.Proofs.YtmlogmcnblgnbaaGreat
set_option linter.unusedSimpArgs false
namespace Od
def runR (es : List Ed) (fails : List Str) (picks : List Int) (q : List Jb) : List Jb := if mayQ q = true then (runE es fails picks q).1 else []
def trR (es : List Ed) (fails : List Str) (picks : List Int) (q : List Jb) : List Nd := if mayQ q = true then (runE es fails picks q).2 else []
def facR (ns : List Nd) (es : List Ed) (fails : List Str) (q : List Jb) : List Jb := if soundQ ns es q = true then factQ es fails q else []
theorem runR_len (es : List Ed) (fails : List Str) (picks : List Int) (q : List Jb) : (runR es fails picks q).length ≤ q.length := by
  unfold runR; split
  · rename_i h
    have := runN_len (es := es) (fails := fails) (picks := picks) h (msQ q + 1)
    exact Nat.le_of_eq this
  · simp
theorem trR_len (es : List Ed) (fails : List Str) (picks : List Int) (q : List Jb) : (trR es fails picks q).length ≤ q.length := by
  unfold trR; split
  · rename_i h
    exact (run_told (es := es) (fails := fails) (picks := picks) h (msQ q + 1)).len_le
  · simp
theorem facR_len (ns : List Nd) (es : List Ed) (fails : List Str) (q : List Jb) : (facR ns es fails q).length ≤ q.length := by
  unfold facR; split
  · rw [fact_len]; exact Nat.le_refl _
  · simp
theorem run_is_fact {ns : List Nd} {es : List Ed} {fails : List Str} {picks : List Int} {q : List Jb} (hs : soundQ ns es q = true) : runR es fails picks q = facR ns es fails q := by
  unfold runR facR
  rw [if_pos (sound_ends hs).1, if_pos hs]
  exact run_fact hs
theorem runR_others {es : List Ed} {a b : List Str} {picks : List Int} {q : List Jb} (h : ∀ j ∈ q, j.2.1 ≠ 2 → (j.1 ∈ a ↔ j.1 ∈ b)) : runR es a picks q = runR es b picks q ∧ trR es a picks q = trR es b picks q := by
  unfold runR trR
  by_cases hm : mayQ q = true
  · rw [if_pos hm, if_pos hm, if_pos hm, if_pos hm, runE_others hm h]; exact ⟨rfl, rfl⟩
  · rw [if_neg hm, if_neg hm, if_neg hm, if_neg hm]; exact ⟨rfl, rfl⟩
/-! Who has a job to be begun (WaveOthers) -/
def hasJ (q : List Jb) (s : Str) : Bool := q.any (fun j => j.1 == s && j.2.1 != 2)
def addS (q : List Jb) (more : List Str) : List Str := more.filter (fun s => !hasJ q s)
theorem others_same {q : List Jb} {fails more : List Str} : ∀ j ∈ q, j.2.1 ≠ 2 → (j.1 ∈ fails ↔ j.1 ∈ fails ++ addS q more) := by
  intro j hj h2
  rw [List.mem_append]
  constructor
  · exact .inl
  · rintro (h | h)
    · exact h
    · exfalso
      unfold addS at h
      have h3 := (List.mem_filter.1 h).2
      have : hasJ q j.1 = true := List.any_eq_true.2 ⟨j, hj, by simp [h2]⟩
      rw [this] at h3
      cases h3
/-! Some steps now (WaveSplit) -/
theorem split_end {ns : List Nd} {es : List Ed} {fails : List Str} {a b : List Int} {q x : List Jb} (hs : soundQ ns es q = true) (hx : soundQ ns es x = true) (hf : factQ es fails x = factQ es fails q) : runR es fails b x = runR es fails a q := by
  rw [run_is_fact hx, run_is_fact hs]
  unfold facR
  rw [if_pos hx, if_pos hs, hf]
/-! Ends alone (WaveStops) -/
theorem stops_trace {ns : List Nd} {es : List Ed} {fails : List Str} {picks : List Int} {l : List Jb} (hs : soundQ ns es l = true) (h2 : ∀ j ∈ l, j.2.1 = 2 ∧ j.2.2.1 = 1) :
    (trR es fails picks l).length = l.length ∧ (∀ d ∈ trR es fails picks l, d.2.2 = 1) ∧ (trR es fails picks l).Pairwise (fun d e => hasB (waitsQ es l d.1) e.1 = false) := by
  obtain ⟨hm, hi⟩ := sound_ends hs
  unfold trR
  rw [if_pos hm]
  refine ⟨?_, fun d hd => ((run_ends (es := es) (fails := fails) (picks := picks) hm (fun j hj => (h2 j hj).1) (msQ l + 1)).done d hd).2, ?_⟩
  · rw [trace_len hs]
    clear hs hm
    unfold openN
    induction l with
    | nil => rfl
    | cons a r ih =>
      rw [List.map_cons, List.sum_cons, ih fun j hj => h2 j (.tail _ hj)]
      unfold opN
      rw [if_neg (by rw [(h2 a (.head _)).2]; decide)]
      simp only [List.length_cons]; omega
  · refine (run_waits hs (fun j hj => (h2 j hj).1) (fun j hj => (h2 j hj).2)).imp fun {d e} h => ?_
    cases hb : hasB (waitsQ es l d.1) e.1
    · rfl
    · exact absurd ((hasB_iff _ _).1 hb) h
theorem stepW_len (es : List Ed) (fails : List Str) (q : List Jb) (u : Str) : ((stepW es fails q u).getD []).length ≤ q.length := by
  unfold stepW stepQ
  split
  · unfold finishQ
    split
    · simp
    · split
      · simp [updJ_len]
      · simp
  · unfold beginQ
    split
    · simp [updJ_len]
    · simp
end Od
end Go.Proofs.YtmlogmcnblgnbaaGreat
end

section
/- What the fact's programs go through, in words. No program. -/
namespace Go.Proofs.YtmlogmcnblgnbaaGreat
set_option linter.unusedSimpArgs false
namespace Od
theorem jobOf_take_succ {q : List Jb} (hd : DQ q) {i : Nat} (hi : i < q.length) (u : Str) : jobOf (q.take (i + 1)) u = if u = q[i].1 then some q[i] else jobOf (q.take i) u := by
  have h1 : q.take (i + 1) = q.take i ++ [q[i]] := List.take_succ_eq_append_getElem hi
  have hd1 : DQ (q.take (i + 1)) := List.Nodup.sublist ((List.take_sublist _ _).map _) hd
  split
  · rename_i e
    subst e
    exact jobOf_of hd1 (by rw [h1]; exact List.mem_append_right _ (List.mem_singleton.2 rfl))
  · rename_i e
    unfold jobOf
    rw [h1, List.find?_append]
    have : [q[i]].find? (fun j => j.1 == u) = none := by
      rw [List.find?_eq_none]
      intro x hx
      rw [List.mem_singleton] at hx
      subst hx
      simp only [beq_iff_eq]
      exact fun h => e h.symm
    rw [this]
    simp
/-- How an open job of a sound row ends. -/
theorem end_open {es : List Ed} (hi : isB es = true) {fails : List Str} {q : List Jb} (hd : DQ q) {j : Jb} (hj : j ∈ q) (h3 : j.2.2.1 ≠ 3) :
    endU es fails q j.1 = if j.2.1 = 2 then 1 else if (startsB j && ((j.2.1 == 3 || j.2.2.1 == 1) && lacksF es (endU es fails q) q j.1)) = true then 3 else if j.1 ∈ fails then 2 else 1 := by
  rw [endU_eq hi hd hj]; unfold endF1; rw [if_neg h3]
theorem factJ_open {es : List Ed} {fails : List Str} {q : List Jb} {j : Jb} (h3 : j.2.2.1 ≠ 3) : factJ es fails q j = (j.1, if j.2.1 = 3 then 1 else j.2.1, 3, endU es fails q j.1) := by unfold factJ; rw [if_neg h3]
theorem factJ_ended {es : List Ed} {fails : List Str} {q : List Jb} {j : Jb} (h3 : j.2.2.1 = 3) : factJ es fails q j = j := by unfold factJ; rw [if_pos h3]
/-- What is known so far: how many of the row's units. -/
def cntD (q : List Jb) (D : Str → Option Value) : Nat := (q.filter (fun j => (D j.1).isSome)).length
theorem cntD_le (q : List Jb) (D : Str → Option Value) : cntD q D ≤ q.length := List.length_filter_le _ _
theorem cntD_put {q : List Jb} {D : Str → Option Value} {j : Jb} (hj : j ∈ q) (h0 : D j.1 = none) {D' : Str → Option Value} (h1 : (D' j.1).isSome = true) (h2 : ∀ s, s ≠ j.1 → D' s = D s) : cntD q D + 1 ≤ cntD q D' := by
  unfold cntD
  induction q with
  | nil => cases hj
  | cons y r ih =>
    have hmono : ∀ l : List Jb, (l.filter (fun j => (D j.1).isSome)).length ≤ (l.filter (fun j => (D' j.1).isSome)).length := fun l => by
      induction l with
      | nil => simp
      | cons a l ih2 =>
        rw [List.filter_cons, List.filter_cons]
        by_cases e : a.1 = j.1
        · rw [e, h0, h1]; simp only [Option.isSome_none, Bool.false_eq_true, if_false, if_true, List.length_cons]; omega
        · rw [h2 _ e]; split <;> (try simp only [List.length_cons]) <;> omega
    rw [List.filter_cons, List.filter_cons]
    by_cases e : y.1 = j.1
    · have := hmono r
      rw [e, h0, h1]; simp only [Option.isSome_none, Bool.false_eq_true, if_false, if_true, List.length_cons]; omega
    · rcases List.mem_cons.1 hj with e2 | hj'
      · exact absurd (by rw [e2]) e
      · have := ih hj'
        rw [h2 _ e]; split <;> (try simp only [List.length_cons]) <;> omega
def lostF (es : List Ed) (F : Str → Int) (u : Str) (y : Jb) : Bool := (hasE es u y.1 1 || hasE es u y.1 4) && (Ah es y.1 u && (startsB y && F y.1 != 1))
theorem lacks_lostF {es : List Ed} {F : Str → Int} {q : List Jb} (hd : DQ q) (u : Str) : lacksF es F q u = q.any (lostF es F u) := by
  rw [Bool.eq_iff_iff]
  unfold lacksF
  rw [List.any_eq_true, List.any_eq_true]
  constructor
  · rintro ⟨o, h1, h2⟩
    obtain ⟨h3, h4⟩ := mem_needsU.1 h1
    unfold lackF at h2
    cases hj : jobOf q o with
    | none => rw [hj] at h2; cases h2
    | some j =>
      rw [hj] at h2
      obtain ⟨h5, rfl⟩ := jobOf_mem hj
      refine ⟨j, h5, ?_⟩
      unfold lostF
      rw [h3, h4]
      simpa using h2
  · rintro ⟨x, h1, h2⟩
    unfold lostF at h2
    rw [Bool.and_eq_true, Bool.and_eq_true] at h2
    refine ⟨x.1, mem_needsU.2 ⟨h2.1, h2.2.1⟩, ?_⟩
    unfold lackF
    rw [jobOf_of hd h1]
    exact h2.2.2
/-- A run start, or one that may lack. -/
def skipB (j : Jb) : Bool := j.2.1 == 1 && j.2.2.1 == 2
def endB (es : List Ed) (fails : List Str) (F : Str → Int) (q : List Jb) (j : Jb) : Int := if (!skipB j && q.any (lostF es F j.1)) = true then 3 else if j.1 ∈ fails then 2 else 1
theorem end_starts {es : List Ed} (hi : isB es = true) {fails : List Str} {q : List Jb} (hm : mayQ q = true) {j : Jb} (hj : j ∈ q) (h3 : j.2.2.1 ≠ 3) (ht : j.2.1 = 1 ∨ j.2.1 = 3) : endU es fails q j.1 = endB es fails (endU es fails q) q j := by
  have hd := mayQ.dq hm
  have hst := may_state ((mayQ_iff.1 hm).2.1 j hj)
  rw [end_open hi hd hj h3, if_neg (by omega), lacks_lostF hd]
  unfold endB skipB
  have hsb : startsB j = true := by unfold startsB; rcases ht with h | h <;> rw [h] <;> rfl
  rw [hsb]
  have : (j.2.1 == 3 || j.2.2.1 == 1) = !(j.2.1 == 1 && j.2.2.1 == 2) := by
    rcases ht with h | h <;> rcases hst with h' | h' | h' <;> simp [h, h'] <;> omega
  rw [this, Bool.true_and]
end Od
end Go.Proofs.YtmlogmcnblgnbaaGreat
end

section
/- More of maps of the call's own: a look-up that tells whether it is there; a delete; at a walk and at a step of a region that draws its order. -/
namespace Go.Proofs.YtmlogmcnblgnbaaGreat
open Go.RowKit Go.Maps

section
variable {P : Program} {k : TypeId} {α : Type} {κ : KeyKind P k α} {w w' : World} {b n : Nat} {f : α → Option Value}
theorem MapIs.lookOk {t e : TypeId} {z : Value} (h : MapIs κ w b n f) (ht : P.underlying t = some (.map k e)) (hz : (zeroValue e).run P w = .ok z w) {x : α} (hx : κ.ok x) :
    (Instr.lookup t (.map (some b)) (κ.val x) true).run P w = .ok (.tuple #[(f x).getD z, .bool (f x).isSome]) w := by
  obtain ⟨D, h, hf⟩ := h
  obtain ⟨v, ps, hrun, hv⟩ := h.look_ok κ.law ht hz (zd := .held z) (zp := []) rfl (κ.key x hx)
  rw [(hf x hx).2] at hv
  rw [hrun, (hf x hx).1]
  cases hfx : f x
  · rw [hfx] at hv
    simp only [idR, Option.map_none, Option.getD_none, Option.some.injEq, Prod.mk.injEq, DataW.held.injEq] at hv
    rw [hv.1]; rfl
  · rw [hfx] at hv
    simp only [idR, Option.map_some, Option.getD_some, Option.some.injEq, Prod.mk.injEq, DataW.held.injEq] at hv
    rw [hv.1]; rfl
open Classical in
theorem MapIs.drop {t e : TypeId} (h : MapIs κ w b n f) (ht : P.underlying t = some (.map k e)) {x : α} (hx : κ.ok x) (ty : TypeId) :
    ∃ w', (Builtin.delete_ #[t, k] ty #[.map (some b), κ.val x]).run P w = .ok (.tuple #[]) w' ∧ MapIs κ w' b n (fun y => if y = x then none else f y) ∧ w.grownBy w' (some b) := by
  obtain ⟨D, h, hf⟩ := h
  have him := h.isMap
  obtain ⟨w', hrun, h', hg⟩ := h.drop κ.law ht (key := κ.val x) (κ.key x hx) ty
  refine ⟨w', hrun, ⟨_, h', fun y hy => ?_⟩, hg.grown⟩
  by_cases hyx : y = x
  · subst hyx
    refine ⟨?_, fun z => ?_⟩
    · rw [Maps.has_del_same]; simp
    · rw [Maps.atKey_of_not_has (by rw [Maps.has_del_same])]; simp
  · have hne : κ.kl y ≠ κ.kl x := fun e => hyx (κ.kl_inj hy hx e)
    exact ⟨by rw [Maps.has_del_other hne]; simp [hyx, hf y hy], fun z => by rw [Maps.atKey_del_other hne]; simp [hyx, hf y hy]⟩
end
section
variable {P : Program} {k : TypeId} {α : Type} {κ : KeyKind P k α} {ops : Array Oper} {rest : List Oper} {o : Oper} {a : Act} {K : Act → World → Prop} {Q : Exit → Act → World → Prop} {E : Prop} (w : World)
theorem wpList_lookOk_is (hg : o.guard = none) (m x : Operand) (t : TypeId) (hop : o.op = Op.lookup t m x true) (e : TypeId) (ht : P.underlying t = some (.map k e)) (z : Value) (hz : (zeroValue e).run P w = .ok z w)
    (b n : Nat) (f : α → Option Value) (hm : a.eval m = .map (some b)) (h : MapIs κ w b n f) (key : α) (hx : a.eval x = κ.val key) (hk : κ.ok key)
    (hK : wpList P ops Q rest (a.put o.dst (.tuple #[(f key).getD z, .bool (f key).isSome])) w) : wpList P ops Q (o :: rest) a w := by
  refine wpList_plain hg fun K' hK' => ?_
  have hrun := h.lookOk ht hz hk
  unfold Oper.wp
  simp [execOp, hop, hm, hx, hrun, Result.andThen]
  exact hK' _ _ hK
theorem step_lookOk_is (hw : Region.wanted o (yielded ops a.tmps) = true) (m x : Operand) (t : TypeId) (hop : o.op = Op.lookup t m x true) (e : TypeId) (ht : P.underlying t = some (.map k e)) (z : Value) (hz : (zeroValue e).run P w = .ok z w)
    (b n : Nat) (f : α → Option Value) (hm : a.eval m = .map (some b)) (h : MapIs κ w b n f) (key : α) (hx : a.eval x = κ.val key) (hk : κ.ok key)
    (hK : K (a.put o.dst (.tuple #[(f key).getD z, .bool (f key).isSome])) w) : if Region.wanted o (yielded ops a.tmps) = true then Oper.wp P o a w K Q else E := by
  rw [if_pos hw]
  have hrun := h.lookOk ht hz hk
  unfold Oper.wp
  simp [execOp, hop, hm, hx, hrun, Result.andThen]
  exact hK
open Classical in
theorem wpList_drop_is (hg : o.guard = none) (m x : Operand) (t : TypeId) (hop : o.op = Op.call { callee := Callee.builtin Builtin.delete, args := #[m, x], argTypes := #[t, k] }) (e : TypeId) (ht : P.underlying t = some (.map k e))
    (b n : Nat) (f : α → Option Value) (hm : a.eval m = .map (some b)) (h : MapIs κ w b n f) (key : α) (hx : a.eval x = κ.val key) (hk : κ.ok key)
    (hK : ∀ w', MapIs κ w' b n (fun y => if y = key then none else f y) → w.grownBy w' (some b) → wpList P ops Q rest (a.put o.dst (.tuple #[])) w') : wpList P ops Q (o :: rest) a w := by
  refine wpList_plain hg fun K' hK' => ?_
  obtain ⟨w', hrun, h1, h2⟩ := h.drop ht hk o.type
  unfold Oper.wp execOp
  simp only [hop, resolve, invoke, builtin, Sem.run_bind, Sem.run_pure, Result.andThen_ok, List.map_toArray, List.map_cons, List.map_nil, hm, hx, hrun]
  exact hK' _ _ (hK w' h1 h2)
end
end Go.Proofs.YtmlogmcnblgnbaaGreat
end

section
/- What wave's fact stands on: its fields, the jobs by units, what is known so far. -/
namespace Go.Proofs.YtmlogmcnblgnbaaGreat
open Go.RowKit Go.Maps
set_option linter.unusedSimpArgs false

namespace Od
/-- The fields of the fact at block pf, its row of jobs in the map mj; all of it stands in blocks other than md. -/
structure FSt (w : World) (B0 pf mj md : Nat) (An Ae : Option Addr) (nn cn ce : Nat) (Af : Option Addr) (cf : Nat) (es : List Ed) (fails : List Str) (q : List Jb) : Prop where
  c0 : w.cell? ⟨pf, 0, none⟩ = some (.slice An nn cn)
  c1 : w.cell? ⟨pf, 1, none⟩ = some (.slice Ae es.length ce)
  c2 : w.cell? ⟨pf, 2, none⟩ = some (.map (some mj))
  c3 : w.cell? ⟨pf, 3, none⟩ = some (.slice Af fails.length cf)
  c4 : w.cell? ⟨pf, 4, none⟩ = some (.map (some md))
  lt : pf < w.heap.size
  lb : B0 ≤ md
  pm : pf ≠ md
  jd : mj ≠ md
  re : Rd w B0 3 Ae es.length (edsC es)
  rf : Rd w B0 1 Af fails.length (svs fails)
  jm : MapIs strK w mj q.length (fun s => (jobOf q s).map jbV)
/-- What is known: some of the row's units, and what becomes of them. -/
structure Known (w : World) (md : Nat) (es : List Ed) (fails : List Str) (q : List Jb) (D : Str → Option Value) : Prop where
  dm : MapIs strK w md (cntD q D) D
  ok : ∀ s v, D s = some v → ∃ j, jobOf q s = some j ∧ v = jbV (factJ es fails q j)
section
variable {w w' : World} {B0 pf mj md : Nat} {An Ae : Option Addr} {nn cn ce : Nat} {Af : Option Addr} {cf : Nat} {es : List Ed} {fails : List Str} {q : List Jb}
/-- All blocks but one. -/
def But (w : World) (md : Nat) (b : Nat) : Prop := b < w.heap.size ∧ b ≠ md
theorem FSt.kept (h : FSt w B0 pf mj md An Ae nn cn ce Af cf es fails q) (hk : Keeps (But w md) w w') : FSt w' B0 pf mj md An Ae nn cn ce Af cf es fails q := by
  have hc : ∀ j, w'.cell? ⟨pf, j, none⟩ = w.cell? ⟨pf, j, none⟩ := fun j => World.cell?_of_block (hk.block pf ⟨h.lt, h.pm⟩)
  have hr : ∀ p : Addr, p.block < B0 → p.block < w.heap.size → w'.cell? p = w.cell? p := fun p hp hs => World.cell?_of_block (hk.block p.block ⟨hs, fun e => by have := h.lb; omega⟩)
  have hrd : ∀ {k n : Nat} {A : Option Addr} {xs : List Value}, Rd w B0 k A n xs → Rd w' B0 k A n xs := fun {k n A xs} h1 => ⟨h1.1, fun hn => by
    obtain ⟨ad, e, hb, hs, hc2⟩ := h1.2 hn
    refine ⟨ad, e, hb, hs, fun j hj => ?_⟩
    have h2 := hc2 j hj
    have h3 : ad.block < w.heap.size := by
      have hx : (xs[j]?).isSome = true := by
        rw [List.getElem?_eq_getElem (by rw [h1.1]; exact hj)]; rfl
      cases hu : xs[j]? with
      | none => rw [hu] at hx; cases hx
      | some u => rw [hu] at h2; exact cell_blk (a := ⟨ad.block, ad.off + j, none⟩) h2
    rw [hr ⟨ad.block, ad.off + j, none⟩ hb h3, h2]⟩
  exact ⟨(hc 0).trans h.c0, (hc 1).trans h.c1, (hc 2).trans h.c2, (hc 3).trans h.c3, (hc 4).trans h.c4, Nat.lt_of_lt_of_le h.lt hk.size, h.lb, h.pm, h.jd, hrd h.re, hrd h.rf, h.jm.same (hk.block mj ⟨h.jm.lt, h.jd⟩)⟩
theorem FSt.on (h : FSt w B0 pf mj md An Ae nn cn ce Af cf es fails q) (hb : Below w.heap.size w w') : FSt w' B0 pf mj md An Ae nn cn ce Af cf es fails q :=
  h.kept ⟨hb.os, hb.tape, hb.output, hb.size, fun j hj => hb.block j hj.1⟩
theorem Known.on {D : Str → Option Value} (h : Known w md es fails q D) (hb : Below w.heap.size w w') : Known w' md es fails q D := ⟨h.dm.on hb, h.ok⟩
theorem But.below (hb : Below w.heap.size w w') : Keeps (But w md) w w' := ⟨hb.os, hb.tape, hb.output, hb.size, fun j hj => hb.block j hj.1⟩
theorem But.trans {w'' : World} (h : Keeps (But w md) w w') (h' : Keeps (But w' md) w' w'') : Keeps (But w md) w w'' :=
  ⟨h'.os.trans h.os, h'.tape.trans h.tape, h'.output.trans h.output, Nat.le_trans h.size h'.size, fun j hj => (h'.block j ⟨Nat.lt_of_lt_of_le hj.1 h.size, hj.2⟩).trans (h.block j hj)⟩
end
end Od
end Go.Proofs.YtmlogmcnblgnbaaGreat
end

section
/-
  DERIVED: THE SHELF's CONTRACTS AT THIS DUMP, IN PLAIN WORDS (tools/lay-plain.mjs out of 'TryzGrowS.lean', which tools/lay-shelf.mjs wrote): THE SAME DECLARATIONS UNDER THE SAME NAMES: 'import', 'namespace', 'open', 'def', 'theorem' AND NOTHING ELSE: no command of the shelf's: FOR A HAND-IN. Each laying: the table of numbers ('.._ren') and one theorem, a field a fact of the dump's own or the kernel's comparison; each contract: ONE APPLICATION.
-/
namespace Go.Proofs.YtmlogmcnblgnbaaGreat
open Go.Shelf
def Tryz.growS_ren : Go.Shelf.Ren := ⟨fun | 4 => 79 | n => n, fun | 22 => 27 | 25 => 9 | 3 => 3 | 4 => 4 | 9 => 9 | 20 => 20 | 0 => 0 | n => n, fun | n => n⟩
theorem Tryz.growS : Go.Proofs.Lays8.n4 Tryz.prog Tryz.growS_ren := {
  mixed := by kernel_rfl
  f4 := ⟨Tryz.f79.name, by decide, Tryz.func79.trans (congrArg some (by kernel_rfl))⟩
  t0 := Tryz.underlying0
  a0 := Tryz.isAgg0
  z0 := Tryz.sizeOf0
  v0 := Tryz.zeroValue0
  t3 := Tryz.underlying3
  a3 := Tryz.isAgg3
  z3 := Tryz.sizeOf3
  v3 := Tryz.zeroValue3
  t4 := Tryz.underlying4
  a4 := Tryz.isAgg4
  z4 := Tryz.sizeOf4
  v4 := Tryz.zeroValue4
  t9 := Tryz.underlying9
  a9 := Tryz.isAgg9
  z9 := Tryz.sizeOf9
  v9 := Tryz.zeroValue9
  t20 := Tryz.underlying20
  a20 := Tryz.isAgg20
  z20 := Tryz.sizeOf20
  v20 := Tryz.zeroValue20
  t22 := Tryz.underlying27
  a22 := Tryz.isAgg27
  z22 := Tryz.sizeOf27
  v22 := Tryz.zeroValue27 }
end Go.Proofs.YtmlogmcnblgnbaaGreat
end

section
/- slices.Grow of nothing, slices.Concat of two rows of texts, slices.DeleteFunc of a row of texts of the call's own. (bel2) -/
namespace Go.Proofs.YtmlogmcnblgnbaaGreat
open Go.RowKit Go.Sort
set_option linter.unusedSimpArgs false

section
variable {w : World} {base e k n c : Nat} {xs : List Value} {g : Nat}
/-- What is left of it when its end is cut. -/
theorem own_cut (h : w.ownsRow base e k (.slice (some ⟨g, 0, none⟩) n c) n xs) {i : Nat} (hi : i ≤ n) : w.ownsRow base e k (.slice (some ⟨g, 0, none⟩) i c) i (xs.take (i * k)) := by
  obtain ⟨hl, ⟨hv, _⟩ | ⟨g', cap, cur, hv, hg, hh, h1, h2, h3, h4⟩⟩ := h
  · injection hv with h1; cases h1
  · injection hv with e1 _ e3
    injection e1 with e1
    injection e1 with e1
    subst e1 e3
    have hik : i * k ≤ n * k := Nat.mul_le_mul_right k hi
    exact ⟨by rw [List.length_take, hl, Nat.min_eq_left hik], .inr ⟨g, c, cur, rfl, hg, hh, by omega, h2, h3, by rw [← h4, List.take_take, Nat.min_eq_left hik]⟩⟩
theorem own_setCells {i : Nat} : ∀ (vs : List Value) (o : Nat) (w : World) (xs : List Value), i ≤ o → w.ownsRow base e k (.slice (some ⟨g, 0, none⟩) n c) n xs →
    ∃ xs', (w.setCells g o vs).ownsRow base e k (.slice (some ⟨g, 0, none⟩) n c) n xs' ∧ xs'.take i = xs.take i
  | [], _, _, xs, _, h => ⟨xs, h, rfl⟩
  | v :: r, o, _, xs, ho, h => by
    obtain ⟨xs', h1, h2⟩ := own_setCells (i := i) r (o + 1) _ _ (by omega) (own_set h (j := o) v)
    exact ⟨xs', h1, by rw [h2, List.take_set_of_le ho]⟩
theorem below_setCells {B : Nat} {w0 : World} : ∀ (vs : List Value) (o : Nat) (w : World), B ≤ g → Below B w0 w → Below B w0 (w.setCells g o vs)
  | [], _, _, _, h => h
  | v :: r, o, _, hg, h => below_setCells r (o + 1) _ hg (h.setCell hg v)
end
namespace Od
theorem OwnS.ofq {ss : List Str} {w w' : World} {v : Value} (h : w'.ownsRow w.heap.size 9 1 v ss.length (svs ss)) (hb : Below w.heap.size w w') : OwnS ss w (.returned v) w' := by
  obtain ⟨A, c, rfl, _⟩ := own_rd h
  exact ⟨A, c, rfl, h, hb⟩
set_option maxHeartbeats 1000000 in
theorem GrowS_own (n : Nat) (w : World) (hn : n ≤ 1000000) : Calls Tryz.prog 79 #[.slice none 0 0, .int .i64 n] w fun e w' => ∃ A c, e = .returned (.slice A 0 c) ∧ w'.ownsRow w.heap.size 9 1 (.slice A 0 c) 0 [] ∧ Below w.heap.size w w' := by
  obtain ⟨i0, hi, hz0, hz1, hz2⟩ := info_parts infoS
  rcases Nat.eq_zero_or_pos n with h0 | h0
  · subst h0
    refine (show Calls Tryz.prog 79 _ w _ from Go.Proofs.Any8.slices_Grow_room (P := Tryz.prog) Tryz.growS none 0 0 0 w (by omega) (by omega) (by omega) (by omega)).mono ?_
    rintro e w' ⟨rfl, rfl⟩
    exact ⟨none, 0, rfl, World.ownsRow_nil _ _ _ _, Below.refl _ _⟩
  · refine (show Calls Tryz.prog 79 _ w _ from Go.Proofs.Any8.slices_Grow_grow (P := Tryz.prog) Tryz.growS i0 (.string ⟨#[]⟩) hi hz0 (by rw [hz1]; omega) none 0 0 n [] w (by omega) (by omega) (by rw [hz2]; omega) (by omega) (by simp) (fun _ => rfl) (fun a h => by cases h)).mono ?_
    rintro e w' ⟨rfl, rfl⟩
    have hle := grownCap_le_maxLen w (0 + n) 0 9 (by unfold maxLen; omega)
    refine ⟨_, _, rfl, ⟨rfl, .inr ⟨w.heap.size, _, _, rfl, Nat.le_refl _, by show (w.heap.push _)[w.heap.size]? = _; exact Array.getElem?_push_size, Nat.zero_le _, hle, ?_, by simp⟩⟩, (Below.drew (Below.refl _ _)).alloc (Nat.le_refl _) _⟩
    have hge2 := grownCap_ge w n 0 (Tryz.growS_ren.t 25)
    simp [size_zeroCells, Value.cells]
    omega
set_option maxRecDepth 100000 in
set_option maxHeartbeats 8000000 in
theorem Concat2_any (b : Nat) (A1 A2 : Option Addr) (c1 c2 : Nat) (xs ys : List Str) (w : World) (hc0 : w.cell? ⟨b, 0, none⟩ = some (.slice A1 xs.length c1)) (hc1 : w.cell? ⟨b, 1, none⟩ = some (.slice A2 ys.length c2))
    (h1 : Rd w w.heap.size 1 A1 xs.length (svs xs)) (h2 : Rd w w.heap.size 1 A2 ys.length (svs ys)) (hx : xs.length ≤ 300000) (hy : ys.length ≤ 300000) :
    Calls Tryz.prog 49 #[.slice (some ⟨b, 0, none⟩) 2 2] w (OwnS (xs ++ ys) w) := by
  obtain ⟨i0, hi, hz0, hz1, hz2⟩ := info_parts infoS
  have hbk := cell_blk hc0
  simp only at hbk
  have H1 := Lib.hid h1
  have H2 := Lib.hid h2
  have hlen : (xs ++ ys).length = xs.length + ys.length := List.length_append
  have HL := Lib.hid hlen
  clear h1 h2 hlen
  have hbw : b < w.heap.size := hbk
  have hq0 := hc0
  have hq1 := hc1
  have HW1 := H1
  have HW2 := H2
  go_enter Tryz.func49, Tryz.ntmps49
  go_wp2_with fail
  go_loop [3, 11] (fun s i => (s = .int .i64 0 ∧ i = .int .i64 0) ∨ (s = .int .i64 xs.length ∧ i = .int .i64 1) ∨ (s = .int .i64 (xs.length + ys.length : Nat) ∧ i = .int .i64 2)) (fun _ i => 2 - (intOf i).toNat)
  case atStart => exact .inl ⟨rfl, rfl⟩
  case round =>
    have hw1 : IntKind.i64.wrap ((xs.length : Int)) = (xs.length : Int) := IntWalk.i64_in _ (by omega)
    have hw2 : IntKind.i64.wrap ((xs.length : Int) + (ys.length : Int)) = ((xs.length : Int) + (ys.length : Int)) := IntWalk.i64_in _ (by omega)
    have hn1 : decide ((xs.length : Int) < 0) = false := by simp
    have hn2 : decide ((xs.length : Int) + (ys.length : Int) < 0) = false := by rw [decide_eq_false_iff_not]; omega
    rcases hrel with ⟨rfl, rfl⟩ | ⟨rfl, rfl⟩ | ⟨rfl, rfl⟩
    · go_wp2_with fail
      go_round
      case rel => exact .inr (.inl ⟨rfl, rfl⟩)
      case measure => simp [intOf]
    · go_wp2_with fail
      go_round
      case rel => exact .inr (.inr ⟨by simp, rfl⟩)
      case measure => simp [intOf]
    · go_wp2_with fail
      refine (GrowS_own (xs.length + ys.length) w (by omega)).mono ?_
      rintro e w2 ⟨A, c, rfl, ho, hb⟩
      have HO := Lib.hid ho
      replace hc0 := cellAt hc0 hb (by omega)
      replace hc1 := cellAt hc1 hb (by omega)
      replace H1 := Lib.hid (H1.out.at hb)
      replace H2 := Lib.hid (H2.out.at hb)
      replace hbk : b < w2.heap.size := ltAt hbk hb
      have HB := Lib.hid hb
      clear hb ho
      go_wp2_with fail
      go_loopw [6, 27] (fun v i wr => Below w.heap.size w wr ∧ ((i = .int .i64 0 ∧ wr.ownsRow w.heap.size 9 1 v 0 []) ∨ (i = .int .i64 1 ∧ wr.ownsRow w.heap.size 9 1 v xs.length (svs xs)) ∨ (i = .int .i64 2 ∧ wr.ownsRow w.heap.size 9 1 v (xs ++ ys).length (svs (xs ++ ys))))) (fun _ i _ => 2 - (intOf i).toNat)
      case atStart => exact ⟨HB.out, .inl ⟨rfl, HO.out⟩⟩
      case round =>
        obtain ⟨hb, hcase⟩ := hrel
        have HBr := Lib.hid hb
        clear HB HO
        have hsz : w.heap.size ≤ wr.heap.size := hb.size
        have hd0 := (hb.cell (p := ⟨b, 0, none⟩) hbw).trans hq0
        have hd1 := (hb.cell (p := ⟨b, 1, none⟩) hbw).trans hq1
        have HR1 := Lib.hid (HW1.out.at hb)
        have HR2 := Lib.hid (HW2.out.at hb)
        clear hb hc0 hc1 hq0 hq1
        rcases hcase with ⟨rfl, ho⟩ | ⟨rfl, ho⟩ | ⟨rfl, ho⟩
        · obtain ⟨A6, c6, rfl, _⟩ := own_rd ho
          have HOr := Lib.hid ho
          clear ho hd1
          have h63 : 0 + xs.length ≤ maxLen := by unfold maxLen; omega
          have hby : (0 + xs.length) * 16 ≤ 140737488355328 := by omega
          go_wp2_with (first
            | (at_builtin; refine wpList_append_rd _ (by rfl) (.tmp 31) (.tmp 32) 27 (by rfl) w.heap.size 9 i0 _ 1 16 Tryz.underlying27 hi hz0 hz1 hz2 rfl (by decide) _ 0 [] (by rfl) HOr.out _ A1 xs.length c1 (svs xs) (by rfl) HR1.out (one_svs xs) h63 hby hsz ?_; intro A7 c7 w7 ho7 hg7 hat7)
            | fail)
          go_roundw
          case rel => exact ⟨HBr.out.grown hg7 hsz (fun j hj => (HOr.out.lt j hj).1), .inr (.inl ⟨rfl, by simpa using ho7⟩)⟩
          case measure => simp [intOf]
        · obtain ⟨A6, c6, rfl, _⟩ := own_rd ho
          have HOr := Lib.hid ho
          clear ho hd0
          have h63 : xs.length + ys.length ≤ maxLen := by unfold maxLen; omega
          have hby : (xs.length + ys.length) * 16 ≤ 140737488355328 := by omega
          go_wp2_with (first
            | (at_builtin; refine wpList_append_rd _ (by rfl) (.tmp 31) (.tmp 32) 27 (by rfl) w.heap.size 9 i0 _ 1 16 Tryz.underlying27 hi hz0 hz1 hz2 rfl (by decide) _ xs.length (svs xs) (by rfl) HOr.out _ A2 ys.length c2 (svs ys) (by rfl) HR2.out (one_svs ys) h63 hby hsz ?_; intro A7 c7 w7 ho7 hg7 hat7)
            | fail)
          go_roundw
          case rel => exact ⟨HBr.out.grown hg7 hsz (fun j hj => (HOr.out.lt j hj).1), .inr (.inr ⟨rfl, by rw [HL.out]; simpa [svs] using ho7⟩)⟩
          case measure => simp [intOf]
        · have HOr := Lib.hid ho
          clear ho
          go_wp2_with fail
          go_ret
          exact OwnS.ofq HOr.out HBr.out
/-- A function value that says of a text whether p, whatever has been made since w0, and whatever was written at base and above. -/
structure SaysB2 (g : Nat) (caps : Array Value) (p : Str → Bool) (base : Nat) (w0 : World) : Prop where
  enters : ∀ (args : Array Value) (W : World), (callFunc g args).run Tryz.prog W = .ok (.enter g args) W
  says : ∀ (W : World) (s : Str), Below base w0 W → Calls Tryz.prog g (#[sv s] ++ caps) W fun e w' => e = .returned (.bool (p s)) ∧ Below W.heap.size W w'
theorem SaysB2.at {g : Nat} {caps : Array Value} {p : Str → Bool} {base : Nat} {w0 w : World} (h : SaysB2 g caps p base w0) (hb : Below base w0 w) (hs : base ≤ w.heap.size) : SaysS g caps p w := ⟨h.enters, fun W s hW => h.says W s (hb.trans (hW.mono hs))⟩
theorem filter_all_of {p : Str → Bool} {L : List Str} (h : L.find? p = none) : L.filter (fun s => !p s) = L := by
  rw [List.filter_eq_self]
  intro s hs
  have := List.find?_eq_none.1 h s hs
  simpa using this
theorem filter_first {p : Str → Bool} {L : List Str} {k : Nat} (hk : k < L.length) (h1 : p L[k] = true) (h0 : ∀ j, ∀ hj : j < k, p (L[j]'(by omega)) = false) : (L.take (k + 1)).filter (fun s => !p s) = L.take k := by
  rw [List.take_succ_eq_append_getElem hk, List.filter_append]
  have e1 : [L[k]].filter (fun s => !p s) = [] := by simp [h1]
  rw [e1, List.append_nil, List.filter_eq_self]
  intro s hs
  obtain ⟨j, hj, rfl⟩ := List.mem_iff_getElem.1 hs
  have hj' : j < k := by simp at hj; omega
  have := h0 j hj'
  simp only [List.getElem_take]
  simpa using this
set_option maxRecDepth 100000 in
set_option maxHeartbeats 8000000 in
theorem DeleteFuncS_own (base c n : Nat) (A : Option Addr) (L : List Str) (g : Nat) (caps : Array Value) (p : Str → Bool) (w0 w : World) (h : w.ownsRow base 9 1 (.slice A n c) n (svs L)) (hL : L.length = n) (hn : n ≤ 1000000) (hp : SaysB2 g caps p base w0) (hb0 : Below base w0 w) (hbase : base ≤ w.heap.size) :
    Calls Tryz.prog 133 #[.slice A n c, .func (.func g) #[] caps] w fun e w' => ∃ A' c', e = .returned (.slice A' (L.filter (fun s => !p s)).length c') ∧ w'.ownsRow base 9 1 (.slice A' (L.filter (fun s => !p s)).length c') (L.filter (fun s => !p s)).length (svs (L.filter (fun s => !p s))) ∧ Below base w0 w' := by
  obtain ⟨i0, hi, hz0, hz1, hz2⟩ := info_parts infoS
  have Ho := Lib.hid h
  have Hp := Lib.hid hp
  have Hb0 := Lib.hid hb0
  have eg := hp.enters
  have hr := own_rd' h
  have hcap := own_cap h
  subst hL
  have Hr := Lib.hid hr
  clear h hp hb0 hr
  go_enter Tryz.func133, Tryz.ntmps133
  go_wp2_with fail
  refine (IndexFuncS A c L g caps p w Hr.out hn (Hp.out.at Hb0.out hbase)).mono ?_
  rintro e w2 ⟨r, rfl, hcase, hb⟩
  have HO2 := Lib.hid (own_on Ho.out hb)
  have HB2 := Lib.hid (Hb0.out.trans (hb.mono hbase))
  have hbase2 : base ≤ w2.heap.size := Nat.le_trans hbase hb.size
  clear hb Ho Hr Hb0
  rcases hcase with ⟨rfl, hnone⟩ | ⟨k, hk, rfl, _, hpk, hbef⟩
  · have HF := Lib.hid (filter_all_of hnone)
    go_wp2_with fail
    go_ret
    rw [HF.out]
    exact ⟨A, c, rfl, HO2.out, HB2.out⟩
  · have hfirst := filter_first hk hpk hbef
    have HF := Lib.hid hfirst
    clear hfirst hpk hbef
    obtain ⟨gb, rfl, hgb, hgl, _⟩ := own_open HO2.out (by omega)
    have hneq : ((k : Int) == -1) = false := by rw [beq_eq_false_iff_ne]; omega
    have hw1 : IntKind.i64.wrap ((k : Int) + 1) = (k : Int) + 1 := IntWalk.i64_in _ (by omega)
    go_wp2_with fail
    go_loopw [5, 6] (fun iv jv wr => ∃ (i j : Nat) (M : List Str), iv = .int .i64 i ∧ jv = .int .i64 j ∧ i < j ∧ j ≤ L.length ∧ M.length = L.length ∧ M.take i = (L.take j).filter (fun s => !p s) ∧ M.drop j = L.drop j ∧ wr.ownsRow base 9 1 (.slice (some ⟨gb, 0, none⟩) L.length c) L.length (svs M) ∧ Below base w0 wr) (fun _ jv _ => L.length - (intOf jv).toNat)
    case atStart => exact ⟨k, k + 1, L, rfl, by simp, by omega, hk, rfl, HF.out.symm, rfl, HO2.out, HB2.out⟩
    case round =>
      obtain ⟨i, j, M, rfl, rfl, hij, hj, hM, htk, hdr, ho, hb⟩ := hrel
      have HOr := Lib.hid ho
      have HBr := Lib.hid hb
      have hzr : base ≤ wr.heap.size := Nat.le_of_lt (Nat.lt_of_le_of_lt hgb (ho.lt gb rfl).2)
      clear ho hb HO2 HB2
      by_cases hlt : j < L.length
      · have hxM : M[j]'(by omega) = L[j] := by
          have h1 : (M.drop j)[0]'(by simp; omega) = (L.drop j)[0]'(by simp; omega) := by congr 1
          simpa using h1
        have hcj := own_cell HOr.out (j := j) (by simp [svs]; omega)
        have hcj' : wr.cell? ⟨gb, j, none⟩ = some (sv L[j]) := by rw [hcj]; simp [svs, hxM]
        have hfi := own_fro HOr.out (j := i)
        have hci := own_cell HOr.out (j := i) (by simp [svs]; omega)
        have hft : (L.take (j + 1)).filter (fun s => !p s) = (L.take j).filter (fun s => !p s) ++ (if (!p L[j]) = true then [L[j]] else []) := filter_take_succ hlt
        have hdr2 : M.drop (j + 1) = L.drop (j + 1) := by rw [← List.drop_drop, ← List.drop_drop, hdr]
        generalize L[j] = x at hcj' hft
        have hcall := Hp.out.says wr x HBr.out
        have HFt := Lib.hid hft
        have Hcall := Lib.hid hcall
        have HTk := Lib.hid htk
        have HDr := Lib.hid hdr2
        clear hft hcall htk hdr hdr2 hcj hxM
        have j1 : (0 : Int) ≤ (j : Int) := by omega
        have j2 : (j : Int) < (L.length : Int) := by omega
        have j3 : (0 : Int) ≤ (i : Int) := by omega
        have j4 : (i : Int) < (L.length : Int) := by omega
        have hwj : IntKind.i64.wrap ((j : Int) + 1) = (j : Int) + 1 := IntWalk.i64_in _ (by omega)
        have hwi : IntKind.i64.wrap ((i : Int) + 1) = (i : Int) + 1 := IntWalk.i64_in _ (by omega)
        go_wp2_with fail
        refine Hcall.out.mono ?_
        rintro e w5 ⟨rfl, hb5⟩
        have hfi5 := (hb5.frozen (p := ⟨gb, i, none⟩) (HOr.out.lt gb rfl).2).trans hfi
        have hci5 := (hb5.cell (p := ⟨gb, i, none⟩) (HOr.out.lt gb rfl).2).trans hci
        have HO5 := Lib.hid (own_on HOr.out hb5)
        have HB5 := Lib.hid (HBr.out.trans (hb5.mono hzr))
        clear hb5 hfi hci hcj'
        cases hpx : p x
        · have HF2 := Lib.hid (show (L.take (j + 1)).filter (fun s => !p s) = (L.take j).filter (fun s => !p s) ++ [x] by rw [HFt.out, hpx]; simp)
          go_wp2_with fail
          go_roundw
          case rel =>
            have ho6 := own_set HO5.out (j := i) (sv x)
            rw [show (svs M).set i (sv x) = svs (M.set i x) from by simp [svs, List.map_set]] at ho6
            refine ⟨i + 1, j + 1, M.set i x, by go_num, by go_num, by omega, by omega, by simp [hM], ?_, ?_, ho6, HB5.out.setCell hgb _⟩
            · rw [HF2.out, ← HTk.out, List.take_succ_eq_append_getElem (by simp; omega), List.take_set_of_le (Nat.le_refl _)]
              simp
            · rw [List.drop_set_of_lt (by omega)]; exact HDr.out
          case measure => simp [intOf]; omega
        · have HF2 := Lib.hid (show (L.take (j + 1)).filter (fun s => !p s) = (L.take j).filter (fun s => !p s) by rw [HFt.out, hpx]; simp)
          go_wp2_with fail
          go_roundw
          case rel => exact ⟨i, j + 1, M, rfl, by go_num, by omega, by omega, hM, by rw [HF2.out]; exact HTk.out, HDr.out, HO5.out, HB5.out⟩
          case measure => simp [intOf]; omega
      · have hjL : j = L.length := by omega
        subst hjL
        rw [List.take_length] at htk
        have hs2 := run_slice_tail (P := Tryz.prog) Tryz.underlying27 hi (some ⟨gb, 0, none⟩) L.length c i (by omega)
        rw [hz1] at hs2
        have hAd : dropA (some ⟨gb, 0, none⟩) c i 1 = some ⟨gb, i, none⟩ := by
          unfold dropA
          rw [if_neg (by omega)]
          simp [Addr.add]
          intro h
          omega
        rw [hAd] at hs2
        have hclr := fun ty => Lib.run_clear_slice (P := Tryz.prog) wr 27 9 ty (.string ⟨#[]⟩) Tryz.underlying27 (fun w => Tryz.zeroValue9 w) rfl rfl gb i (L.length - i) (c - i) (by omega)
          (fun m hm => by rw [own_cell HOr.out (j := i + m) (by simp [svs]; omega)]; rfl) (fun m hm => own_fro HOr.out)
        have hil : i ≤ L.length := by omega
        have HTk := Lib.hid htk
        obtain ⟨w9, hw9⟩ : ∃ w9, w9 = wr.setCells gb i (List.replicate (L.length - i) (.string ⟨#[]⟩)) := ⟨_, rfl⟩
        rw [← hw9] at hclr
        have hb9 : Below base w0 w9 := by rw [hw9]; exact below_setCells _ _ _ hgb HBr.out
        have ho9 := own_setCells (i := i) (List.replicate (L.length - i) (.string ⟨#[]⟩)) i wr _ (Nat.le_refl _) HOr.out
        rw [← hw9] at ho9
        obtain ⟨xs', ho9, ht9⟩ := ho9
        have ho10 := own_cut ho9 hil
        rw [Nat.mul_one, ht9, show (svs M).take i = svs (M.take i) from by simp [svs, List.map_take], htk] at ho10
        have hml : (L.filter (fun s => !p s)).length = i := by rw [← htk, List.length_take, hM]; omega
        have HO10 := Lib.hid ho10
        have HB9 := Lib.hid hb9
        have HML := Lib.hid hml
        clear htk hdr ho9 ht9 ho10 hb9 hml hw9
        have j3 : (0 : Int) ≤ (i : Int) := by omega
        go_wp2_with fail
        go_ret
        rw [HML.out]
        exact ⟨some ⟨gb, 0, none⟩, c, rfl, HO10.out, HB9.out⟩
end Od
end Go.Proofs.YtmlogmcnblgnbaaGreat
end
