/- My texts, joined for the claim: GLaw GBox LwMost. -/
import Derived.Test.YtclaoffnfopekaaGreatZB5
import Derived.Test.YtclaoffnfopekaaGreatZB7
import Derived.Test.YtclaoffnfopekaaGreatZB0
import Derived.Test.YtclaoffnfopekaaGreatZB3
import Derived.Test.YtclaoffnfopekaaGreatZB11

section
/- Plain laws of chapter 16: what the statements OrderStraight, OrderMost, OrderRow, OrderBehind, OrderPut say of lists. No program. -/
namespace Go.Proofs.YtclaoffnfopekaaGreat
set_option linter.unusedSimpArgs false
namespace Od
/-- The order of edges. -/
def ltE (e f : Ed) : Bool := ltS e.1 f.1 || (e.1 == f.1 && (ltS e.2.1 f.2.1 || (e.2.1 == f.2.1 && decide (e.2.2 < f.2.2))))
theorem ltE_iff {e f : Ed} : ltE e f = true ↔ ltS e.1 f.1 = true ∨ (e.1 = f.1 ∧ (ltS e.2.1 f.2.1 = true ∨ (e.2.1 = f.2.1 ∧ e.2.2 < f.2.2))) := by
  simp [ltE]
theorem toE : TO ltE where
  irrefl x := by simp [ltE, toS.irrefl]
  trans {x y z} h1 h2 := by
    rw [ltE_iff] at *
    rcases h1 with h1 | ⟨a1, h1⟩
    · rcases h2 with h2 | ⟨a2, h2⟩
      · exact .inl (toS.trans h1 h2)
      · exact .inl (a2 ▸ h1)
    · rcases h2 with h2 | ⟨a2, h2⟩
      · exact .inl (a1 ▸ h2)
      · refine .inr ⟨a1.trans a2, ?_⟩
        rcases h1 with h1 | ⟨b1, h1⟩
        · rcases h2 with h2 | ⟨b2, h2⟩
          · exact .inl (toS.trans h1 h2)
          · exact .inl (b2 ▸ h1)
        · rcases h2 with h2 | ⟨b2, h2⟩
          · exact .inl (b1 ▸ h2)
          · exact .inr ⟨b1.trans b2, Int.lt_trans h1 h2⟩
  total {x y} h1 h2 := by
    have g1 : ¬ ltE x y = true := by simp [h1]
    have g2 : ¬ ltE y x = true := by simp [h2]
    rw [ltE_iff] at g1 g2
    simp only [not_or, not_and] at g1 g2
    have e1 : x.1 = y.1 := toS.total (by simpa using g1.1) (by simpa using g2.1)
    have k1 := g1.2 e1
    have k2 := g2.2 e1.symm
    have e2 : x.2.1 = y.2.1 := toS.total (by simpa using k1.1) (by simpa using k2.1)
    have l1 := k1.2 e2
    have l2 := k2.2 e2.symm
    exact Prod.ext e1 (Prod.ext e2 (by omega))
theorem lessS_eq (a b : Str) : lessS a b = ltS a b := rfl
theorem orI_one (x : Int) : orI [x] = x := by
  by_cases h : x = 0
  · subst h; rfl
  · exact orI_cons h []
theorem edgeCmp_lt {e f : Ed} : edgeCmp e f < 0 ↔ ltE e f = true := by
  rw [ltE_iff]
  unfold edgeCmp
  by_cases h1 : e.1 = f.1
  · have c1 : cmpS e.1 f.1 = 0 := by unfold cmpS; rw [lessS_eq, h1, toS.irrefl]; simp
    rw [c1, orI_cons0]
    have n1 : ¬ ltS e.1 f.1 = true := by rw [h1, toS.irrefl]; simp
    by_cases h2 : e.2.1 = f.2.1
    · have c2 : cmpS e.2.1 f.2.1 = 0 := by unfold cmpS; rw [lessS_eq, h2, toS.irrefl]; simp
      rw [c2, orI_cons0, orI_one]
      have n2 : ¬ ltS e.2.1 f.2.1 = true := by rw [h2, toS.irrefl]; simp
      simp only [n1, n2, h1, h2, false_or, true_and]
      unfold cmpI
      split
      · simp_all
      · split <;> simp_all
    · have c2 : cmpS e.2.1 f.2.1 ≠ 0 := by unfold cmpS; split <;> simp_all
      rw [orI_cons c2]
      simp only [n1, h1, h2, false_or, true_and, false_and, or_false]
      unfold cmpS
      rw [lessS_eq]
      split <;> simp_all
  · have c1 : cmpS e.1 f.1 ≠ 0 := by unfold cmpS; split <;> simp_all
    rw [orI_cons c1]
    simp only [h1, false_and, or_false]
    unfold cmpS
    rw [lessS_eq]
    split <;> simp_all
theorem rises_pairwise {α : Type} {c : α → α → Int} (ht : ∀ x y z, c x y < 0 → c y z < 0 → c x z < 0) : ∀ {l : List α}, risesB c l = true → l.Pairwise (fun x y => c x y < 0)
  | [], _ => .nil
  | [x], _ => List.pairwise_singleton _ _
  | x :: y :: r, h => by
    unfold risesB at h
    rw [Bool.and_eq_true, decide_eq_true_eq] at h
    have ih := rises_pairwise ht h.2
    refine List.pairwise_cons.2 ⟨fun z hz => ?_, ih⟩
    rcases List.mem_cons.1 hz with e | e
    · rw [e]; exact h.1
    · exact ht _ _ _ h.1 ((List.pairwise_cons.1 ih).1 z e)
theorem pairwise_rises {α : Type} {c : α → α → Int} : ∀ {l : List α}, l.Pairwise (fun x y => c x y < 0) → risesB c l = true
  | [], _ => rfl
  | [x], _ => rfl
  | x :: y :: r, h => by
    unfold risesB
    obtain ⟨h1, h2⟩ := List.pairwise_cons.1 h
    rw [Bool.and_eq_true, decide_eq_true_eq]
    exact ⟨h1 y (.head _), pairwise_rises h2⟩
theorem risesE_iff {es : List Ed} : risesB edgeCmp es = true ↔ SS ltE es := by
  constructor
  · intro h
    exact (rises_pairwise (c := edgeCmp) (fun x y z h1 h2 => edgeCmp_lt.2 (toE.trans (edgeCmp_lt.1 h1) (edgeCmp_lt.1 h2))) h).imp fun {a b} h => edgeCmp_lt.1 h
  · intro h
    exact pairwise_rises (h.imp fun {a b} h => edgeCmp_lt.2 h)
theorem mayG_iff {ns : List Nd} {es : List Ed} : mayG ns es = true ↔ ns.length ≤ 64 ∧ risesB nodeCmp ns = true ∧ SS ltE es ∧ ns.all mayN = true ∧ ∀ e ∈ es, edgeOk ns e = true := by
  unfold mayG
  rw [← risesE_iff]
  simp only [Bool.and_eq_true, Bool.not_eq_true', decide_eq_false_iff_not, List.all_eq_true]
  constructor
  · rintro ⟨h1, h2, h3, h4, h5⟩; exact ⟨by omega, h2, h3, h4, h5⟩
  · rintro ⟨h1, h2, h3, h4, h5⟩; exact ⟨by omega, h2, h3, h4, h5⟩
theorem mayG_filter {ns : List Nd} {es : List Ed} (p : Ed → Bool) (h : mayG ns es = true) : mayG ns (es.filter p) = true := by
  rw [mayG_iff] at *
  obtain ⟨h1, h2, h3, h4, h5⟩ := h
  exact ⟨h1, h2, h3.sublist List.filter_sublist, h4, fun e he => h5 e (List.mem_filter.1 he).1⟩
theorem mayG_straight {ns : List Nd} {es : List Ed} (h : mayG ns es = true) : mayG ns (straight es) = true := mayG_filter _ h
theorem edgeOk_ne {ns : List Nd} {e : Ed} (h : edgeOk ns e = true) : e.1 ≠ e.2.1 := by
  unfold edgeOk at h
  simp only [Bool.and_eq_true, Bool.not_eq_true', beq_eq_false_iff_ne] at h
  exact h.2.2.1
theorem isB_straight (es : List Ed) : isB (straight es) = true := isB_iff.2 (straight_acyclic es)
theorem isB_gone (es : List Ed) : isB es = decide ((gone es).length = 0) := by
  by_cases h : Acyclic (prsL es)
  · have h1 : isB es = true := isB_iff.2 h
    have h2 := stay_gone_len es
    rw [straight_of_acyclic h] at h2
    rw [h1]; simp; exact List.length_eq_zero_iff.1 (by omega)
  · have h1 : isB es = false := by cases h2 : isB es; rfl; exact absurd (isB_iff.1 h2) h
    rw [h1]; symm
    rw [decide_eq_false_iff_not]
    intro h0
    apply h
    have h2 := stay_gone_len es
    have h4 : (straight es).length = es.length := by omega
    have h3 : straight es = es := List.filter_sublist.eq_of_length h4
    rw [← h3]; exact straight_acyclic es
/-- An edge that is not in what was made straight says an order. -/
theorem gone_rel {es : List Ed} {e : Ed} (h : e ∈ es) (hn : e ∉ straight es) : e.2.2 = 8 ∨ e.2.2 = 7 := by
  have hs : stays es e = false := by
    cases h1 : stays es e
    · rfl
    · exact absurd (List.mem_filter.2 ⟨h, h1⟩) hn
  unfold stays pairE at hs
  by_cases h8 : e.2.2 = 8
  · exact .inl h8
  · by_cases h7 : e.2.2 = 7
    · exact .inr h7
    · simp [h8, h7] at hs
/-- The two that an edge parts: the first one ahead. -/
def turned (e : Ed) : Pr := if e.2.2 = 8 then (e.2.1, e.1) else (e.1, e.2.1)
theorem pairE_turned {e : Ed} (h : e.2.2 = 8 ∨ e.2.2 = 7) : pairE e = some (turned e) := by
  unfold pairE turned
  by_cases h8 : e.2.2 = 8
  · simp [h8]
  · simp [h8, h.resolve_left h8]
theorem turned_pairE {e : Ed} {p : Pr} (h : pairE e = some p) : p = turned e ∧ (e.2.2 = 8 ∨ e.2.2 = 7) := by
  unfold pairE at h; unfold turned
  by_cases h8 : e.2.2 = 8
  · simp [h8] at h ⊢; exact h.symm
  · by_cases h7 : e.2.2 = 7
    · simp [h7] at h ⊢; exact h.symm
    · simp [h8, h7] at h
/-- What went would go round, put back alone. -/
theorem gone_back {ns : List Nd} {es : List Ed} {e : Ed} (hm : mayG ns es = true) (h : e ∈ gone es) : (turned e).1 ∈ reachL (prsL (straight es)) (turned e).2 := by
  obtain ⟨h1, h2⟩ := List.mem_filter.1 h
  have hns : e ∉ straight es := fun hs => by have := (List.mem_filter.1 hs).2; simp [this] at h2
  have hr := gone_rel h1 hns
  have hp := pairE_turned hr
  have hmem : turned e ∈ prsL es := mem_prsL.2 ⟨e, h1, hp⟩
  have hnk : turned e ∉ keptL es := fun hk => by simp [stays, hp, hk] at h2
  have hne : (turned e).1 ≠ (turned e).2 := by
    have := edgeOk_ne ((mayG_iff.1 hm).2.2.2.2 e h1)
    unfold turned
    split
    · exact fun h => this h.symm
    · exact this
  rcases kept_or hmem with h3 | h3 | h3
  · exact absurd h3 hnk
  · exact absurd h3 hne
  · exact mem_reachL.2 (h3.mono fun p hp => mem_prs_straight.2 hp)
/-- The edges of an order between one and whom it needs. -/
def needE (es : List Ed) (e : Ed) : Bool := (e.2.2 == 8 || e.2.2 == 7) && needsB es (turned e)
theorem mem_prs_need {es : List Ed} {p : Pr} : p ∈ prsL (es.filter (needE es)) ↔ p ∈ (prsL es).filter (needsB es) := by
  rw [mem_prsL, List.mem_filter, mem_prsL]
  constructor
  · rintro ⟨e, he, hp⟩
    obtain ⟨h1, h2⟩ := List.mem_filter.1 he
    obtain ⟨h3, h4⟩ := turned_pairE hp
    unfold needE at h2
    rw [Bool.and_eq_true] at h2
    exact ⟨⟨e, h1, hp⟩, h3 ▸ h2.2⟩
  · rintro ⟨⟨e, he, hp⟩, hn⟩
    obtain ⟨h3, h4⟩ := turned_pairE hp
    refine ⟨e, List.mem_filter.2 ⟨he, ?_⟩, hp⟩
    unfold needE
    rw [Bool.and_eq_true]
    exact ⟨by rcases h4 with h | h <;> simp [h], h3 ▸ hn⟩
theorem need_stays {es : List Ed} (h : isB (es.filter (needE es)) = true) {e : Ed} (he : e ∈ es.filter (needE es)) : e ∈ straight es := by
  have ha : Acyclic ((prsL es).filter (needsB es)) := (isB_iff.1 h).mono fun p hp => mem_prs_need.2 hp
  obtain ⟨h1, h2⟩ := List.mem_filter.1 he
  unfold needE at h2
  rw [Bool.and_eq_true] at h2
  have hr : e.2.2 = 8 ∨ e.2.2 = 7 := by simpa using h2.1
  have hp := pairE_turned hr
  have hk := kept_needs ha (mem_prsL.2 ⟨e, h1, hp⟩) h2.2
  exact List.mem_filter.2 ⟨h1, by simp [stays, hp, hk]⟩
theorem ahead_prs {es : List Ed} {a b : Str} : es.any (aheadB a b) = true ↔ (a, b) ∈ prsL es := by
  rw [List.any_eq_true, mem_prsL]
  simp only [aheadB, pairOf_eq, beq_iff_eq]
/-- Behind those that are behind. -/
theorem reach_trans {l : List Pr} {a b c : Str} (h1 : b ∈ reachL l a) (h2 : c ∈ reachL l b) : c ∈ reachL l a :=
  mem_reachL.2 ((mem_reachL.1 h1).trans (mem_reachL.1 h2))
theorem ahead_reach {es : List Ed} {a b : Str} (h : es.any (aheadB a b) = true) : b ∈ reachL (prsL es) a := mem_reachL.2 (R.one (ahead_prs.1 h))
theorem not_behind_self (es : List Ed) (a : Str) : a ∉ reachL (prsL (straight es)) a := fun h => straight_acyclic es a (mem_reachL.1 h)
theorem okS_reach {es : List Ed} (h : OkE es) {a b : Str} (hb : b ∈ reachL (prsL es) a) : okS b := by
  have h1 := (mem_reachL.1 hb).in_snds
  obtain ⟨p, hp, rfl⟩ := List.mem_map.1 h1
  obtain ⟨e, he, h2⟩ := mem_prsL.1 hp
  obtain ⟨rfl, _⟩ := turned_pairE h2
  unfold turned
  split
  · exact (h e he).1
  · exact (h e he).2
/-! Sorting -/
theorem waits_mem {es : List Ed} {left : List Str} {b : Str} : waitsB es left b = true ↔ ∃ a ∈ left, (a, b) ∈ prsL es := by
  unfold waitsB
  rw [List.any_eq_true]
  constructor
  · rintro ⟨a, h1, h2⟩; exact ⟨a, h1, ahead_prs.1 h2⟩
  · rintro ⟨a, h1, h2⟩; exact ⟨a, h1, ahead_prs.2 h2⟩
theorem free_exists {es : List Ed} (h : Acyclic (prsL es)) {left : List Str} : ∀ (n : Nat) (u : Str), u ∈ left → (left.filter (fun w => decide (u ∈ reachL (prsL es) w))).length ≤ n → ∃ u ∈ left, waitsB es left u = false
  | n, u, hu, hn => by
    by_cases hw : waitsB es left u = true
    · obtain ⟨v, hv, hvu⟩ := waits_mem.1 hw
      have hlt : (left.filter (fun w => decide (v ∈ reachL (prsL es) w))).length < (left.filter (fun w => decide (u ∈ reachL (prsL es) w))).length := by
        have h1 : (left.filter (fun w => decide (v ∈ reachL (prsL es) w))) = (left.filter (fun w => decide (u ∈ reachL (prsL es) w))).filter (fun w => decide (v ∈ reachL (prsL es) w)) := by
          rw [List.filter_filter]
          refine List.filter_congr fun w _ => ?_
          by_cases hvw : v ∈ reachL (prsL es) w
          · have : u ∈ reachL (prsL es) w := mem_reachL.2 ((mem_reachL.1 hvw).snoc hvu)
            simp [hvw, this]
          · simp [hvw]
        rw [h1]
        refine Nat.lt_of_le_of_ne (List.length_filter_le _ _) fun e => ?_
        have h2 := List.length_filter_eq_length_iff.1 e v (List.mem_filter.2 ⟨hv, by simpa using mem_reachL.2 (R.one hvu)⟩)
        exact h v (mem_reachL.1 (by simpa using h2))
      cases n with
      | zero => omega
      | succ n => exact free_exists h n v hv (by omega)
    · exact ⟨u, hu, by simpa using hw⟩
theorem free_some {es : List Ed} (h : Acyclic (prsL es)) {x : Str} {r : List Str} : ∃ i, freeAt es (x :: r) = some i := by
  obtain ⟨u, hu, hf⟩ := free_exists h (left := x :: r) _ x (.head _) (Nat.le_refl _)
  cases hi : freeAt es (x :: r) with
  | some i => exact ⟨i, rfl⟩
  | none =>
    have := List.findIdx?_eq_none_iff.1 hi u hu
    simp [hf] at this
theorem sortGo_ends {es : List Ed} (h : Acyclic (prsL es)) : ∀ (n : Nat) (left out : List Str), left.length ≤ n → ∃ l, sortGo es n left out = some l
  | n, [], out, _ => ⟨out, sortGo_nil es n out⟩
  | 0, x :: r, out, hn => by simp at hn
  | n + 1, x :: r, out, hn => by
    obtain ⟨i, hi⟩ := free_some h (x := x) (r := r)
    have hi' : i < (x :: r).length := (List.findIdx?_eq_some_iff_getElem.1 hi).1
    simp only [sortGo, hi]
    exact sortGo_ends h n _ _ (by rw [List.length_eraseIdx, if_pos hi']; simp at hn ⊢; omega)
theorem sortU_some {es : List Ed} (h : Acyclic (prsL es)) (us : List Str) : ∃ l, sortU es us = some l := sortGo_ends h _ _ _ (Nat.le_refl _)
theorem perm_erase {α : Type} : ∀ {l : List α} {i : Nat} (hi : i < l.length), (l[i] :: l.eraseIdx i).Perm l
  | x :: r, 0, _ => .refl _
  | x :: r, i + 1, hi => by
    have hi' : i < r.length := by simpa using hi
    exact (List.Perm.swap x r[i] (r.eraseIdx i)).trans ((perm_erase hi').cons x)
theorem sortGo_ok {es : List Ed} : ∀ (n : Nat) (left out l : List Str), left.Nodup → sortGo es n left out = some l →
    ∃ r, l = out ++ r ∧ (∀ x, x ∈ r ↔ x ∈ left) ∧ r.Pairwise (fun a b => a ≠ b ∧ ¬ (b, a) ∈ prsL es)
  | n, [], out, l, _, h => by rw [sortGo_nil] at h; injection h with h; exact ⟨[], by simp [h], by simp, .nil⟩
  | 0, x :: r, out, l, _, h => by simp [sortGo] at h
  | n + 1, x :: r, out, l, hnd, h => by
    simp only [sortGo] at h
    cases hf : freeAt es (x :: r) with
    | none => rw [hf] at h; cases h
    | some i =>
      rw [hf] at h
      simp only at h
      obtain ⟨hi, hfree, _⟩ := List.findIdx?_eq_some_iff_getElem.1 hf
      have hget : (x :: r).getD i [] = (x :: r)[i] := by rw [List.getD_eq_getElem?_getD, List.getElem?_eq_getElem hi]; rfl
      rw [hget] at h
      have hperm : ∀ y, y ∈ (x :: r) ↔ y = (x :: r)[i] ∨ y ∈ (x :: r).eraseIdx i := fun y => by
        have := (perm_erase hi).mem_iff (a := y)
        rw [← this, List.mem_cons]
      obtain ⟨r', h1, h2, h3⟩ := sortGo_ok n _ _ l (hnd.sublist (List.eraseIdx_sublist _ _)) h
      refine ⟨(x :: r)[i] :: r', by rw [h1]; simp, fun y => ?_, List.pairwise_cons.2 ⟨fun y hy => ⟨?_, ?_⟩, h3⟩⟩
      · rw [List.mem_cons, h2, hperm]
      · intro e
        have hnd2 := (perm_erase hi).nodup_iff.2 hnd
        exact (List.nodup_cons.1 hnd2).1 (e ▸ (h2 y).1 hy)
      · intro hp
        have hw : waitsB es (x :: r) (x :: r)[i] = true := waits_mem.2 ⟨y, (hperm y).2 (.inr ((h2 y).1 hy)), hp⟩
        simp [hw] at hfree
theorem sortU_ok {es : List Ed} {us l : List Str} (h : sortU es us = some l) : (∀ x, x ∈ l ↔ x ∈ us) ∧ l.Pairwise (fun a b => a ≠ b ∧ es.any (aheadB b a) = false) := by
  obtain ⟨r, h1, h2, h3⟩ := sortGo_ok _ _ _ l ((canon_ss toS us).nodup toS) h
  rw [List.nil_append] at h1
  subst h1
  refine ⟨fun x => by rw [h2, mem_canon toS], h3.imp fun {a b} hab => ⟨hab.1, ?_⟩⟩
  cases h4 : es.any (aheadB b a)
  · rfl
  · exact absurd (ahead_prs.1 h4) hab.2
/-! Putting one edge in -/
def putF (x : Ed) (s : Bool × List Ed) (y : Ed) : Bool × List Ed := if (!s.1 && ltE x y) = true then (true, s.2 ++ [x] ++ [y]) else (s.1, s.2 ++ [y])
def putEnd (x : Ed) (s : Bool × List Ed) : List Ed := if s.1 = true then s.2 else s.2 ++ [x]
theorem putF_true (x : Ed) : ∀ (l acc : List Ed), l.foldl (putF x) (true, acc) = (true, acc ++ l)
  | [], acc => by simp
  | y :: l, acc => by rw [List.foldl_cons]; unfold putF; simp only [Bool.not_true, Bool.false_and]; exact (putF_true x l (acc ++ [y])).trans (by simp)
theorem putF_ins (x : Ed) : ∀ (l acc : List Ed), x ∉ l → putEnd x (l.foldl (putF x) (false, acc)) = acc ++ insL ltE x l
  | [], acc, _ => by simp [putEnd, insL]
  | y :: l, acc, h => by
    rw [List.foldl_cons]
    have hne : x ≠ y := fun e => h (e ▸ .head _)
    by_cases hlt : ltE x y = true
    · have h1 : putF x (false, acc) y = (true, acc ++ [x] ++ [y]) := by simp [putF, hlt]
      rw [h1, putF_true]
      have h2 : ltE y x = false := by
        cases h3 : ltE y x
        · rfl
        · have := toE.trans hlt h3; rw [toE.irrefl] at this; cases this
      simp [putEnd, insL, h2, hne.symm]
    · have h1 : putF x (false, acc) y = (false, acc ++ [y]) := by simp [putF, hlt]
      rw [h1, putF_ins x l _ (fun hm => h (.tail _ hm))]
      have h2 : ltE y x = true := by
        cases h3 : ltE y x
        · exact absurd (toE.total (by simpa using hlt) h3) hne
        · rfl
      simp [insL, h2]
theorem mem_prs_put {es : List Ed} {a b : Str} {p : Pr} : p ∈ prsL (insL ltE (b, a, 8) es) ↔ p ∈ prsL es ++ [(a, b)] := by
  rw [mem_prsL, List.mem_append, mem_prsL, List.mem_singleton]
  constructor
  · rintro ⟨e, he, hp⟩
    rcases mem_insL.1 he with h | h
    · subst h; simp [pairE] at hp; exact .inr hp.symm
    · exact .inl ⟨e, h, hp⟩
  · rintro (⟨e, he, hp⟩ | h)
    · exact ⟨e, mem_insL.2 (.inr he), hp⟩
    · exact ⟨(b, a, 8), mem_insL.2 (.inl rfl), by simp [pairE, h]⟩
structure PutOk (ns : List Nd) (es : List Ed) (a b : Str) : Prop where
  may : mayG ns es = true
  is : isB es = true
  na : (nodeOf ns a).isSome = true
  nb : (nodeOf ns b).isSome = true
  ne : a ≠ b
  st : ((nodeOf ns b).getD ([], 0, 0)).2.2 = 1
  nr : a ∉ reachL (prsL es) b
theorem put_acyclic {ns : List Nd} {es : List Ed} {a b : Str} (h : PutOk ns es a b) : Acyclic (prsL (insL ltE (b, a, 8) es)) :=
  ((isB_iff.1 h.is).app (p := (a, b)) h.ne (fun hr => h.nr (mem_reachL.2 hr))).mono fun _ hp => mem_prs_put.1 hp
theorem put_may {ns : List Nd} {es : List Ed} {a b : Str} (h : PutOk ns es a b) : mayG ns (insL ltE (b, a, 8) es) = true := by
  obtain ⟨h1, h2, h3, h4, h5⟩ := mayG_iff.1 h.may
  refine mayG_iff.2 ⟨h1, h2, h3.insL toE, h4, fun e he => ?_⟩
  rcases mem_insL.1 he with e1 | e1
  · subst e1
    have hst := h.st
    unfold edgeOk
    simp [h.na, h.nb, h.ne.symm, hst]
  · exact h5 e e1
theorem put_is {ns : List Nd} {es : List Ed} {a b : Str} (h : PutOk ns es a b) : isB (insL ltE (b, a, 8) es) = true := isB_iff.2 (put_acyclic h)
theorem put_straight {ns : List Nd} {es : List Ed} {a b : Str} (h : PutOk ns es a b) : straight (insL ltE (b, a, 8) es) = insL ltE (b, a, 8) es := straight_of_acyclic (put_acyclic h)
theorem put_ahead (es : List Ed) (a b : Str) : (insL ltE (b, a, 8) es).any (aheadB a b) = true := ahead_prs.2 (mem_prs_put.2 (by simp))
theorem put_len (es : List Ed) (x : Ed) : (insL ltE x es).length ≤ es.length + 1 := by
  induction es with
  | nil => simp [insL]
  | cons y r ih => unfold insL; split <;> simp <;> (try omega); split <;> simp
end Od
end Go.Proofs.YtclaoffnfopekaaGreat
end

section
/- A struct of the call's own that holds nodes and a row of edges that grows. No program. -/
namespace Go.Proofs.YtclaoffnfopekaaGreat
open Go.RowKit
namespace Od
/-- Block pb holds a graph: its first cell is nv, its second one a slice of the call's own, made behind pb, with the edges L; what lay ahead of pb is as it was in w0. -/
structure Boxed (w0 w : World) (pb : Nat) (nv : Value) (A : Option Addr) (c : Nat) (L : List Ed) : Prop where
  c0 : w.cell? ⟨pb, 0, none⟩ = some nv
  c1 : w.cell? ⟨pb, 1, none⟩ = some (.slice A L.length c)
  own : w.ownsRow (pb + 1) 34 3 (.slice A L.length c) L.length (edsC L)
  fro : w.frozen? ⟨pb, 1, none⟩ = false
  lt : pb < w.heap.size
  bel : Below pb w0 w
section
variable {w0 w w' : World} {pb c : Nat} {nv : Value} {A : Option Addr} {L : List Ed}
theorem Boxed.at (h : Boxed w0 w pb nv A c L) (hb : Below w.heap.size w w') : Boxed w0 w' pb nv A c L :=
  ⟨cellAt h.c0 hb h.lt, cellAt h.c1 hb h.lt, own_on h.own hb, froAt h.fro hb h.lt, ltAt h.lt hb, h.bel.trans (hb.mono (Nat.le_of_lt h.lt))⟩
theorem Boxed.off (h : Boxed w0 w pb nv A c L) : (Value.slice A L.length c).ownBlock ≠ some pb := fun e => by have := (h.own.lt pb e).1; omega
theorem Boxed.rd (h : Boxed w0 w pb nv A c L) : Rd w w.heap.size 3 A L.length (edsC L) := own_rd' h.own
theorem Boxed.push {A' : Option Addr} {c' : Nat} {x : Ed} (h : Boxed w0 w pb nv A c L) (ho : w'.ownsRow (pb + 1) 34 3 (.slice A' (L.length + 1) c') (L.length + 1) (edsC L ++ edC x))
    (hg : w.grownBy w' (Value.slice A L.length c).ownBlock) : Boxed w0 (w'.setCell ⟨pb, 1, none⟩ (.slice A' (L.length + 1) c')) pb nv A' c' (L ++ [x]) := by
  have k0 := cell_kept h.c0 hg h.lt h.off
  have k1 := cell_kept h.c1 hg h.lt h.off
  have kf := fro_kept h.fro hg h.lt h.off
  have hlt : pb < w'.heap.size := Nat.lt_of_lt_of_le h.lt hg.size
  have hlen : (L ++ [x]).length = L.length + 1 := by simp
  refine ⟨?_, ?_, ?_, by simpa using kf, by simpa using hlt, ?_⟩
  · rw [World.cell?_setCell_other]
    · exact k0
    · simp
  · rw [hlen]; exact World.cell?_setCell_same _ _ _ k1
  · rw [hlen, edsC_app]
    exact ho.kept (grownBy_setCell _ _ _) (.inr (fun e => by have := (ho.lt pb e).1; omega))
  · exact (h.bel.grown hg (Nat.le_of_lt h.lt) (fun g hg => by have := (h.own.lt g hg).1; omega)).setCell (Nat.le_refl _) _
theorem Boxed.new (w : World) (nv : Value) (t : TypeId) : Boxed w (w.alloc (.cells #[nv, .slice none 0 0] t)) w.heap.size nv none 0 [] := by
  refine ⟨?_, ?_, World.ownsRow_nil _ _ _ _, ?_, by simp, (Below.refl _ _).alloc (Nat.le_refl _) _⟩
  · simp
  · simp
  · simp
end
end Od
end Go.Proofs.YtclaoffnfopekaaGreat
end

section
/- The walk of the law OrderMost. (bel2) -/
namespace Go.Proofs.YtclaoffnfopekaaGreat
open Go.RowKit Go.Sort

namespace Od
theorem turned8 {e : Ed} (h : e.2.2 = 8) : turned e = (e.2.1, e.1) := by simp [turned, h]
theorem turned7 {e : Ed} (h : ¬ e.2.2 = 8) : turned e = (e.1, e.2.1) := by simp [turned, h]
theorem reach_len (es : List Ed) (a : Str) : (reachL (prsL es) a).length ≤ es.length := by
  have h1 := reached_len (reachL_ok (prsL es) a).1 (fun s hs => mem_reachL.1 hs)
  have h2 := prsL_len es
  omega
set_option maxRecDepth 100000 in
set_option maxHeartbeats 8000000 in
theorem orderMost_any (An Ae : Option Addr) (cn ce : Nat) (ns : List Nd) (es : List Ed) (w : World) (hg : GIn w An Ae cn ce ns es) :
    Calls Tryz.prog 6 #[gV An ns.length cn Ae es.length ce] w fun e w' => e = .returned (.bool true) ∧ Below w.heap.size w w' := by
  have HG := Lib.hid hg
  clear hg
  obtain ⟨i0, hi, hz0, hz1, hz2⟩ := info_parts inE
  go_enter Tryz.func6, Tryz.ntmps6
  go_wp2_with fail
  first | (refine wp_named ?_; intro W1 hW) | (refine calls_named ?_; intro W1 hW)
  have B1 : Below w.heap.size w W1 := by rw [hW]; exact (by repeat (first | exact Below.refl _ _ | assumption | refine Below.alloc ?_ (by first | omega | (simp <;> omega)) _ | refine Below.setCell ?_ (by first | omega | (simp <;> omega)) _ | refine Below.drew ?_))
  replace HG := Lib.hid (HG.out.at B1)
  have n1 : w.heap.size < W1.heap.size := by rw [hW]; simp <;> omega
  have c0 : W1.cell? ⟨w.heap.size, 0, none⟩ = some (.slice An ns.length cn) := by rw [hW]; go_simp
  have c1 : W1.cell? ⟨w.heap.size, 1, none⟩ = some (.slice Ae es.length ce) := by rw [hW]; go_simp
  clear hW
  have HB := Lib.hid B1
  clear B1
  refine (shown_any W1).mono ?_
  rintro e w2 ⟨rfl, hb⟩
  replace c0 := cellAt c0 hb (by omega)
  replace c1 := cellAt c1 hb (by omega)
  replace HG := Lib.hid (HG.out.at hb)
  replace n1 : w.heap.size < w2.heap.size := ltAt n1 hb
  replace HB := Lib.hid (lift HB.out hb)
  clear hb
  go_wp2_with fail
  refine (small_any An Ae cn ce ns es w2).mono ?_
  rintro e w3 ⟨rfl, hb⟩
  replace c0 := cellAt c0 hb (by omega)
  replace c1 := cellAt c1 hb (by omega)
  replace HG := Lib.hid (HG.out.at hb)
  replace n1 : w.heap.size < w3.heap.size := ltAt n1 hb
  replace HB := Lib.hid (lift HB.out hb)
  clear hb
  cases hsm : smallB ns es
  · go_wp2_with fail
    go_ret
    exact ⟨rfl, HB.out⟩
  · have hs2 := smallB_iff.1 hsm
    have hl1 := hs2.1
    have hl2 := hs2.2
    clear hs2
    go_wp2_with fail
    refine (MayG_any An Ae cn ce ns es w3 HG.out.rn HG.out.re (by omega) (by omega) HG.out.okn).mono ?_
    rintro e w4 ⟨rfl, hb⟩
    replace c0 := cellAt c0 hb (by omega)
    replace c1 := cellAt c1 hb (by omega)
    replace HG := Lib.hid (HG.out.at hb)
    replace n1 : w.heap.size < w4.heap.size := ltAt n1 hb
    replace HB := Lib.hid (lift HB.out hb)
    clear hb
    cases hm : mayG ns es
    · go_wp2_with fail
      go_ret
      exact ⟨rfl, HB.out⟩
    · have HM := Lib.hid hm
      clear hm
      have hsl := straight_len es
      have hgl := gone_len es
      go_wp2_with fail
      refine (Straight_any An Ae cn ce ns es w4 HG.out.rn HG.out.re HG.out.oke (by omega) (by omega)).mono ?_
      rintro e w5 ⟨Bn, dn, Be, de, rfl, hdn, hde, hsn, hse, hb⟩
      have HSN := Lib.hid hsn
      have HSE := Lib.hid hse
      replace c0 := cellAt c0 hb (by omega)
      replace c1 := cellAt c1 hb (by omega)
      replace HG := Lib.hid (HG.out.at hb)
      replace n1 : w.heap.size < w5.heap.size := ltAt n1 hb
      replace HB := Lib.hid (lift HB.out hb)
      clear hsn hse hb
      go_wp2_with fail
      first | (refine wp_named ?_; intro W6 hW) | (refine calls_named ?_; intro W6 hW)
      have B6 : Below w5.heap.size w5 W6 := by rw [hW]; exact (by repeat (first | exact Below.refl _ _ | assumption | refine Below.alloc ?_ (by first | omega | (simp <;> omega)) _ | refine Below.setCell ?_ (by first | omega | (simp <;> omega)) _ | refine Below.drew ?_))
      replace c0 := cellAt c0 B6 (by omega)
      replace c1 := cellAt c1 B6 (by omega)
      replace HG := Lib.hid (HG.out.at B6)
      replace n1 : w.heap.size < W6.heap.size := ltAt n1 B6
      replace HB := Lib.hid (lift HB.out B6)
      replace HSN := Lib.hid (HSN.out.at B6)
      replace HSE := Lib.hid (HSE.out.at B6)
      have n6 : w5.heap.size < W6.heap.size := by rw [hW]; simp <;> omega
      have s0 : W6.cell? ⟨w5.heap.size, 0, none⟩ = some (.slice Bn ns.length dn) := by rw [hW]; go_simp
      have s1 : W6.cell? ⟨w5.heap.size, 1, none⟩ = some (.slice Be (straight es).length de) := by rw [hW]; go_simp
      clear hW
      clear B6
      refine (Round_any An Ae ns.length cn ce es W6 HG.out.re HG.out.oke (by omega)).mono ?_
      rintro e w7 ⟨Ar, cr, rfl, hcr, hrr, hb⟩
      have HR := Lib.hid hrr
      replace c0 := cellAt c0 hb (by omega)
      replace c1 := cellAt c1 hb (by omega)
      replace s0 := cellAt s0 hb (by omega)
      replace s1 := cellAt s1 hb (by omega)
      replace HG := Lib.hid (HG.out.at hb)
      replace n1 : w.heap.size < w7.heap.size := ltAt n1 hb
      replace HB := Lib.hid (lift HB.out hb)
      replace HSN := Lib.hid (HSN.out.at hb)
      replace HSE := Lib.hid (HSE.out.at hb)
      replace n6 : w5.heap.size < w7.heap.size := ltAt n6 hb
      clear hrr hb
      have HGo := Lib.hid (fun (e : Ed) (he : e ∈ gone es) => gone_back HM.out he)
      have HOkG := Lib.hid (fun (e : Ed) (he : e ∈ gone es) => HG.out.oke e (List.mem_filter.1 he).1)
      generalize gone es = G at *
      go_wp2_with fail
      go_loopw [30] (fun i wr => ∃ k : Nat, k ≤ G.length ∧ i = .int .i64 k ∧ Below w7.heap.size w7 wr) (fun i _ => G.length - (intOf i).toNat)
      case atStart => exact ⟨0, Nat.zero_le _, rfl, Below.refl _ _⟩
      case round =>
        obtain ⟨k, hk, rfl, hb⟩ := hrel
        replace c0 := cellAt c0 hb (by omega)
        replace c1 := cellAt c1 hb (by omega)
        replace s0 := cellAt s0 hb (by omega)
        replace s1 := cellAt s1 hb (by omega)
        replace HG := Lib.hid (HG.out.at hb)
        replace n1 : w.heap.size < wr.heap.size := ltAt n1 hb
        replace HB := Lib.hid (lift HB.out hb)
        replace HSN := Lib.hid (HSN.out.at hb)
        replace HSE := Lib.hid (HSE.out.at hb)
        replace n6 : w5.heap.size < wr.heap.size := ltAt n6 hb
        replace HR := Lib.hid (HR.out.at hb)
        have Hb := Lib.hid hb
        clear hb
        by_cases hlt : k < G.length
        · obtain ⟨b1, o1, hA1, hB1, x0, x1, x2⟩ := HR.out.edge hlt
          have hin : (turned G[k]).1 ∈ reachL (prsL (straight es)) (turned G[k]).2 := HGo.out _ (List.getElem_mem hlt)
          have hok : okS G[k].1 ∧ okS G[k].2.1 := HOkG.out _ (List.getElem_mem hlt)
          generalize G[k] = p at x0 x1 x2 hin hok
          obtain ⟨s, d, r⟩ := p
          simp only at x0 x1 x2 hok
          have k1 : (0 : Int) ≤ (k : Int) := by omega
          have k2 : (k : Int) < (G.length : Int) := by omega
          subst hA1
          go_wp2_with fail
          first | (refine wp_named ?_; intro W8 hW) | (refine calls_named ?_; intro W8 hW)
          have B8 : Below wr.heap.size wr W8 := by rw [hW]; exact (by repeat (first | exact Below.refl _ _ | assumption | refine Below.alloc ?_ (by first | omega | (simp <;> omega)) _ | refine Below.setCell ?_ (by first | omega | (simp <;> omega)) _ | refine Below.drew ?_))
          replace c0 := cellAt c0 B8 (by omega)
          replace c1 := cellAt c1 B8 (by omega)
          replace s0 := cellAt s0 B8 (by omega)
          replace s1 := cellAt s1 B8 (by omega)
          replace x0 := cellAt x0 B8 (by omega)
          replace x1 := cellAt x1 B8 (by omega)
          replace x2 := cellAt x2 B8 (by omega)
          replace HG := Lib.hid (HG.out.at B8)
          replace n1 : w.heap.size < W8.heap.size := ltAt n1 B8
          replace HB := Lib.hid (lift HB.out B8)
          replace HSN := Lib.hid (HSN.out.at B8)
          replace HSE := Lib.hid (HSE.out.at B8)
          replace n6 : w5.heap.size < W8.heap.size := ltAt n6 B8
          replace HR := Lib.hid (HR.out.at B8)
          replace hB1 : b1 < W8.heap.size := ltAt hB1 B8
          replace Hb := Lib.hid (lift Hb.out B8)
          have n8 : wr.heap.size < W8.heap.size := by rw [hW]; simp <;> omega
          have y0 : W8.cell? ⟨wr.heap.size, 0, none⟩ = some (sv s) := by rw [hW]; go_simp
          have y1 : W8.cell? ⟨wr.heap.size, 1, none⟩ = some (sv d) := by rw [hW]; go_simp
          have y2 : W8.cell? ⟨wr.heap.size, 2, none⟩ = some (.int .i64 r) := by rw [hW]; go_simp
          clear hW
          clear B8
          by_cases h8 : r = 8
          · rw [turned8 (e := (s, d, r)) h8] at hin
            have Hin := Lib.hid hin
            subst h8
            clear hin
            try go_wp2_with fail
            refine wp_region_held_drew (S := fun w' => Below W8.heap.size W8 w') (by kernel_rfl) (Below.drew (Below.refl _ _)) (fun hHeld => ?_)
            refine take_yield (i := 0) (v := ?_) rfl (by kernel_rfl) (by kernel_rfl) (by kernel_rfl) (fun _ _ _ h => h) (by rfl) ?_ hHeld ?_
            rotate_left 1
            · (intro w' hSw; clear hSw; go_simp; try with_reducible rfl)
            (try simp only [Act.put, List.setIfInBounds_toArray, List.set_cons_zero, List.set_cons_succ])
            refine take_yield (i := 1) (v := ?_) rfl (by kernel_rfl) (by kernel_rfl) (by kernel_rfl) (fun _ _ _ h => h) (by rfl) ?_ hHeld ?_
            rotate_left 1
            · (intro w' hSw; have hCell := fun (b o : Nat) (h : b < W8.heap.size) => hSw.cell (p := ⟨b, o, none⟩) h; clear hSw; go_simp; try with_reducible rfl)
            (try simp only [Act.put, List.setIfInBounds_toArray, List.set_cons_zero, List.set_cons_succ])
            refine take_yield (i := 2) (v := ?_) rfl (by kernel_rfl) (by kernel_rfl) (by kernel_rfl) (fun _ _ _ h => h) (by rfl) ?_ hHeld ?_
            rotate_left 1
            · (intro w' hSw; clear hSw; go_simp; try with_reducible rfl)
            (try simp only [Act.put, List.setIfInBounds_toArray, List.set_cons_zero, List.set_cons_succ])
            refine take_yield (i := 3) (v := ?_) rfl (by kernel_rfl) (by kernel_rfl) (by kernel_rfl) (fun _ _ _ h => h) (by rfl) ?_ hHeld ?_
            rotate_left 1
            · (intro w' hSw; have hCell := fun (b o : Nat) (h : b < W8.heap.size) => hSw.cell (p := ⟨b, o, none⟩) h; clear hSw; go_simp; try with_reducible rfl)
            (try simp only [Act.put, List.setIfInBounds_toArray, List.set_cons_zero, List.set_cons_succ])
            refine take_yield (i := 4) (v := ?_) rfl (by kernel_rfl) (by kernel_rfl) (by kernel_rfl) (fun _ _ _ h => h) (by rfl) ?_ hHeld ?_
            rotate_left 1
            · (intro w' hSw; clear hSw; go_simp; try with_reducible rfl)
            (try simp only [Act.put, List.setIfInBounds_toArray, List.set_cons_zero, List.set_cons_succ])
            refine take_yield (i := 5) (v := ?_) rfl (by kernel_rfl) (by kernel_rfl) (by kernel_rfl) (fun _ _ _ h => h) (by rfl) ?_ hHeld ?_
            rotate_left 1
            · (intro w' hSw; clear hSw; go_simp; try with_reducible rfl)
            (try simp only [Act.put, List.setIfInBounds_toArray, List.set_cons_zero, List.set_cons_succ])
            refine wpAnyH_done (by kernel_rfl) ?_ _
            go_wp2_with fail
            first | (refine wp_named ?_; intro W9 hW) | (refine calls_named ?_; intro W9 hW)
            have B9 : Below W8.heap.size W8 W9 := by rw [hW]; exact (by repeat (first | exact Below.refl _ _ | assumption | refine Below.alloc ?_ (by first | omega | (simp <;> omega)) _ | refine Below.setCell ?_ (by first | omega | (simp <;> omega)) _ | refine Below.drew ?_))
            replace c0 := cellAt c0 B9 (by omega)
            replace c1 := cellAt c1 B9 (by omega)
            replace s0 := cellAt s0 B9 (by omega)
            replace s1 := cellAt s1 B9 (by omega)
            replace x0 := cellAt x0 B9 (by omega)
            replace x1 := cellAt x1 B9 (by omega)
            replace x2 := cellAt x2 B9 (by omega)
            replace y0 := cellAt y0 B9 (by omega)
            replace y1 := cellAt y1 B9 (by omega)
            replace y2 := cellAt y2 B9 (by omega)
            replace HG := Lib.hid (HG.out.at B9)
            replace n1 : w.heap.size < W9.heap.size := ltAt n1 B9
            replace HB := Lib.hid (lift HB.out B9)
            replace HSN := Lib.hid (HSN.out.at B9)
            replace HSE := Lib.hid (HSE.out.at B9)
            replace n6 : w5.heap.size < W9.heap.size := ltAt n6 B9
            replace HR := Lib.hid (HR.out.at B9)
            replace hB1 : b1 < W9.heap.size := ltAt hB1 B9
            replace Hb := Lib.hid (lift Hb.out B9)
            replace n8 : wr.heap.size < W9.heap.size := ltAt n8 B9
            clear hW
            clear B9
            try go_wp2_with fail
            refine wp_region_held_drew (S := fun w' => Below W9.heap.size W9 w') (by kernel_rfl) (Below.drew (Below.refl _ _)) (fun hHeld => ?_)
            refine take_yield (i := 0) (v := ?_) rfl (by kernel_rfl) (by kernel_rfl) (by kernel_rfl) (fun _ _ _ h => h) (by rfl) ?_ hHeld ?_
            rotate_left 1
            · (intro w' hSw; clear hSw; go_simp; try with_reducible rfl)
            (try simp only [Act.put, List.setIfInBounds_toArray, List.set_cons_zero, List.set_cons_succ])
            refine take_yield (i := 1) (v := ?_) rfl (by kernel_rfl) (by kernel_rfl) (by kernel_rfl) (fun _ _ _ h => h) (by rfl) ?_ hHeld ?_
            rotate_left 1
            · (intro w' hSw; have hCell := fun (b o : Nat) (h : b < W9.heap.size) => hSw.cell (p := ⟨b, o, none⟩) h; clear hSw; go_simp; try with_reducible rfl)
            (try simp only [Act.put, List.setIfInBounds_toArray, List.set_cons_zero, List.set_cons_succ])
            refine take_yield (i := 2) (v := ?_) rfl (by kernel_rfl) (by kernel_rfl) (by kernel_rfl) (fun _ _ _ h => h) (by rfl) ?_ hHeld ?_
            rotate_left 1
            · (intro w' hSw; clear hSw; go_simp; try with_reducible rfl)
            (try simp only [Act.put, List.setIfInBounds_toArray, List.set_cons_zero, List.set_cons_succ])
            refine take_yield (i := 3) (v := ?_) rfl (by kernel_rfl) (by kernel_rfl) (by kernel_rfl) (fun _ _ _ h => h) (by rfl) ?_ hHeld ?_
            rotate_left 1
            · (intro w' hSw; have hCell := fun (b o : Nat) (h : b < W9.heap.size) => hSw.cell (p := ⟨b, o, none⟩) h; clear hSw; go_simp; try with_reducible rfl)
            (try simp only [Act.put, List.setIfInBounds_toArray, List.set_cons_zero, List.set_cons_succ])
            refine take_yield (i := 4) (v := ?_) rfl (by kernel_rfl) (by kernel_rfl) (by kernel_rfl) (fun _ _ _ h => h) (by rfl) ?_ hHeld ?_
            rotate_left 1
            · (intro w' hSw; clear hSw; go_simp; try with_reducible rfl)
            (try simp only [Act.put, List.setIfInBounds_toArray, List.set_cons_zero, List.set_cons_succ])
            refine take_yield (i := 5) (v := ?_) rfl (by kernel_rfl) (by kernel_rfl) (by kernel_rfl) (fun _ _ _ h => h) (by rfl) ?_ hHeld ?_
            rotate_left 1
            · (intro w' hSw; clear hSw; go_simp; try with_reducible rfl)
            (try simp only [Act.put, List.setIfInBounds_toArray, List.set_cons_zero, List.set_cons_succ])
            refine wpAnyH_done (by kernel_rfl) ?_ _
            go_wp2_with fail
            first | (refine wp_named ?_; intro W10 hW) | (refine calls_named ?_; intro W10 hW)
            have B10 : Below W9.heap.size W9 W10 := by rw [hW]; exact (by repeat (first | exact Below.refl _ _ | assumption | refine Below.alloc ?_ (by first | omega | (simp <;> omega)) _ | refine Below.setCell ?_ (by first | omega | (simp <;> omega)) _ | refine Below.drew ?_))
            replace c0 := cellAt c0 B10 (by omega)
            replace c1 := cellAt c1 B10 (by omega)
            replace s0 := cellAt s0 B10 (by omega)
            replace s1 := cellAt s1 B10 (by omega)
            replace x0 := cellAt x0 B10 (by omega)
            replace x1 := cellAt x1 B10 (by omega)
            replace x2 := cellAt x2 B10 (by omega)
            replace y0 := cellAt y0 B10 (by omega)
            replace y1 := cellAt y1 B10 (by omega)
            replace y2 := cellAt y2 B10 (by omega)
            replace HG := Lib.hid (HG.out.at B10)
            replace n1 : w.heap.size < W10.heap.size := ltAt n1 B10
            replace HB := Lib.hid (lift HB.out B10)
            replace HSN := Lib.hid (HSN.out.at B10)
            replace HSE := Lib.hid (HSE.out.at B10)
            replace n6 : w5.heap.size < W10.heap.size := ltAt n6 B10
            replace HR := Lib.hid (HR.out.at B10)
            replace hB1 : b1 < W10.heap.size := ltAt hB1 B10
            replace Hb := Lib.hid (lift Hb.out B10)
            replace n8 : wr.heap.size < W10.heap.size := ltAt n8 B10
            clear hW
            clear B10
            refine (Behind_any Bn Be ns.length dn de (straight es) s W10 HSE.out (okStraight HG.out.oke) hok.1 (by omega)).mono ?_
            rintro e v2 ⟨A6, c6, rfl, ho6, hb⟩
            have HR6 := Lib.hid (own_rd' ho6)
            replace c0 := cellAt c0 hb (by omega)
            replace c1 := cellAt c1 hb (by omega)
            replace s0 := cellAt s0 hb (by omega)
            replace s1 := cellAt s1 hb (by omega)
            replace x0 := cellAt x0 hb (by omega)
            replace x1 := cellAt x1 hb (by omega)
            replace x2 := cellAt x2 hb (by omega)
            replace y0 := cellAt y0 hb (by omega)
            replace y1 := cellAt y1 hb (by omega)
            replace y2 := cellAt y2 hb (by omega)
            replace HG := Lib.hid (HG.out.at hb)
            replace n1 : w.heap.size < v2.heap.size := ltAt n1 hb
            replace HB := Lib.hid (lift HB.out hb)
            replace HSN := Lib.hid (HSN.out.at hb)
            replace HSE := Lib.hid (HSE.out.at hb)
            replace n6 : w5.heap.size < v2.heap.size := ltAt n6 hb
            replace HR := Lib.hid (HR.out.at hb)
            replace hB1 : b1 < v2.heap.size := ltAt hB1 hb
            replace Hb := Lib.hid (lift Hb.out hb)
            replace n8 : wr.heap.size < v2.heap.size := ltAt n8 hb
            clear hb ho6
            have hl6 := reach_len (straight es) s
            go_wp2_with fail
            refine (HasS_any A6 c6 (reachL (prsL (straight es)) s) d v2 HR6.out (by omega)).mono ?_
            rw [(hasB_iff _ d).2 Hin.out]
            rintro e v3 ⟨rfl, rfl⟩
            go_wp2_with fail
            go_roundw
            case rel => exact ⟨k + 1, by omega, by go_num, Hb.out⟩
            case measure => simp [intOf]; omega
          · rw [turned7 (e := (s, d, r)) h8] at hin
            have Hin := Lib.hid hin
            have h8' : ((r : Int) == 8) = false := by simp [h8]
            clear hin h8
            try go_wp2_with fail
            refine wp_region_held_drew (S := fun w' => Below W8.heap.size W8 w') (by kernel_rfl) (Below.drew (Below.refl _ _)) (fun hHeld => ?_)
            refine take_yield (i := 0) (v := ?_) rfl (by kernel_rfl) (by kernel_rfl) (by kernel_rfl) (fun _ _ _ h => h) (by rfl) ?_ hHeld ?_
            rotate_left 1
            · (intro w' hSw; clear hSw; go_simp; try with_reducible rfl)
            (try simp only [Act.put, List.setIfInBounds_toArray, List.set_cons_zero, List.set_cons_succ])
            refine take_yield (i := 1) (v := ?_) rfl (by kernel_rfl) (by kernel_rfl) (by kernel_rfl) (fun _ _ _ h => h) (by rfl) ?_ hHeld ?_
            rotate_left 1
            · (intro w' hSw; have hCell := fun (b o : Nat) (h : b < W8.heap.size) => hSw.cell (p := ⟨b, o, none⟩) h; clear hSw; go_simp; try with_reducible rfl)
            (try simp only [Act.put, List.setIfInBounds_toArray, List.set_cons_zero, List.set_cons_succ])
            refine take_yield (i := 2) (v := ?_) rfl (by kernel_rfl) (by kernel_rfl) (by kernel_rfl) (fun _ _ _ h => h) (by rfl) ?_ hHeld ?_
            rotate_left 1
            · (intro w' hSw; clear hSw; go_simp; try with_reducible rfl)
            (try simp only [Act.put, List.setIfInBounds_toArray, List.set_cons_zero, List.set_cons_succ])
            refine take_yield (i := 3) (v := ?_) rfl (by kernel_rfl) (by kernel_rfl) (by kernel_rfl) (fun _ _ _ h => h) (by rfl) ?_ hHeld ?_
            rotate_left 1
            · (intro w' hSw; have hCell := fun (b o : Nat) (h : b < W8.heap.size) => hSw.cell (p := ⟨b, o, none⟩) h; clear hSw; go_simp; try with_reducible rfl)
            (try simp only [Act.put, List.setIfInBounds_toArray, List.set_cons_zero, List.set_cons_succ])
            refine take_yield (i := 4) (v := ?_) rfl (by kernel_rfl) (by kernel_rfl) (by kernel_rfl) (fun _ _ _ h => h) (by rfl) ?_ hHeld ?_
            rotate_left 1
            · (intro w' hSw; clear hSw; go_simp; try with_reducible rfl)
            (try simp only [Act.put, List.setIfInBounds_toArray, List.set_cons_zero, List.set_cons_succ])
            refine take_yield (i := 5) (v := ?_) rfl (by kernel_rfl) (by kernel_rfl) (by kernel_rfl) (fun _ _ _ h => h) (by rfl) ?_ hHeld ?_
            rotate_left 1
            · (intro w' hSw; clear hSw; go_simp; try with_reducible rfl)
            (try simp only [Act.put, List.setIfInBounds_toArray, List.set_cons_zero, List.set_cons_succ])
            refine wpAnyH_done (by kernel_rfl) ?_ _
            go_wp2_with fail
            first | (refine wp_named ?_; intro W10 hW) | (refine calls_named ?_; intro W10 hW)
            have B10 : Below W8.heap.size W8 W10 := by rw [hW]; exact (by repeat (first | exact Below.refl _ _ | assumption | refine Below.alloc ?_ (by first | omega | (simp <;> omega)) _ | refine Below.setCell ?_ (by first | omega | (simp <;> omega)) _ | refine Below.drew ?_))
            replace c0 := cellAt c0 B10 (by omega)
            replace c1 := cellAt c1 B10 (by omega)
            replace s0 := cellAt s0 B10 (by omega)
            replace s1 := cellAt s1 B10 (by omega)
            replace x0 := cellAt x0 B10 (by omega)
            replace x1 := cellAt x1 B10 (by omega)
            replace x2 := cellAt x2 B10 (by omega)
            replace y0 := cellAt y0 B10 (by omega)
            replace y1 := cellAt y1 B10 (by omega)
            replace y2 := cellAt y2 B10 (by omega)
            replace HG := Lib.hid (HG.out.at B10)
            replace n1 : w.heap.size < W10.heap.size := ltAt n1 B10
            replace HB := Lib.hid (lift HB.out B10)
            replace HSN := Lib.hid (HSN.out.at B10)
            replace HSE := Lib.hid (HSE.out.at B10)
            replace n6 : w5.heap.size < W10.heap.size := ltAt n6 B10
            replace HR := Lib.hid (HR.out.at B10)
            replace hB1 : b1 < W10.heap.size := ltAt hB1 B10
            replace Hb := Lib.hid (lift Hb.out B10)
            replace n8 : wr.heap.size < W10.heap.size := ltAt n8 B10
            clear hW
            clear B10
            refine (Behind_any Bn Be ns.length dn de (straight es) d W10 HSE.out (okStraight HG.out.oke) hok.2 (by omega)).mono ?_
            rintro e v2 ⟨A6, c6, rfl, ho6, hb⟩
            have HR6 := Lib.hid (own_rd' ho6)
            replace c0 := cellAt c0 hb (by omega)
            replace c1 := cellAt c1 hb (by omega)
            replace s0 := cellAt s0 hb (by omega)
            replace s1 := cellAt s1 hb (by omega)
            replace x0 := cellAt x0 hb (by omega)
            replace x1 := cellAt x1 hb (by omega)
            replace x2 := cellAt x2 hb (by omega)
            replace y0 := cellAt y0 hb (by omega)
            replace y1 := cellAt y1 hb (by omega)
            replace y2 := cellAt y2 hb (by omega)
            replace HG := Lib.hid (HG.out.at hb)
            replace n1 : w.heap.size < v2.heap.size := ltAt n1 hb
            replace HB := Lib.hid (lift HB.out hb)
            replace HSN := Lib.hid (HSN.out.at hb)
            replace HSE := Lib.hid (HSE.out.at hb)
            replace n6 : w5.heap.size < v2.heap.size := ltAt n6 hb
            replace HR := Lib.hid (HR.out.at hb)
            replace hB1 : b1 < v2.heap.size := ltAt hB1 hb
            replace Hb := Lib.hid (lift Hb.out hb)
            replace n8 : wr.heap.size < v2.heap.size := ltAt n8 hb
            clear hb ho6
            have hl6 := reach_len (straight es) d
            go_wp2_with fail
            refine (HasS_any A6 c6 (reachL (prsL (straight es)) d) s v2 HR6.out (by omega)).mono ?_
            rw [(hasB_iff _ s).2 Hin.out]
            rintro e v3 ⟨rfl, rfl⟩
            go_wp2_with fail
            go_roundw
            case rel => exact ⟨k + 1, by omega, by go_num, Hb.out⟩
            case measure => simp [intOf]; omega
        · go_wp2_with fail
          obtain ⟨w9, rfl⟩ : ∃ wo : World, wo = wr := ⟨_, rfl⟩
          have hbx0 := Boxed.new w9 (.slice An ns.length cn) 25
          go_loopw [58] (fun i wr => ∃ (k : Nat) (A : Option Addr) (c : Nat), k ≤ es.length ∧ i = .int .i64 k ∧ Boxed w9 wr w9.heap.size (.slice An ns.length cn) A c ((es.take k).filter (needE es))) (fun i _ => es.length - (intOf i).toNat)
          case atStart => exact ⟨0, none, 0, Nat.zero_le _, rfl, hbx0⟩
          case round =>
            obtain ⟨k, A9, c9, hk, rfl, hbx⟩ := hrel
            replace c0 := cellAt c0 hbx.bel (by omega)
            replace c1 := cellAt c1 hbx.bel (by omega)
            replace s0 := cellAt s0 hbx.bel (by omega)
            replace s1 := cellAt s1 hbx.bel (by omega)
            replace HG := Lib.hid (HG.out.at hbx.bel)
            replace n1 : w.heap.size < wr.heap.size := ltAt n1 hbx.bel
            replace HB := Lib.hid (lift HB.out hbx.bel)
            replace HSN := Lib.hid (HSN.out.at hbx.bel)
            replace HSE := Lib.hid (HSE.out.at hbx.bel)
            replace n6 : w5.heap.size < wr.heap.size := ltAt n6 hbx.bel
            replace HR := Lib.hid (HR.out.at hbx.bel)
            by_cases hlt : k < es.length
            · obtain ⟨b1, o1, hA1, hB1, z0, z1, z2⟩ := HG.out.re.edge hlt
              have hft := filter_take_succ (p := needE es) hlt
              have hLl : ((es.take k).filter (needE es)).length ≤ es.length := Nat.le_trans (List.length_filter_le _ _) (by rw [List.length_take]; omega)
              generalize (es.take k).filter (needE es) = L at hbx hft hLl
              generalize es[k] = p at z0 z1 z2 hft
              obtain ⟨s, d, r⟩ := p
              simp only at z0 z1 z2
              have HFt := Lib.hid hft
              clear hft
              have k1 : (0 : Int) ≤ (k : Int) := by omega
              have k2 : (k : Int) < (es.length : Int) := by omega
              have h63 : L.length + 1 ≤ maxLen := by unfold maxLen; omega
              have hby : (L.length + 1) * 40 ≤ 140737488355328 := by omega
              subst hA1
              have HX := Lib.hid hbx
              have x0 := hbx.c0
              have x1 := hbx.c1
              have xl := hbx.lt
              clear hbx
              go_wp2_with fail
              first | (refine wp_named ?_; intro W11 hW) | (refine calls_named ?_; intro W11 hW)
              have B11 : Below wr.heap.size wr W11 := by rw [hW]; exact (by repeat (first | exact Below.refl _ _ | assumption | refine Below.alloc ?_ (by first | omega | (simp <;> omega)) _ | refine Below.setCell ?_ (by first | omega | (simp <;> omega)) _ | refine Below.drew ?_))
              replace c0 := cellAt c0 B11 (by omega)
              replace c1 := cellAt c1 B11 (by omega)
              replace s0 := cellAt s0 B11 (by omega)
              replace s1 := cellAt s1 B11 (by omega)
              replace x0 := cellAt x0 B11 (by omega)
              replace x1 := cellAt x1 B11 (by omega)
              replace z0 := cellAt z0 B11 (by omega)
              replace z1 := cellAt z1 B11 (by omega)
              replace z2 := cellAt z2 B11 (by omega)
              replace HG := Lib.hid (HG.out.at B11)
              replace n1 : w.heap.size < W11.heap.size := ltAt n1 B11
              replace HB := Lib.hid (lift HB.out B11)
              replace HSN := Lib.hid (HSN.out.at B11)
              replace HSE := Lib.hid (HSE.out.at B11)
              replace n6 : w5.heap.size < W11.heap.size := ltAt n6 B11
              replace HR := Lib.hid (HR.out.at B11)
              replace HX := Lib.hid (HX.out.at B11)
              replace xl : w9.heap.size < W11.heap.size := ltAt xl B11
              replace hB1 : b1 < W11.heap.size := ltAt hB1 B11
              have n11 : wr.heap.size < W11.heap.size := by rw [hW]; simp <;> omega
              have y0 : W11.cell? ⟨wr.heap.size, 0, none⟩ = some (sv s) := by rw [hW]; go_simp
              have y1 : W11.cell? ⟨wr.heap.size, 1, none⟩ = some (sv d) := by rw [hW]; go_simp
              have y2 : W11.cell? ⟨wr.heap.size, 2, none⟩ = some (.int .i64 r) := by rw [hW]; go_simp
              clear hW
              clear B11
              by_cases h8 : r = 8
              · subst h8
                try go_wp2_with fail
                refine wp_region_held_drew (S := fun w' => Below W11.heap.size W11 w') (by kernel_rfl) (Below.drew (Below.refl _ _)) (fun hHeld => ?_)
                refine take_yield (i := 0) (v := ?_) rfl (by kernel_rfl) (by kernel_rfl) (by kernel_rfl) (fun _ _ _ h => h) (by rfl) ?_ hHeld ?_
                rotate_left 1
                · (intro w' hSw; clear hSw; go_simp; try with_reducible rfl)
                (try simp only [Act.put, List.setIfInBounds_toArray, List.set_cons_zero, List.set_cons_succ])
                refine take_yield (i := 1) (v := ?_) rfl (by kernel_rfl) (by kernel_rfl) (by kernel_rfl) (fun _ _ _ h => h) (by rfl) ?_ hHeld ?_
                rotate_left 1
                · (intro w' hSw; have hCell := fun (b o : Nat) (h : b < W11.heap.size) => hSw.cell (p := ⟨b, o, none⟩) h; clear hSw; go_simp; try with_reducible rfl)
                (try simp only [Act.put, List.setIfInBounds_toArray, List.set_cons_zero, List.set_cons_succ])
                refine take_yield (i := 2) (v := ?_) rfl (by kernel_rfl) (by kernel_rfl) (by kernel_rfl) (fun _ _ _ h => h) (by rfl) ?_ hHeld ?_
                rotate_left 1
                · (intro w' hSw; clear hSw; go_simp; try with_reducible rfl)
                (try simp only [Act.put, List.setIfInBounds_toArray, List.set_cons_zero, List.set_cons_succ])
                refine take_yield (i := 3) (v := ?_) rfl (by kernel_rfl) (by kernel_rfl) (by kernel_rfl) (fun _ _ _ h => h) (by rfl) ?_ hHeld ?_
                rotate_left 1
                · (intro w' hSw; have hCell := fun (b o : Nat) (h : b < W11.heap.size) => hSw.cell (p := ⟨b, o, none⟩) h; clear hSw; go_simp; try with_reducible rfl)
                (try simp only [Act.put, List.setIfInBounds_toArray, List.set_cons_zero, List.set_cons_succ])
                refine take_yield (i := 4) (v := ?_) rfl (by kernel_rfl) (by kernel_rfl) (by kernel_rfl) (fun _ _ _ h => h) (by rfl) ?_ hHeld ?_
                rotate_left 1
                · (intro w' hSw; clear hSw; go_simp; try with_reducible rfl)
                (try simp only [Act.put, List.setIfInBounds_toArray, List.set_cons_zero, List.set_cons_succ])
                refine take_yield (i := 5) (v := ?_) rfl (by kernel_rfl) (by kernel_rfl) (by kernel_rfl) (fun _ _ _ h => h) (by rfl) ?_ hHeld ?_
                rotate_left 1
                · (intro w' hSw; clear hSw; go_simp; try with_reducible rfl)
                (try simp only [Act.put, List.setIfInBounds_toArray, List.set_cons_zero, List.set_cons_succ])
                refine wpAnyH_done (by kernel_rfl) ?_ _
                go_wp2_with fail
                first | (refine wp_named ?_; intro W12 hW) | (refine calls_named ?_; intro W12 hW)
                have B12 : Below W11.heap.size W11 W12 := by rw [hW]; exact (by repeat (first | exact Below.refl _ _ | assumption | refine Below.alloc ?_ (by first | omega | (simp <;> omega)) _ | refine Below.setCell ?_ (by first | omega | (simp <;> omega)) _ | refine Below.drew ?_))
                replace c0 := cellAt c0 B12 (by omega)
                replace c1 := cellAt c1 B12 (by omega)
                replace s0 := cellAt s0 B12 (by omega)
                replace s1 := cellAt s1 B12 (by omega)
                replace x0 := cellAt x0 B12 (by omega)
                replace x1 := cellAt x1 B12 (by omega)
                replace z0 := cellAt z0 B12 (by omega)
                replace z1 := cellAt z1 B12 (by omega)
                replace z2 := cellAt z2 B12 (by omega)
                replace y0 := cellAt y0 B12 (by omega)
                replace y1 := cellAt y1 B12 (by omega)
                replace y2 := cellAt y2 B12 (by omega)
                replace HG := Lib.hid (HG.out.at B12)
                replace n1 : w.heap.size < W12.heap.size := ltAt n1 B12
                replace HB := Lib.hid (lift HB.out B12)
                replace HSN := Lib.hid (HSN.out.at B12)
                replace HSE := Lib.hid (HSE.out.at B12)
                replace n6 : w5.heap.size < W12.heap.size := ltAt n6 B12
                replace HR := Lib.hid (HR.out.at B12)
                replace HX := Lib.hid (HX.out.at B12)
                replace xl : w9.heap.size < W12.heap.size := ltAt xl B12
                replace hB1 : b1 < W12.heap.size := ltAt hB1 B12
                replace n11 : wr.heap.size < W12.heap.size := ltAt n11 B12
                clear hW
                clear B12
                try go_wp2_with fail
                refine wp_region_held_drew (S := fun w' => Below W12.heap.size W12 w') (by kernel_rfl) (Below.drew (Below.refl _ _)) (fun hHeld => ?_)
                refine take_yield (i := 0) (v := ?_) rfl (by kernel_rfl) (by kernel_rfl) (by kernel_rfl) (fun _ _ _ h => h) (by rfl) ?_ hHeld ?_
                rotate_left 1
                · (intro w' hSw; clear hSw; go_simp; try with_reducible rfl)
                (try simp only [Act.put, List.setIfInBounds_toArray, List.set_cons_zero, List.set_cons_succ])
                refine take_yield (i := 1) (v := ?_) rfl (by kernel_rfl) (by kernel_rfl) (by kernel_rfl) (fun _ _ _ h => h) (by rfl) ?_ hHeld ?_
                rotate_left 1
                · (intro w' hSw; have hCell := fun (b o : Nat) (h : b < W12.heap.size) => hSw.cell (p := ⟨b, o, none⟩) h; clear hSw; go_simp; try with_reducible rfl)
                (try simp only [Act.put, List.setIfInBounds_toArray, List.set_cons_zero, List.set_cons_succ])
                refine take_yield (i := 2) (v := ?_) rfl (by kernel_rfl) (by kernel_rfl) (by kernel_rfl) (fun _ _ _ h => h) (by rfl) ?_ hHeld ?_
                rotate_left 1
                · (intro w' hSw; clear hSw; go_simp; try with_reducible rfl)
                (try simp only [Act.put, List.setIfInBounds_toArray, List.set_cons_zero, List.set_cons_succ])
                refine take_yield (i := 3) (v := ?_) rfl (by kernel_rfl) (by kernel_rfl) (by kernel_rfl) (fun _ _ _ h => h) (by rfl) ?_ hHeld ?_
                rotate_left 1
                · (intro w' hSw; have hCell := fun (b o : Nat) (h : b < W12.heap.size) => hSw.cell (p := ⟨b, o, none⟩) h; clear hSw; go_simp; try with_reducible rfl)
                (try simp only [Act.put, List.setIfInBounds_toArray, List.set_cons_zero, List.set_cons_succ])
                refine take_yield (i := 4) (v := ?_) rfl (by kernel_rfl) (by kernel_rfl) (by kernel_rfl) (fun _ _ _ h => h) (by rfl) ?_ hHeld ?_
                rotate_left 1
                · (intro w' hSw; clear hSw; go_simp; try with_reducible rfl)
                (try simp only [Act.put, List.setIfInBounds_toArray, List.set_cons_zero, List.set_cons_succ])
                refine take_yield (i := 5) (v := ?_) rfl (by kernel_rfl) (by kernel_rfl) (by kernel_rfl) (fun _ _ _ h => h) (by rfl) ?_ hHeld ?_
                rotate_left 1
                · (intro w' hSw; clear hSw; go_simp; try with_reducible rfl)
                (try simp only [Act.put, List.setIfInBounds_toArray, List.set_cons_zero, List.set_cons_succ])
                refine wpAnyH_done (by kernel_rfl) ?_ _
                go_wp2_with fail
                first | (refine wp_named ?_; intro W13 hW) | (refine calls_named ?_; intro W13 hW)
                have B13 : Below W12.heap.size W12 W13 := by rw [hW]; exact (by repeat (first | exact Below.refl _ _ | assumption | refine Below.alloc ?_ (by first | omega | (simp <;> omega)) _ | refine Below.setCell ?_ (by first | omega | (simp <;> omega)) _ | refine Below.drew ?_))
                replace c0 := cellAt c0 B13 (by omega)
                replace c1 := cellAt c1 B13 (by omega)
                replace s0 := cellAt s0 B13 (by omega)
                replace s1 := cellAt s1 B13 (by omega)
                replace x0 := cellAt x0 B13 (by omega)
                replace x1 := cellAt x1 B13 (by omega)
                replace z0 := cellAt z0 B13 (by omega)
                replace z1 := cellAt z1 B13 (by omega)
                replace z2 := cellAt z2 B13 (by omega)
                replace y0 := cellAt y0 B13 (by omega)
                replace y1 := cellAt y1 B13 (by omega)
                replace y2 := cellAt y2 B13 (by omega)
                replace HG := Lib.hid (HG.out.at B13)
                replace n1 : w.heap.size < W13.heap.size := ltAt n1 B13
                replace HB := Lib.hid (lift HB.out B13)
                replace HSN := Lib.hid (HSN.out.at B13)
                replace HSE := Lib.hid (HSE.out.at B13)
                replace n6 : w5.heap.size < W13.heap.size := ltAt n6 B13
                replace HR := Lib.hid (HR.out.at B13)
                replace HX := Lib.hid (HX.out.at B13)
                replace xl : w9.heap.size < W13.heap.size := ltAt xl B13
                replace hB1 : b1 < W13.heap.size := ltAt hB1 B13
                replace n11 : wr.heap.size < W13.heap.size := ltAt n11 B13
                clear hW
                clear B13
                refine (Has_any An (some ⟨b1, o1, none⟩) ns.length cn ce es s d 1 W13 HG.out.re (by omega)).mono ?_
                rintro e v1 ⟨rfl, hb⟩
                replace c0 := cellAt c0 hb (by omega)
                replace c1 := cellAt c1 hb (by omega)
                replace s0 := cellAt s0 hb (by omega)
                replace s1 := cellAt s1 hb (by omega)
                replace x0 := cellAt x0 hb (by omega)
                replace x1 := cellAt x1 hb (by omega)
                replace z0 := cellAt z0 hb (by omega)
                replace z1 := cellAt z1 hb (by omega)
                replace z2 := cellAt z2 hb (by omega)
                replace y0 := cellAt y0 hb (by omega)
                replace y1 := cellAt y1 hb (by omega)
                replace y2 := cellAt y2 hb (by omega)
                replace HG := Lib.hid (HG.out.at hb)
                replace n1 : w.heap.size < v1.heap.size := ltAt n1 hb
                replace HB := Lib.hid (lift HB.out hb)
                replace HSN := Lib.hid (HSN.out.at hb)
                replace HSE := Lib.hid (HSE.out.at hb)
                replace n6 : w5.heap.size < v1.heap.size := ltAt n6 hb
                replace HR := Lib.hid (HR.out.at hb)
                replace HX := Lib.hid (HX.out.at hb)
                replace xl : w9.heap.size < v1.heap.size := ltAt xl hb
                replace hB1 : b1 < v1.heap.size := ltAt hB1 hb
                replace n11 : wr.heap.size < v1.heap.size := ltAt n11 hb
                clear hb
                cases h1 : es.any (· == (s, d, (1 : Int)))
                · go_wp2_with fail
                  refine (Has_any An (some ⟨b1, o1, none⟩) ns.length cn ce es s d 4 v1 HG.out.re (by omega)).mono ?_
                  rintro e v2 ⟨rfl, hb⟩
                  replace c0 := cellAt c0 hb (by omega)
                  replace c1 := cellAt c1 hb (by omega)
                  replace s0 := cellAt s0 hb (by omega)
                  replace s1 := cellAt s1 hb (by omega)
                  replace x0 := cellAt x0 hb (by omega)
                  replace x1 := cellAt x1 hb (by omega)
                  replace z0 := cellAt z0 hb (by omega)
                  replace z1 := cellAt z1 hb (by omega)
                  replace z2 := cellAt z2 hb (by omega)
                  replace y0 := cellAt y0 hb (by omega)
                  replace y1 := cellAt y1 hb (by omega)
                  replace y2 := cellAt y2 hb (by omega)
                  replace HG := Lib.hid (HG.out.at hb)
                  replace n1 : w.heap.size < v2.heap.size := ltAt n1 hb
                  replace HB := Lib.hid (lift HB.out hb)
                  replace HSN := Lib.hid (HSN.out.at hb)
                  replace HSE := Lib.hid (HSE.out.at hb)
                  replace n6 : w5.heap.size < v2.heap.size := ltAt n6 hb
                  replace HR := Lib.hid (HR.out.at hb)
                  replace HX := Lib.hid (HX.out.at hb)
                  replace xl : w9.heap.size < v2.heap.size := ltAt xl hb
                  replace hB1 : b1 < v2.heap.size := ltAt hB1 hb
                  replace n11 : wr.heap.size < v2.heap.size := ltAt n11 hb
                  clear hb
                  cases h4 : es.any (· == (s, d, (4 : Int)))
                  · have HNe := Lib.hid (show needE es (s, d, 8) = false by have e1 : hasE es s d 1 = false := h1; have e4 : hasE es s d 4 = false := h4; simp [needE, needsB, turned, e1, e4])
                    clear h1 h4
                    go_wp2_with fail
                    go_roundw
                    case rel => exact ⟨k + 1, A9, c9, by omega, by go_num, by rw [HFt.out, HNe.out]; simpa using HX.out⟩
                    case measure => simp [intOf]; omega
                  · have HNe := Lib.hid (show needE es (s, d, 8) = true by have e4 : hasE es s d 4 = true := h4; simp [needE, needsB, turned, e4])
                    clear h1 h4
                    have hpz : w9.heap.size + 1 ≤ v2.heap.size := HX.out.lt
                    go_wp2_with (first | (at_builtin; refine wpList_pushm v2 v2 (by rfl) (.tmp 94) (.tmp 96) 23 (by rfl) (w9.heap.size + 1) 34 i0 _ 3 40 Tryz.underlying23 hi hz0 hz1 hz2 rfl (by decide) _ _ _ (by rfl) HX.out.own (edC (s, d, 8)) v2.heap.size rfl (by rfl) rfl (one_edC _) h63 hby hpz (Below.refl _ _) ?_; intro A12 c12 w12 hown hbel hg hat; have HX2 := Lib.hid (HX.out.push (x := (s, d, 8)) hown hg); have e12 := cell_kept HX.out.c1 hg HX.out.lt HX.out.off; have f12 := fro_kept HX.out.fro hg HX.out.lt HX.out.off; have l12 : w9.heap.size < w12.heap.size := Nat.lt_of_lt_of_le HX.out.lt hg.size; clear hown hbel hg hat) | fail)
                    go_roundw
                    case rel => exact ⟨k + 1, A12, c12, by omega, by go_num, by rw [HFt.out, HNe.out]; exact HX2.out⟩
                    case measure => simp [intOf]; omega
                · have HNe := Lib.hid (show needE es (s, d, 8) = true by have e1 : hasE es s d 1 = true := h1; simp [needE, needsB, turned, e1])
                  clear h1
                  have hpz : w9.heap.size + 1 ≤ v1.heap.size := HX.out.lt
                  go_wp2_with (first | (at_builtin; refine wpList_pushm v1 v1 (by rfl) (.tmp 94) (.tmp 96) 23 (by rfl) (w9.heap.size + 1) 34 i0 _ 3 40 Tryz.underlying23 hi hz0 hz1 hz2 rfl (by decide) _ _ _ (by rfl) HX.out.own (edC (s, d, 8)) v1.heap.size rfl (by rfl) rfl (one_edC _) h63 hby hpz (Below.refl _ _) ?_; intro A12 c12 w12 hown hbel hg hat; have HX2 := Lib.hid (HX.out.push (x := (s, d, 8)) hown hg); have e12 := cell_kept HX.out.c1 hg HX.out.lt HX.out.off; have f12 := fro_kept HX.out.fro hg HX.out.lt HX.out.off; have l12 : w9.heap.size < w12.heap.size := Nat.lt_of_lt_of_le HX.out.lt hg.size; clear hown hbel hg hat) | fail)
                  go_roundw
                  case rel => exact ⟨k + 1, A12, c12, by omega, by go_num, by rw [HFt.out, HNe.out]; exact HX2.out⟩
                  case measure => simp [intOf]; omega
              · have h8' : ((r : Int) == 8) = false := by simp [h8]
                by_cases h7 : r = 7
                · subst h7
                  clear h8
                  try go_wp2_with fail
                  refine wp_region_held_drew (S := fun w' => Below W11.heap.size W11 w') (by kernel_rfl) (Below.drew (Below.refl _ _)) (fun hHeld => ?_)
                  refine take_yield (i := 0) (v := ?_) rfl (by kernel_rfl) (by kernel_rfl) (by kernel_rfl) (fun _ _ _ h => h) (by rfl) ?_ hHeld ?_
                  rotate_left 1
                  · (intro w' hSw; clear hSw; go_simp; try with_reducible rfl)
                  (try simp only [Act.put, List.setIfInBounds_toArray, List.set_cons_zero, List.set_cons_succ])
                  refine take_yield (i := 1) (v := ?_) rfl (by kernel_rfl) (by kernel_rfl) (by kernel_rfl) (fun _ _ _ h => h) (by rfl) ?_ hHeld ?_
                  rotate_left 1
                  · (intro w' hSw; have hCell := fun (b o : Nat) (h : b < W11.heap.size) => hSw.cell (p := ⟨b, o, none⟩) h; clear hSw; go_simp; try with_reducible rfl)
                  (try simp only [Act.put, List.setIfInBounds_toArray, List.set_cons_zero, List.set_cons_succ])
                  refine take_yield (i := 2) (v := ?_) rfl (by kernel_rfl) (by kernel_rfl) (by kernel_rfl) (fun _ _ _ h => h) (by rfl) ?_ hHeld ?_
                  rotate_left 1
                  · (intro w' hSw; clear hSw; go_simp; try with_reducible rfl)
                  (try simp only [Act.put, List.setIfInBounds_toArray, List.set_cons_zero, List.set_cons_succ])
                  refine take_yield (i := 3) (v := ?_) rfl (by kernel_rfl) (by kernel_rfl) (by kernel_rfl) (fun _ _ _ h => h) (by rfl) ?_ hHeld ?_
                  rotate_left 1
                  · (intro w' hSw; have hCell := fun (b o : Nat) (h : b < W11.heap.size) => hSw.cell (p := ⟨b, o, none⟩) h; clear hSw; go_simp; try with_reducible rfl)
                  (try simp only [Act.put, List.setIfInBounds_toArray, List.set_cons_zero, List.set_cons_succ])
                  refine take_yield (i := 4) (v := ?_) rfl (by kernel_rfl) (by kernel_rfl) (by kernel_rfl) (fun _ _ _ h => h) (by rfl) ?_ hHeld ?_
                  rotate_left 1
                  · (intro w' hSw; clear hSw; go_simp; try with_reducible rfl)
                  (try simp only [Act.put, List.setIfInBounds_toArray, List.set_cons_zero, List.set_cons_succ])
                  refine take_yield (i := 5) (v := ?_) rfl (by kernel_rfl) (by kernel_rfl) (by kernel_rfl) (fun _ _ _ h => h) (by rfl) ?_ hHeld ?_
                  rotate_left 1
                  · (intro w' hSw; clear hSw; go_simp; try with_reducible rfl)
                  (try simp only [Act.put, List.setIfInBounds_toArray, List.set_cons_zero, List.set_cons_succ])
                  refine wpAnyH_done (by kernel_rfl) ?_ _
                  go_wp2_with fail
                  first | (refine wp_named ?_; intro W13 hW) | (refine calls_named ?_; intro W13 hW)
                  have B13 : Below W11.heap.size W11 W13 := by rw [hW]; exact (by repeat (first | exact Below.refl _ _ | assumption | refine Below.alloc ?_ (by first | omega | (simp <;> omega)) _ | refine Below.setCell ?_ (by first | omega | (simp <;> omega)) _ | refine Below.drew ?_))
                  replace c0 := cellAt c0 B13 (by omega)
                  replace c1 := cellAt c1 B13 (by omega)
                  replace s0 := cellAt s0 B13 (by omega)
                  replace s1 := cellAt s1 B13 (by omega)
                  replace x0 := cellAt x0 B13 (by omega)
                  replace x1 := cellAt x1 B13 (by omega)
                  replace z0 := cellAt z0 B13 (by omega)
                  replace z1 := cellAt z1 B13 (by omega)
                  replace z2 := cellAt z2 B13 (by omega)
                  replace y0 := cellAt y0 B13 (by omega)
                  replace y1 := cellAt y1 B13 (by omega)
                  replace y2 := cellAt y2 B13 (by omega)
                  replace HG := Lib.hid (HG.out.at B13)
                  replace n1 : w.heap.size < W13.heap.size := ltAt n1 B13
                  replace HB := Lib.hid (lift HB.out B13)
                  replace HSN := Lib.hid (HSN.out.at B13)
                  replace HSE := Lib.hid (HSE.out.at B13)
                  replace n6 : w5.heap.size < W13.heap.size := ltAt n6 B13
                  replace HR := Lib.hid (HR.out.at B13)
                  replace HX := Lib.hid (HX.out.at B13)
                  replace xl : w9.heap.size < W13.heap.size := ltAt xl B13
                  replace hB1 : b1 < W13.heap.size := ltAt hB1 B13
                  replace n11 : wr.heap.size < W13.heap.size := ltAt n11 B13
                  clear hW
                  clear B13
                  refine (Has_any An (some ⟨b1, o1, none⟩) ns.length cn ce es d s 1 W13 HG.out.re (by omega)).mono ?_
                  rintro e v1 ⟨rfl, hb⟩
                  replace c0 := cellAt c0 hb (by omega)
                  replace c1 := cellAt c1 hb (by omega)
                  replace s0 := cellAt s0 hb (by omega)
                  replace s1 := cellAt s1 hb (by omega)
                  replace x0 := cellAt x0 hb (by omega)
                  replace x1 := cellAt x1 hb (by omega)
                  replace z0 := cellAt z0 hb (by omega)
                  replace z1 := cellAt z1 hb (by omega)
                  replace z2 := cellAt z2 hb (by omega)
                  replace y0 := cellAt y0 hb (by omega)
                  replace y1 := cellAt y1 hb (by omega)
                  replace y2 := cellAt y2 hb (by omega)
                  replace HG := Lib.hid (HG.out.at hb)
                  replace n1 : w.heap.size < v1.heap.size := ltAt n1 hb
                  replace HB := Lib.hid (lift HB.out hb)
                  replace HSN := Lib.hid (HSN.out.at hb)
                  replace HSE := Lib.hid (HSE.out.at hb)
                  replace n6 : w5.heap.size < v1.heap.size := ltAt n6 hb
                  replace HR := Lib.hid (HR.out.at hb)
                  replace HX := Lib.hid (HX.out.at hb)
                  replace xl : w9.heap.size < v1.heap.size := ltAt xl hb
                  replace hB1 : b1 < v1.heap.size := ltAt hB1 hb
                  replace n11 : wr.heap.size < v1.heap.size := ltAt n11 hb
                  clear hb
                  cases h1 : es.any (· == (d, s, (1 : Int)))
                  · go_wp2_with fail
                    refine (Has_any An (some ⟨b1, o1, none⟩) ns.length cn ce es d s 4 v1 HG.out.re (by omega)).mono ?_
                    rintro e v2 ⟨rfl, hb⟩
                    replace c0 := cellAt c0 hb (by omega)
                    replace c1 := cellAt c1 hb (by omega)
                    replace s0 := cellAt s0 hb (by omega)
                    replace s1 := cellAt s1 hb (by omega)
                    replace x0 := cellAt x0 hb (by omega)
                    replace x1 := cellAt x1 hb (by omega)
                    replace z0 := cellAt z0 hb (by omega)
                    replace z1 := cellAt z1 hb (by omega)
                    replace z2 := cellAt z2 hb (by omega)
                    replace y0 := cellAt y0 hb (by omega)
                    replace y1 := cellAt y1 hb (by omega)
                    replace y2 := cellAt y2 hb (by omega)
                    replace HG := Lib.hid (HG.out.at hb)
                    replace n1 : w.heap.size < v2.heap.size := ltAt n1 hb
                    replace HB := Lib.hid (lift HB.out hb)
                    replace HSN := Lib.hid (HSN.out.at hb)
                    replace HSE := Lib.hid (HSE.out.at hb)
                    replace n6 : w5.heap.size < v2.heap.size := ltAt n6 hb
                    replace HR := Lib.hid (HR.out.at hb)
                    replace HX := Lib.hid (HX.out.at hb)
                    replace xl : w9.heap.size < v2.heap.size := ltAt xl hb
                    replace hB1 : b1 < v2.heap.size := ltAt hB1 hb
                    replace n11 : wr.heap.size < v2.heap.size := ltAt n11 hb
                    clear hb
                    cases h4 : es.any (· == (d, s, (4 : Int)))
                    · have HNe := Lib.hid (show needE es (s, d, 7) = false by have e1 : hasE es d s 1 = false := h1; have e4 : hasE es d s 4 = false := h4; simp [needE, needsB, turned, e1, e4])
                      clear h1 h4
                      go_wp2_with fail
                      go_roundw
                      case rel => exact ⟨k + 1, A9, c9, by omega, by go_num, by rw [HFt.out, HNe.out]; simpa using HX.out⟩
                      case measure => simp [intOf]; omega
                    · have HNe := Lib.hid (show needE es (s, d, 7) = true by have e4 : hasE es d s 4 = true := h4; simp [needE, needsB, turned, e4])
                      clear h1 h4
                      have hpz : w9.heap.size + 1 ≤ v2.heap.size := HX.out.lt
                      go_wp2_with (first | (at_builtin; refine wpList_pushm v2 v2 (by rfl) (.tmp 94) (.tmp 96) 23 (by rfl) (w9.heap.size + 1) 34 i0 _ 3 40 Tryz.underlying23 hi hz0 hz1 hz2 rfl (by decide) _ _ _ (by rfl) HX.out.own (edC (s, d, 7)) v2.heap.size rfl (by rfl) rfl (one_edC _) h63 hby hpz (Below.refl _ _) ?_; intro A12 c12 w12 hown hbel hg hat; have HX2 := Lib.hid (HX.out.push (x := (s, d, 7)) hown hg); have e12 := cell_kept HX.out.c1 hg HX.out.lt HX.out.off; have f12 := fro_kept HX.out.fro hg HX.out.lt HX.out.off; have l12 : w9.heap.size < w12.heap.size := Nat.lt_of_lt_of_le HX.out.lt hg.size; clear hown hbel hg hat) | fail)
                      go_roundw
                      case rel => exact ⟨k + 1, A12, c12, by omega, by go_num, by rw [HFt.out, HNe.out]; exact HX2.out⟩
                      case measure => simp [intOf]; omega
                  · have HNe := Lib.hid (show needE es (s, d, 7) = true by have e1 : hasE es d s 1 = true := h1; simp [needE, needsB, turned, e1])
                    clear h1
                    have hpz : w9.heap.size + 1 ≤ v1.heap.size := HX.out.lt
                    go_wp2_with (first | (at_builtin; refine wpList_pushm v1 v1 (by rfl) (.tmp 94) (.tmp 96) 23 (by rfl) (w9.heap.size + 1) 34 i0 _ 3 40 Tryz.underlying23 hi hz0 hz1 hz2 rfl (by decide) _ _ _ (by rfl) HX.out.own (edC (s, d, 7)) v1.heap.size rfl (by rfl) rfl (one_edC _) h63 hby hpz (Below.refl _ _) ?_; intro A12 c12 w12 hown hbel hg hat; have HX2 := Lib.hid (HX.out.push (x := (s, d, 7)) hown hg); have e12 := cell_kept HX.out.c1 hg HX.out.lt HX.out.off; have f12 := fro_kept HX.out.fro hg HX.out.lt HX.out.off; have l12 : w9.heap.size < w12.heap.size := Nat.lt_of_lt_of_le HX.out.lt hg.size; clear hown hbel hg hat) | fail)
                    go_roundw
                    case rel => exact ⟨k + 1, A12, c12, by omega, by go_num, by rw [HFt.out, HNe.out]; exact HX2.out⟩
                    case measure => simp [intOf]; omega
                · have h7' : ((r : Int) == 7) = false := by simp [h7]
                  have HNe := Lib.hid (show needE es (s, d, r) = false by simp [needE, h8, h7])
                  clear h7 h8
                  try go_wp2_with fail
                  refine wp_region_held_drew (S := fun w' => Below W11.heap.size W11 w') (by kernel_rfl) (Below.drew (Below.refl _ _)) (fun hHeld => ?_)
                  refine take_yield (i := 0) (v := ?_) rfl (by kernel_rfl) (by kernel_rfl) (by kernel_rfl) (fun _ _ _ h => h) (by rfl) ?_ hHeld ?_
                  rotate_left 1
                  · (intro w' hSw; clear hSw; go_simp; try with_reducible rfl)
                  (try simp only [Act.put, List.setIfInBounds_toArray, List.set_cons_zero, List.set_cons_succ])
                  refine take_yield (i := 1) (v := ?_) rfl (by kernel_rfl) (by kernel_rfl) (by kernel_rfl) (fun _ _ _ h => h) (by rfl) ?_ hHeld ?_
                  rotate_left 1
                  · (intro w' hSw; have hCell := fun (b o : Nat) (h : b < W11.heap.size) => hSw.cell (p := ⟨b, o, none⟩) h; clear hSw; go_simp; try with_reducible rfl)
                  (try simp only [Act.put, List.setIfInBounds_toArray, List.set_cons_zero, List.set_cons_succ])
                  refine take_yield (i := 2) (v := ?_) rfl (by kernel_rfl) (by kernel_rfl) (by kernel_rfl) (fun _ _ _ h => h) (by rfl) ?_ hHeld ?_
                  rotate_left 1
                  · (intro w' hSw; clear hSw; go_simp; try with_reducible rfl)
                  (try simp only [Act.put, List.setIfInBounds_toArray, List.set_cons_zero, List.set_cons_succ])
                  refine take_yield (i := 3) (v := ?_) rfl (by kernel_rfl) (by kernel_rfl) (by kernel_rfl) (fun _ _ _ h => h) (by rfl) ?_ hHeld ?_
                  rotate_left 1
                  · (intro w' hSw; have hCell := fun (b o : Nat) (h : b < W11.heap.size) => hSw.cell (p := ⟨b, o, none⟩) h; clear hSw; go_simp; try with_reducible rfl)
                  (try simp only [Act.put, List.setIfInBounds_toArray, List.set_cons_zero, List.set_cons_succ])
                  refine take_yield (i := 4) (v := ?_) rfl (by kernel_rfl) (by kernel_rfl) (by kernel_rfl) (fun _ _ _ h => h) (by rfl) ?_ hHeld ?_
                  rotate_left 1
                  · (intro w' hSw; clear hSw; go_simp; try with_reducible rfl)
                  (try simp only [Act.put, List.setIfInBounds_toArray, List.set_cons_zero, List.set_cons_succ])
                  refine take_yield (i := 5) (v := ?_) rfl (by kernel_rfl) (by kernel_rfl) (by kernel_rfl) (fun _ _ _ h => h) (by rfl) ?_ hHeld ?_
                  rotate_left 1
                  · (intro w' hSw; clear hSw; go_simp; try with_reducible rfl)
                  (try simp only [Act.put, List.setIfInBounds_toArray, List.set_cons_zero, List.set_cons_succ])
                  refine wpAnyH_done (by kernel_rfl) ?_ _
                  go_wp2_with fail
                  go_roundw
                  case rel => exact ⟨k + 1, A9, c9, by omega, by go_num, by rw [HFt.out, HNe.out]; simpa using HX.out.at hHeld⟩
                  case measure => simp [intOf]; omega
            · rw [List.take_of_length_le (by omega)] at hbx
              have hst := fun (h : isB (es.filter (needE es)) = true) (e : Ed) (he : e ∈ es.filter (needE es)) => need_stays h he
              have hok9 : OkE (es.filter (needE es)) := fun e he => HG.out.oke e (List.mem_filter.1 he).1
              have hl9 : (es.filter (needE es)).length ≤ es.length := List.length_filter_le _ _
              generalize es.filter (needE es) = NE at hbx hst hok9 hl9
              have HSt := Lib.hid hst
              have HOk9 := Lib.hid hok9
              clear hst hok9
              have HX := Lib.hid hbx
              have x0 := hbx.c0
              have x1 := hbx.c1
              have xl := hbx.lt
              clear hbx
              go_wp2_with fail
              refine (Is_any An A9 ns.length cn c9 NE wr HX.out.rd HOk9.out (by omega)).mono ?_
              rintro e v1 ⟨rfl, hb⟩
              replace c0 := cellAt c0 hb (by omega)
              replace c1 := cellAt c1 hb (by omega)
              replace s0 := cellAt s0 hb (by omega)
              replace s1 := cellAt s1 hb (by omega)
              replace x0 := cellAt x0 hb (by omega)
              replace x1 := cellAt x1 hb (by omega)
              replace HG := Lib.hid (HG.out.at hb)
              replace n1 : w.heap.size < v1.heap.size := ltAt n1 hb
              replace HB := Lib.hid (lift HB.out hb)
              replace HSN := Lib.hid (HSN.out.at hb)
              replace HSE := Lib.hid (HSE.out.at hb)
              replace n6 : w5.heap.size < v1.heap.size := ltAt n6 hb
              replace HR := Lib.hid (HR.out.at hb)
              replace HX := Lib.hid (HX.out.at hb)
              replace xl : w9.heap.size < v1.heap.size := ltAt xl hb
              clear hb
              cases hin : isB NE
              · go_wp2_with fail
                go_ret
                exact ⟨rfl, HB.out⟩
              · have HIn := Lib.hid (fun e he => HSt.out hin e he)
                clear hin
                go_wp2_with fail
                go_loopw [106] (fun i wr => ∃ k : Nat, k ≤ NE.length ∧ i = .int .i64 k ∧ Below v1.heap.size v1 wr) (fun i _ => NE.length - (intOf i).toNat)
                case atStart => exact ⟨0, Nat.zero_le _, rfl, Below.refl _ _⟩
                case round =>
                  obtain ⟨j, hj, rfl, hb⟩ := hrel
                  replace c0 := cellAt c0 hb (by omega)
                  replace c1 := cellAt c1 hb (by omega)
                  replace s0 := cellAt s0 hb (by omega)
                  replace s1 := cellAt s1 hb (by omega)
                  replace x0 := cellAt x0 hb (by omega)
                  replace x1 := cellAt x1 hb (by omega)
                  replace HG := Lib.hid (HG.out.at hb)
                  replace n1 : w.heap.size < wr.heap.size := ltAt n1 hb
                  replace HB := Lib.hid (lift HB.out hb)
                  replace HSN := Lib.hid (HSN.out.at hb)
                  replace HSE := Lib.hid (HSE.out.at hb)
                  replace n6 : w5.heap.size < wr.heap.size := ltAt n6 hb
                  replace HR := Lib.hid (HR.out.at hb)
                  replace HX := Lib.hid (HX.out.at hb)
                  replace xl : w9.heap.size < wr.heap.size := ltAt xl hb
                  have Hb := Lib.hid hb
                  clear hb
                  by_cases hlt2 : j < NE.length
                  · obtain ⟨b1, o1, hA1, hB1, z0, z1, z2⟩ := HX.out.rd.edge hlt2
                    have hin := HIn.out NE[j] (List.getElem_mem hlt2)
                    generalize NE[j] = p at z0 z1 z2 hin
                    obtain ⟨s, d, r⟩ := p
                    simp only at z0 z1 z2
                    have hh : (straight es).any (· == (s, d, r)) = true := List.any_eq_true.2 ⟨_, hin, by simp⟩
                    have Hh := Lib.hid hh
                    clear hh hin
                    have k1 : (0 : Int) ≤ (j : Int) := by omega
                    have k2 : (j : Int) < (NE.length : Int) := by omega
                    subst hA1
                    go_wp2_with fail
                    first | (refine wp_named ?_; intro W11 hW) | (refine calls_named ?_; intro W11 hW)
                    have B11 : Below wr.heap.size wr W11 := by rw [hW]; exact (by repeat (first | exact Below.refl _ _ | assumption | refine Below.alloc ?_ (by first | omega | (simp <;> omega)) _ | refine Below.setCell ?_ (by first | omega | (simp <;> omega)) _ | refine Below.drew ?_))
                    replace c0 := cellAt c0 B11 (by omega)
                    replace c1 := cellAt c1 B11 (by omega)
                    replace s0 := cellAt s0 B11 (by omega)
                    replace s1 := cellAt s1 B11 (by omega)
                    replace x0 := cellAt x0 B11 (by omega)
                    replace x1 := cellAt x1 B11 (by omega)
                    replace z0 := cellAt z0 B11 (by omega)
                    replace z1 := cellAt z1 B11 (by omega)
                    replace z2 := cellAt z2 B11 (by omega)
                    replace HG := Lib.hid (HG.out.at B11)
                    replace n1 : w.heap.size < W11.heap.size := ltAt n1 B11
                    replace HB := Lib.hid (lift HB.out B11)
                    replace HSN := Lib.hid (HSN.out.at B11)
                    replace HSE := Lib.hid (HSE.out.at B11)
                    replace n6 : w5.heap.size < W11.heap.size := ltAt n6 B11
                    replace HR := Lib.hid (HR.out.at B11)
                    replace HX := Lib.hid (HX.out.at B11)
                    replace xl : w9.heap.size < W11.heap.size := ltAt xl B11
                    replace Hb := Lib.hid (lift Hb.out B11)
                    replace hB1 : b1 < W11.heap.size := ltAt hB1 B11
                    have n11 : wr.heap.size < W11.heap.size := by rw [hW]; simp <;> omega
                    have y0 : W11.cell? ⟨wr.heap.size, 0, none⟩ = some (sv s) := by rw [hW]; go_simp
                    have y1 : W11.cell? ⟨wr.heap.size, 1, none⟩ = some (sv d) := by rw [hW]; go_simp
                    have y2 : W11.cell? ⟨wr.heap.size, 2, none⟩ = some (.int .i64 r) := by rw [hW]; go_simp
                    clear hW
                    clear B11
                    refine (Has_any Bn Be ns.length dn de (straight es) s d r W11 HSE.out (by omega)).mono ?_
                    rw [Hh.out]
                    rintro e w12 ⟨rfl, hb⟩
                    replace c0 := cellAt c0 hb (by omega)
                    replace c1 := cellAt c1 hb (by omega)
                    replace s0 := cellAt s0 hb (by omega)
                    replace s1 := cellAt s1 hb (by omega)
                    replace x0 := cellAt x0 hb (by omega)
                    replace x1 := cellAt x1 hb (by omega)
                    replace z0 := cellAt z0 hb (by omega)
                    replace z1 := cellAt z1 hb (by omega)
                    replace z2 := cellAt z2 hb (by omega)
                    replace y0 := cellAt y0 hb (by omega)
                    replace y1 := cellAt y1 hb (by omega)
                    replace y2 := cellAt y2 hb (by omega)
                    replace HG := Lib.hid (HG.out.at hb)
                    replace n1 : w.heap.size < w12.heap.size := ltAt n1 hb
                    replace HB := Lib.hid (lift HB.out hb)
                    replace HSN := Lib.hid (HSN.out.at hb)
                    replace HSE := Lib.hid (HSE.out.at hb)
                    replace n6 : w5.heap.size < w12.heap.size := ltAt n6 hb
                    replace HR := Lib.hid (HR.out.at hb)
                    replace HX := Lib.hid (HX.out.at hb)
                    replace xl : w9.heap.size < w12.heap.size := ltAt xl hb
                    replace Hb := Lib.hid (lift Hb.out hb)
                    replace hB1 : b1 < w12.heap.size := ltAt hB1 hb
                    replace n11 : wr.heap.size < w12.heap.size := ltAt n11 hb
                    clear hb
                    go_wp2_with fail
                    go_roundw
                    case rel => exact ⟨j + 1, by omega, by go_num, Hb.out⟩
                    case measure => simp [intOf]; omega
                  · go_wp2_with fail
                    go_ret
                    exact ⟨rfl, HB.out⟩
end Od
end Go.Proofs.YtclaoffnfopekaaGreat
end
