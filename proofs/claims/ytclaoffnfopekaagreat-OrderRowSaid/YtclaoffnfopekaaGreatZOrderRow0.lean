/- My texts, joined for the claim: GLaw LwRow. -/
import Derived.Test.YtclaoffnfopekaaGreatZB5
import Derived.Test.YtclaoffnfopekaaGreatZB7
import Derived.Test.YtclaoffnfopekaaGreatZB0
import Derived.Test.YtclaoffnfopekaaGreatZB3
import Derived.Test.YtclaoffnfopekaaGreatZB11

section
/- Plain laws of chapter 16: what the statements OrderStraight, OrderMost, OrderRow, OrderBehind, OrderPut say of lists. No program. -/
namespace Go.Proofs.YtclaoffnfopekaaGreat
set_option linter.unusedSimpArgs false
namespace Od
/-- The order of edges. -/
def ltE (e f : Ed) : Bool := ltS e.1 f.1 || (e.1 == f.1 && (ltS e.2.1 f.2.1 || (e.2.1 == f.2.1 && decide (e.2.2 < f.2.2))))
theorem ltE_iff {e f : Ed} : ltE e f = true ↔ ltS e.1 f.1 = true ∨ (e.1 = f.1 ∧ (ltS e.2.1 f.2.1 = true ∨ (e.2.1 = f.2.1 ∧ e.2.2 < f.2.2))) := by
  simp [ltE]
theorem toE : TO ltE where
  irrefl x := by simp [ltE, toS.irrefl]
  trans {x y z} h1 h2 := by
    rw [ltE_iff] at *
    rcases h1 with h1 | ⟨a1, h1⟩
    · rcases h2 with h2 | ⟨a2, h2⟩
      · exact .inl (toS.trans h1 h2)
      · exact .inl (a2 ▸ h1)
    · rcases h2 with h2 | ⟨a2, h2⟩
      · exact .inl (a1 ▸ h2)
      · refine .inr ⟨a1.trans a2, ?_⟩
        rcases h1 with h1 | ⟨b1, h1⟩
        · rcases h2 with h2 | ⟨b2, h2⟩
          · exact .inl (toS.trans h1 h2)
          · exact .inl (b2 ▸ h1)
        · rcases h2 with h2 | ⟨b2, h2⟩
          · exact .inl (b1 ▸ h2)
          · exact .inr ⟨b1.trans b2, Int.lt_trans h1 h2⟩
  total {x y} h1 h2 := by
    have g1 : ¬ ltE x y = true := by simp [h1]
    have g2 : ¬ ltE y x = true := by simp [h2]
    rw [ltE_iff] at g1 g2
    simp only [not_or, not_and] at g1 g2
    have e1 : x.1 = y.1 := toS.total (by simpa using g1.1) (by simpa using g2.1)
    have k1 := g1.2 e1
    have k2 := g2.2 e1.symm
    have e2 : x.2.1 = y.2.1 := toS.total (by simpa using k1.1) (by simpa using k2.1)
    have l1 := k1.2 e2
    have l2 := k2.2 e2.symm
    exact Prod.ext e1 (Prod.ext e2 (by omega))
theorem lessS_eq (a b : Str) : lessS a b = ltS a b := rfl
theorem orI_one (x : Int) : orI [x] = x := by
  by_cases h : x = 0
  · subst h; rfl
  · exact orI_cons h []
theorem edgeCmp_lt {e f : Ed} : edgeCmp e f < 0 ↔ ltE e f = true := by
  rw [ltE_iff]
  unfold edgeCmp
  by_cases h1 : e.1 = f.1
  · have c1 : cmpS e.1 f.1 = 0 := by unfold cmpS; rw [lessS_eq, h1, toS.irrefl]; simp
    rw [c1, orI_cons0]
    have n1 : ¬ ltS e.1 f.1 = true := by rw [h1, toS.irrefl]; simp
    by_cases h2 : e.2.1 = f.2.1
    · have c2 : cmpS e.2.1 f.2.1 = 0 := by unfold cmpS; rw [lessS_eq, h2, toS.irrefl]; simp
      rw [c2, orI_cons0, orI_one]
      have n2 : ¬ ltS e.2.1 f.2.1 = true := by rw [h2, toS.irrefl]; simp
      simp only [n1, n2, h1, h2, false_or, true_and]
      unfold cmpI
      split
      · simp_all
      · split <;> simp_all
    · have c2 : cmpS e.2.1 f.2.1 ≠ 0 := by unfold cmpS; split <;> simp_all
      rw [orI_cons c2]
      simp only [n1, h1, h2, false_or, true_and, false_and, or_false]
      unfold cmpS
      rw [lessS_eq]
      split <;> simp_all
  · have c1 : cmpS e.1 f.1 ≠ 0 := by unfold cmpS; split <;> simp_all
    rw [orI_cons c1]
    simp only [h1, false_and, or_false]
    unfold cmpS
    rw [lessS_eq]
    split <;> simp_all
theorem rises_pairwise {α : Type} {c : α → α → Int} (ht : ∀ x y z, c x y < 0 → c y z < 0 → c x z < 0) : ∀ {l : List α}, risesB c l = true → l.Pairwise (fun x y => c x y < 0)
  | [], _ => .nil
  | [x], _ => List.pairwise_singleton _ _
  | x :: y :: r, h => by
    unfold risesB at h
    rw [Bool.and_eq_true, decide_eq_true_eq] at h
    have ih := rises_pairwise ht h.2
    refine List.pairwise_cons.2 ⟨fun z hz => ?_, ih⟩
    rcases List.mem_cons.1 hz with e | e
    · rw [e]; exact h.1
    · exact ht _ _ _ h.1 ((List.pairwise_cons.1 ih).1 z e)
theorem pairwise_rises {α : Type} {c : α → α → Int} : ∀ {l : List α}, l.Pairwise (fun x y => c x y < 0) → risesB c l = true
  | [], _ => rfl
  | [x], _ => rfl
  | x :: y :: r, h => by
    unfold risesB
    obtain ⟨h1, h2⟩ := List.pairwise_cons.1 h
    rw [Bool.and_eq_true, decide_eq_true_eq]
    exact ⟨h1 y (.head _), pairwise_rises h2⟩
theorem risesE_iff {es : List Ed} : risesB edgeCmp es = true ↔ SS ltE es := by
  constructor
  · intro h
    exact (rises_pairwise (c := edgeCmp) (fun x y z h1 h2 => edgeCmp_lt.2 (toE.trans (edgeCmp_lt.1 h1) (edgeCmp_lt.1 h2))) h).imp fun {a b} h => edgeCmp_lt.1 h
  · intro h
    exact pairwise_rises (h.imp fun {a b} h => edgeCmp_lt.2 h)
theorem mayG_iff {ns : List Nd} {es : List Ed} : mayG ns es = true ↔ ns.length ≤ 64 ∧ risesB nodeCmp ns = true ∧ SS ltE es ∧ ns.all mayN = true ∧ ∀ e ∈ es, edgeOk ns e = true := by
  unfold mayG
  rw [← risesE_iff]
  simp only [Bool.and_eq_true, Bool.not_eq_true', decide_eq_false_iff_not, List.all_eq_true]
  constructor
  · rintro ⟨h1, h2, h3, h4, h5⟩; exact ⟨by omega, h2, h3, h4, h5⟩
  · rintro ⟨h1, h2, h3, h4, h5⟩; exact ⟨by omega, h2, h3, h4, h5⟩
theorem mayG_filter {ns : List Nd} {es : List Ed} (p : Ed → Bool) (h : mayG ns es = true) : mayG ns (es.filter p) = true := by
  rw [mayG_iff] at *
  obtain ⟨h1, h2, h3, h4, h5⟩ := h
  exact ⟨h1, h2, h3.sublist List.filter_sublist, h4, fun e he => h5 e (List.mem_filter.1 he).1⟩
theorem mayG_straight {ns : List Nd} {es : List Ed} (h : mayG ns es = true) : mayG ns (straight es) = true := mayG_filter _ h
theorem edgeOk_ne {ns : List Nd} {e : Ed} (h : edgeOk ns e = true) : e.1 ≠ e.2.1 := by
  unfold edgeOk at h
  simp only [Bool.and_eq_true, Bool.not_eq_true', beq_eq_false_iff_ne] at h
  exact h.2.2.1
theorem isB_straight (es : List Ed) : isB (straight es) = true := isB_iff.2 (straight_acyclic es)
theorem isB_gone (es : List Ed) : isB es = decide ((gone es).length = 0) := by
  by_cases h : Acyclic (prsL es)
  · have h1 : isB es = true := isB_iff.2 h
    have h2 := stay_gone_len es
    rw [straight_of_acyclic h] at h2
    rw [h1]; simp; exact List.length_eq_zero_iff.1 (by omega)
  · have h1 : isB es = false := by cases h2 : isB es; rfl; exact absurd (isB_iff.1 h2) h
    rw [h1]; symm
    rw [decide_eq_false_iff_not]
    intro h0
    apply h
    have h2 := stay_gone_len es
    have h4 : (straight es).length = es.length := by omega
    have h3 : straight es = es := List.filter_sublist.eq_of_length h4
    rw [← h3]; exact straight_acyclic es
/-- An edge that is not in what was made straight says an order. -/
theorem gone_rel {es : List Ed} {e : Ed} (h : e ∈ es) (hn : e ∉ straight es) : e.2.2 = 8 ∨ e.2.2 = 7 := by
  have hs : stays es e = false := by
    cases h1 : stays es e
    · rfl
    · exact absurd (List.mem_filter.2 ⟨h, h1⟩) hn
  unfold stays pairE at hs
  by_cases h8 : e.2.2 = 8
  · exact .inl h8
  · by_cases h7 : e.2.2 = 7
    · exact .inr h7
    · simp [h8, h7] at hs
/-- The two that an edge parts: the first one ahead. -/
def turned (e : Ed) : Pr := if e.2.2 = 8 then (e.2.1, e.1) else (e.1, e.2.1)
theorem pairE_turned {e : Ed} (h : e.2.2 = 8 ∨ e.2.2 = 7) : pairE e = some (turned e) := by
  unfold pairE turned
  by_cases h8 : e.2.2 = 8
  · simp [h8]
  · simp [h8, h.resolve_left h8]
theorem turned_pairE {e : Ed} {p : Pr} (h : pairE e = some p) : p = turned e ∧ (e.2.2 = 8 ∨ e.2.2 = 7) := by
  unfold pairE at h; unfold turned
  by_cases h8 : e.2.2 = 8
  · simp [h8] at h ⊢; exact h.symm
  · by_cases h7 : e.2.2 = 7
    · simp [h7] at h ⊢; exact h.symm
    · simp [h8, h7] at h
/-- What went would go round, put back alone. -/
theorem gone_back {ns : List Nd} {es : List Ed} {e : Ed} (hm : mayG ns es = true) (h : e ∈ gone es) : (turned e).1 ∈ reachL (prsL (straight es)) (turned e).2 := by
  obtain ⟨h1, h2⟩ := List.mem_filter.1 h
  have hns : e ∉ straight es := fun hs => by have := (List.mem_filter.1 hs).2; simp [this] at h2
  have hr := gone_rel h1 hns
  have hp := pairE_turned hr
  have hmem : turned e ∈ prsL es := mem_prsL.2 ⟨e, h1, hp⟩
  have hnk : turned e ∉ keptL es := fun hk => by simp [stays, hp, hk] at h2
  have hne : (turned e).1 ≠ (turned e).2 := by
    have := edgeOk_ne ((mayG_iff.1 hm).2.2.2.2 e h1)
    unfold turned
    split
    · exact fun h => this h.symm
    · exact this
  rcases kept_or hmem with h3 | h3 | h3
  · exact absurd h3 hnk
  · exact absurd h3 hne
  · exact mem_reachL.2 (h3.mono fun p hp => mem_prs_straight.2 hp)
/-- The edges of an order between one and whom it needs. -/
def needE (es : List Ed) (e : Ed) : Bool := (e.2.2 == 8 || e.2.2 == 7) && needsB es (turned e)
theorem mem_prs_need {es : List Ed} {p : Pr} : p ∈ prsL (es.filter (needE es)) ↔ p ∈ (prsL es).filter (needsB es) := by
  rw [mem_prsL, List.mem_filter, mem_prsL]
  constructor
  · rintro ⟨e, he, hp⟩
    obtain ⟨h1, h2⟩ := List.mem_filter.1 he
    obtain ⟨h3, h4⟩ := turned_pairE hp
    unfold needE at h2
    rw [Bool.and_eq_true] at h2
    exact ⟨⟨e, h1, hp⟩, h3 ▸ h2.2⟩
  · rintro ⟨⟨e, he, hp⟩, hn⟩
    obtain ⟨h3, h4⟩ := turned_pairE hp
    refine ⟨e, List.mem_filter.2 ⟨he, ?_⟩, hp⟩
    unfold needE
    rw [Bool.and_eq_true]
    exact ⟨by rcases h4 with h | h <;> simp [h], h3 ▸ hn⟩
theorem need_stays {es : List Ed} (h : isB (es.filter (needE es)) = true) {e : Ed} (he : e ∈ es.filter (needE es)) : e ∈ straight es := by
  have ha : Acyclic ((prsL es).filter (needsB es)) := (isB_iff.1 h).mono fun p hp => mem_prs_need.2 hp
  obtain ⟨h1, h2⟩ := List.mem_filter.1 he
  unfold needE at h2
  rw [Bool.and_eq_true] at h2
  have hr : e.2.2 = 8 ∨ e.2.2 = 7 := by simpa using h2.1
  have hp := pairE_turned hr
  have hk := kept_needs ha (mem_prsL.2 ⟨e, h1, hp⟩) h2.2
  exact List.mem_filter.2 ⟨h1, by simp [stays, hp, hk]⟩
theorem ahead_prs {es : List Ed} {a b : Str} : es.any (aheadB a b) = true ↔ (a, b) ∈ prsL es := by
  rw [List.any_eq_true, mem_prsL]
  simp only [aheadB, pairOf_eq, beq_iff_eq]
/-- Behind those that are behind. -/
theorem reach_trans {l : List Pr} {a b c : Str} (h1 : b ∈ reachL l a) (h2 : c ∈ reachL l b) : c ∈ reachL l a :=
  mem_reachL.2 ((mem_reachL.1 h1).trans (mem_reachL.1 h2))
theorem ahead_reach {es : List Ed} {a b : Str} (h : es.any (aheadB a b) = true) : b ∈ reachL (prsL es) a := mem_reachL.2 (R.one (ahead_prs.1 h))
theorem not_behind_self (es : List Ed) (a : Str) : a ∉ reachL (prsL (straight es)) a := fun h => straight_acyclic es a (mem_reachL.1 h)
theorem okS_reach {es : List Ed} (h : OkE es) {a b : Str} (hb : b ∈ reachL (prsL es) a) : okS b := by
  have h1 := (mem_reachL.1 hb).in_snds
  obtain ⟨p, hp, rfl⟩ := List.mem_map.1 h1
  obtain ⟨e, he, h2⟩ := mem_prsL.1 hp
  obtain ⟨rfl, _⟩ := turned_pairE h2
  unfold turned
  split
  · exact (h e he).1
  · exact (h e he).2
/-! Sorting -/
theorem waits_mem {es : List Ed} {left : List Str} {b : Str} : waitsB es left b = true ↔ ∃ a ∈ left, (a, b) ∈ prsL es := by
  unfold waitsB
  rw [List.any_eq_true]
  constructor
  · rintro ⟨a, h1, h2⟩; exact ⟨a, h1, ahead_prs.1 h2⟩
  · rintro ⟨a, h1, h2⟩; exact ⟨a, h1, ahead_prs.2 h2⟩
theorem free_exists {es : List Ed} (h : Acyclic (prsL es)) {left : List Str} : ∀ (n : Nat) (u : Str), u ∈ left → (left.filter (fun w => decide (u ∈ reachL (prsL es) w))).length ≤ n → ∃ u ∈ left, waitsB es left u = false
  | n, u, hu, hn => by
    by_cases hw : waitsB es left u = true
    · obtain ⟨v, hv, hvu⟩ := waits_mem.1 hw
      have hlt : (left.filter (fun w => decide (v ∈ reachL (prsL es) w))).length < (left.filter (fun w => decide (u ∈ reachL (prsL es) w))).length := by
        have h1 : (left.filter (fun w => decide (v ∈ reachL (prsL es) w))) = (left.filter (fun w => decide (u ∈ reachL (prsL es) w))).filter (fun w => decide (v ∈ reachL (prsL es) w)) := by
          rw [List.filter_filter]
          refine List.filter_congr fun w _ => ?_
          by_cases hvw : v ∈ reachL (prsL es) w
          · have : u ∈ reachL (prsL es) w := mem_reachL.2 ((mem_reachL.1 hvw).snoc hvu)
            simp [hvw, this]
          · simp [hvw]
        rw [h1]
        refine Nat.lt_of_le_of_ne (List.length_filter_le _ _) fun e => ?_
        have h2 := List.length_filter_eq_length_iff.1 e v (List.mem_filter.2 ⟨hv, by simpa using mem_reachL.2 (R.one hvu)⟩)
        exact h v (mem_reachL.1 (by simpa using h2))
      cases n with
      | zero => omega
      | succ n => exact free_exists h n v hv (by omega)
    · exact ⟨u, hu, by simpa using hw⟩
theorem free_some {es : List Ed} (h : Acyclic (prsL es)) {x : Str} {r : List Str} : ∃ i, freeAt es (x :: r) = some i := by
  obtain ⟨u, hu, hf⟩ := free_exists h (left := x :: r) _ x (.head _) (Nat.le_refl _)
  cases hi : freeAt es (x :: r) with
  | some i => exact ⟨i, rfl⟩
  | none =>
    have := List.findIdx?_eq_none_iff.1 hi u hu
    simp [hf] at this
theorem sortGo_ends {es : List Ed} (h : Acyclic (prsL es)) : ∀ (n : Nat) (left out : List Str), left.length ≤ n → ∃ l, sortGo es n left out = some l
  | n, [], out, _ => ⟨out, sortGo_nil es n out⟩
  | 0, x :: r, out, hn => by simp at hn
  | n + 1, x :: r, out, hn => by
    obtain ⟨i, hi⟩ := free_some h (x := x) (r := r)
    have hi' : i < (x :: r).length := (List.findIdx?_eq_some_iff_getElem.1 hi).1
    simp only [sortGo, hi]
    exact sortGo_ends h n _ _ (by rw [List.length_eraseIdx, if_pos hi']; simp at hn ⊢; omega)
theorem sortU_some {es : List Ed} (h : Acyclic (prsL es)) (us : List Str) : ∃ l, sortU es us = some l := sortGo_ends h _ _ _ (Nat.le_refl _)
theorem perm_erase {α : Type} : ∀ {l : List α} {i : Nat} (hi : i < l.length), (l[i] :: l.eraseIdx i).Perm l
  | x :: r, 0, _ => .refl _
  | x :: r, i + 1, hi => by
    have hi' : i < r.length := by simpa using hi
    exact (List.Perm.swap x r[i] (r.eraseIdx i)).trans ((perm_erase hi').cons x)
theorem sortGo_ok {es : List Ed} : ∀ (n : Nat) (left out l : List Str), left.Nodup → sortGo es n left out = some l →
    ∃ r, l = out ++ r ∧ (∀ x, x ∈ r ↔ x ∈ left) ∧ r.Pairwise (fun a b => a ≠ b ∧ ¬ (b, a) ∈ prsL es)
  | n, [], out, l, _, h => by rw [sortGo_nil] at h; injection h with h; exact ⟨[], by simp [h], by simp, .nil⟩
  | 0, x :: r, out, l, _, h => by simp [sortGo] at h
  | n + 1, x :: r, out, l, hnd, h => by
    simp only [sortGo] at h
    cases hf : freeAt es (x :: r) with
    | none => rw [hf] at h; cases h
    | some i =>
      rw [hf] at h
      simp only at h
      obtain ⟨hi, hfree, _⟩ := List.findIdx?_eq_some_iff_getElem.1 hf
      have hget : (x :: r).getD i [] = (x :: r)[i] := by rw [List.getD_eq_getElem?_getD, List.getElem?_eq_getElem hi]; rfl
      rw [hget] at h
      have hperm : ∀ y, y ∈ (x :: r) ↔ y = (x :: r)[i] ∨ y ∈ (x :: r).eraseIdx i := fun y => by
        have := (perm_erase hi).mem_iff (a := y)
        rw [← this, List.mem_cons]
      obtain ⟨r', h1, h2, h3⟩ := sortGo_ok n _ _ l (hnd.sublist (List.eraseIdx_sublist _ _)) h
      refine ⟨(x :: r)[i] :: r', by rw [h1]; simp, fun y => ?_, List.pairwise_cons.2 ⟨fun y hy => ⟨?_, ?_⟩, h3⟩⟩
      · rw [List.mem_cons, h2, hperm]
      · intro e
        have hnd2 := (perm_erase hi).nodup_iff.2 hnd
        exact (List.nodup_cons.1 hnd2).1 (e ▸ (h2 y).1 hy)
      · intro hp
        have hw : waitsB es (x :: r) (x :: r)[i] = true := waits_mem.2 ⟨y, (hperm y).2 (.inr ((h2 y).1 hy)), hp⟩
        simp [hw] at hfree
theorem sortU_ok {es : List Ed} {us l : List Str} (h : sortU es us = some l) : (∀ x, x ∈ l ↔ x ∈ us) ∧ l.Pairwise (fun a b => a ≠ b ∧ es.any (aheadB b a) = false) := by
  obtain ⟨r, h1, h2, h3⟩ := sortGo_ok _ _ _ l ((canon_ss toS us).nodup toS) h
  rw [List.nil_append] at h1
  subst h1
  refine ⟨fun x => by rw [h2, mem_canon toS], h3.imp fun {a b} hab => ⟨hab.1, ?_⟩⟩
  cases h4 : es.any (aheadB b a)
  · rfl
  · exact absurd (ahead_prs.1 h4) hab.2
/-! Putting one edge in -/
def putF (x : Ed) (s : Bool × List Ed) (y : Ed) : Bool × List Ed := if (!s.1 && ltE x y) = true then (true, s.2 ++ [x] ++ [y]) else (s.1, s.2 ++ [y])
def putEnd (x : Ed) (s : Bool × List Ed) : List Ed := if s.1 = true then s.2 else s.2 ++ [x]
theorem putF_true (x : Ed) : ∀ (l acc : List Ed), l.foldl (putF x) (true, acc) = (true, acc ++ l)
  | [], acc => by simp
  | y :: l, acc => by rw [List.foldl_cons]; unfold putF; simp only [Bool.not_true, Bool.false_and]; exact (putF_true x l (acc ++ [y])).trans (by simp)
theorem putF_ins (x : Ed) : ∀ (l acc : List Ed), x ∉ l → putEnd x (l.foldl (putF x) (false, acc)) = acc ++ insL ltE x l
  | [], acc, _ => by simp [putEnd, insL]
  | y :: l, acc, h => by
    rw [List.foldl_cons]
    have hne : x ≠ y := fun e => h (e ▸ .head _)
    by_cases hlt : ltE x y = true
    · have h1 : putF x (false, acc) y = (true, acc ++ [x] ++ [y]) := by simp [putF, hlt]
      rw [h1, putF_true]
      have h2 : ltE y x = false := by
        cases h3 : ltE y x
        · rfl
        · have := toE.trans hlt h3; rw [toE.irrefl] at this; cases this
      simp [putEnd, insL, h2, hne.symm]
    · have h1 : putF x (false, acc) y = (false, acc ++ [y]) := by simp [putF, hlt]
      rw [h1, putF_ins x l _ (fun hm => h (.tail _ hm))]
      have h2 : ltE y x = true := by
        cases h3 : ltE y x
        · exact absurd (toE.total (by simpa using hlt) h3) hne
        · rfl
      simp [insL, h2]
theorem mem_prs_put {es : List Ed} {a b : Str} {p : Pr} : p ∈ prsL (insL ltE (b, a, 8) es) ↔ p ∈ prsL es ++ [(a, b)] := by
  rw [mem_prsL, List.mem_append, mem_prsL, List.mem_singleton]
  constructor
  · rintro ⟨e, he, hp⟩
    rcases mem_insL.1 he with h | h
    · subst h; simp [pairE] at hp; exact .inr hp.symm
    · exact .inl ⟨e, h, hp⟩
  · rintro (⟨e, he, hp⟩ | h)
    · exact ⟨e, mem_insL.2 (.inr he), hp⟩
    · exact ⟨(b, a, 8), mem_insL.2 (.inl rfl), by simp [pairE, h]⟩
structure PutOk (ns : List Nd) (es : List Ed) (a b : Str) : Prop where
  may : mayG ns es = true
  is : isB es = true
  na : (nodeOf ns a).isSome = true
  nb : (nodeOf ns b).isSome = true
  ne : a ≠ b
  st : ((nodeOf ns b).getD ([], 0, 0)).2.2 = 1
  nr : a ∉ reachL (prsL es) b
theorem put_acyclic {ns : List Nd} {es : List Ed} {a b : Str} (h : PutOk ns es a b) : Acyclic (prsL (insL ltE (b, a, 8) es)) :=
  ((isB_iff.1 h.is).app (p := (a, b)) h.ne (fun hr => h.nr (mem_reachL.2 hr))).mono fun _ hp => mem_prs_put.1 hp
theorem put_may {ns : List Nd} {es : List Ed} {a b : Str} (h : PutOk ns es a b) : mayG ns (insL ltE (b, a, 8) es) = true := by
  obtain ⟨h1, h2, h3, h4, h5⟩ := mayG_iff.1 h.may
  refine mayG_iff.2 ⟨h1, h2, h3.insL toE, h4, fun e he => ?_⟩
  rcases mem_insL.1 he with e1 | e1
  · subst e1
    have hst := h.st
    unfold edgeOk
    simp [h.na, h.nb, h.ne.symm, hst]
  · exact h5 e e1
theorem put_is {ns : List Nd} {es : List Ed} {a b : Str} (h : PutOk ns es a b) : isB (insL ltE (b, a, 8) es) = true := isB_iff.2 (put_acyclic h)
theorem put_straight {ns : List Nd} {es : List Ed} {a b : Str} (h : PutOk ns es a b) : straight (insL ltE (b, a, 8) es) = insL ltE (b, a, 8) es := straight_of_acyclic (put_acyclic h)
theorem put_ahead (es : List Ed) (a b : Str) : (insL ltE (b, a, 8) es).any (aheadB a b) = true := ahead_prs.2 (mem_prs_put.2 (by simp))
theorem put_len (es : List Ed) (x : Ed) : (insL ltE x es).length ≤ es.length + 1 := by
  induction es with
  | nil => simp [insL]
  | cons y r ih => unfold insL; split <;> simp <;> (try omega); split <;> simp
end Od
end Go.Proofs.YtclaoffnfopekaaGreat
end

section
/- The walk of the law OrderRow. (bel2) -/
namespace Go.Proofs.YtclaoffnfopekaaGreat
open Go.RowKit Go.Sort

namespace Od
set_option maxRecDepth 100000 in
set_option maxHeartbeats 8000000 in
theorem orderRow_any (An Ae : Option Addr) (cn ce : Nat) (ns : List Nd) (es : List Ed) (A : Option Addr) (c : Nat) (us : List Str) (w : World) (hg : GIn w An Ae cn ce ns es) (hu : Rd w w.heap.size 1 A us.length (svs us)) :
    Calls Tryz.prog 7 #[gV An ns.length cn Ae es.length ce, .slice A us.length c] w fun e w' => e = .returned (.bool true) ∧ Below w.heap.size w w' := by
  have HG := Lib.hid hg
  have HU := Lib.hid hu
  clear hg hu
  obtain ⟨i0, hi, hz0, hz1, hz2⟩ := info_parts infoS'
  obtain ⟨b80, hb80⟩ : ∃ b, decide ((80 : Int) < (us.length : Int)) = b := ⟨_, rfl⟩
  go_enter Tryz.func7, Tryz.ntmps7
  go_wp2_with fail
  first | (refine wp_named ?_; intro W1 hW) | (refine calls_named ?_; intro W1 hW)
  have B1 : Below w.heap.size w W1 := by rw [hW]; exact (by repeat (first | exact Below.refl _ _ | assumption | refine Below.alloc ?_ (by first | omega | (simp <;> omega)) _ | refine Below.setCell ?_ (by first | omega | (simp <;> omega)) _ | refine Below.drew ?_))
  replace HU := Lib.hid (HU.out.at B1)
  replace HG := Lib.hid (HG.out.at B1)
  have n1 : w.heap.size < W1.heap.size := by rw [hW]; simp <;> omega
  have c0 : W1.cell? ⟨w.heap.size, 0, none⟩ = some (.slice An ns.length cn) := by rw [hW]; go_simp
  have c1 : W1.cell? ⟨w.heap.size, 1, none⟩ = some (.slice Ae es.length ce) := by rw [hW]; go_simp
  clear hW
  have HB := Lib.hid B1
  clear B1
  refine (shown_any W1).mono ?_
  rintro e w2 ⟨rfl, hb⟩
  replace c0 := cellAt c0 hb (by omega)
  replace c1 := cellAt c1 hb (by omega)
  replace HU := Lib.hid (HU.out.at hb)
  replace HG := Lib.hid (HG.out.at hb)
  replace n1 : w.heap.size < w2.heap.size := ltAt n1 hb
  replace HB := Lib.hid (lift HB.out hb)
  clear hb
  go_wp2_with fail
  refine (small_any An Ae cn ce ns es w2).mono ?_
  rintro e w3 ⟨rfl, hb⟩
  replace c0 := cellAt c0 hb (by omega)
  replace c1 := cellAt c1 hb (by omega)
  replace HU := Lib.hid (HU.out.at hb)
  replace HG := Lib.hid (HG.out.at hb)
  replace n1 : w.heap.size < w3.heap.size := ltAt n1 hb
  replace HB := Lib.hid (lift HB.out hb)
  clear hb
  cases hsm : smallB ns es
  · go_wp2_with fail
    go_ret
    exact ⟨rfl, HB.out⟩
  · have hs2 := smallB_iff.1 hsm
    have hl1 := hs2.1
    have hl2 := hs2.2
    clear hs2
    go_wp2_with fail
    refine (MayG_any An Ae cn ce ns es w3 HG.out.rn HG.out.re (by omega) (by omega) HG.out.okn).mono ?_
    rintro e w4 ⟨rfl, hb⟩
    replace c0 := cellAt c0 hb (by omega)
    replace c1 := cellAt c1 hb (by omega)
    replace HU := Lib.hid (HU.out.at hb)
    replace HG := Lib.hid (HG.out.at hb)
    replace n1 : w.heap.size < w4.heap.size := ltAt n1 hb
    replace HB := Lib.hid (lift HB.out hb)
    clear hb
    cases hm : mayG ns es
    · go_wp2_with fail
      go_ret
      exact ⟨rfl, HB.out⟩
    · have HM := Lib.hid hm
      clear hm
      cases b80 with
      | true =>
        go_wp2_with fail
        go_ret
        exact ⟨rfl, HB.out⟩
      | false =>
        have h80 : us.length ≤ 80 := by have := of_decide_eq_false hb80; omega
        have hsl := straight_len es
        obtain ⟨L, hL⟩ := sortU_some (straight_acyclic es) us
        have hll : L.length ≤ us.length := by have := sortU_len (straight es) us; rw [hL] at this; exact this
        obtain ⟨hmem, hpw⟩ := sortU_ok hL
        have HL := Lib.hid hL
        have HMem := Lib.hid hmem
        have HPw := Lib.hid hpw
        clear hL hmem hpw
        go_wp2_with fail
        refine (Straight_any An Ae cn ce ns es w4 HG.out.rn HG.out.re HG.out.oke (by omega) (by omega)).mono ?_
        rintro e w5 ⟨Bn, dn, Be, de, rfl, hdn, hde, hsn, hse, hb⟩
        have HSN := Lib.hid hsn
        have HSE := Lib.hid hse
        replace c0 := cellAt c0 hb (by omega)
        replace c1 := cellAt c1 hb (by omega)
        replace HU := Lib.hid (HU.out.at hb)
        replace HG := Lib.hid (HG.out.at hb)
        replace n1 : w.heap.size < w5.heap.size := ltAt n1 hb
        replace HB := Lib.hid (lift HB.out hb)
        clear hsn hse hb
        go_wp2_with fail
        refine (Sort_any Bn Be ns.length dn de (straight es) A c us w5 HSE.out HU.out (by omega) (by omega)).mono ?_
        rw [HL.out]
        rintro e w6 ⟨A6, c6, rfl, hc6, hr6, hb⟩
        simp only [Option.getD_some, Option.isSome_some] at hc6 hr6 ⊢
        have HR := Lib.hid hr6
        replace c0 := cellAt c0 hb (by omega)
        replace c1 := cellAt c1 hb (by omega)
        replace HU := Lib.hid (HU.out.at hb)
        replace HG := Lib.hid (HG.out.at hb)
        replace n1 : w.heap.size < w6.heap.size := ltAt n1 hb
        replace HB := Lib.hid (lift HB.out hb)
        replace HSN := Lib.hid (HSN.out.at hb)
        replace HSE := Lib.hid (HSE.out.at hb)
        clear hr6 hb
        go_wp2_with fail
        refine (Straight_any An Ae cn ce ns es w6 HG.out.rn HG.out.re HG.out.oke (by omega) (by omega)).mono ?_
        rintro e w7 ⟨Dn, fn, De, fe, rfl, hfn, hfe, htn, hte, hb⟩
        have HTE := Lib.hid hte
        replace c0 := cellAt c0 hb (by omega)
        replace c1 := cellAt c1 hb (by omega)
        replace HU := Lib.hid (HU.out.at hb)
        replace HG := Lib.hid (HG.out.at hb)
        replace n1 : w.heap.size < w7.heap.size := ltAt n1 hb
        replace HB := Lib.hid (lift HB.out hb)
        replace HSN := Lib.hid (HSN.out.at hb)
        replace HSE := Lib.hid (HSE.out.at hb)
        replace HR := Lib.hid (HR.out.at hb)
        clear htn hte hb
        go_wp2_with fail
        first | (refine wp_named ?_; intro W8 hW) | (refine calls_named ?_; intro W8 hW)
        have B8 : Below w7.heap.size w7 W8 := by rw [hW]; exact (by repeat (first | exact Below.refl _ _ | assumption | refine Below.alloc ?_ (by first | omega | (simp <;> omega)) _ | refine Below.setCell ?_ (by first | omega | (simp <;> omega)) _ | refine Below.drew ?_))
        replace c0 := cellAt c0 B8 (by omega)
        replace c1 := cellAt c1 B8 (by omega)
        replace HU := Lib.hid (HU.out.at B8)
        replace HG := Lib.hid (HG.out.at B8)
        replace n1 : w.heap.size < W8.heap.size := ltAt n1 B8
        replace HB := Lib.hid (lift HB.out B8)
        replace HSN := Lib.hid (HSN.out.at B8)
        replace HSE := Lib.hid (HSE.out.at B8)
        replace HR := Lib.hid (HR.out.at B8)
        replace HTE := Lib.hid (HTE.out.at B8)
        have n8 : w7.heap.size < W8.heap.size := by rw [hW]; simp <;> omega
        have s0 : W8.cell? ⟨w7.heap.size, 0, none⟩ = some (.slice Dn ns.length fn) := by rw [hW]; go_simp
        have s1 : W8.cell? ⟨w7.heap.size, 1, none⟩ = some (.slice De (straight es).length fe) := by rw [hW]; go_simp
        clear hW
        clear B8
        go_loopw [42] (fun i wr => ∃ k : Nat, k ≤ L.length ∧ i = .int .i64 k ∧ Below W8.heap.size W8 wr) (fun i _ => L.length - (intOf i).toNat)
        case atStart => exact ⟨0, Nat.zero_le _, rfl, Below.refl _ _⟩
        case round =>
          obtain ⟨k, hk, rfl, hb⟩ := hrel
          replace c0 := cellAt c0 hb (by omega)
          replace c1 := cellAt c1 hb (by omega)
          replace s0 := cellAt s0 hb (by omega)
          replace s1 := cellAt s1 hb (by omega)
          replace HU := Lib.hid (HU.out.at hb)
          replace HG := Lib.hid (HG.out.at hb)
          replace n1 : w.heap.size < wr.heap.size := ltAt n1 hb
          replace HB := Lib.hid (lift HB.out hb)
          replace HSN := Lib.hid (HSN.out.at hb)
          replace HSE := Lib.hid (HSE.out.at hb)
          replace HR := Lib.hid (HR.out.at hb)
          replace HTE := Lib.hid (HTE.out.at hb)
          replace n8 : w7.heap.size < wr.heap.size := ltAt n8 hb
          have Hb := Lib.hid hb
          clear hb
          by_cases hlt : k < L.length
          · obtain ⟨b1, o1, hA1, hB1, x0⟩ := HR.out.str hlt
            obtain ⟨a, ha⟩ : ∃ a, L[k] = a := ⟨_, rfl⟩
            rw [ha] at x0
            have Ha := Lib.hid ha
            clear ha
            have k1 : (0 : Int) ≤ (k : Int) := by omega
            have k2 : (k : Int) < (L.length : Int) := by omega
            have kw : IntKind.i64.wrap ((k : Int) + 1) = (k : Int) + 1 := IntWalk.i64_in _ (by omega)
            have hM := (List.pairwise_cons.1 (by have := HPw.out.sublist (List.drop_sublist k L); rw [List.drop_eq_getElem_cons hlt] at this; exact this)).1
            rw [Ha.out] at hM
            have hain : hasB us a = true := (hasB_iff us a).2 ((HMem.out a).1 (by rw [← Ha.out]; exact List.getElem_mem hlt))
            have hrd := HR.out.dropA (m := k + 1) hlt hc6
            have hml : (L.drop (k + 1)).length = L.length - (k + 1) := List.length_drop
            have hs2 := run_slice_tail (P := Tryz.prog) Tryz.underlying30 hi A6 L.length c6 (k + 1) hlt
            rw [hz1] at hs2
            rw [show (((k + 1 : Nat)) : Int) = (k : Int) + 1 from by omega, ← hml] at hs2
            rw [← hml, show (svs L).drop ((k + 1) * 1) = svs (L.drop (k + 1)) from by rw [Nat.mul_one]; exact List.map_drop.symm] at hrd
            have hml2 : (L.drop (k + 1)).length ≤ 80 := by omega
            clear hml
            generalize hAd : dropA A6 c6 (k + 1) 1 = Ad at hs2 hrd
            clear hAd
            generalize L.drop (k + 1) = M at hs2 hrd hM hml2
            have HM := Lib.hid hM
            have HRd := Lib.hid hrd
            clear hM hrd
            subst hA1
            go_wp2_with fail
            obtain ⟨w9, rfl⟩ : ∃ wo : World, wo = wr := ⟨_, rfl⟩
            go_loopw [52] (fun i wr => ∃ j : Nat, j ≤ M.length ∧ i = .int .i64 j ∧ Below w9.heap.size w9 wr) (fun i _ => M.length - (intOf i).toNat)
            case atStart => exact ⟨0, Nat.zero_le _, rfl, Below.refl _ _⟩
            case round =>
              obtain ⟨j, hj, rfl, hb⟩ := hrel
              replace c0 := cellAt c0 hb (by omega)
              replace c1 := cellAt c1 hb (by omega)
              replace s0 := cellAt s0 hb (by omega)
              replace s1 := cellAt s1 hb (by omega)
              replace x0 := cellAt x0 hb (by omega)
              replace HU := Lib.hid (HU.out.at hb)
              replace HG := Lib.hid (HG.out.at hb)
              replace n1 : w.heap.size < wr.heap.size := ltAt n1 hb
              replace HB := Lib.hid (lift HB.out hb)
              replace HSN := Lib.hid (HSN.out.at hb)
              replace HSE := Lib.hid (HSE.out.at hb)
              replace HR := Lib.hid (HR.out.at hb)
              replace HTE := Lib.hid (HTE.out.at hb)
              replace n8 : w7.heap.size < wr.heap.size := ltAt n8 hb
              replace hB1 : b1 < wr.heap.size := ltAt hB1 hb
              replace HRd := Lib.hid (HRd.out.at hb)
              have Hb7 := Lib.hid hb
              have Hb8 := Lib.hid (lift Hb.out hb)
              clear hb
              by_cases hlt2 : j < M.length
              · obtain ⟨b2, o2, hA2, hB2, y0⟩ := HRd.out.str hlt2
                have hmj := HM.out M[j] (List.getElem_mem hlt2)
                generalize M[j] = b at y0 hmj
                obtain ⟨hne, hah⟩ := hmj
                have hne' : (a == b) = false := by simpa using hne
                have Hah := Lib.hid hah
                clear hne hah
                have j1 : (0 : Int) ≤ (j : Int) := by omega
                have j2 : (j : Int) < (M.length : Int) := by omega
                subst hA2
                go_wp2_with fail
                refine (Ahead_any Dn De ns.length fn fe (straight es) b a wr HTE.out (by omega)).mono ?_
                rw [Hah.out]
                rintro e w7b ⟨rfl, hb⟩
                replace c0 := cellAt c0 hb (by omega)
                replace c1 := cellAt c1 hb (by omega)
                replace s0 := cellAt s0 hb (by omega)
                replace s1 := cellAt s1 hb (by omega)
                replace x0 := cellAt x0 hb (by omega)
                replace y0 := cellAt y0 hb (by omega)
                replace HU := Lib.hid (HU.out.at hb)
                replace HG := Lib.hid (HG.out.at hb)
                replace n1 : w.heap.size < w7b.heap.size := ltAt n1 hb
                replace HB := Lib.hid (lift HB.out hb)
                replace HSN := Lib.hid (HSN.out.at hb)
                replace HSE := Lib.hid (HSE.out.at hb)
                replace HR := Lib.hid (HR.out.at hb)
                replace HTE := Lib.hid (HTE.out.at hb)
                replace n8 : w7.heap.size < w7b.heap.size := ltAt n8 hb
                replace hB1 : b1 < w7b.heap.size := ltAt hB1 hb
                replace HRd := Lib.hid (HRd.out.at hb)
                replace hB2 : b2 < w7b.heap.size := ltAt hB2 hb
                have HB7 := Lib.hid (lift Hb7.out hb)
                clear hb
                go_wp2_with fail
                go_roundw
                case rel => exact ⟨j + 1, by omega, by go_num, HB7.out⟩
                case measure => simp [intOf]; omega
              · go_wp2_with fail
                refine (HasS_any A c us a wr HU.out (by omega)).mono ?_
                rw [hain]
                rintro e w7b ⟨rfl, rfl⟩
                go_wp2_with fail
                go_roundw
                case rel => exact ⟨k + 1, by omega, by go_num, Hb8.out⟩
                case measure => simp [intOf]; omega
          · go_wp2_with fail
            obtain ⟨w9, rfl⟩ : ∃ wo : World, wo = wr := ⟨_, rfl⟩
            go_loopw [73] (fun i wr => ∃ j : Nat, j ≤ us.length ∧ i = .int .i64 j ∧ w9 = wr) (fun i _ => us.length - (intOf i).toNat)
            case atStart => exact ⟨0, Nat.zero_le _, rfl, rfl⟩
            case round =>
              obtain ⟨j, hj, rfl, rfl⟩ := hrel
              by_cases hlt2 : j < us.length
              · obtain ⟨b2, o2, hA2, hB2, y0⟩ := HU.out.str hlt2
                have hin2 : hasB L us[j] = true := (hasB_iff L _).2 ((HMem.out _).2 (List.getElem_mem hlt2))
                generalize us[j] = b at y0 hin2
                have j1 : (0 : Int) ≤ (j : Int) := by omega
                have j2 : (j : Int) < (us.length : Int) := by omega
                subst hA2
                go_wp2_with fail
                refine (HasS_any A6 c6 L b w9 HR.out (by omega)).mono ?_
                rw [hin2]
                rintro e w7b ⟨rfl, rfl⟩
                go_wp2_with fail
                go_roundw
                case rel => exact ⟨j + 1, by omega, by go_num, trivial⟩
                case measure => simp [intOf]; omega
              · go_wp2_with fail
                go_ret
                exact ⟨rfl, HB.out⟩
end Od
end Go.Proofs.YtclaoffnfopekaaGreat
end
