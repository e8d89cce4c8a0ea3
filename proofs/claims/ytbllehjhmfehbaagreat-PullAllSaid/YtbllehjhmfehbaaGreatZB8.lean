/- My texts, joined for the claim: GLaw PLaws PWords PKey. -/
import Derived.Test.YtbllehjhmfehbaaGreatZB6
import Derived.Test.YtbllehjhmfehbaaGreatZB4
import Derived.Test.YtbllehjhmfehbaaGreatZB0
import Derived.Test.YtbllehjhmfehbaaGreatZB7
import Derived.Test.YtbllehjhmfehbaaGreatZB5

section
/- Plain laws of chapter 16: what the statements OrderStraight, OrderMost, OrderRow, OrderBehind, OrderPut say of lists. No program. -/
namespace Go.Proofs.YtbllehjhmfehbaaGreat
set_option linter.unusedSimpArgs false
namespace Od
/-- The order of edges. -/
def ltE (e f : Ed) : Bool := ltS e.1 f.1 || (e.1 == f.1 && (ltS e.2.1 f.2.1 || (e.2.1 == f.2.1 && decide (e.2.2 < f.2.2))))
theorem ltE_iff {e f : Ed} : ltE e f = true ↔ ltS e.1 f.1 = true ∨ (e.1 = f.1 ∧ (ltS e.2.1 f.2.1 = true ∨ (e.2.1 = f.2.1 ∧ e.2.2 < f.2.2))) := by
  simp [ltE]
theorem toE : TO ltE where
  irrefl x := by simp [ltE, toS.irrefl]
  trans {x y z} h1 h2 := by
    rw [ltE_iff] at *
    rcases h1 with h1 | ⟨a1, h1⟩
    · rcases h2 with h2 | ⟨a2, h2⟩
      · exact .inl (toS.trans h1 h2)
      · exact .inl (a2 ▸ h1)
    · rcases h2 with h2 | ⟨a2, h2⟩
      · exact .inl (a1 ▸ h2)
      · refine .inr ⟨a1.trans a2, ?_⟩
        rcases h1 with h1 | ⟨b1, h1⟩
        · rcases h2 with h2 | ⟨b2, h2⟩
          · exact .inl (toS.trans h1 h2)
          · exact .inl (b2 ▸ h1)
        · rcases h2 with h2 | ⟨b2, h2⟩
          · exact .inl (b1 ▸ h2)
          · exact .inr ⟨b1.trans b2, Int.lt_trans h1 h2⟩
  total {x y} h1 h2 := by
    have g1 : ¬ ltE x y = true := by simp [h1]
    have g2 : ¬ ltE y x = true := by simp [h2]
    rw [ltE_iff] at g1 g2
    simp only [not_or, not_and] at g1 g2
    have e1 : x.1 = y.1 := toS.total (by simpa using g1.1) (by simpa using g2.1)
    have k1 := g1.2 e1
    have k2 := g2.2 e1.symm
    have e2 : x.2.1 = y.2.1 := toS.total (by simpa using k1.1) (by simpa using k2.1)
    have l1 := k1.2 e2
    have l2 := k2.2 e2.symm
    exact Prod.ext e1 (Prod.ext e2 (by omega))
theorem lessS_eq (a b : Str) : lessS a b = ltS a b := rfl
theorem orI_one (x : Int) : orI [x] = x := by
  by_cases h : x = 0
  · subst h; rfl
  · exact orI_cons h []
theorem edgeCmp_lt {e f : Ed} : edgeCmp e f < 0 ↔ ltE e f = true := by
  rw [ltE_iff]
  unfold edgeCmp
  by_cases h1 : e.1 = f.1
  · have c1 : cmpS e.1 f.1 = 0 := by unfold cmpS; rw [lessS_eq, h1, toS.irrefl]; simp
    rw [c1, orI_cons0]
    have n1 : ¬ ltS e.1 f.1 = true := by rw [h1, toS.irrefl]; simp
    by_cases h2 : e.2.1 = f.2.1
    · have c2 : cmpS e.2.1 f.2.1 = 0 := by unfold cmpS; rw [lessS_eq, h2, toS.irrefl]; simp
      rw [c2, orI_cons0, orI_one]
      have n2 : ¬ ltS e.2.1 f.2.1 = true := by rw [h2, toS.irrefl]; simp
      simp only [n1, n2, h1, h2, false_or, true_and]
      unfold cmpI
      split
      · simp_all
      · split <;> simp_all
    · have c2 : cmpS e.2.1 f.2.1 ≠ 0 := by unfold cmpS; split <;> simp_all
      rw [orI_cons c2]
      simp only [n1, h1, h2, false_or, true_and, false_and, or_false]
      unfold cmpS
      rw [lessS_eq]
      split <;> simp_all
  · have c1 : cmpS e.1 f.1 ≠ 0 := by unfold cmpS; split <;> simp_all
    rw [orI_cons c1]
    simp only [h1, false_and, or_false]
    unfold cmpS
    rw [lessS_eq]
    split <;> simp_all
theorem rises_pairwise {α : Type} {c : α → α → Int} (ht : ∀ x y z, c x y < 0 → c y z < 0 → c x z < 0) : ∀ {l : List α}, risesB c l = true → l.Pairwise (fun x y => c x y < 0)
  | [], _ => .nil
  | [x], _ => List.pairwise_singleton _ _
  | x :: y :: r, h => by
    unfold risesB at h
    rw [Bool.and_eq_true, decide_eq_true_eq] at h
    have ih := rises_pairwise ht h.2
    refine List.pairwise_cons.2 ⟨fun z hz => ?_, ih⟩
    rcases List.mem_cons.1 hz with e | e
    · rw [e]; exact h.1
    · exact ht _ _ _ h.1 ((List.pairwise_cons.1 ih).1 z e)
theorem pairwise_rises {α : Type} {c : α → α → Int} : ∀ {l : List α}, l.Pairwise (fun x y => c x y < 0) → risesB c l = true
  | [], _ => rfl
  | [x], _ => rfl
  | x :: y :: r, h => by
    unfold risesB
    obtain ⟨h1, h2⟩ := List.pairwise_cons.1 h
    rw [Bool.and_eq_true, decide_eq_true_eq]
    exact ⟨h1 y (.head _), pairwise_rises h2⟩
theorem risesE_iff {es : List Ed} : risesB edgeCmp es = true ↔ SS ltE es := by
  constructor
  · intro h
    exact (rises_pairwise (c := edgeCmp) (fun x y z h1 h2 => edgeCmp_lt.2 (toE.trans (edgeCmp_lt.1 h1) (edgeCmp_lt.1 h2))) h).imp fun {a b} h => edgeCmp_lt.1 h
  · intro h
    exact pairwise_rises (h.imp fun {a b} h => edgeCmp_lt.2 h)
theorem mayG_iff {ns : List Nd} {es : List Ed} : mayG ns es = true ↔ ns.length ≤ 64 ∧ risesB nodeCmp ns = true ∧ SS ltE es ∧ ns.all mayN = true ∧ ∀ e ∈ es, edgeOk ns e = true := by
  unfold mayG
  rw [← risesE_iff]
  simp only [Bool.and_eq_true, Bool.not_eq_true', decide_eq_false_iff_not, List.all_eq_true]
  constructor
  · rintro ⟨h1, h2, h3, h4, h5⟩; exact ⟨by omega, h2, h3, h4, h5⟩
  · rintro ⟨h1, h2, h3, h4, h5⟩; exact ⟨by omega, h2, h3, h4, h5⟩
theorem mayG_filter {ns : List Nd} {es : List Ed} (p : Ed → Bool) (h : mayG ns es = true) : mayG ns (es.filter p) = true := by
  rw [mayG_iff] at *
  obtain ⟨h1, h2, h3, h4, h5⟩ := h
  exact ⟨h1, h2, h3.sublist List.filter_sublist, h4, fun e he => h5 e (List.mem_filter.1 he).1⟩
theorem mayG_straight {ns : List Nd} {es : List Ed} (h : mayG ns es = true) : mayG ns (straight es) = true := mayG_filter _ h
theorem edgeOk_ne {ns : List Nd} {e : Ed} (h : edgeOk ns e = true) : e.1 ≠ e.2.1 := by
  unfold edgeOk at h
  simp only [Bool.and_eq_true, Bool.not_eq_true', beq_eq_false_iff_ne] at h
  exact h.2.2.1
theorem isB_straight (es : List Ed) : isB (straight es) = true := isB_iff.2 (straight_acyclic es)
theorem isB_gone (es : List Ed) : isB es = decide ((gone es).length = 0) := by
  by_cases h : Acyclic (prsL es)
  · have h1 : isB es = true := isB_iff.2 h
    have h2 := stay_gone_len es
    rw [straight_of_acyclic h] at h2
    rw [h1]; simp; exact List.length_eq_zero_iff.1 (by omega)
  · have h1 : isB es = false := by cases h2 : isB es; rfl; exact absurd (isB_iff.1 h2) h
    rw [h1]; symm
    rw [decide_eq_false_iff_not]
    intro h0
    apply h
    have h2 := stay_gone_len es
    have h4 : (straight es).length = es.length := by omega
    have h3 : straight es = es := List.filter_sublist.eq_of_length h4
    rw [← h3]; exact straight_acyclic es
/-- An edge that is not in what was made straight says an order. -/
theorem gone_rel {es : List Ed} {e : Ed} (h : e ∈ es) (hn : e ∉ straight es) : e.2.2 = 8 ∨ e.2.2 = 7 := by
  have hs : stays es e = false := by
    cases h1 : stays es e
    · rfl
    · exact absurd (List.mem_filter.2 ⟨h, h1⟩) hn
  unfold stays pairE at hs
  by_cases h8 : e.2.2 = 8
  · exact .inl h8
  · by_cases h7 : e.2.2 = 7
    · exact .inr h7
    · simp [h8, h7] at hs
/-- The two that an edge parts: the first one ahead. -/
def turned (e : Ed) : Pr := if e.2.2 = 8 then (e.2.1, e.1) else (e.1, e.2.1)
theorem pairE_turned {e : Ed} (h : e.2.2 = 8 ∨ e.2.2 = 7) : pairE e = some (turned e) := by
  unfold pairE turned
  by_cases h8 : e.2.2 = 8
  · simp [h8]
  · simp [h8, h.resolve_left h8]
theorem turned_pairE {e : Ed} {p : Pr} (h : pairE e = some p) : p = turned e ∧ (e.2.2 = 8 ∨ e.2.2 = 7) := by
  unfold pairE at h; unfold turned
  by_cases h8 : e.2.2 = 8
  · simp [h8] at h ⊢; exact h.symm
  · by_cases h7 : e.2.2 = 7
    · simp [h7] at h ⊢; exact h.symm
    · simp [h8, h7] at h
/-- What went would go round, put back alone. -/
theorem gone_back {ns : List Nd} {es : List Ed} {e : Ed} (hm : mayG ns es = true) (h : e ∈ gone es) : (turned e).1 ∈ reachL (prsL (straight es)) (turned e).2 := by
  obtain ⟨h1, h2⟩ := List.mem_filter.1 h
  have hns : e ∉ straight es := fun hs => by have := (List.mem_filter.1 hs).2; simp [this] at h2
  have hr := gone_rel h1 hns
  have hp := pairE_turned hr
  have hmem : turned e ∈ prsL es := mem_prsL.2 ⟨e, h1, hp⟩
  have hnk : turned e ∉ keptL es := fun hk => by simp [stays, hp, hk] at h2
  have hne : (turned e).1 ≠ (turned e).2 := by
    have := edgeOk_ne ((mayG_iff.1 hm).2.2.2.2 e h1)
    unfold turned
    split
    · exact fun h => this h.symm
    · exact this
  rcases kept_or hmem with h3 | h3 | h3
  · exact absurd h3 hnk
  · exact absurd h3 hne
  · exact mem_reachL.2 (h3.mono fun p hp => mem_prs_straight.2 hp)
/-- The edges of an order between one and whom it needs. -/
def needE (es : List Ed) (e : Ed) : Bool := (e.2.2 == 8 || e.2.2 == 7) && needsB es (turned e)
theorem mem_prs_need {es : List Ed} {p : Pr} : p ∈ prsL (es.filter (needE es)) ↔ p ∈ (prsL es).filter (needsB es) := by
  rw [mem_prsL, List.mem_filter, mem_prsL]
  constructor
  · rintro ⟨e, he, hp⟩
    obtain ⟨h1, h2⟩ := List.mem_filter.1 he
    obtain ⟨h3, h4⟩ := turned_pairE hp
    unfold needE at h2
    rw [Bool.and_eq_true] at h2
    exact ⟨⟨e, h1, hp⟩, h3 ▸ h2.2⟩
  · rintro ⟨⟨e, he, hp⟩, hn⟩
    obtain ⟨h3, h4⟩ := turned_pairE hp
    refine ⟨e, List.mem_filter.2 ⟨he, ?_⟩, hp⟩
    unfold needE
    rw [Bool.and_eq_true]
    exact ⟨by rcases h4 with h | h <;> simp [h], h3 ▸ hn⟩
theorem need_stays {es : List Ed} (h : isB (es.filter (needE es)) = true) {e : Ed} (he : e ∈ es.filter (needE es)) : e ∈ straight es := by
  have ha : Acyclic ((prsL es).filter (needsB es)) := (isB_iff.1 h).mono fun p hp => mem_prs_need.2 hp
  obtain ⟨h1, h2⟩ := List.mem_filter.1 he
  unfold needE at h2
  rw [Bool.and_eq_true] at h2
  have hr : e.2.2 = 8 ∨ e.2.2 = 7 := by simpa using h2.1
  have hp := pairE_turned hr
  have hk := kept_needs ha (mem_prsL.2 ⟨e, h1, hp⟩) h2.2
  exact List.mem_filter.2 ⟨h1, by simp [stays, hp, hk]⟩
theorem ahead_prs {es : List Ed} {a b : Str} : es.any (aheadB a b) = true ↔ (a, b) ∈ prsL es := by
  rw [List.any_eq_true, mem_prsL]
  simp only [aheadB, pairOf_eq, beq_iff_eq]
/-- Behind those that are behind. -/
theorem reach_trans {l : List Pr} {a b c : Str} (h1 : b ∈ reachL l a) (h2 : c ∈ reachL l b) : c ∈ reachL l a :=
  mem_reachL.2 ((mem_reachL.1 h1).trans (mem_reachL.1 h2))
theorem ahead_reach {es : List Ed} {a b : Str} (h : es.any (aheadB a b) = true) : b ∈ reachL (prsL es) a := mem_reachL.2 (R.one (ahead_prs.1 h))
theorem not_behind_self (es : List Ed) (a : Str) : a ∉ reachL (prsL (straight es)) a := fun h => straight_acyclic es a (mem_reachL.1 h)
theorem okS_reach {es : List Ed} (h : OkE es) {a b : Str} (hb : b ∈ reachL (prsL es) a) : okS b := by
  have h1 := (mem_reachL.1 hb).in_snds
  obtain ⟨p, hp, rfl⟩ := List.mem_map.1 h1
  obtain ⟨e, he, h2⟩ := mem_prsL.1 hp
  obtain ⟨rfl, _⟩ := turned_pairE h2
  unfold turned
  split
  · exact (h e he).1
  · exact (h e he).2
/-! Sorting -/
theorem waits_mem {es : List Ed} {left : List Str} {b : Str} : waitsB es left b = true ↔ ∃ a ∈ left, (a, b) ∈ prsL es := by
  unfold waitsB
  rw [List.any_eq_true]
  constructor
  · rintro ⟨a, h1, h2⟩; exact ⟨a, h1, ahead_prs.1 h2⟩
  · rintro ⟨a, h1, h2⟩; exact ⟨a, h1, ahead_prs.2 h2⟩
theorem free_exists {es : List Ed} (h : Acyclic (prsL es)) {left : List Str} : ∀ (n : Nat) (u : Str), u ∈ left → (left.filter (fun w => decide (u ∈ reachL (prsL es) w))).length ≤ n → ∃ u ∈ left, waitsB es left u = false
  | n, u, hu, hn => by
    by_cases hw : waitsB es left u = true
    · obtain ⟨v, hv, hvu⟩ := waits_mem.1 hw
      have hlt : (left.filter (fun w => decide (v ∈ reachL (prsL es) w))).length < (left.filter (fun w => decide (u ∈ reachL (prsL es) w))).length := by
        have h1 : (left.filter (fun w => decide (v ∈ reachL (prsL es) w))) = (left.filter (fun w => decide (u ∈ reachL (prsL es) w))).filter (fun w => decide (v ∈ reachL (prsL es) w)) := by
          rw [List.filter_filter]
          refine List.filter_congr fun w _ => ?_
          by_cases hvw : v ∈ reachL (prsL es) w
          · have : u ∈ reachL (prsL es) w := mem_reachL.2 ((mem_reachL.1 hvw).snoc hvu)
            simp [hvw, this]
          · simp [hvw]
        rw [h1]
        refine Nat.lt_of_le_of_ne (List.length_filter_le _ _) fun e => ?_
        have h2 := List.length_filter_eq_length_iff.1 e v (List.mem_filter.2 ⟨hv, by simpa using mem_reachL.2 (R.one hvu)⟩)
        exact h v (mem_reachL.1 (by simpa using h2))
      cases n with
      | zero => omega
      | succ n => exact free_exists h n v hv (by omega)
    · exact ⟨u, hu, by simpa using hw⟩
theorem free_some {es : List Ed} (h : Acyclic (prsL es)) {x : Str} {r : List Str} : ∃ i, freeAt es (x :: r) = some i := by
  obtain ⟨u, hu, hf⟩ := free_exists h (left := x :: r) _ x (.head _) (Nat.le_refl _)
  cases hi : freeAt es (x :: r) with
  | some i => exact ⟨i, rfl⟩
  | none =>
    have := List.findIdx?_eq_none_iff.1 hi u hu
    simp [hf] at this
theorem sortGo_ends {es : List Ed} (h : Acyclic (prsL es)) : ∀ (n : Nat) (left out : List Str), left.length ≤ n → ∃ l, sortGo es n left out = some l
  | n, [], out, _ => ⟨out, sortGo_nil es n out⟩
  | 0, x :: r, out, hn => by simp at hn
  | n + 1, x :: r, out, hn => by
    obtain ⟨i, hi⟩ := free_some h (x := x) (r := r)
    have hi' : i < (x :: r).length := (List.findIdx?_eq_some_iff_getElem.1 hi).1
    simp only [sortGo, hi]
    exact sortGo_ends h n _ _ (by rw [List.length_eraseIdx, if_pos hi']; simp at hn ⊢; omega)
theorem sortU_some {es : List Ed} (h : Acyclic (prsL es)) (us : List Str) : ∃ l, sortU es us = some l := sortGo_ends h _ _ _ (Nat.le_refl _)
theorem perm_erase {α : Type} : ∀ {l : List α} {i : Nat} (hi : i < l.length), (l[i] :: l.eraseIdx i).Perm l
  | x :: r, 0, _ => .refl _
  | x :: r, i + 1, hi => by
    have hi' : i < r.length := by simpa using hi
    exact (List.Perm.swap x r[i] (r.eraseIdx i)).trans ((perm_erase hi').cons x)
theorem sortGo_ok {es : List Ed} : ∀ (n : Nat) (left out l : List Str), left.Nodup → sortGo es n left out = some l →
    ∃ r, l = out ++ r ∧ (∀ x, x ∈ r ↔ x ∈ left) ∧ r.Pairwise (fun a b => a ≠ b ∧ ¬ (b, a) ∈ prsL es)
  | n, [], out, l, _, h => by rw [sortGo_nil] at h; injection h with h; exact ⟨[], by simp [h], by simp, .nil⟩
  | 0, x :: r, out, l, _, h => by simp [sortGo] at h
  | n + 1, x :: r, out, l, hnd, h => by
    simp only [sortGo] at h
    cases hf : freeAt es (x :: r) with
    | none => rw [hf] at h; cases h
    | some i =>
      rw [hf] at h
      simp only at h
      obtain ⟨hi, hfree, _⟩ := List.findIdx?_eq_some_iff_getElem.1 hf
      have hget : (x :: r).getD i [] = (x :: r)[i] := by rw [List.getD_eq_getElem?_getD, List.getElem?_eq_getElem hi]; rfl
      rw [hget] at h
      have hperm : ∀ y, y ∈ (x :: r) ↔ y = (x :: r)[i] ∨ y ∈ (x :: r).eraseIdx i := fun y => by
        have := (perm_erase hi).mem_iff (a := y)
        rw [← this, List.mem_cons]
      obtain ⟨r', h1, h2, h3⟩ := sortGo_ok n _ _ l (hnd.sublist (List.eraseIdx_sublist _ _)) h
      refine ⟨(x :: r)[i] :: r', by rw [h1]; simp, fun y => ?_, List.pairwise_cons.2 ⟨fun y hy => ⟨?_, ?_⟩, h3⟩⟩
      · rw [List.mem_cons, h2, hperm]
      · intro e
        have hnd2 := (perm_erase hi).nodup_iff.2 hnd
        exact (List.nodup_cons.1 hnd2).1 (e ▸ (h2 y).1 hy)
      · intro hp
        have hw : waitsB es (x :: r) (x :: r)[i] = true := waits_mem.2 ⟨y, (hperm y).2 (.inr ((h2 y).1 hy)), hp⟩
        simp [hw] at hfree
theorem sortU_ok {es : List Ed} {us l : List Str} (h : sortU es us = some l) : (∀ x, x ∈ l ↔ x ∈ us) ∧ l.Pairwise (fun a b => a ≠ b ∧ es.any (aheadB b a) = false) := by
  obtain ⟨r, h1, h2, h3⟩ := sortGo_ok _ _ _ l ((canon_ss toS us).nodup toS) h
  rw [List.nil_append] at h1
  subst h1
  refine ⟨fun x => by rw [h2, mem_canon toS], h3.imp fun {a b} hab => ⟨hab.1, ?_⟩⟩
  cases h4 : es.any (aheadB b a)
  · rfl
  · exact absurd (ahead_prs.1 h4) hab.2
/-! Putting one edge in -/
def putF (x : Ed) (s : Bool × List Ed) (y : Ed) : Bool × List Ed := if (!s.1 && ltE x y) = true then (true, s.2 ++ [x] ++ [y]) else (s.1, s.2 ++ [y])
def putEnd (x : Ed) (s : Bool × List Ed) : List Ed := if s.1 = true then s.2 else s.2 ++ [x]
theorem putF_true (x : Ed) : ∀ (l acc : List Ed), l.foldl (putF x) (true, acc) = (true, acc ++ l)
  | [], acc => by simp
  | y :: l, acc => by rw [List.foldl_cons]; unfold putF; simp only [Bool.not_true, Bool.false_and]; exact (putF_true x l (acc ++ [y])).trans (by simp)
theorem putF_ins (x : Ed) : ∀ (l acc : List Ed), x ∉ l → putEnd x (l.foldl (putF x) (false, acc)) = acc ++ insL ltE x l
  | [], acc, _ => by simp [putEnd, insL]
  | y :: l, acc, h => by
    rw [List.foldl_cons]
    have hne : x ≠ y := fun e => h (e ▸ .head _)
    by_cases hlt : ltE x y = true
    · have h1 : putF x (false, acc) y = (true, acc ++ [x] ++ [y]) := by simp [putF, hlt]
      rw [h1, putF_true]
      have h2 : ltE y x = false := by
        cases h3 : ltE y x
        · rfl
        · have := toE.trans hlt h3; rw [toE.irrefl] at this; cases this
      simp [putEnd, insL, h2, hne.symm]
    · have h1 : putF x (false, acc) y = (false, acc ++ [y]) := by simp [putF, hlt]
      rw [h1, putF_ins x l _ (fun hm => h (.tail _ hm))]
      have h2 : ltE y x = true := by
        cases h3 : ltE y x
        · exact absurd (toE.total (by simpa using hlt) h3) hne
        · rfl
      simp [insL, h2]
theorem mem_prs_put {es : List Ed} {a b : Str} {p : Pr} : p ∈ prsL (insL ltE (b, a, 8) es) ↔ p ∈ prsL es ++ [(a, b)] := by
  rw [mem_prsL, List.mem_append, mem_prsL, List.mem_singleton]
  constructor
  · rintro ⟨e, he, hp⟩
    rcases mem_insL.1 he with h | h
    · subst h; simp [pairE] at hp; exact .inr hp.symm
    · exact .inl ⟨e, h, hp⟩
  · rintro (⟨e, he, hp⟩ | h)
    · exact ⟨e, mem_insL.2 (.inr he), hp⟩
    · exact ⟨(b, a, 8), mem_insL.2 (.inl rfl), by simp [pairE, h]⟩
structure PutOk (ns : List Nd) (es : List Ed) (a b : Str) : Prop where
  may : mayG ns es = true
  is : isB es = true
  na : (nodeOf ns a).isSome = true
  nb : (nodeOf ns b).isSome = true
  ne : a ≠ b
  st : ((nodeOf ns b).getD ([], 0, 0)).2.2 = 1
  nr : a ∉ reachL (prsL es) b
theorem put_acyclic {ns : List Nd} {es : List Ed} {a b : Str} (h : PutOk ns es a b) : Acyclic (prsL (insL ltE (b, a, 8) es)) :=
  ((isB_iff.1 h.is).app (p := (a, b)) h.ne (fun hr => h.nr (mem_reachL.2 hr))).mono fun _ hp => mem_prs_put.1 hp
theorem put_may {ns : List Nd} {es : List Ed} {a b : Str} (h : PutOk ns es a b) : mayG ns (insL ltE (b, a, 8) es) = true := by
  obtain ⟨h1, h2, h3, h4, h5⟩ := mayG_iff.1 h.may
  refine mayG_iff.2 ⟨h1, h2, h3.insL toE, h4, fun e he => ?_⟩
  rcases mem_insL.1 he with e1 | e1
  · subst e1
    have hst := h.st
    unfold edgeOk
    simp [h.na, h.nb, h.ne.symm, hst]
  · exact h5 e e1
theorem put_is {ns : List Nd} {es : List Ed} {a b : Str} (h : PutOk ns es a b) : isB (insL ltE (b, a, 8) es) = true := isB_iff.2 (put_acyclic h)
theorem put_straight {ns : List Nd} {es : List Ed} {a b : Str} (h : PutOk ns es a b) : straight (insL ltE (b, a, 8) es) = insL ltE (b, a, 8) es := straight_of_acyclic (put_acyclic h)
theorem put_ahead (es : List Ed) (a b : Str) : (insL ltE (b, a, 8) es).any (aheadB a b) = true := ahead_prs.2 (mem_prs_put.2 (by simp))
theorem put_len (es : List Ed) (x : Ed) : (insL ltE x es).length ≤ es.length + 1 := by
  induction es with
  | nil => simp [insL]
  | cons y r ih => unfold insL; split <;> simp <;> (try omega); split <;> simp
end Od
end Go.Proofs.YtbllehjhmfehbaaGreat
end

section
/- What the laws of pull say, of lists. No program. -/
namespace Go.Proofs.YtbllehjhmfehbaaGreat
set_option linter.unusedSimpArgs false
namespace Od
theorem nodeOf_iff {ns : List Nd} {s : Str} : (nodeOf ns s).isSome = true ↔ s ∈ ns.map (·.1) := by
  unfold nodeOf
  rw [List.find?_isSome, List.mem_map]
  constructor
  · rintro ⟨n, h, e⟩; exact ⟨n, h, by simpa using e⟩
  · rintro ⟨n, h, e⟩; exact ⟨n, h, by simpa using e⟩
theorem may_ends {ns : List Nd} {es : List Ed} (hm : mayG ns es = true) {e : Ed} (he : e ∈ es) : (nodeOf ns e.1).isSome = true ∧ (nodeOf ns e.2.1).isSome = true := by
  have h := (mayG_iff.1 hm).2.2.2.2 e he
  unfold edgeOk at h
  simp only [Bool.and_eq_true] at h
  exact ⟨h.1, h.2.1⟩
theorem may_name {ns : List Nd} {es : List Ed} (hm : mayG ns es = true) {s : Str} (h : (nodeOf ns s).isSome = true) : s ≠ [] := by
  obtain ⟨n, hn, rfl⟩ := List.mem_map.1 (nodeOf_iff.1 h)
  have h2 := (mayG_iff.1 hm).2.2.2.1
  rw [List.all_eq_true] at h2
  have h3 := h2 n hn
  intro e
  unfold mayN at h3
  rw [e] at h3
  revert h3
  have : kindS [] = 0 := by decide +kernel
  rw [this]
  simp
def keyP (p : Pl) : Jp := (p.1, p.2.1)
theorem asksB_iff {ns : List Nd} {first : Jp} : asksB ns first = true ↔ (nodeOf ns first.1).isSome = true ∧ 1 ≤ first.2 ∧ first.2 ≤ 4 := by
  unfold asksB; simp only [Bool.and_eq_true, decide_eq_true_eq]
theorem mem_pullQ {ns : List Nd} {es : List Ed} {up half : List Str} {first : Jp} {wo : List Pl} {p : Pl} : p ∈ pullQ ns es up half first wo ↔ asksB ns first = true ∧ p ∈ allP es up half first wo := by
  unfold pullQ
  split
  · rename_i h; exact ⟨fun hp => ⟨h, hp⟩, fun hp => hp.2⟩
  · rename_i h; exact ⟨fun hp => (by cases hp), fun hp => absurd hp.1 h⟩
theorem pullQ_ss (ns : List Nd) (es : List Ed) (up half : List Str) (first : Jp) (wo : List Pl) : (pullQ ns es up half first wo).Pairwise (fun p q => ltJ (keyP p) (keyP q) = true) := by
  unfold pullQ; split
  · exact allP_ss _ _ _ _ _
  · exact .nil
theorem pullQ_nd (ns : List Nd) (es : List Ed) (up half : List Str) (first : Jp) (wo : List Pl) : SS ltJ ((pullQ ns es up half first wo).map keyP) := List.pairwise_map.2 (pullQ_ss _ _ _ _ _ _)
/-- What is pulled is of a node. -/
theorem reach_node {ns : List Nd} {es : List Ed} {up half : List Str} {first : Jp} {wo : List Pl} (hm : mayG ns es = true) (h0 : asksB ns first = true) {k : Jp} (h : Rj (bringB es up half) (outB wo) first k) : (nodeOf ns k.1).isSome = true ∧ 1 ≤ k.2 ∧ k.2 ≤ 4 := by
  cases h with
  | one => exact asksB_iff.1 h0
  | more _ hb _ =>
    obtain ⟨⟨e, he, h1⟩, h2⟩ := bring_edge hb
    refine ⟨?_, by omega, by omega⟩
    rcases h1 with h1 | h1
    · rw [← h1]; exact (may_ends hm he).1
    · rw [← h1]; exact (may_ends hm he).2
theorem mem_pull {ns : List Nd} {es : List Ed} {up half : List Str} {first : Jp} {wo : List Pl} (h0 : asksB ns first = true) {k : Jp} (h : Rj (bringB es up half) (outB wo) first k) : ∃ p ∈ pullQ ns es up half first wo, keyP p = k ∧ (p.2.2.1 = true ↔ Rj (needJ (bringB es up half)) (outB wo) first k) ∧ p.2.2.2 = byOf (pullM es up half first wo) k := by
  refine ⟨plOf (pullM es up half first wo) (needM es up half first wo) k, mem_pullQ.2 ⟨h0, List.mem_map.2 ⟨k, (mem_canon toJ).2 (mem_pullM.2 h), rfl⟩⟩, rfl, ?_, rfl⟩
  show knownP _ k = true ↔ _
  rw [knownP_iff, mem_needM]
/-! Each was brought by one (PullBy) -/
theorem pull_by {ns : List Nd} {es : List Ed} {up half : List Str} {first : Jp} {wo : List Pl} (hm : mayG ns es = true) {p : Pl} (hp : p ∈ pullQ ns es up half first wo) :
    (p.2.2.2 = [] ↔ keyP p = first) ∧ (keyP p = first → p.2.2.1 = true) ∧ (p.2.2.2 ≠ [] → ∃ q ∈ pullQ ns es up half first wo, q.1 = p.2.2.2) := by
  obtain ⟨h0, h⟩ := mem_pullQ.1 hp
  obtain ⟨h1, h2, h3⟩ := mem_allP.1 h
  have hne : ∀ j : Jp, Rj (bringB es up half) (outB wo) first j → j.1 ≠ [] := fun j hj => may_name hm (reach_node hm h0 hj).1
  refine ⟨?_, fun e => ?_, fun hb => ?_⟩
  · rcases by_cases_ h1 with ⟨e1, e2⟩ | ⟨e1, _, j, hj, e2, _⟩
    · rw [h3]; exact ⟨fun _ => e1, fun _ => e2⟩
    · rw [h3, ← e2]; exact ⟨fun e => absurd e (hne j hj), fun e => absurd e e1⟩
  · rw [h2]
    have e' : (p.1, p.2.1) = first := e
    rw [e']; exact .one
  · rcases by_cases_ h1 with ⟨e1, e2⟩ | ⟨e1, _, j, hj, e2, _⟩
    · exact absurd (h3.trans e2) hb
    · obtain ⟨q, hq, e, _⟩ := mem_pull h0 hj
      exact ⟨q, hq, by rw [h3, ← e2, ← e]; rfl⟩
def byNone (p : Pl) : Bool := p.2.2.2 == []
theorem count_key : ∀ {l : List Pl} {k : Jp}, (l.map keyP).Nodup → (∃ p ∈ l, keyP p = k) → l.countP (fun p => keyP p == k) = 1
  | [], _, _, h => by obtain ⟨p, hp, _⟩ := h; cases hp
  | q :: r, k, hd, h => by
    obtain ⟨h1, h2⟩ := List.nodup_cons.1 (show (keyP q :: r.map keyP).Nodup from hd)
    rw [List.countP_cons]
    by_cases e : keyP q = k
    · have : r.countP (fun p => keyP p == k) = 0 := List.countP_eq_zero.2 fun p hp => by
        simp only [beq_iff_eq]
        intro e2
        exact h1 (List.mem_map.2 ⟨p, hp, by rw [e2, e]⟩)
      rw [this, if_pos (by simpa using e)]
    · rw [if_neg (by simpa using e)]
      obtain ⟨p, hp, e2⟩ := h
      rcases List.mem_cons.1 hp with e3 | hp
      · exact absurd (by rw [← e3]; exact e2) e
      · rw [count_key h2 ⟨p, hp, e2⟩]
theorem pull_one {ns : List Nd} {es : List Ed} {up half : List Str} {first : Jp} {wo : List Pl} (hm : mayG ns es = true) (h0 : asksB ns first = true) : (pullQ ns es up half first wo).countP byNone = 1 := by
  have e : (pullQ ns es up half first wo).countP byNone = (pullQ ns es up half first wo).countP (fun p => keyP p == first) := by
    refine List.countP_congr fun p hp => ?_
    have := (pull_by hm hp).1
    unfold byNone
    simp only [beq_iff_eq]
    exact this
  rw [e]
  obtain ⟨p, hp, e2, _⟩ := mem_pull (wo := wo) h0 (.one : Rj (bringB es up half) (outB wo) first first)
  exact count_key (SS.nodup toJ (pullQ_nd _ _ _ _ _ _)) ⟨p, hp, e2⟩
/-! Left out (PullLess) -/
theorem outB_nil (k : Jp) : outB [] k = false := rfl
theorem pull_less {ns : List Nd} {es : List Ed} {up half : List Str} {first : Jp} {x p : Pl} (hp : p ∈ pullQ ns es up half first [x]) :
    ∃ q ∈ pullQ ns es up half first [], keyP q = keyP p ∧ (q.2.2.1 = true ∨ p.2.2.1 = false) := by
  obtain ⟨h0, h⟩ := mem_pullQ.1 hp
  obtain ⟨h1, h2, _⟩ := mem_allP.1 h
  have h3 : Rj (bringB es up half) (outB []) first (p.1, p.2.1) := h1.mono (fun _ _ b hb _ => ⟨b, hb, rfl⟩) (fun _ _ _ => rfl)
  obtain ⟨q, hq, e, h4, _⟩ := mem_pull h0 h3
  refine ⟨q, hq, e, ?_⟩
  cases hn : p.2.2.1
  · exact .inr rfl
  · exact .inl (h4.2 ((h2.1 hn).mono (fun _ _ b hb _ => ⟨b, hb, rfl⟩) (fun _ _ _ => rfl)))
theorem pull_gone {ns : List Nd} {es : List Ed} {up half : List Str} {first : Jp} {x p : Pl} (hm : mayG ns es = true) (hx : x ∈ pullQ ns es up half first []) (hb : x.2.2.2 ≠ []) (hp : p ∈ pullQ ns es up half first [x]) : keyP p ≠ keyP x := by
  intro e
  obtain ⟨h0, h⟩ := mem_pullQ.1 hp
  obtain ⟨h1, _, _⟩ := mem_allP.1 h
  have hk : keyP x ≠ first := fun e2 => hb ((pull_by hm hx).1.2 e2)
  rcases by_cases_ h1 with ⟨e1, _⟩ | ⟨_, ho, _⟩
  · exact hk (by rw [← e]; exact e1)
  · have e2 : (p.1, p.2.1) = (x.1, x.2.1) := e
    rw [e2] at ho
    simp [outB] at ho
theorem layP_congr {E : Jp → List Bg} {out out' : Jp → Bool} (h : ∀ j, ∀ b ∈ E j, out b.1 = out' b.1) : ∀ (n : Nat) (m : Ms) (row : List Jp), layP E out n m row = layP E out' n m row
  | 0, _, _ => rfl
  | n + 1, m, [] => rfl
  | n + 1, m, j :: r => by
    have hf : ∀ (l : List (Jp × Str)) (s : Ms × List Jp), (∀ p ∈ l, out p.1 = out' p.1) → l.foldl (addP out) s = l.foldl (addP out') s := by
      intro l
      induction l with
      | nil => exact fun _ _ => rfl
      | cons p l ih =>
        intro s hl
        rw [List.foldl_cons, List.foldl_cons]
        have : addP out s p = addP out' s p := by unfold addP; rw [hl p (.head _)]
        rw [this]
        exact ih _ fun q hq => hl q (.tail _ hq)
    have e : stepP E out m (j :: r) = stepP E out' m (j :: r) := hf _ _ fun p hp => by
      obtain ⟨k, _, b, hb, e⟩ := mem_brs.1 hp
      rw [e]; exact h k b hb
    show layP E out n (stepP E out m (j :: r)).1 (canon ltJ (stepP E out m (j :: r)).2) = layP E out' n (stepP E out' m (j :: r)).1 (canon ltJ (stepP E out' m (j :: r)).2)
    rw [e]
    exact layP_congr h n _ _
theorem pull_other {ns : List Nd} {es : List Ed} {up half : List Str} {first : Jp} {o : Pl} (hm : mayG ns es = true) (ho : (nodeOf ns o.1).isSome = false) : pullQ ns es up half first [o] = pullQ ns es up half first [] := by
  have h : ∀ (j : Jp) (b : Bg), b ∈ bringB es up half j → outB [o] b.1 = outB [] b.1 := fun j b hb => by
    have hne : o.1 ≠ b.1.1 := fun e => by
      obtain ⟨⟨e2, he, h1⟩, _⟩ := bring_edge hb
      rw [e] at ho
      rcases h1 with h1 | h1
      · have := (may_ends hm he).1; rw [h1, ho] at this; cases this
      · have := (may_ends hm he).2; rw [h1, ho] at this; cases this
    unfold outB
    simp [hne]
  have e1 : pullM es up half first [o] = pullM es up half first [] := layP_congr (fun j b hb => h j b hb) _ _ _
  have e2 : needM es up half first [o] = needM es up half first [] := layP_congr (fun j b hb => h j b (List.mem_filter.1 hb).1) _ _ _
  unfold pullQ allP
  rw [e1, e2]
/-! Whatever is brought comes along (PullClosed) -/
theorem pull_closed {ns : List Nd} {es : List Ed} {up half : List Str} {first : Jp} {p : Pl} (hp : p ∈ pullQ ns es up half first []) {b : Bg} (hb : b ∈ bringB es up half (keyP p)) :
    ∃ q ∈ pullQ ns es up half first [], keyP q = b.1 ∧ (q.2.2.1 = true ∨ b.2 = false ∨ p.2.2.1 = false) := by
  obtain ⟨h0, h⟩ := mem_pullQ.1 hp
  obtain ⟨h1, h2, _⟩ := mem_allP.1 h
  obtain ⟨q, hq, e, h3, _⟩ := mem_pull h0 (.more h1 hb rfl : Rj (bringB es up half) (outB []) first b.1)
  refine ⟨q, hq, e, ?_⟩
  cases hn : b.2
  · exact .inr (.inl rfl)
  · cases hn2 : p.2.2.1
    · exact .inr (.inr rfl)
    · exact .inl (h3.2 (.more (h2.1 hn2) (List.mem_filter.2 ⟨hb, hn⟩) rfl))
theorem pull_len {ns : List Nd} {es : List Ed} {up half : List Str} {first : Jp} {wo : List Pl} (hm : mayG ns es = true) : (pullQ ns es up half first wo).length ≤ 4 * ns.length := by
  have h : ((pullQ ns es up half first wo).map keyP).length ≤ (ns.flatMap fun n => [(n.1, (1 : Int)), (n.1, 2), (n.1, 3), (n.1, 4)]).length := by
    refine nodup_len (SS.nodup toJ (pullQ_nd _ _ _ _ _ _)) fun j hj => ?_
    obtain ⟨p, hp, rfl⟩ := List.mem_map.1 hj
    obtain ⟨h0, h⟩ := mem_pullQ.1 hp
    obtain ⟨h1, h2, h3⟩ := reach_node hm h0 (mem_allP.1 h).1
    obtain ⟨n, hn, e⟩ := List.mem_map.1 (nodeOf_iff.1 h1)
    refine List.mem_flatMap.2 ⟨n, hn, ?_⟩
    simp only at e h2 h3
    unfold keyP
    rw [e]
    have : p.2.1 = 1 ∨ p.2.1 = 2 ∨ p.2.1 = 3 ∨ p.2.1 = 4 := by omega
    rcases this with h | h | h | h <;> rw [h] <;> simp
  rw [List.length_map] at h
  have e : (ns.flatMap fun n => [(n.1, (1 : Int)), (n.1, 2), (n.1, 3), (n.1, 4)]).length = 4 * ns.length := by
    generalize ns = l
    induction l with
    | nil => rfl
    | cons a r ih => rw [List.flatMap_cons, List.length_append, ih]; simp only [List.length_cons, List.length_nil]; omega
  omega
/-! The more is up (PullMore) -/
theorem bring_more {es : List Ed} {up up' half : List Str} (hu : ∀ s ∈ up, s ∈ up') {j : Jp} {b : Bg} (h : b ∈ bringB es up half j) : b ∈ bringB es up' half j := by
  rw [mem_bringB] at *
  rcases h with h | ⟨h1, h2⟩
  · exact .inl h
  · refine .inr ⟨h1, ?_⟩
    rw [mem_backB] at *
    refine ⟨h2.1, h2.2.1, h2.2.2.1, ?_⟩
    have := h2.2.2.2
    unfold upB at *
    rw [Bool.or_eq_true, hasB_iff, hasB_iff] at *
    exact this.imp (hu _) id
theorem pull_more {ns : List Nd} {es : List Ed} {up up' half : List Str} {first : Jp} (hu : ∀ s ∈ up, s ∈ up') {p : Pl} (hp : p ∈ pullQ ns es up half first []) :
    ∃ q ∈ pullQ ns es up' half first [], keyP q = keyP p ∧ (p.2.2.1 = true → q.2.2.1 = true) := by
  obtain ⟨h0, h⟩ := mem_pullQ.1 hp
  obtain ⟨h1, h2, _⟩ := mem_allP.1 h
  obtain ⟨q, hq, e, h3, _⟩ := mem_pull (up := up') h0 (h1.mono (fun _ _ b hb _ => ⟨b, bring_more hu hb, rfl⟩) (fun _ _ h => h))
  refine ⟨q, hq, e, fun hn => h3.2 ((h2.1 hn).mono (fun _ _ b hb _ => ⟨b, ?_, rfl⟩) (fun _ _ h => h))⟩
  obtain ⟨h4, h5⟩ := List.mem_filter.1 hb
  exact List.mem_filter.2 ⟨bring_more hu h4, h5⟩
/-- How many of one row's jobs stand among the first of another row. -/
def atK (l m : List Pl) (k : Nat) : Nat := ((m.take k).filter (fun p => decide (keyP p ∈ l.map keyP))).length
theorem sub_keys {l m : List Pl} (hl : SS ltJ (l.map keyP)) (hm : SS ltJ (m.map keyP)) (hs : ∀ p ∈ l, ∃ q ∈ m, keyP q = keyP p) : (m.filter (fun p => decide (keyP p ∈ l.map keyP))).map keyP = l.map keyP := by
  refine SS.unique toJ (hm.sublist (List.filter_sublist.map _)) hl fun k => ?_
  constructor
  · intro h
    obtain ⟨p, hp, rfl⟩ := List.mem_map.1 h
    simpa using (List.mem_filter.1 hp).2
  · intro h
    obtain ⟨p, hp, e⟩ := List.mem_map.1 h
    obtain ⟨q, hq, e2⟩ := hs p hp
    exact List.mem_map.2 ⟨q, List.mem_filter.2 ⟨hq, by rw [e2, e]; simpa using h⟩, by rw [e2, e]⟩
theorem atK_end {l m : List Pl} (hl : SS ltJ (l.map keyP)) (hm : SS ltJ (m.map keyP)) (hs : ∀ p ∈ l, ∃ q ∈ m, keyP q = keyP p) : atK l m m.length = l.length := by
  unfold atK
  rw [List.take_length]
  have := congrArg List.length (sub_keys hl hm hs)
  simpa using this
theorem atK_le {l m : List Pl} (hl : SS ltJ (l.map keyP)) (hm : SS ltJ (m.map keyP)) (hs : ∀ p ∈ l, ∃ q ∈ m, keyP q = keyP p) (k : Nat) : atK l m k ≤ l.length := by
  rw [← atK_end hl hm hs]
  unfold atK
  rw [List.take_length]
  exact ((List.take_sublist k m).filter _).length_le
theorem atK_succ {l m : List Pl} {k : Nat} (hk : k < m.length) : atK l m (k + 1) = atK l m k + (if keyP m[k] ∈ l.map keyP then 1 else 0) := by
  unfold atK
  rw [filter_take_succ hk, List.length_append]
  split
  · rename_i h; rw [if_pos (by simpa using h)]; rfl
  · rename_i h; rw [if_neg (by simpa using h)]; rfl
/-- The next one of the shorter row is just the one of the longer row that is in both. -/
theorem atK_at {l m : List Pl} (hl : SS ltJ (l.map keyP)) (hm : SS ltJ (m.map keyP)) (hs : ∀ p ∈ l, ∃ q ∈ m, keyP q = keyP p) {k : Nat} (hk : k < m.length) :
    (keyP m[k] ∈ l.map keyP ↔ ∃ h : atK l m k < l.length, keyP l[atK l m k] = keyP m[k]) := by
  have h1 : m = m.take k ++ m[k] :: m.drop (k + 1) := by rw [List.getElem_cons_drop, List.take_append_drop]
  have h2 := sub_keys hl hm hs
  constructor
  · intro h
    have h3 : (m.filter (fun p => decide (keyP p ∈ l.map keyP))).map keyP = ((m.take k).filter (fun p => decide (keyP p ∈ l.map keyP))).map keyP ++ keyP m[k] :: ((m.drop (k + 1)).filter (fun p => decide (keyP p ∈ l.map keyP))).map keyP := by
      conv => lhs; rw [h1]
      rw [List.filter_append, List.filter_cons, if_pos (by simpa using h), List.map_append, List.map_cons]
    rw [h2] at h3
    have h4 : (l.map keyP)[atK l m k]? = some (keyP m[k]) := by
      rw [h3, List.getElem?_append_right (by unfold atK; simp)]
      unfold atK
      simp
    rw [List.getElem?_map] at h4
    rcases Nat.lt_or_ge (atK l m k) l.length with h5 | h5
    · rw [List.getElem?_eq_getElem h5] at h4
      exact ⟨h5, by simpa using h4⟩
    · rw [List.getElem?_eq_none h5] at h4
      cases h4
  · rintro ⟨h, e⟩
    rw [← e]
    exact List.mem_map.2 ⟨_, List.getElem_mem h, rfl⟩
/-! A start (PullStart) -/
def needS (l : List Pl) (u : Str) : Bool := l.any (fun p => p.1 == u && (p.2.1 == 1 && p.2.2.1))
theorem needS_iff {ns : List Nd} {es : List Ed} {up half : List Str} {first : Jp} (h0 : asksB ns first = true) {u : Str} : needS (pullQ ns es up half first []) u = true ↔ Rj (needJ (bringB es up half)) (outB []) first (u, 1) := by
  unfold needS
  rw [List.any_eq_true]
  constructor
  · rintro ⟨p, hp, h⟩
    simp only [Bool.and_eq_true, beq_iff_eq] at h
    obtain ⟨e1, e2, h3⟩ := h
    have := (mem_allP.1 (mem_pullQ.1 hp).2).2.1.1 h3
    rw [e1, e2] at this
    exact this
  · intro h
    obtain ⟨p, hp, e, h2, _⟩ := mem_pull h0 (need_pull h)
    refine ⟨p, hp, ?_⟩
    have e1 : p.1 = u := congrArg Prod.fst e
    have e2 : p.2.1 = 1 := congrArg Prod.snd e
    rw [e1, e2, h2.2 h]
    simp
theorem pull_start {ns : List Nd} {es : List Ed} {up half : List Str} {u : Str} (h0 : asksB ns (u, 1) = true) {v o : Str} (hv : needS (pullQ ns es up half (u, 1) []) v = true) (ho : (v, o, 1) ∈ es ∨ (v, o, 4) ∈ es) : needS (pullQ ns es up half (u, 1) []) o = true := by
  rw [needS_iff h0] at *
  exact .more hv (b := ((o, 1), true)) (List.mem_filter.2 ⟨mem_bringB.2 (.inl ⟨.inl rfl, mem_startB.2 (.inl ⟨rfl, rfl, ho⟩)⟩), rfl⟩) rfl
theorem pull_name {ns : List Nd} {es : List Ed} {up half : List Str} {u : Str} : needS (pullQ ns es up half (u, 1) []) u = (nodeOf ns u).isSome := by
  cases h : (nodeOf ns u).isSome
  · have : pullQ ns es up half (u, 1) [] = [] := by unfold pullQ; rw [if_neg (by simp [asksB, h])]
    rw [this]; rfl
  · exact (needS_iff (asksB_iff.2 ⟨h, (by simp), (by simp)⟩)).2 .one
end Od
end Go.Proofs.YtbllehjhmfehbaaGreat
end

section
/- Units with types, jobs that are brought and jobs that come along, as cells. No program. -/
namespace Go.Proofs.YtbllehjhmfehbaaGreat
open Go.RowKit
namespace Od
def jpC (j : Jp) : List Value := [sv j.1, .int .i64 j.2]
def jpsC (l : List Jp) : List Value := l.flatMap jpC
def brC (b : Bg) : List Value := [sv b.1.1, .int .i64 b.1.2, .bool b.2]
def brsC (l : List Bg) : List Value := l.flatMap brC
def plC (p : Pl) : List Value := [sv p.1, .int .i64 p.2.1, .bool p.2.2.1, sv p.2.2.2]
def plsC (l : List Pl) : List Value := l.flatMap plC
theorem flat_take {α : Type} (c : α → List Value) (k : Nat) (hc : ∀ x, (c x).length = k) (l : List α) (n : Nat) : (l.take n).flatMap c = (l.flatMap c).take (n * k) := by
  induction l generalizing n with
  | nil => simp
  | cons x l ih =>
    cases n with
    | zero => simp
    | succ n =>
      have h := ih n
      simp only [List.take_succ_cons, List.flatMap_cons, h]
      have e : (c x).take ((n + 1) * k) = c x := List.take_of_length_le (by rw [hc, Nat.add_mul]; omega)
      rw [List.take_append, e, hc, show (n + 1) * k - k = n * k by rw [Nat.add_mul]; omega]
theorem flat_drop {α : Type} (c : α → List Value) (k : Nat) (hc : ∀ x, (c x).length = k) (l : List α) (n : Nat) : (l.drop n).flatMap c = (l.flatMap c).drop (n * k) := by
  induction l generalizing n with
  | nil => simp
  | cons x l ih =>
    cases n with
    | zero => simp
    | succ n =>
      have h := ih n
      simp only [List.drop_succ_cons, List.flatMap_cons, h]
      have e : (c x).drop ((n + 1) * k) = [] := List.drop_eq_nil_of_le (by rw [hc, Nat.add_mul]; omega)
      rw [List.drop_append, e, hc, show (n + 1) * k - k = n * k by rw [Nat.add_mul]; omega]
      rfl
theorem jpC_len (j : Jp) : (jpC j).length = 2 := rfl
theorem brC_len (b : Bg) : (brC b).length = 3 := rfl
theorem plC_len (p : Pl) : (plC p).length = 4 := rfl
theorem jpsC_len (l : List Jp) : (jpsC l).length = l.length * 2 := flat_len jpC 2 jpC_len l
theorem brsC_len (l : List Bg) : (brsC l).length = l.length * 3 := flat_len brC 3 brC_len l
theorem plsC_len (l : List Pl) : (plsC l).length = l.length * 4 := flat_len plC 4 plC_len l
theorem jpsC_app (a b : List Jp) : jpsC (a ++ b) = jpsC a ++ jpsC b := by simp [jpsC]
theorem brsC_app (a b : List Bg) : brsC (a ++ b) = brsC a ++ brsC b := by simp [brsC]
theorem plsC_app (a b : List Pl) : plsC (a ++ b) = plsC a ++ plsC b := by simp [plsC]
theorem jpsC_one (j : Jp) : jpsC [j] = jpC j := by simp [jpsC]
theorem brsC_one (b : Bg) : brsC [b] = brC b := by simp [brsC]
theorem plsC_one (p : Pl) : plsC [p] = plC p := by simp [plsC]
theorem one_jpC (j : Jp) : ∀ u ∈ jpC j, u.oneCell' = true := fun u hu => by
  simp only [jpC, List.mem_cons, List.not_mem_nil, or_false] at hu
  rcases hu with rfl | rfl <;> rfl
theorem one_brC (j : Bg) : ∀ u ∈ brC j, u.oneCell' = true := fun u hu => by
  simp only [brC, List.mem_cons, List.not_mem_nil, or_false] at hu
  rcases hu with rfl | rfl | rfl <;> rfl
theorem one_plC (j : Pl) : ∀ u ∈ plC j, u.oneCell' = true := fun u hu => by
  simp only [plC, List.mem_cons, List.not_mem_nil, or_false] at hu
  rcases hu with rfl | rfl | rfl | rfl <;> rfl
theorem one_jpsC (l : List Jp) : ∀ u ∈ jpsC l, u.oneCell' = true := fun u hu => by
  obtain ⟨j, _, hj⟩ := List.mem_flatMap.1 hu
  exact one_jpC j u hj
theorem one_brsC (l : List Bg) : ∀ u ∈ brsC l, u.oneCell' = true := fun u hu => by
  obtain ⟨j, _, hj⟩ := List.mem_flatMap.1 hu
  exact one_brC j u hj
theorem one_plsC (l : List Pl) : ∀ u ∈ plsC l, u.oneCell' = true := fun u hu => by
  obtain ⟨j, _, hj⟩ := List.mem_flatMap.1 hu
  exact one_plC j u hj
end Od
open Od
theorem Rd.jp {w : World} {B : Nat} {A : Option Addr} {q : List Jp} (h : Rd w B 2 A q.length (jpsC q)) {i : Nat} (hi : i < q.length) :
    ∃ b o : Nat, A = some ⟨b, o, none⟩ ∧ b < B ∧ w.cell? ⟨b, o + i * 2, none⟩ = some (sv q[i].1) ∧ w.cell? ⟨b, o + i * 2 + 1, none⟩ = some (.int .i64 q[i].2) := by
  obtain ⟨b, o, e, hb, hc⟩ := h.open (by omega)
  have h0 := flat_at jpC 2 jpC_len q i 0 hi (by omega)
  have h1 := flat_at jpC 2 jpC_len q i 1 hi (by omega)
  exact ⟨b, o, e, hb, (hc (i * 2) (by omega)).trans h0, (hc (i * 2 + 1) (by omega)).trans h1⟩
theorem Rd.br {w : World} {B : Nat} {A : Option Addr} {q : List Bg} (h : Rd w B 3 A q.length (brsC q)) {i : Nat} (hi : i < q.length) :
    ∃ b o : Nat, A = some ⟨b, o, none⟩ ∧ b < B ∧ w.cell? ⟨b, o + i * 3, none⟩ = some (sv q[i].1.1) ∧ w.cell? ⟨b, o + i * 3 + 1, none⟩ = some (.int .i64 q[i].1.2) ∧ w.cell? ⟨b, o + i * 3 + 2, none⟩ = some (.bool q[i].2) := by
  obtain ⟨b, o, e, hb, hc⟩ := h.open (by omega)
  have h0 := flat_at brC 3 brC_len q i 0 hi (by omega)
  have h1 := flat_at brC 3 brC_len q i 1 hi (by omega)
  have h2 := flat_at brC 3 brC_len q i 2 hi (by omega)
  exact ⟨b, o, e, hb, (hc (i * 3) (by omega)).trans h0, (hc (i * 3 + 1) (by omega)).trans h1, (hc (i * 3 + 2) (by omega)).trans h2⟩
theorem Rd.pl {w : World} {B : Nat} {A : Option Addr} {q : List Pl} (h : Rd w B 4 A q.length (plsC q)) {i : Nat} (hi : i < q.length) :
    ∃ b o : Nat, A = some ⟨b, o, none⟩ ∧ b < B ∧ w.cell? ⟨b, o + i * 4, none⟩ = some (sv q[i].1) ∧ w.cell? ⟨b, o + i * 4 + 1, none⟩ = some (.int .i64 q[i].2.1) ∧ w.cell? ⟨b, o + i * 4 + 2, none⟩ = some (.bool q[i].2.2.1) ∧ w.cell? ⟨b, o + i * 4 + 3, none⟩ = some (sv q[i].2.2.2) := by
  obtain ⟨b, o, e, hb, hc⟩ := h.open (by omega)
  have h0 := flat_at plC 4 plC_len q i 0 hi (by omega)
  have h1 := flat_at plC 4 plC_len q i 1 hi (by omega)
  have h2 := flat_at plC 4 plC_len q i 2 hi (by omega)
  have h3 := flat_at plC 4 plC_len q i 3 hi (by omega)
  exact ⟨b, o, e, hb, (hc (i * 4) (by omega)).trans h0, (hc (i * 4 + 1) (by omega)).trans h1, (hc (i * 4 + 2) (by omega)).trans h2, (hc (i * 4 + 3) (by omega)).trans h3⟩
end Go.Proofs.YtbllehjhmfehbaaGreat
end

section
/- Jobs as keys of maps: pull's and the reference's. -/
namespace Go.Proofs.YtbllehjhmfehbaaGreat
open Go.RowKit Go.Maps
namespace Od
def jlit (p : Jp) : Lit := .string (keyBytes [.string p.1, .int .i64 p.2])
theorem keyLits_i (d : Nat) (n : Int) (h : (Lit.int .i64 n).wf = true) : Tryz.prog.keyLits (d + 1) 3 [.int .i64 n] = some [.int .i64 n] := by
  simp [Program.keyLits, Tryz.underlying3, h]
theorem keyLits_i_inv {d : Nat} {cs : List Value} {l : List Lit} (h : Tryz.prog.keyLits d 3 cs = some l) : ∃ n : Int, (Lit.int .i64 n).wf = true ∧ cs = [.int .i64 n] ∧ l = [.int .i64 n] := by
  cases d with
  | zero => simp [Program.keyLits] at h
  | succ d =>
    unfold Program.keyLits at h
    simp only [Tryz.underlying3] at h
    split at h
    all_goals simp_all
    exact ⟨_, h.1.2, rfl, h.2.symm⟩
theorem cellsI : Tryz.prog.cellsOf 3 = 1 := by kernel_rfl
theorem rowJ : (73 : TypeId) < Tryz.prog.types.size := of_decide_eq_true (by kernel_rfl)
theorem wideJ : (match Tryz.prog.underlying 73 with | some (.array _ _) | some (.struct _) => true | _ => false) = true := by rw [Tryz.underlying73]
theorem keyAtJ : Tryz.prog.keyTypeAt 3 73 = true := by kernel_rfl
set_option maxRecDepth 100000 in
theorem lawJ : Keyed Tryz.prog 73 := Keyed.of_law (deep_law_laid laidOut' (m := 3) (by omega) rowJ keyAtJ wideJ)
theorem cellsJ : Tryz.prog.cellsOf 73 = 2 := by kernel_rfl
theorem keyTypeJ : Tryz.prog.keyType 73 = true := by kernel_rfl
theorem keyOfJ (p : Jp) (h1 : p.1.length ≤ maxLen) (h2 : (Lit.int .i64 p.2).wf = true) : keyOf Tryz.prog 73 (.agg #[sv p.1, .int .i64 p.2]) = some (jlit p) := by
  have hu := Tryz.underlying73
  have hform : (Value.agg #[sv p.1, .int .i64 p.2]).formed Tryz.prog 73 = true := by simp [Value.formed, hu, cellsJ]
  unfold keyOf
  rw [hu]
  simp only [keyTypeJ, hform, Bool.and_self, if_true]
  rw [sizeP, sizeP2]
  unfold Program.keyLits
  rw [hu]
  simp only [Value.cells, cellsJ]
  simp [keyLits_s, keyLits_i, h1, h2, cellsS, cellsI, jlit]
theorem keyInvJ (v : Value) (l : Lit) (h : keyOf Tryz.prog 73 v = some l) : ∃ p : Jp, (p.1.length ≤ maxLen ∧ (Lit.int .i64 p.2).wf = true) ∧ v = .agg #[sv p.1, .int .i64 p.2] := by
  have hu := Tryz.underlying73
  unfold keyOf at h
  simp only [hu, keyTypeJ, Bool.true_and] at h
  split at h
  · rename_i hf
    cases v with
    | agg cs =>
      rw [sizeP] at h
      unfold Program.keyLits at h
      simp only [hu] at h
      simp [Value.formed, hu, cellsJ] at hf
      simp only [Value.cells, cellsJ] at h
      obtain ⟨xs⟩ := cs
      have hx : xs.length = 2 := by simpa using hf
      obtain ⟨x, y, rfl⟩ : ∃ x y, xs = [x, y] := by
        match xs, hx with
        | [x, y], _ => exact ⟨x, y, rfl⟩
      simp only [List.mapM_cons, List.mapM_nil, cellsS, cellsI, List.drop_zero, List.take_succ_cons, List.take_zero, List.drop_succ_cons] at h
      cases h1 : Tryz.prog.keyLits (Tryz.prog.types.size - 1 + 1) 9 [x] with
      | none => rw [h1] at h; split at h <;> cases h
      | some l1 =>
        cases h2 : Tryz.prog.keyLits (Tryz.prog.types.size - 1 + 1) 3 [y] with
        | none => rw [h1, h2] at h; split at h <;> cases h
        | some l2 =>
          obtain ⟨s1, hs1, e1, _⟩ := keyLits_s_inv h1
          obtain ⟨n2, hs2, e2, _⟩ := keyLits_i_inv h2
          cases e1
          cases e2
          exact ⟨(s1, n2), ⟨hs1, hs2⟩, rfl⟩
    | _ => simp [Value.formed, hu] at hf
  · cases h
noncomputable def kindJ : KeyKind Tryz.prog 73 Jp where
  val p := .agg #[sv p.1, .int .i64 p.2]
  ok p := p.1.length ≤ maxLen ∧ (Lit.int .i64 p.2).wf = true
  kl := jlit
  law := lawJ
  key p hp := keyOfJ p hp.1 hp.2
  inj x y h := by
    obtain ⟨a, b⟩ := x
    obtain ⟨c, d⟩ := y
    simp only [Value.agg.injEq] at h
    have h1 := congrArg (fun z : Array Value => z.toList) h
    simp at h1
    simp [h1]
  inv := keyInvJ
theorem rowR : (86 : TypeId) < Tryz.prog.types.size := of_decide_eq_true (by kernel_rfl)
theorem wideR : (match Tryz.prog.underlying 86 with | some (.array _ _) | some (.struct _) => true | _ => false) = true := by rw [Tryz.underlying86]
theorem keyAtR : Tryz.prog.keyTypeAt 3 86 = true := by kernel_rfl
set_option maxRecDepth 100000 in
theorem lawR : Keyed Tryz.prog 86 := Keyed.of_law (deep_law_laid laidOut' (m := 3) (by omega) rowR keyAtR wideR)
theorem cellsR : Tryz.prog.cellsOf 86 = 2 := by kernel_rfl
theorem keyTypeR : Tryz.prog.keyType 86 = true := by kernel_rfl
theorem keyOfR (p : Jp) (h1 : p.1.length ≤ maxLen) (h2 : (Lit.int .i64 p.2).wf = true) : keyOf Tryz.prog 86 (.agg #[sv p.1, .int .i64 p.2]) = some (jlit p) := by
  have hu := Tryz.underlying86
  have hform : (Value.agg #[sv p.1, .int .i64 p.2]).formed Tryz.prog 86 = true := by simp [Value.formed, hu, cellsR]
  unfold keyOf
  rw [hu]
  simp only [keyTypeR, hform, Bool.and_self, if_true]
  rw [sizeP, sizeP2]
  unfold Program.keyLits
  rw [hu]
  simp only [Value.cells, cellsR]
  simp [keyLits_s, keyLits_i, h1, h2, cellsS, cellsI, jlit]
theorem keyInvR (v : Value) (l : Lit) (h : keyOf Tryz.prog 86 v = some l) : ∃ p : Jp, (p.1.length ≤ maxLen ∧ (Lit.int .i64 p.2).wf = true) ∧ v = .agg #[sv p.1, .int .i64 p.2] := by
  have hu := Tryz.underlying86
  unfold keyOf at h
  simp only [hu, keyTypeR, Bool.true_and] at h
  split at h
  · rename_i hf
    cases v with
    | agg cs =>
      rw [sizeP] at h
      unfold Program.keyLits at h
      simp only [hu] at h
      simp [Value.formed, hu, cellsR] at hf
      simp only [Value.cells, cellsR] at h
      obtain ⟨xs⟩ := cs
      have hx : xs.length = 2 := by simpa using hf
      obtain ⟨x, y, rfl⟩ : ∃ x y, xs = [x, y] := by
        match xs, hx with
        | [x, y], _ => exact ⟨x, y, rfl⟩
      simp only [List.mapM_cons, List.mapM_nil, cellsS, cellsI, List.drop_zero, List.take_succ_cons, List.take_zero, List.drop_succ_cons] at h
      cases h1 : Tryz.prog.keyLits (Tryz.prog.types.size - 1 + 1) 9 [x] with
      | none => rw [h1] at h; split at h <;> cases h
      | some l1 =>
        cases h2 : Tryz.prog.keyLits (Tryz.prog.types.size - 1 + 1) 3 [y] with
        | none => rw [h1, h2] at h; split at h <;> cases h
        | some l2 =>
          obtain ⟨s1, hs1, e1, _⟩ := keyLits_s_inv h1
          obtain ⟨n2, hs2, e2, _⟩ := keyLits_i_inv h2
          cases e1
          cases e2
          exact ⟨(s1, n2), ⟨hs1, hs2⟩, rfl⟩
    | _ => simp [Value.formed, hu] at hf
  · cases h
noncomputable def kindR : KeyKind Tryz.prog 86 Jp where
  val p := .agg #[sv p.1, .int .i64 p.2]
  ok p := p.1.length ≤ maxLen ∧ (Lit.int .i64 p.2).wf = true
  kl := jlit
  law := lawR
  key p hp := keyOfR p hp.1 hp.2
  inj x y h := by
    obtain ⟨a, b⟩ := x
    obtain ⟨c, d⟩ := y
    simp only [Value.agg.injEq] at h
    have h1 := congrArg (fun z : Array Value => z.toList) h
    simp at h1
    simp [h1]
  inv := keyInvR
end Od
end Go.Proofs.YtbllehjhmfehbaaGreat
end
