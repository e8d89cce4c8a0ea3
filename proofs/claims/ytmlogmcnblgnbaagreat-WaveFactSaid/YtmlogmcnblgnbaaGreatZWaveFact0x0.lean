/- My texts, joined for the claim: Reg2 GSortM GLaw QNode15 QMay15W RPut GEq2. -/
import Derived.Test.YtmlogmcnblgnbaaGreatZB0
import Derived.Test.YtmlogmcnblgnbaaGreatZB3
import Derived.Test.YtmlogmcnblgnbaaGreatZB2
import Derived.Test.YtmlogmcnblgnbaaGreatZB1
import Derived.Test.YtmlogmcnblgnbaaGreatZB9
import Derived.Test.YtmlogmcnblgnbaaGreatZB6
import Derived.Test.YtmlogmcnblgnbaaGreatRows
import Derived.Test.YtmlogmcnblgnbaaGreatZB7
import Derived.WalkKit

section
/- The moves through a region that draws its order, shorter still (for texts whose bytes count). No program. -/
namespace Go.Proofs.YtmlogmcnblgnbaaGreat
open Go.RowKit
section
variable {P : Program} {ops : Array Oper} {Q : Exit → Act → World → Prop} {md : Region.Mode} {S : World → Prop}
variable {dst : Option Tmp} {op : Op} {ty : TypeId} {pos : String} {aft : Array Edge} {grd : Option (Nat × Bool)} {fuel : Nat} {listed : Array Bool} {a : Act} {w : World}
theorem tV (i : Nat) (v : Value) (hy : ∀ w, S w → (execOp a.eval ⟨dst, op, ty, pos, aft, grd⟩).run P w = .ok (.value v) w) (h : wpAnyH P md ops Q S fuel (listed.setIfInBounds i true) (a.put dst v) w)
    (hi : ops[i]? = some ⟨dst, op, ty, pos, aft, grd⟩ := by rfl) (hS : S w := by assumption)
    (hs : Region.noSelect ops = true := by kernel_rfl) (hf : Region.free md ops listed i = true := by kernel_rfl) (hr : (Region.ready md ops listed).contains i = true := by kernel_rfl)
    (hQ : ∀ c a w, Q (.panic c) (a.put dst v) w → Q (.panic c) a w := by exact fun _ _ _ h => h) (hw : Region.wanted ⟨dst, op, ty, pos, aft, grd⟩ (yielded ops a.tmps) = true := by rfl) :
    wpAnyH P md ops Q S (fuel + 1) listed a w := take_yield hi hs hf hr hQ hw hy hS h
theorem tU (i : Nat) (h : wpAnyH P md ops Q S fuel (listed.setIfInBounds i true) (a.put dst undef) w)
    (hi : ops[i]? = some ⟨dst, op, ty, pos, aft, grd⟩ := by rfl) (hS : S w := by assumption)
    (hs : Region.noSelect ops = true := by kernel_rfl) (hf : Region.free md ops listed i = true := by kernel_rfl) (hr : (Region.ready md ops listed).contains i = true := by kernel_rfl)
    (hQ : ∀ c a w, Q (.panic c) (a.put dst undef) w → Q (.panic c) a w := by exact fun _ _ _ h => h) (hw : Region.wanted ⟨dst, op, ty, pos, aft, grd⟩ (yielded ops a.tmps) = false := by rfl) :
    wpAnyH P md ops Q S (fuel + 1) listed a w := take_skip hi hs hf hr hQ hw hS h
end
theorem bq {B : Nat} {w w' : World} (h : Below B w w' := by repeat (first | exact Below.refl _ _ | assumption | refine Below.alloc ?_ (by simp <;> omega) _ | refine Below.setCell ?_ (by simp <;> omega) _ | refine Below.drew ?_)) : Below B w w' := h
theorem bq2 {B : Nat} {w w' : World} (h : Below B w w' := by repeat (first | exact Below.refl _ _ | assumption | refine Below.alloc ?_ (by first | omega | (simp <;> omega)) _ | refine Below.setCell ?_ (by first | omega | (simp <;> omega)) _ | refine Below.drew ?_)) : Below B w w' := h
end Go.Proofs.YtmlogmcnblgnbaaGreat
end

section
/- Units in order: what both sorts come to. No program. -/
namespace Go.Proofs.YtmlogmcnblgnbaaGreat
open Go.RowKit
namespace Od
def pairAh (a b : Str) (e : Ed) : Bool := pairE e == some (a, b)
/-- Is one of left directly ahead of b? -/
def waitsB (es : List Ed) (left : List Str) (b : Str) : Bool := left.any (fun a => es.any (pairAh a b))
def freeAt (es : List Ed) (left : List Str) : Option Nat := left.findIdx? (fun b => !waitsB es left b)
def sortGo (es : List Ed) : Nat → List Str → List Str → Option (List Str)
 | _, [], out => some out
 | 0, _ :: _, _ => none
 | n + 1, x :: r, out => match freeAt es (x :: r) with
  | none => none
  | some i => sortGo es n ((x :: r).eraseIdx i) (out ++ [(x :: r).getD i []])
def sortU (es : List Ed) (units : List Str) : Option (List Str) := sortGo es (canon ltS units).length (canon ltS units) []
theorem sortGo_nil (es : List Ed) (n : Nat) (out : List Str) : sortGo es n [] out = some out := by cases n <;> rfl
theorem sortGo_none {es : List Ed} {left out : List Str} (h0 : 0 < left.length) (h : ∀ j (hj : j < left.length), waitsB es left left[j] = true) : sortGo es left.length left out = none := by
 cases left with
 | nil => simp at h0
 | cons x r =>
  have hf : freeAt es (x :: r) = none := by
   unfold freeAt
   rw [List.findIdx?_eq_none_iff]
   intro y hy
   obtain ⟨j, hj, e⟩ := List.mem_iff_getElem.1 hy
   have := h j hj
   rw [e] at this
   simp [this]
  show sortGo es (r.length + 1) (x :: r) out = none
  simp only [sortGo, hf]
theorem sortGo_some {es : List Ed} {left out : List Str} {k : Nat} (hk : k < left.length) (h : ∀ j (hj : j < left.length), j < k → waitsB es left left[j] = true) (hw : waitsB es left left[k] = false) :
  sortGo es left.length left out = sortGo es (left.eraseIdx k).length (left.eraseIdx k) (out ++ [left[k]]) := by
 cases left with
 | nil => simp at hk
 | cons x r =>
  have hf : freeAt es (x :: r) = some k := by
   unfold freeAt
   rw [List.findIdx?_eq_some_iff_getElem]
   refine ⟨hk, by simp [hw], fun j hj => ?_⟩
   have := h j (by omega) hj
   simp [this]
  have hl : ((x :: r).eraseIdx k).length = r.length := by rw [List.length_eraseIdx, if_pos hk]; simp
  rw [hl]
  show sortGo es (r.length + 1) (x :: r) out = _
  simp only [sortGo, hf]
  rw [List.getD_eq_getElem?_getD, List.getElem?_eq_getElem hk]
  rfl
theorem erase_cut {l : List Str} (k : Nat) : l.eraseIdx k = l.take k ++ l.drop (k + 1) := List.eraseIdx_eq_take_drop_succ l k
end Od
end Go.Proofs.YtmlogmcnblgnbaaGreat
end

section
/- Plain laws of chapter 16: what the statements OrderStraight, OrderMost, OrderRow, OrderBehind, OrderPut say of lists. No program. -/
namespace Go.Proofs.YtmlogmcnblgnbaaGreat
set_option linter.unusedSimpArgs false
namespace Od
/-- The order of edges. -/
def ltE (e f : Ed) : Bool := ltS e.1 f.1 || (e.1 == f.1 && (ltS e.2.1 f.2.1 || (e.2.1 == f.2.1 && decide (e.2.2 < f.2.2))))
theorem ltE_iff {e f : Ed} : ltE e f = true ↔ ltS e.1 f.1 = true ∨ (e.1 = f.1 ∧ (ltS e.2.1 f.2.1 = true ∨ (e.2.1 = f.2.1 ∧ e.2.2 < f.2.2))) := by
 simp [ltE]
theorem toE : TO ltE where
 irrefl x := by simp [ltE, toS.irrefl]
 trans {x y z} h1 h2 := by
  rw [ltE_iff] at *
  rcases h1 with h1 | ⟨a1, h1⟩
  ·rcases h2 with h2 | ⟨a2, h2⟩
   ·exact .inl (toS.trans h1 h2)
   ·exact .inl (a2 ▸ h1)
  ·rcases h2 with h2 | ⟨a2, h2⟩
   ·exact .inl (a1 ▸ h2)
   ·refine .inr ⟨a1.trans a2, ?_⟩
    rcases h1 with h1 | ⟨b1, h1⟩
    ·rcases h2 with h2 | ⟨b2, h2⟩
     ·exact .inl (toS.trans h1 h2)
     ·exact .inl (b2 ▸ h1)
    ·rcases h2 with h2 | ⟨b2, h2⟩
     ·exact .inl (b1 ▸ h2)
     ·exact .inr ⟨b1.trans b2, Int.lt_trans h1 h2⟩
 total {x y} h1 h2 := by
  have g1 : ¬ ltE x y = true := by simp [h1]
  have g2 : ¬ ltE y x = true := by simp [h2]
  rw [ltE_iff] at g1 g2
  simp only [not_or, not_and] at g1 g2
  have e1 : x.1 = y.1 := toS.total (by simpa using g1.1) (by simpa using g2.1)
  have k1 := g1.2 e1
  have k2 := g2.2 e1.symm
  have e2 : x.2.1 = y.2.1 := toS.total (by simpa using k1.1) (by simpa using k2.1)
  have l1 := k1.2 e2
  have l2 := k2.2 e2.symm
  exact Prod.ext e1 (Prod.ext e2 (by omega))
theorem lessS_eq (a b : Str) : lessS a b = ltS a b := rfl
theorem orI_one (x : Int) : orI [x] = x := by
 by_cases h : x = 0
 ·subst h; rfl
 ·exact orI_cons h []
theorem edgeCmp_lt {e f : Ed} : edgeCmp e f < 0 ↔ ltE e f = true := by
 rw [ltE_iff]
 unfold edgeCmp
 by_cases h1 : e.1 = f.1
 ·have c1 : cmpS e.1 f.1 = 0 := by unfold cmpS; rw [lessS_eq, h1, toS.irrefl]; simp
  rw [c1, orI_cons0]
  have n1 : ¬ ltS e.1 f.1 = true := by rw [h1, toS.irrefl]; simp
  by_cases h2 : e.2.1 = f.2.1
  ·have c2 : cmpS e.2.1 f.2.1 = 0 := by unfold cmpS; rw [lessS_eq, h2, toS.irrefl]; simp
   rw [c2, orI_cons0, orI_one]
   have n2 : ¬ ltS e.2.1 f.2.1 = true := by rw [h2, toS.irrefl]; simp
   simp only [n1, n2, h1, h2, false_or, true_and]
   unfold cmpI
   split
   ·simp_all
   ·split <;> simp_all
  ·have c2 : cmpS e.2.1 f.2.1 ≠ 0 := by unfold cmpS; split <;> simp_all
   rw [orI_cons c2]
   simp only [n1, h1, h2, false_or, true_and, false_and, or_false]
   unfold cmpS
   rw [lessS_eq]
   split <;> simp_all
 ·have c1 : cmpS e.1 f.1 ≠ 0 := by unfold cmpS; split <;> simp_all
  rw [orI_cons c1]
  simp only [h1, false_and, or_false]
  unfold cmpS
  rw [lessS_eq]
  split <;> simp_all
theorem rises_pairwise {α : Type} {c : α → α → Int} (ht : ∀ x y z, c x y < 0 → c y z < 0 → c x z < 0) : ∀ {l : List α}, risesB c l = true → l.Pairwise (fun x y => c x y < 0)
 | [], _ => .nil
 | [x], _ => List.pairwise_singleton _ _
 | x :: y :: r, h => by
  unfold risesB at h
  rw [Bool.and_eq_true, decide_eq_true_eq] at h
  have ih := rises_pairwise ht h.2
  refine List.pairwise_cons.2 ⟨fun z hz => ?_, ih⟩
  rcases List.mem_cons.1 hz with e | e
  ·rw [e]; exact h.1
  ·exact ht _ _ _ h.1 ((List.pairwise_cons.1 ih).1 z e)
theorem pairwise_rises {α : Type} {c : α → α → Int} : ∀ {l : List α}, l.Pairwise (fun x y => c x y < 0) → risesB c l = true
 | [], _ => rfl
 | [x], _ => rfl
 | x :: y :: r, h => by
  unfold risesB
  obtain ⟨h1, h2⟩ := List.pairwise_cons.1 h
  rw [Bool.and_eq_true, decide_eq_true_eq]
  exact ⟨h1 y (.head _), pairwise_rises h2⟩
theorem risesE_iff {es : List Ed} : risesB edgeCmp es = true ↔ SS ltE es := by
 constructor
 ·intro h
  exact (rises_pairwise (c := edgeCmp) (fun x y z h1 h2 => edgeCmp_lt.2 (toE.trans (edgeCmp_lt.1 h1) (edgeCmp_lt.1 h2))) h).imp fun {a b} h => edgeCmp_lt.1 h
 ·intro h
  exact pairwise_rises (h.imp fun {a b} h => edgeCmp_lt.2 h)
theorem mayG_iff {ns : List Nd} {es : List Ed} : mayG ns es = true ↔ ns.length ≤ 64 ∧ risesB nodeCmp ns = true ∧ SS ltE es ∧ ns.all mayN = true ∧ ∀ e ∈ es, edgeOk ns e = true := by
 unfold mayG
 rw [← risesE_iff]
 simp only [Bool.and_eq_true, Bool.not_eq_true', decide_eq_false_iff_not, List.all_eq_true]
 constructor
 ·rintro ⟨h1, h2, h3, h4, h5⟩; exact ⟨by omega, h2, h3, h4, h5⟩
 ·rintro ⟨h1, h2, h3, h4, h5⟩; exact ⟨by omega, h2, h3, h4, h5⟩
theorem mayG_filter {ns : List Nd} {es : List Ed} (p : Ed → Bool) (h : mayG ns es = true) : mayG ns (es.filter p) = true := by
 rw [mayG_iff] at *
 obtain ⟨h1, h2, h3, h4, h5⟩ := h
 exact ⟨h1, h2, h3.sublist List.filter_sublist, h4, fun e he => h5 e (List.mem_filter.1 he).1⟩
theorem mayG_straight {ns : List Nd} {es : List Ed} (h : mayG ns es = true) : mayG ns (straight es) = true := mayG_filter _ h
theorem edgeOk_ne {ns : List Nd} {e : Ed} (h : edgeOk ns e = true) : e.1 ≠ e.2.1 := by
 unfold edgeOk at h
 simp only [Bool.and_eq_true, Bool.not_eq_true', beq_eq_false_iff_ne] at h
 exact h.2.2.1
theorem isB_straight (es : List Ed) : isB (straight es) = true := isB_iff.2 (straight_acyclic es)
theorem isB_gone (es : List Ed) : isB es = decide ((gone es).length = 0) := by
 by_cases h : Acyclic (prsL es)
 ·have h1 : isB es = true := isB_iff.2 h
  have h2 := stay_gone_len es
  rw [straight_of_acyclic h] at h2
  rw [h1]; simp; exact List.length_eq_zero_iff.1 (by omega)
 ·have h1 : isB es = false := by cases h2 : isB es; rfl; exact absurd (isB_iff.1 h2) h
  rw [h1]; symm
  rw [decide_eq_false_iff_not]
  intro h0
  apply h
  have h2 := stay_gone_len es
  have h4 : (straight es).length = es.length := by omega
  have h3 : straight es = es := List.filter_sublist.eq_of_length h4
  rw [← h3]; exact straight_acyclic es
/-- An edge that is not in what was made straight says an order. -/
theorem gone_rel {es : List Ed} {e : Ed} (h : e ∈ es) (hn : e ∉ straight es) : e.2.2 = 8 ∨ e.2.2 = 7 := by
 have hs : stays es e = false := by
  cases h1 : stays es e
  ·rfl
  ·exact absurd (List.mem_filter.2 ⟨h, h1⟩) hn
 unfold stays pairE at hs
 by_cases h8 : e.2.2 = 8
 ·exact .inl h8
 ·by_cases h7 : e.2.2 = 7
  ·exact .inr h7
  ·simp [h8, h7] at hs
/-- The two that an edge parts: the first one ahead. -/
def turned (e : Ed) : Pr := if e.2.2 = 8 then (e.2.1, e.1) else (e.1, e.2.1)
theorem pairE_turned {e : Ed} (h : e.2.2 = 8 ∨ e.2.2 = 7) : pairE e = some (turned e) := by
 unfold pairE turned
 by_cases h8 : e.2.2 = 8
 ·simp [h8]
 ·simp [h8, h.resolve_left h8]
theorem turned_pairE {e : Ed} {p : Pr} (h : pairE e = some p) : p = turned e ∧ (e.2.2 = 8 ∨ e.2.2 = 7) := by
 unfold pairE at h; unfold turned
 by_cases h8 : e.2.2 = 8
 ·simp [h8] at h ⊢; exact h.symm
 ·by_cases h7 : e.2.2 = 7
  ·simp [h7] at h ⊢; exact h.symm
  ·simp [h8, h7] at h
/-- What went would go round, put back alone. -/
theorem gone_back {ns : List Nd} {es : List Ed} {e : Ed} (hm : mayG ns es = true) (h : e ∈ gone es) : (turned e).1 ∈ reachL (prsL (straight es)) (turned e).2 := by
 obtain ⟨h1, h2⟩ := List.mem_filter.1 h
 have hns : e ∉ straight es := fun hs => by have := (List.mem_filter.1 hs).2; simp [this] at h2
 have hr := gone_rel h1 hns
 have hp := pairE_turned hr
 have hmem : turned e ∈ prsL es := mem_prsL.2 ⟨e, h1, hp⟩
 have hnk : turned e ∉ keptL es := fun hk => by simp [stays, hp, hk] at h2
 have hne : (turned e).1 ≠ (turned e).2 := by
  have := edgeOk_ne ((mayG_iff.1 hm).2.2.2.2 e h1)
  unfold turned
  split
  ·exact fun h => this h.symm
  ·exact this
 rcases kept_or hmem with h3 | h3 | h3
 ·exact absurd h3 hnk
 ·exact absurd h3 hne
 ·exact mem_reachL.2 (h3.mono fun p hp => mem_prs_straight.2 hp)
/-- The edges of an order between one and whom it needs. -/
def needE (es : List Ed) (e : Ed) : Bool := (e.2.2 == 8 || e.2.2 == 7) && needsB es (turned e)
theorem mem_prs_need {es : List Ed} {p : Pr} : p ∈ prsL (es.filter (needE es)) ↔ p ∈ (prsL es).filter (needsB es) := by
 rw [mem_prsL, List.mem_filter, mem_prsL]
 constructor
 ·rintro ⟨e, he, hp⟩
  obtain ⟨h1, h2⟩ := List.mem_filter.1 he
  obtain ⟨h3, h4⟩ := turned_pairE hp
  unfold needE at h2
  rw [Bool.and_eq_true] at h2
  exact ⟨⟨e, h1, hp⟩, h3 ▸ h2.2⟩
 ·rintro ⟨⟨e, he, hp⟩, hn⟩
  obtain ⟨h3, h4⟩ := turned_pairE hp
  refine ⟨e, List.mem_filter.2 ⟨he, ?_⟩, hp⟩
  unfold needE
  rw [Bool.and_eq_true]
  exact ⟨by rcases h4 with h | h <;> simp [h], h3 ▸ hn⟩
theorem need_stays {es : List Ed} (h : isB (es.filter (needE es)) = true) {e : Ed} (he : e ∈ es.filter (needE es)) : e ∈ straight es := by
 have ha : Acyclic ((prsL es).filter (needsB es)) := (isB_iff.1 h).mono fun p hp => mem_prs_need.2 hp
 obtain ⟨h1, h2⟩ := List.mem_filter.1 he
 unfold needE at h2
 rw [Bool.and_eq_true] at h2
 have hr : e.2.2 = 8 ∨ e.2.2 = 7 := by simpa using h2.1
 have hp := pairE_turned hr
 have hk := kept_needs ha (mem_prsL.2 ⟨e, h1, hp⟩) h2.2
 exact List.mem_filter.2 ⟨h1, by simp [stays, hp, hk]⟩
theorem ahead_prs {es : List Ed} {a b : Str} : es.any (aheadB a b) = true ↔ (a, b) ∈ prsL es := by
 rw [List.any_eq_true, mem_prsL]
 simp only [aheadB, pairOf_eq, beq_iff_eq]
/-- Behind those that are behind. -/
theorem reach_trans {l : List Pr} {a b c : Str} (h1 : b ∈ reachL l a) (h2 : c ∈ reachL l b) : c ∈ reachL l a :=
 mem_reachL.2 ((mem_reachL.1 h1).trans (mem_reachL.1 h2))
theorem ahead_reach {es : List Ed} {a b : Str} (h : es.any (aheadB a b) = true) : b ∈ reachL (prsL es) a := mem_reachL.2 (R.one (ahead_prs.1 h))
theorem not_behind_self (es : List Ed) (a : Str) : a ∉ reachL (prsL (straight es)) a := fun h => straight_acyclic es a (mem_reachL.1 h)
theorem okS_reach {es : List Ed} (h : OkE es) {a b : Str} (hb : b ∈ reachL (prsL es) a) : okS b := by
 have h1 := (mem_reachL.1 hb).in_snds
 obtain ⟨p, hp, rfl⟩ := List.mem_map.1 h1
 obtain ⟨e, he, h2⟩ := mem_prsL.1 hp
 obtain ⟨rfl, _⟩ := turned_pairE h2
 unfold turned
 split
 ·exact (h e he).1
 ·exact (h e he).2
/-! Sorting -/
theorem waits_mem {es : List Ed} {left : List Str} {b : Str} : waitsB es left b = true ↔ ∃ a ∈ left, (a, b) ∈ prsL es := by
 unfold waitsB
 rw [List.any_eq_true]
 constructor
 ·rintro ⟨a, h1, h2⟩; exact ⟨a, h1, ahead_prs.1 h2⟩
 ·rintro ⟨a, h1, h2⟩; exact ⟨a, h1, ahead_prs.2 h2⟩
theorem free_exists {es : List Ed} (h : Acyclic (prsL es)) {left : List Str} : ∀ (n : Nat) (u : Str), u ∈ left → (left.filter (fun w => decide (u ∈ reachL (prsL es) w))).length ≤ n → ∃ u ∈ left, waitsB es left u = false
 | n, u, hu, hn => by
  by_cases hw : waitsB es left u = true
  ·obtain ⟨v, hv, hvu⟩ := waits_mem.1 hw
   have hlt : (left.filter (fun w => decide (v ∈ reachL (prsL es) w))).length < (left.filter (fun w => decide (u ∈ reachL (prsL es) w))).length := by
    have h1 : (left.filter (fun w => decide (v ∈ reachL (prsL es) w))) = (left.filter (fun w => decide (u ∈ reachL (prsL es) w))).filter (fun w => decide (v ∈ reachL (prsL es) w)) := by
     rw [List.filter_filter]
     refine List.filter_congr fun w _ => ?_
     by_cases hvw : v ∈ reachL (prsL es) w
     ·have : u ∈ reachL (prsL es) w := mem_reachL.2 ((mem_reachL.1 hvw).snoc hvu)
      simp [hvw, this]
     ·simp [hvw]
    rw [h1]
    refine Nat.lt_of_le_of_ne (List.length_filter_le _ _) fun e => ?_
    have h2 := List.length_filter_eq_length_iff.1 e v (List.mem_filter.2 ⟨hv, by simpa using mem_reachL.2 (R.one hvu)⟩)
    exact h v (mem_reachL.1 (by simpa using h2))
   cases n with
   | zero => omega
   | succ n => exact free_exists h n v hv (by omega)
  ·exact ⟨u, hu, by simpa using hw⟩
theorem free_some {es : List Ed} (h : Acyclic (prsL es)) {x : Str} {r : List Str} : ∃ i, freeAt es (x :: r) = some i := by
 obtain ⟨u, hu, hf⟩ := free_exists h (left := x :: r) _ x (.head _) (Nat.le_refl _)
 cases hi : freeAt es (x :: r) with
 | some i => exact ⟨i, rfl⟩
 | none =>
  have := List.findIdx?_eq_none_iff.1 hi u hu
  simp [hf] at this
theorem sortGo_ends {es : List Ed} (h : Acyclic (prsL es)) : ∀ (n : Nat) (left out : List Str), left.length ≤ n → ∃ l, sortGo es n left out = some l
 | n, [], out, _ => ⟨out, sortGo_nil es n out⟩
 | 0, x :: r, out, hn => by simp at hn
 | n + 1, x :: r, out, hn => by
  obtain ⟨i, hi⟩ := free_some h (x := x) (r := r)
  have hi' : i < (x :: r).length := (List.findIdx?_eq_some_iff_getElem.1 hi).1
  simp only [sortGo, hi]
  exact sortGo_ends h n _ _ (by rw [List.length_eraseIdx, if_pos hi']; simp at hn ⊢; omega)
theorem sortU_some {es : List Ed} (h : Acyclic (prsL es)) (us : List Str) : ∃ l, sortU es us = some l := sortGo_ends h _ _ _ (Nat.le_refl _)
theorem perm_erase {α : Type} : ∀ {l : List α} {i : Nat} (hi : i < l.length), (l[i] :: l.eraseIdx i).Perm l
 | x :: r, 0, _ => .refl _
 | x :: r, i + 1, hi => by
  have hi' : i < r.length := by simpa using hi
  exact (List.Perm.swap x r[i] (r.eraseIdx i)).trans ((perm_erase hi').cons x)
theorem sortGo_ok {es : List Ed} : ∀ (n : Nat) (left out l : List Str), left.Nodup → sortGo es n left out = some l →
  ∃ r, l = out ++ r ∧ (∀ x, x ∈ r ↔ x ∈ left) ∧ r.Pairwise (fun a b => a ≠ b ∧ ¬ (b, a) ∈ prsL es)
 | n, [], out, l, _, h => by rw [sortGo_nil] at h; injection h with h; exact ⟨[], by simp [h], by simp, .nil⟩
 | 0, x :: r, out, l, _, h => by simp [sortGo] at h
 | n + 1, x :: r, out, l, hnd, h => by
  simp only [sortGo] at h
  cases hf : freeAt es (x :: r) with
  | none => rw [hf] at h; cases h
  | some i =>
   rw [hf] at h
   simp only at h
   obtain ⟨hi, hfree, _⟩ := List.findIdx?_eq_some_iff_getElem.1 hf
   have hget : (x :: r).getD i [] = (x :: r)[i] := by rw [List.getD_eq_getElem?_getD, List.getElem?_eq_getElem hi]; rfl
   rw [hget] at h
   have hperm : ∀ y, y ∈ (x :: r) ↔ y = (x :: r)[i] ∨ y ∈ (x :: r).eraseIdx i := fun y => by
    have := (perm_erase hi).mem_iff (a := y)
    rw [← this, List.mem_cons]
   obtain ⟨r', h1, h2, h3⟩ := sortGo_ok n _ _ l (hnd.sublist (List.eraseIdx_sublist _ _)) h
   refine ⟨(x :: r)[i] :: r', by rw [h1]; simp, fun y => ?_, List.pairwise_cons.2 ⟨fun y hy => ⟨?_, ?_⟩, h3⟩⟩
   ·rw [List.mem_cons, h2, hperm]
   ·intro e
    have hnd2 := (perm_erase hi).nodup_iff.2 hnd
    exact (List.nodup_cons.1 hnd2).1 (e ▸ (h2 y).1 hy)
   ·intro hp
    have hw : waitsB es (x :: r) (x :: r)[i] = true := waits_mem.2 ⟨y, (hperm y).2 (.inr ((h2 y).1 hy)), hp⟩
    simp [hw] at hfree
theorem sortU_ok {es : List Ed} {us l : List Str} (h : sortU es us = some l) : (∀ x, x ∈ l ↔ x ∈ us) ∧ l.Pairwise (fun a b => a ≠ b ∧ es.any (aheadB b a) = false) := by
 obtain ⟨r, h1, h2, h3⟩ := sortGo_ok _ _ _ l ((canon_ss toS us).nodup toS) h
 rw [List.nil_append] at h1
 subst h1
 refine ⟨fun x => by rw [h2, mem_canon toS], h3.imp fun {a b} hab => ⟨hab.1, ?_⟩⟩
 cases h4 : es.any (aheadB b a)
 ·rfl
 ·exact absurd (ahead_prs.1 h4) hab.2
/-! Putting one edge in -/
def putF (x : Ed) (s : Bool × List Ed) (y : Ed) : Bool × List Ed := if (!s.1 && ltE x y) = true then (true, s.2 ++ [x] ++ [y]) else (s.1, s.2 ++ [y])
def putEnd (x : Ed) (s : Bool × List Ed) : List Ed := if s.1 = true then s.2 else s.2 ++ [x]
theorem putF_true (x : Ed) : ∀ (l acc : List Ed), l.foldl (putF x) (true, acc) = (true, acc ++ l)
 | [], acc => by simp
 | y :: l, acc => by rw [List.foldl_cons]; unfold putF; simp only [Bool.not_true, Bool.false_and]; exact (putF_true x l (acc ++ [y])).trans (by simp)
theorem putF_ins (x : Ed) : ∀ (l acc : List Ed), x ∉ l → putEnd x (l.foldl (putF x) (false, acc)) = acc ++ insL ltE x l
 | [], acc, _ => by simp [putEnd, insL]
 | y :: l, acc, h => by
  rw [List.foldl_cons]
  have hne : x ≠ y := fun e => h (e ▸ .head _)
  by_cases hlt : ltE x y = true
  ·have h1 : putF x (false, acc) y = (true, acc ++ [x] ++ [y]) := by simp [putF, hlt]
   rw [h1, putF_true]
   have h2 : ltE y x = false := by
    cases h3 : ltE y x
    ·rfl
    ·have := toE.trans hlt h3; rw [toE.irrefl] at this; cases this
   simp [putEnd, insL, h2, hne.symm]
  ·have h1 : putF x (false, acc) y = (false, acc ++ [y]) := by simp [putF, hlt]
   rw [h1, putF_ins x l _ (fun hm => h (.tail _ hm))]
   have h2 : ltE y x = true := by
    cases h3 : ltE y x
    ·exact absurd (toE.total (by simpa using hlt) h3) hne
    ·rfl
   simp [insL, h2]
theorem mem_prs_put {es : List Ed} {a b : Str} {p : Pr} : p ∈ prsL (insL ltE (b, a, 8) es) ↔ p ∈ prsL es ++ [(a, b)] := by
 rw [mem_prsL, List.mem_append, mem_prsL, List.mem_singleton]
 constructor
 ·rintro ⟨e, he, hp⟩
  rcases mem_insL.1 he with h | h
  ·subst h; simp [pairE] at hp; exact .inr hp.symm
  ·exact .inl ⟨e, h, hp⟩
 ·rintro (⟨e, he, hp⟩ | h)
  ·exact ⟨e, mem_insL.2 (.inr he), hp⟩
  ·exact ⟨(b, a, 8), mem_insL.2 (.inl rfl), by simp [pairE, h]⟩
structure PutOk (ns : List Nd) (es : List Ed) (a b : Str) : Prop where
 may : mayG ns es = true
 is : isB es = true
 na : (nodeOf ns a).isSome = true
 nb : (nodeOf ns b).isSome = true
 ne : a ≠ b
 st : ((nodeOf ns b).getD ([], 0, 0)).2.2 = 1
 nr : a ∉ reachL (prsL es) b
theorem put_acyclic {ns : List Nd} {es : List Ed} {a b : Str} (h : PutOk ns es a b) : Acyclic (prsL (insL ltE (b, a, 8) es)) :=
 ((isB_iff.1 h.is).app (p := (a, b)) h.ne (fun hr => h.nr (mem_reachL.2 hr))).mono fun _ hp => mem_prs_put.1 hp
theorem put_may {ns : List Nd} {es : List Ed} {a b : Str} (h : PutOk ns es a b) : mayG ns (insL ltE (b, a, 8) es) = true := by
 obtain ⟨h1, h2, h3, h4, h5⟩ := mayG_iff.1 h.may
 refine mayG_iff.2 ⟨h1, h2, h3.insL toE, h4, fun e he => ?_⟩
 rcases mem_insL.1 he with e1 | e1
 ·subst e1
  have hst := h.st
  unfold edgeOk
  simp [h.na, h.nb, h.ne.symm, hst]
 ·exact h5 e e1
theorem put_is {ns : List Nd} {es : List Ed} {a b : Str} (h : PutOk ns es a b) : isB (insL ltE (b, a, 8) es) = true := isB_iff.2 (put_acyclic h)
theorem put_straight {ns : List Nd} {es : List Ed} {a b : Str} (h : PutOk ns es a b) : straight (insL ltE (b, a, 8) es) = insL ltE (b, a, 8) es := straight_of_acyclic (put_acyclic h)
theorem put_ahead (es : List Ed) (a b : Str) : (insL ltE (b, a, 8) es).any (aheadB a b) = true := ahead_prs.2 (mem_prs_put.2 (by simp))
theorem put_len (es : List Ed) (x : Ed) : (insL ltE x es).length ≤ es.length + 1 := by
 induction es with
 | nil => simp [insL]
 | cons y r ih => unfold insL; split <;> simp <;> (try omega); split <;> simp
end Od
end Go.Proofs.YtmlogmcnblgnbaaGreat
end

section
/- The walks of matinsref15.less and matinsref15.Node; matinsref1.Of by its kind alone. (bel2) -/
namespace Go.Proofs.YtmlogmcnblgnbaaGreat
open Go.RowKit
set_option linter.unusedSimpArgs false

namespace Od
def OfK (s : Str) (w : World) (e : Ending) (w' : World) : Prop := ∃ p i a, e = .returned (cutC (kindS s, p, i, a)) ∧ Below w.heap.size w w'
theorem OfK_any (s : Str) (w : World) (hl : s.length ≤ 140737488355328) : Calls Tryz.prog 103 #[sv s] w (OfK s w) :=
 (Of_any s w hl).mono fun e w' ⟨h, hb⟩ => ⟨(ofS s).2.1, (ofS s).2.2.1, (ofS s).2.2.2, by rw [h, ← ofS_kind], hb⟩
set_option maxRecDepth 100000 in
theorem field_kind : ∀ (k : Int) (p i : Str) (a : Bool) (v : World), (Instr.field 128 (cutC (k, p, i, a)) 0).run Tryz.prog v = .ok (.int .i64 k) v := fun _ _ _ _ _ => by kernel_rfl
set_option maxRecDepth 100000 in
set_option maxHeartbeats 4000000 in
theorem less15_any (a b a' b' : Str) (x y : Int) (w : World) :
  Calls Tryz.prog 118 #[.agg #[sv a, sv b, .int .i64 x], .agg #[sv a', sv b', .int .i64 y]] w fun e w' => e = .returned (.bool (ltE (a, b, x) (a', b', y))) ∧ Below w.heap.size w w' := by
 have HM := Lib.hid (show ltE (a, b, x) (a', b', y) = (ltS a a' || (a == a' && (ltS b b' || (b == b' && decide (x < y))))) from rfl)
 cases h1 : (a == a')
 ·cases h2 : Op.bytesLess a a'
  ·go_enter Tryz.func118, Tryz.ntmps118
   go_wp2_with fail
   go_ret
   exact ⟨ret_bool (by rw [HM.out]; simp [ltS, h1, h2]), (by repeat (first | exact Below.refl _ _ | assumption | refine Below.alloc ?_ (by first | omega | (simp <;> omega)) _ | refine Below.setCell ?_ (by first | omega | (simp <;> omega)) _ | refine Below.drew ?_))⟩
  ·go_enter Tryz.func118, Tryz.ntmps118
   go_wp2_with fail
   go_ret
   exact ⟨ret_bool (by rw [HM.out]; simp [ltS, h1, h2]), (by repeat (first | exact Below.refl _ _ | assumption | refine Below.alloc ?_ (by first | omega | (simp <;> omega)) _ | refine Below.setCell ?_ (by first | omega | (simp <;> omega)) _ | refine Below.drew ?_))⟩
 ·have e1 : a = a' := by simpa using h1
  subst e1
  have h2 : Op.bytesLess a a = false := toS.irrefl a
  cases h3 : (b == b')
  ·cases h4 : Op.bytesLess b b'
   ·go_enter Tryz.func118, Tryz.ntmps118
    go_wp2_with fail
    go_ret
    exact ⟨ret_bool (by rw [HM.out]; simp [ltS, h2, h3, h4]), (by repeat (first | exact Below.refl _ _ | assumption | refine Below.alloc ?_ (by first | omega | (simp <;> omega)) _ | refine Below.setCell ?_ (by first | omega | (simp <;> omega)) _ | refine Below.drew ?_))⟩
   ·go_enter Tryz.func118, Tryz.ntmps118
    go_wp2_with fail
    go_ret
    exact ⟨ret_bool (by rw [HM.out]; simp [ltS, h2, h3, h4]), (by repeat (first | exact Below.refl _ _ | assumption | refine Below.alloc ?_ (by first | omega | (simp <;> omega)) _ | refine Below.setCell ?_ (by first | omega | (simp <;> omega)) _ | refine Below.drew ?_))⟩
  ·have e2 : b = b' := by simpa using h3
   subst e2
   have h4 : Op.bytesLess b b = false := toS.irrefl b
   go_enter Tryz.func118, Tryz.ntmps118
   go_wp2_with fail
   go_ret
   exact ⟨ret_bool (by rw [HM.out]; simp [ltS, h2, h4]), (by repeat (first | exact Below.refl _ _ | assumption | refine Below.alloc ?_ (by first | omega | (simp <;> omega)) _ | refine Below.setCell ?_ (by first | omega | (simp <;> omega)) _ | refine Below.drew ?_))⟩
theorem nodeOf_at {ns : List Nd} {s : Str} {k : Nat} (hk : k < ns.length) (h0 : (ns.take k).any (fun n => n.1 == s) = false) (h : (ns[k].1 == s) = true) : nodeOf ns s = some ns[k] := find_at hk h0 h
set_option maxRecDepth 100000 in
set_option maxHeartbeats 4000000 in
theorem Node15_any (An Ae : Option Addr) (ne cn ce : Nat) (ns : List Nd) (s : Str) (w : World) (hr : Rd w w.heap.size 3 An ns.length (ndsC ns)) (hl : ns.length ≤ 1000000) :
  Calls Tryz.prog 117 #[gV An ns.length cn Ae ne ce, sv s] w fun e w' => e = .returned (nodeV (nodeOf ns s)) ∧ Below w.heap.size w w' := by
 have Hr := Lib.hid hr
 clear hr
 go_enter Tryz.func117, Tryz.ntmps117
 go_wp2_with fail
 first | (refine wp_named ?_; intro W1 hW) | (refine calls_named ?_; intro W1 hW)
 have B1 : Below w.heap.size w W1 := by rw [hW]; exact bq2
 replace Hr := Lib.hid (Hr.out.at B1)
 have n1 : w.heap.size < W1.heap.size := by rw [hW]; simp <;> omega
 have n2 : w.heap.size + 1 < W1.heap.size := by rw [hW]; simp <;> omega
 have g0 : W1.cell? ⟨w.heap.size, 0, none⟩ = some (.slice An ns.length cn) := by rw [hW]; go_simp
 have g1 : W1.cell? ⟨w.heap.size, 1, none⟩ = some (.slice Ae ne ce) := by rw [hW]; go_simp
 have r0 : W1.cell? ⟨w.heap.size + 1, 0, none⟩ = some (sv []) := by rw [hW]; go_simp
 have r1 : W1.cell? ⟨w.heap.size + 1, 1, none⟩ = some (.int .i64 0) := by rw [hW]; go_simp
 have r2 : W1.cell? ⟨w.heap.size + 1, 2, none⟩ = some (.int .i64 0) := by rw [hW]; go_simp
 have f0 : W1.frozen? ⟨w.heap.size + 1, 0, none⟩ = false := by rw [hW]; go_simp
 have f1 : W1.frozen? ⟨w.heap.size + 1, 1, none⟩ = false := by rw [hW]; go_simp
 have f2 : W1.frozen? ⟨w.heap.size + 1, 2, none⟩ = false := by rw [hW]; go_simp
 clear hW
 have HB := Lib.hid B1
 clear B1
 go_loopw [11] (fun i wr => ∃ k : Nat, k ≤ ns.length ∧ i = .int .i64 k ∧ Hid ((ns.take k).any (fun n => n.1 == s) = false) ∧ Below W1.heap.size W1 wr) (fun i _ => ns.length - (intOf i).toNat)
 case atStart => exact ⟨0, Nat.zero_le _, rfl, by simp [Hid], Below.refl _ _⟩
 case round =>
  obtain ⟨k, hk, rfl, hall, hb⟩ := hrel
  have Hb := Lib.hid hb
  replace g0 := cellAt g0 hb (by omega)
  replace g1 := cellAt g1 hb (by omega)
  replace r0 := cellAt r0 hb (by omega)
  replace r1 := cellAt r1 hb (by omega)
  replace r2 := cellAt r2 hb (by omega)
  replace f0 := froAt f0 hb (by omega)
  replace f1 := froAt f1 hb (by omega)
  replace f2 := froAt f2 hb (by omega)
  replace Hr := Lib.hid (Hr.out.at hb)
  replace n1 : w.heap.size < wr.heap.size := ltAt n1 hb
  replace n2 : w.heap.size + 1 < wr.heap.size := ltAt n2 hb
  replace HB := Lib.hid (lift HB.out hb)
  clear hb
  have hzw : w.heap.size + 1 < wr.heap.size := n2
  by_cases hlt : k < ns.length
  ·obtain ⟨b, o, rfl, hB, x0, x1, x2⟩ := Hr.out.node hlt
   have hnx := nodeOf_at (s := s) hlt hall.out
   have hany := any_take_succ (p := fun n : Nd => n.1 == s) hlt
   generalize ns[k] = z at x0 x1 x2 hnx hany
   obtain ⟨s', t', r'⟩ := z
   simp only at x0 x1 x2 hnx hany
   have HA := Lib.hid hany
   have HX := Lib.hid hnx
   clear hany hnx
   have k1 : (0 : Int) ≤ (k : Int) := by omega
   have k2 : (k : Int) < (ns.length : Int) := by omega
   cases hss : (s' == s)
   ·have HA2 := Lib.hid (show (ns.take (k + 1)).any (fun n => n.1 == s) = false by rw [HA.out, hall.out, hss]; rfl)
    go_wp2_with fail
    go_roundw
    case rel => exact ⟨k + 1, by omega, by go_num, HA2.out, Hb.out.alloc Hb.out.size _⟩
    case measure => simp [intOf]; omega
   ·have HX2 := Lib.hid (HX.out hss)
    have e1 : s' = s := by simpa using hss
    subst e1
    go_wp2_with fail
    have hB0 := HB.out
    refine bodyPost_ret (v := .tuple #[ndV (s', t', r'), .bool true]) (by simp only [results, Tryz.results117]; go_simp) rfl ⟨by rw [HX2.out]; rfl, (by repeat (first | exact Below.refl _ _ | assumption | refine Below.alloc ?_ (by first | omega | (simp <;> omega)) _ | refine Below.setCell ?_ (by first | omega | (simp <;> omega)) _ | refine Below.drew ?_))⟩
  ·have HN := Lib.hid (show nodeOf ns s = none from find_none_take (by have := hall.out; rwa [List.take_of_length_le (by omega)] at this))
   go_wp2_with fail
   have hB0 := HB.out
   refine bodyPost_ret (v := .tuple #[ndV ([], 0, 0), .bool false]) (by simp only [results, Tryz.results117]; go_simp) rfl ⟨by rw [HN.out]; rfl, (by repeat (first | exact Below.refl _ _ | assumption | refine Below.alloc ?_ (by first | omega | (simp <;> omega)) _ | refine Below.setCell ?_ (by first | omega | (simp <;> omega)) _ | refine Below.drew ?_))⟩
end Od
end Go.Proofs.YtmlogmcnblgnbaaGreat
end

section
/- The walk of matinsref15.May. (bel2) (short) -/
namespace Go.Proofs.YtmlogmcnblgnbaaGreat
open Go.RowKit
set_option linter.unusedSimpArgs false

namespace Od
theorem nodeCmp_lt {a b : Nd} : nodeCmp a b < 0 ↔ ltS a.1 b.1 = true := cmpS_lt
theorem mayG_n {ns : List Nd} {es : List Ed} {k : Nat} (hk : k < ns.length) (h : mayN ns[k] = false) : mayG ns es = false := by
 cases hm : mayG ns es
 ·rfl
 ·have := List.all_eq_true.1 (mayG_iff.1 hm).2.2.2.1 _ (List.getElem_mem hk); rw [h] at this; cases this
theorem mayG_nup {ns : List Nd} {es : List Ed} {k : Nat} (hk : k + 1 < ns.length) (h : ltS ns[k].1 ns[k + 1].1 = false) : mayG ns es = false := by
 cases hm : mayG ns es
 ·rfl
 ·have := nodeCmp_lt.1 ((risesB_iff _ _).1 (mayG_iff.1 hm).2.1 k hk); rw [h] at this; cases this
theorem mayG_e {ns : List Nd} {es : List Ed} {k : Nat} (hk : k < es.length) (h : edgeOk ns es[k] = false) : mayG ns es = false := by
 cases hm : mayG ns es
 ·rfl
 ·have := (mayG_iff.1 hm).2.2.2.2 _ (List.getElem_mem hk); rw [h] at this; cases this
theorem mayG_eup {ns : List Nd} {es : List Ed} {k : Nat} (hk : k + 1 < es.length) (h : ltE es[k] es[k + 1] = false) : mayG ns es = false := by
 cases hm : mayG ns es
 ·rfl
 ·have := List.pairwise_iff_getElem.1 (mayG_iff.1 hm).2.2.1 k (k + 1) (by omega) hk (by omega); rw [h] at this; cases this
def UpN (ns : List Nd) (k : Nat) : Prop := (∀ i (h : i < ns.length), i < k → mayN ns[i] = true) ∧ ∀ i (h : i + 1 < ns.length), i + 1 < k → ltS ns[i].1 ns[i + 1].1 = true
def UpE (ns : List Nd) (es : List Ed) (k : Nat) : Prop := (∀ i (h : i < es.length), i < k → edgeOk ns es[i] = true) ∧ ∀ i (h : i + 1 < es.length), i + 1 < k → ltE es[i] es[i + 1] = true
theorem UpN.step {ns : List Nd} {k : Nat} (h : UpN ns k) (hk : k < ns.length) (hj : mayN ns[k] = true) (hl : ∀ j (e : k = j + 1), ltS (ns[j]'(by omega)).1 ns[k].1 = true) : UpN ns (k + 1) := by
 refine ⟨fun i h1 h2 => ?_, fun i h1 h2 => ?_⟩
 ·by_cases hi : i < k
  ·exact h.1 i h1 hi
  ·obtain rfl : i = k := by omega
   exact hj
 ·by_cases hi : i + 1 < k
  ·exact h.2 i h1 hi
  ·obtain rfl : k = i + 1 := by omega
   exact hl i rfl
theorem UpE.step {ns : List Nd} {es : List Ed} {k : Nat} (h : UpE ns es k) (hk : k < es.length) (hj : edgeOk ns es[k] = true) (hl : ∀ j (e : k = j + 1), ltE (es[j]'(by omega)) es[k] = true) : UpE ns es (k + 1) := by
 refine ⟨fun i h1 h2 => ?_, fun i h1 h2 => ?_⟩
 ·by_cases hi : i < k
  ·exact h.1 i h1 hi
  ·obtain rfl : i = k := by omega
   exact hj
 ·by_cases hi : i + 1 < k
  ·exact h.2 i h1 hi
  ·obtain rfl : k = i + 1 := by omega
   exact hl i rfl
theorem mayG_end {ns : List Nd} {es : List Ed} (h64 : ns.length ≤ 64) (h1 : UpN ns ns.length) (h2 : UpE ns es es.length) : mayG ns es = true := by
 refine mayG_iff.2 ⟨h64, (risesB_iff _ _).2 fun i hi => nodeCmp_lt.2 (h1.2 i hi hi), risesE_iff.1 ((risesB_iff _ _).2 fun i hi => edgeCmp_lt.2 (h2.2 i hi hi)), List.all_eq_true.2 fun n hn => ?_, fun e he => ?_⟩
 ·obtain ⟨i, hi, rfl⟩ := List.mem_iff_getElem.1 hn
  exact h1.1 i hi hi
 ·obtain ⟨i, hi, rfl⟩ := List.mem_iff_getElem.1 he
  exact h2.1 i hi hi
set_option maxRecDepth 100000 in
set_option maxHeartbeats 32000000 in
theorem May15_any (An Ae : Option Addr) (cn ce : Nat) (ns : List Nd) (es : List Ed) (w : World) (hn : Rd w w.heap.size 3 An ns.length (ndsC ns)) (hr : Rd w w.heap.size 3 Ae es.length (edsC es)) (hl : es.length ≤ 1000000) (hok : OkNs ns) :
  Calls Tryz.prog 84 #[gV An ns.length cn Ae es.length ce] w fun e w' => e = .returned (.bool (mayG ns es)) ∧ Below w.heap.size w w' := by
 have Hn := Lib.hid hn
 have Hr := Lib.hid hr
 have HO := Lib.hid hok
 have hfd := field_kind
 clear hn hr hok
 by_cases h64 : (64 : Int) < (ns.length : Int)
 ·have d64 : decide ((64 : Int) < (ns.length : Int)) = true := by simpa using h64
  have Hm := Lib.hid (show mayG ns es = false by unfold mayG; rw [d64]; rfl)
  go_enter Tryz.func84, Tryz.ntmps84
  go_wp2_with fail
  go_ret
  exact ⟨ret_bool (by rw [Hm.out]), (by repeat (first | exact Below.refl _ _ | assumption | refine Below.alloc ?_ (by first | omega | (simp <;> omega)) _ | refine Below.setCell ?_ (by first | omega | (simp <;> omega)) _ | refine Below.drew ?_))⟩
 ·have d64 : decide ((64 : Int) < (ns.length : Int)) = false := by simpa using h64
  go_enter Tryz.func84, Tryz.ntmps84
  go_wp2_with fail
  first | (refine wp_named ?_; intro W1 hW) | (refine calls_named ?_; intro W1 hW)
  have B1 : Below w.heap.size w W1 := by rw [hW]; exact bq2
  replace Hr := Lib.hid (Hr.out.at B1)
  replace Hn := Lib.hid (Hn.out.at B1)
  have n1 : w.heap.size < W1.heap.size := by rw [hW]; simp <;> omega
  have c0 : W1.cell? ⟨w.heap.size, 0, none⟩ = some (.slice An ns.length cn) := by rw [hW]; go_simp
  have c1 : W1.cell? ⟨w.heap.size, 1, none⟩ = some (.slice Ae es.length ce) := by rw [hW]; go_simp
  clear hW
  have HB := Lib.hid B1
  clear B1
  go_wp2_with fail
  go_loopw [18] (fun i wr => ∃ k : Nat, k ≤ ns.length ∧ i = .int .i64 k ∧ Hid (UpN ns k) ∧ Below W1.heap.size W1 wr) (fun i _ => ns.length - (intOf i).toNat)
  case atStart => exact ⟨0, Nat.zero_le _, rfl, ⟨fun _ _ h => absurd h (by omega), fun _ _ h => absurd h (by omega)⟩, Below.refl _ _⟩
  case round =>
   obtain ⟨k, hk, rfl, hall, hb⟩ := hrel
   have HU := Lib.hid hall.out
   clear hall
   have Hb := Lib.hid hb
   replace c0 := cellAt c0 hb (by omega)
   replace c1 := cellAt c1 hb (by omega)
   replace Hr := Lib.hid (Hr.out.at hb)
   replace Hn := Lib.hid (Hn.out.at hb)
   replace n1 : w.heap.size < wr.heap.size := ltAt n1 hb
   replace HB := Lib.hid (lift HB.out hb)
   clear hb
   by_cases hlt : k < ns.length
   ·obtain ⟨b, o, rfl, hB, x0, x1, x2⟩ := Hn.out.node hlt
    have hlen := HO.out _ (List.getElem_mem hlt)
    generalize hx : ns[k] = x at x0 x1 x2 hlen
    obtain ⟨s, t, r⟩ := x
    have Hx := Lib.hid hx
    clear hx
    simp only at x0 x1 x2 hlen
    have k1 : (0 : Int) ≤ (k : Int) := by omega
    have k2 : (k : Int) < (ns.length : Int) := by omega
    by_cases hkt : kindS s = t
    ·have hkb : (kindS s != t) = false := by simp [hkt]
     by_cases ht0 : t = 0
     ·have htb : (t == 0) = true := by simpa using ht0
      have Hm := Lib.hid (mayG_n (es := es) hlt (by rw [Hx.out]; show (kindS s != 0 && ((t == kindS s) && (decide (1 ≤ r) && decide (r ≤ 4)))) = false; (simp [hkt, ht0])))
      go_wp2_with fail
      first | (refine wp_named ?_; intro W2 hW) | (refine calls_named ?_; intro W2 hW)
      have B2 : Below wr.heap.size wr W2 := by rw [hW]; exact bq2
      replace c0 := cellAt c0 B2 (by omega)
      replace c1 := cellAt c1 B2 (by omega)
      replace Hr := Lib.hid (Hr.out.at B2)
      replace Hn := Lib.hid (Hn.out.at B2)
      replace n1 : w.heap.size < W2.heap.size := ltAt n1 B2
      replace HB := Lib.hid (lift HB.out B2)
      replace Hb := Lib.hid (lift Hb.out B2)
      replace hB := ltAt hB B2
      have m1 : wr.heap.size < W2.heap.size := by rw [hW]; simp <;> omega
      have e0 : W2.cell? ⟨wr.heap.size, 0, none⟩ = some (sv s) := by rw [hW]; go_simp
      have e1 : W2.cell? ⟨wr.heap.size, 1, none⟩ = some (.int .i64 t) := by rw [hW]; go_simp
      have e2 : W2.cell? ⟨wr.heap.size, 2, none⟩ = some (.int .i64 r) := by rw [hW]; go_simp
      clear hW
      clear B2
      try go_wp2_with fail
      refine wp_region_held_drew (S := fun w' => Below W2.heap.size W2 w') (by kernel_rfl) (Below.drew (Below.refl _ _)) (fun hHeld => ?_)
      refine tV 0 ?_ ?zq ?_; (case zq => rintro _ -; go_simp; try with_reducible rfl); try simp only [Act.put, zn1, zn2, zn3]
      refine tV 1 ?_ ?zq ?_; (case zq => intro w' hSw; have hCell := fun (b o : Nat) (h : b < W2.heap.size) => hSw.cell (p := ⟨b, o, none⟩) h; clear hSw; go_simp; try with_reducible rfl); try simp only [Act.put, zn1, zn2, zn3]
      refine tV 4 ?_ ?zq ?_; (case zq => rintro _ -; go_simp; try with_reducible rfl); try simp only [Act.put, zn1, zn2, zn3]
      refine tV 5 ?_ ?zq ?_; (case zq => intro w' hSw; have hCell := fun (b o : Nat) (h : b < W2.heap.size) => hSw.cell (p := ⟨b, o, none⟩) h; clear hSw; go_simp; try with_reducible rfl); try simp only [Act.put, zn1, zn2, zn3]
      refine ready_one (i := 2) rfl (by kernel_rfl) (fun K hK => ?_)
      go_simp
      refine (OfK_any s _ hlen).mono ?_
      rintro e v3 ⟨zp, zi, za, rfl, hb⟩
      refine hK.out _ _ ?_ (fun hHeld2 => ?_)
      ·(try dsimp only); first | exact Below.trans hHeld (Below.mono hb hHeld.size) | exact hHeld | exact Below.drew hHeld | exact bq2
      clear hK K hHeld; have hHeld := hHeld2; clear hHeld2; (try simp only [Act.put, zn1, zn2, zn3])
      refine tV 3 ?_ ?zq ?_; (case zq => rintro _ -; go_simp; try with_reducible rfl); try simp only [Act.put, zn1, zn2, zn3]
      refine tV 6 ?_ ?zq ?_; (case zq => rintro _ -; go_simp; try with_reducible rfl); try simp only [Act.put, zn1, zn2, zn3]
      refine tV 7 ?_ ?zq ?_; (case zq => rintro _ -; go_simp; try with_reducible rfl); try simp only [Act.put, zn1, zn2, zn3]
      refine tV 8 ?_ ?zq ?_; (case zq => rintro _ -; go_simp; try with_reducible rfl); try simp only [Act.put, zn1, zn2, zn3]
      refine tV 9 ?_ ?zq ?_; (case zq => intro w' hSw; have hCell := fun (b o : Nat) (h : b < W2.heap.size) => hSw.cell (p := ⟨b, o, none⟩) h; clear hSw; go_simp; try with_reducible rfl); try simp only [Act.put, zn1, zn2, zn3]
      refine tV 10 ?_ ?zq ?_; (case zq => rintro _ -; go_simp; try with_reducible rfl); try simp only [Act.put, zn1, zn2, zn3]
      refine tV 11 ?_ ?zq ?_; (case zq => rintro _ -; go_simp; try with_reducible rfl); try simp only [Act.put, zn1, zn2, zn3]
      refine tV 12 ?_ ?zq ?_; (case zq => rintro _ -; go_simp; try with_reducible rfl); try simp only [Act.put, zn1, zn2, zn3]
      refine tU 13 ?_; (try simp only [Act.put, zn1, zn2, zn3])
      refine tU 14 ?_; (try simp only [Act.put, zn1, zn2, zn3])
      refine tU 15 ?_; (try simp only [Act.put, zn1, zn2, zn3])
      refine tV 16 ?_ ?zq ?_; (case zq => rintro _ -; go_simp; try with_reducible rfl); try simp only [Act.put, zn1, zn2, zn3]
      refine tV 17 ?_ ?zq ?_; (case zq => rintro _ -; go_simp; try with_reducible rfl); try simp only [Act.put, zn1, zn2, zn3]
      refine tU 18 ?_; (try simp only [Act.put, zn1, zn2, zn3])
      refine tU 19 ?_; (try simp only [Act.put, zn1, zn2, zn3])
      refine tU 20 ?_; (try simp only [Act.put, zn1, zn2, zn3])
      refine tV 21 ?_ ?zq ?_; (case zq => rintro _ -; go_simp; try with_reducible rfl); try simp only [Act.put, zn1, zn2, zn3]
      refine tV 22 ?_ ?zq ?_; (case zq => rintro _ -; go_simp; try with_reducible rfl); try simp only [Act.put, zn1, zn2, zn3]
      refine tU 23 ?_; (try simp only [Act.put, zn1, zn2, zn3])
      refine tU 24 ?_; (try simp only [Act.put, zn1, zn2, zn3])
      refine tU 25 ?_; (try simp only [Act.put, zn1, zn2, zn3])
      refine tU 26 ?_; (try simp only [Act.put, zn1, zn2, zn3])
      refine tU 27 ?_; (try simp only [Act.put, zn1, zn2, zn3])
      refine tU 28 ?_; (try simp only [Act.put, zn1, zn2, zn3])
      refine tU 29 ?_; (try simp only [Act.put, zn1, zn2, zn3])
      refine tU 30 ?_; (try simp only [Act.put, zn1, zn2, zn3])
      refine tU 31 ?_; (try simp only [Act.put, zn1, zn2, zn3])
      refine tU 32 ?_; (try simp only [Act.put, zn1, zn2, zn3])
      refine tU 33 ?_; (try simp only [Act.put, zn1, zn2, zn3])
      refine tU 34 ?_; (try simp only [Act.put, zn1, zn2, zn3])
      refine tU 35 ?_; (try simp only [Act.put, zn1, zn2, zn3])
      refine tU 36 ?_; (try simp only [Act.put, zn1, zn2, zn3])
      refine tV 37 ?_ ?zq ?_; (case zq => rintro _ -; go_simp; try with_reducible rfl); try simp only [Act.put, zn1, zn2, zn3]
      refine wpAnyH_done (by kernel_rfl) ?_ _
      go_wp2_with fail
      go_ret
      exact ⟨ret_bool (by rw [Hm.out]), lift HB.out hHeld⟩
     ·have htb : (t == 0) = false := by simpa using ht0
      by_cases r1 : r < 1
      ·have rb1 : decide (r < 1) = true := by rw [decide_eq_true_eq]; exact r1
       have Hm := Lib.hid (mayG_n (es := es) hlt (by rw [Hx.out]; show (kindS s != 0 && ((t == kindS s) && (decide (1 ≤ r) && decide (r ≤ 4)))) = false; (simp; omega)))
       go_wp2_with fail
       first | (refine wp_named ?_; intro W2 hW) | (refine calls_named ?_; intro W2 hW)
       have B2 : Below wr.heap.size wr W2 := by rw [hW]; exact bq2
       replace c0 := cellAt c0 B2 (by omega)
       replace c1 := cellAt c1 B2 (by omega)
       replace Hr := Lib.hid (Hr.out.at B2)
       replace Hn := Lib.hid (Hn.out.at B2)
       replace n1 : w.heap.size < W2.heap.size := ltAt n1 B2
       replace HB := Lib.hid (lift HB.out B2)
       replace Hb := Lib.hid (lift Hb.out B2)
       replace hB := ltAt hB B2
       have m1 : wr.heap.size < W2.heap.size := by rw [hW]; simp <;> omega
       have e0 : W2.cell? ⟨wr.heap.size, 0, none⟩ = some (sv s) := by rw [hW]; go_simp
       have e1 : W2.cell? ⟨wr.heap.size, 1, none⟩ = some (.int .i64 t) := by rw [hW]; go_simp
       have e2 : W2.cell? ⟨wr.heap.size, 2, none⟩ = some (.int .i64 r) := by rw [hW]; go_simp
       clear hW
       clear B2
       try go_wp2_with fail
       refine wp_region_held_drew (S := fun w' => Below W2.heap.size W2 w') (by kernel_rfl) (Below.drew (Below.refl _ _)) (fun hHeld => ?_)
       refine tV 0 ?_ ?zq ?_; (case zq => rintro _ -; go_simp; try with_reducible rfl); try simp only [Act.put, zn1, zn2, zn3]
       refine tV 1 ?_ ?zq ?_; (case zq => intro w' hSw; have hCell := fun (b o : Nat) (h : b < W2.heap.size) => hSw.cell (p := ⟨b, o, none⟩) h; clear hSw; go_simp; try with_reducible rfl); try simp only [Act.put, zn1, zn2, zn3]
       refine tV 4 ?_ ?zq ?_; (case zq => rintro _ -; go_simp; try with_reducible rfl); try simp only [Act.put, zn1, zn2, zn3]
       refine tV 5 ?_ ?zq ?_; (case zq => intro w' hSw; have hCell := fun (b o : Nat) (h : b < W2.heap.size) => hSw.cell (p := ⟨b, o, none⟩) h; clear hSw; go_simp; try with_reducible rfl); try simp only [Act.put, zn1, zn2, zn3]
       refine ready_one (i := 2) rfl (by kernel_rfl) (fun K hK => ?_)
       go_simp
       refine (OfK_any s _ hlen).mono ?_
       rintro e v3 ⟨zp, zi, za, rfl, hb⟩
       refine hK.out _ _ ?_ (fun hHeld2 => ?_)
       ·(try dsimp only); first | exact Below.trans hHeld (Below.mono hb hHeld.size) | exact hHeld | exact Below.drew hHeld | exact bq2
       clear hK K hHeld; have hHeld := hHeld2; clear hHeld2; (try simp only [Act.put, zn1, zn2, zn3])
       refine tV 3 ?_ ?zq ?_; (case zq => rintro _ -; go_simp; try with_reducible rfl); try simp only [Act.put, zn1, zn2, zn3]
       refine tV 6 ?_ ?zq ?_; (case zq => rintro _ -; go_simp; try with_reducible rfl); try simp only [Act.put, zn1, zn2, zn3]
       refine tV 7 ?_ ?zq ?_; (case zq => rintro _ -; go_simp; try with_reducible rfl); try simp only [Act.put, zn1, zn2, zn3]
       refine tV 8 ?_ ?zq ?_; (case zq => rintro _ -; go_simp; try with_reducible rfl); try simp only [Act.put, zn1, zn2, zn3]
       refine tV 9 ?_ ?zq ?_; (case zq => intro w' hSw; have hCell := fun (b o : Nat) (h : b < W2.heap.size) => hSw.cell (p := ⟨b, o, none⟩) h; clear hSw; go_simp; try with_reducible rfl); try simp only [Act.put, zn1, zn2, zn3]
       refine tV 10 ?_ ?zq ?_; (case zq => rintro _ -; go_simp; try with_reducible rfl); try simp only [Act.put, zn1, zn2, zn3]
       refine tV 11 ?_ ?zq ?_; (case zq => rintro _ -; go_simp; try with_reducible rfl); try simp only [Act.put, zn1, zn2, zn3]
       refine tV 12 ?_ ?zq ?_; (case zq => rintro _ -; go_simp; try with_reducible rfl); try simp only [Act.put, zn1, zn2, zn3]
       refine tV 13 ?_ ?zq ?_; (case zq => rintro _ -; go_simp; try with_reducible rfl); try simp only [Act.put, zn1, zn2, zn3]
       refine tV 14 ?_ ?zq ?_; (case zq => intro w' hSw; have hCell := fun (b o : Nat) (h : b < W2.heap.size) => hSw.cell (p := ⟨b, o, none⟩) h; clear hSw; go_simp; try with_reducible rfl); try simp only [Act.put, zn1, zn2, zn3]
       refine tV 15 ?_ ?zq ?_; (case zq => rintro _ -; go_simp; try with_reducible rfl); try simp only [Act.put, zn1, zn2, zn3]
       refine tV 16 ?_ ?zq ?_; (case zq => rintro _ -; go_simp; try with_reducible rfl); try simp only [Act.put, zn1, zn2, zn3]
       refine tV 17 ?_ ?zq ?_; (case zq => rintro _ -; go_simp; try with_reducible rfl); try simp only [Act.put, zn1, zn2, zn3]
       refine tU 18 ?_; (try simp only [Act.put, zn1, zn2, zn3])
       refine tU 19 ?_; (try simp only [Act.put, zn1, zn2, zn3])
       refine tU 20 ?_; (try simp only [Act.put, zn1, zn2, zn3])
       refine tV 21 ?_ ?zq ?_; (case zq => rintro _ -; go_simp; try with_reducible rfl); try simp only [Act.put, zn1, zn2, zn3]
       refine tV 22 ?_ ?zq ?_; (case zq => rintro _ -; go_simp; try with_reducible rfl); try simp only [Act.put, zn1, zn2, zn3]
       refine tU 23 ?_; (try simp only [Act.put, zn1, zn2, zn3])
       refine tU 24 ?_; (try simp only [Act.put, zn1, zn2, zn3])
       refine tU 25 ?_; (try simp only [Act.put, zn1, zn2, zn3])
       refine tU 26 ?_; (try simp only [Act.put, zn1, zn2, zn3])
       refine tU 27 ?_; (try simp only [Act.put, zn1, zn2, zn3])
       refine tU 28 ?_; (try simp only [Act.put, zn1, zn2, zn3])
       refine tU 29 ?_; (try simp only [Act.put, zn1, zn2, zn3])
       refine tU 30 ?_; (try simp only [Act.put, zn1, zn2, zn3])
       refine tU 31 ?_; (try simp only [Act.put, zn1, zn2, zn3])
       refine tU 32 ?_; (try simp only [Act.put, zn1, zn2, zn3])
       refine tU 33 ?_; (try simp only [Act.put, zn1, zn2, zn3])
       refine tU 34 ?_; (try simp only [Act.put, zn1, zn2, zn3])
       refine tU 35 ?_; (try simp only [Act.put, zn1, zn2, zn3])
       refine tU 36 ?_; (try simp only [Act.put, zn1, zn2, zn3])
       refine tV 37 ?_ ?zq ?_; (case zq => rintro _ -; go_simp; try with_reducible rfl); try simp only [Act.put, zn1, zn2, zn3]
       refine wpAnyH_done (by kernel_rfl) ?_ _
       go_wp2_with fail
       go_ret
       exact ⟨ret_bool (by rw [Hm.out]), lift HB.out hHeld⟩
      ·have rb1 : decide (r < 1) = false := by rw [decide_eq_false_iff_not]; exact r1
       by_cases r4 : 4 < r
       ·have rb4 : decide (4 < r) = true := by rw [decide_eq_true_eq]; exact r4
        have Hm := Lib.hid (mayG_n (es := es) hlt (by rw [Hx.out]; show (kindS s != 0 && ((t == kindS s) && (decide (1 ≤ r) && decide (r ≤ 4)))) = false; (simp; omega)))
        go_wp2_with fail
        first | (refine wp_named ?_; intro W2 hW) | (refine calls_named ?_; intro W2 hW)
        have B2 : Below wr.heap.size wr W2 := by rw [hW]; exact bq2
        replace c0 := cellAt c0 B2 (by omega)
        replace c1 := cellAt c1 B2 (by omega)
        replace Hr := Lib.hid (Hr.out.at B2)
        replace Hn := Lib.hid (Hn.out.at B2)
        replace n1 : w.heap.size < W2.heap.size := ltAt n1 B2
        replace HB := Lib.hid (lift HB.out B2)
        replace Hb := Lib.hid (lift Hb.out B2)
        replace hB := ltAt hB B2
        have m1 : wr.heap.size < W2.heap.size := by rw [hW]; simp <;> omega
        have e0 : W2.cell? ⟨wr.heap.size, 0, none⟩ = some (sv s) := by rw [hW]; go_simp
        have e1 : W2.cell? ⟨wr.heap.size, 1, none⟩ = some (.int .i64 t) := by rw [hW]; go_simp
        have e2 : W2.cell? ⟨wr.heap.size, 2, none⟩ = some (.int .i64 r) := by rw [hW]; go_simp
        clear hW
        clear B2
        try go_wp2_with fail
        refine wp_region_held_drew (S := fun w' => Below W2.heap.size W2 w') (by kernel_rfl) (Below.drew (Below.refl _ _)) (fun hHeld => ?_)
        refine tV 0 ?_ ?zq ?_; (case zq => rintro _ -; go_simp; try with_reducible rfl); try simp only [Act.put, zn1, zn2, zn3]
        refine tV 1 ?_ ?zq ?_; (case zq => intro w' hSw; have hCell := fun (b o : Nat) (h : b < W2.heap.size) => hSw.cell (p := ⟨b, o, none⟩) h; clear hSw; go_simp; try with_reducible rfl); try simp only [Act.put, zn1, zn2, zn3]
        refine tV 4 ?_ ?zq ?_; (case zq => rintro _ -; go_simp; try with_reducible rfl); try simp only [Act.put, zn1, zn2, zn3]
        refine tV 5 ?_ ?zq ?_; (case zq => intro w' hSw; have hCell := fun (b o : Nat) (h : b < W2.heap.size) => hSw.cell (p := ⟨b, o, none⟩) h; clear hSw; go_simp; try with_reducible rfl); try simp only [Act.put, zn1, zn2, zn3]
        refine ready_one (i := 2) rfl (by kernel_rfl) (fun K hK => ?_)
        go_simp
        refine (OfK_any s _ hlen).mono ?_
        rintro e v3 ⟨zp, zi, za, rfl, hb⟩
        refine hK.out _ _ ?_ (fun hHeld2 => ?_)
        ·(try dsimp only); first | exact Below.trans hHeld (Below.mono hb hHeld.size) | exact hHeld | exact Below.drew hHeld | exact bq2
        clear hK K hHeld; have hHeld := hHeld2; clear hHeld2; (try simp only [Act.put, zn1, zn2, zn3])
        refine tV 3 ?_ ?zq ?_; (case zq => rintro _ -; go_simp; try with_reducible rfl); try simp only [Act.put, zn1, zn2, zn3]
        refine tV 6 ?_ ?zq ?_; (case zq => rintro _ -; go_simp; try with_reducible rfl); try simp only [Act.put, zn1, zn2, zn3]
        refine tV 7 ?_ ?zq ?_; (case zq => rintro _ -; go_simp; try with_reducible rfl); try simp only [Act.put, zn1, zn2, zn3]
        refine tV 8 ?_ ?zq ?_; (case zq => rintro _ -; go_simp; try with_reducible rfl); try simp only [Act.put, zn1, zn2, zn3]
        refine tV 9 ?_ ?zq ?_; (case zq => intro w' hSw; have hCell := fun (b o : Nat) (h : b < W2.heap.size) => hSw.cell (p := ⟨b, o, none⟩) h; clear hSw; go_simp; try with_reducible rfl); try simp only [Act.put, zn1, zn2, zn3]
        refine tV 10 ?_ ?zq ?_; (case zq => rintro _ -; go_simp; try with_reducible rfl); try simp only [Act.put, zn1, zn2, zn3]
        refine tV 11 ?_ ?zq ?_; (case zq => rintro _ -; go_simp; try with_reducible rfl); try simp only [Act.put, zn1, zn2, zn3]
        refine tV 12 ?_ ?zq ?_; (case zq => rintro _ -; go_simp; try with_reducible rfl); try simp only [Act.put, zn1, zn2, zn3]
        refine tV 13 ?_ ?zq ?_; (case zq => rintro _ -; go_simp; try with_reducible rfl); try simp only [Act.put, zn1, zn2, zn3]
        refine tV 14 ?_ ?zq ?_; (case zq => intro w' hSw; have hCell := fun (b o : Nat) (h : b < W2.heap.size) => hSw.cell (p := ⟨b, o, none⟩) h; clear hSw; go_simp; try with_reducible rfl); try simp only [Act.put, zn1, zn2, zn3]
        refine tV 15 ?_ ?zq ?_; (case zq => rintro _ -; go_simp; try with_reducible rfl); try simp only [Act.put, zn1, zn2, zn3]
        refine tV 16 ?_ ?zq ?_; (case zq => rintro _ -; go_simp; try with_reducible rfl); try simp only [Act.put, zn1, zn2, zn3]
        refine tV 17 ?_ ?zq ?_; (case zq => rintro _ -; go_simp; try with_reducible rfl); try simp only [Act.put, zn1, zn2, zn3]
        refine tV 18 ?_ ?zq ?_; (case zq => rintro _ -; go_simp; try with_reducible rfl); try simp only [Act.put, zn1, zn2, zn3]
        refine tV 19 ?_ ?zq ?_; (case zq => intro w' hSw; have hCell := fun (b o : Nat) (h : b < W2.heap.size) => hSw.cell (p := ⟨b, o, none⟩) h; clear hSw; go_simp; try with_reducible rfl); try simp only [Act.put, zn1, zn2, zn3]
        refine tV 20 ?_ ?zq ?_; (case zq => rintro _ -; go_simp; try with_reducible rfl); try simp only [Act.put, zn1, zn2, zn3]
        refine tV 21 ?_ ?zq ?_; (case zq => rintro _ -; go_simp; try with_reducible rfl); try simp only [Act.put, zn1, zn2, zn3]
        refine tV 22 ?_ ?zq ?_; (case zq => rintro _ -; go_simp; try with_reducible rfl); try simp only [Act.put, zn1, zn2, zn3]
        refine tU 23 ?_; (try simp only [Act.put, zn1, zn2, zn3])
        refine tU 24 ?_; (try simp only [Act.put, zn1, zn2, zn3])
        refine tU 25 ?_; (try simp only [Act.put, zn1, zn2, zn3])
        refine tU 26 ?_; (try simp only [Act.put, zn1, zn2, zn3])
        refine tU 27 ?_; (try simp only [Act.put, zn1, zn2, zn3])
        refine tU 28 ?_; (try simp only [Act.put, zn1, zn2, zn3])
        refine tU 29 ?_; (try simp only [Act.put, zn1, zn2, zn3])
        refine tU 30 ?_; (try simp only [Act.put, zn1, zn2, zn3])
        refine tU 31 ?_; (try simp only [Act.put, zn1, zn2, zn3])
        refine tU 32 ?_; (try simp only [Act.put, zn1, zn2, zn3])
        refine tU 33 ?_; (try simp only [Act.put, zn1, zn2, zn3])
        refine tU 34 ?_; (try simp only [Act.put, zn1, zn2, zn3])
        refine tU 35 ?_; (try simp only [Act.put, zn1, zn2, zn3])
        refine tU 36 ?_; (try simp only [Act.put, zn1, zn2, zn3])
        refine tV 37 ?_ ?zq ?_; (case zq => rintro _ -; go_simp; try with_reducible rfl); try simp only [Act.put, zn1, zn2, zn3]
        refine wpAnyH_done (by kernel_rfl) ?_ _
        go_wp2_with fail
        go_ret
        exact ⟨ret_bool (by rw [Hm.out]), lift HB.out hHeld⟩
       ·have rb4 : decide (4 < r) = false := by rw [decide_eq_false_iff_not]; exact r4
        have hgood : mayN (s, t, r) = true := by
         show (kindS s != 0 && ((t == kindS s) && (decide (1 ≤ r) && decide (r ≤ 4)))) = true
         simp [hkt, ht0]; omega
        have HGd := Lib.hid hgood
        clear hgood
        by_cases hk0 : k = 0
        ·have k3 : decide (0 < k) = false := by rw [decide_eq_false_iff_not]; omega
         have HK0 := Lib.hid hk0
         clear hk0
         go_wp2_with fail
         first | (refine wp_named ?_; intro W2 hW) | (refine calls_named ?_; intro W2 hW)
         have B2 : Below wr.heap.size wr W2 := by rw [hW]; exact bq2
         replace c0 := cellAt c0 B2 (by omega)
         replace c1 := cellAt c1 B2 (by omega)
         replace Hr := Lib.hid (Hr.out.at B2)
         replace Hn := Lib.hid (Hn.out.at B2)
         replace n1 : w.heap.size < W2.heap.size := ltAt n1 B2
         replace HB := Lib.hid (lift HB.out B2)
         replace Hb := Lib.hid (lift Hb.out B2)
         replace hB := ltAt hB B2
         have m1 : wr.heap.size < W2.heap.size := by rw [hW]; simp <;> omega
         have e0 : W2.cell? ⟨wr.heap.size, 0, none⟩ = some (sv s) := by rw [hW]; go_simp
         have e1 : W2.cell? ⟨wr.heap.size, 1, none⟩ = some (.int .i64 t) := by rw [hW]; go_simp
         have e2 : W2.cell? ⟨wr.heap.size, 2, none⟩ = some (.int .i64 r) := by rw [hW]; go_simp
         clear hW
         clear B2
         try go_wp2_with fail
         refine wp_region_held_drew (S := fun w' => Below W2.heap.size W2 w') (by kernel_rfl) (Below.drew (Below.refl _ _)) (fun hHeld => ?_)
         refine tV 0 ?_ ?zq ?_; (case zq => rintro _ -; go_simp; try with_reducible rfl); try simp only [Act.put, zn1, zn2, zn3]
         refine tV 1 ?_ ?zq ?_; (case zq => intro w' hSw; have hCell := fun (b o : Nat) (h : b < W2.heap.size) => hSw.cell (p := ⟨b, o, none⟩) h; clear hSw; go_simp; try with_reducible rfl); try simp only [Act.put, zn1, zn2, zn3]
         refine tV 4 ?_ ?zq ?_; (case zq => rintro _ -; go_simp; try with_reducible rfl); try simp only [Act.put, zn1, zn2, zn3]
         refine tV 5 ?_ ?zq ?_; (case zq => intro w' hSw; have hCell := fun (b o : Nat) (h : b < W2.heap.size) => hSw.cell (p := ⟨b, o, none⟩) h; clear hSw; go_simp; try with_reducible rfl); try simp only [Act.put, zn1, zn2, zn3]
         refine ready_one (i := 2) rfl (by kernel_rfl) (fun K hK => ?_)
         go_simp
         refine (OfK_any s _ hlen).mono ?_
         rintro e v3 ⟨zp, zi, za, rfl, hb⟩
         refine hK.out _ _ ?_ (fun hHeld2 => ?_)
         ·(try dsimp only); first | exact Below.trans hHeld (Below.mono hb hHeld.size) | exact hHeld | exact Below.drew hHeld | exact bq2
         clear hK K hHeld; have hHeld := hHeld2; clear hHeld2; (try simp only [Act.put, zn1, zn2, zn3])
         refine tV 3 ?_ ?zq ?_; (case zq => rintro _ -; go_simp; try with_reducible rfl); try simp only [Act.put, zn1, zn2, zn3]
         refine tV 6 ?_ ?zq ?_; (case zq => rintro _ -; go_simp; try with_reducible rfl); try simp only [Act.put, zn1, zn2, zn3]
         refine tV 7 ?_ ?zq ?_; (case zq => rintro _ -; go_simp; try with_reducible rfl); try simp only [Act.put, zn1, zn2, zn3]
         refine tV 8 ?_ ?zq ?_; (case zq => rintro _ -; go_simp; try with_reducible rfl); try simp only [Act.put, zn1, zn2, zn3]
         refine tV 9 ?_ ?zq ?_; (case zq => intro w' hSw; have hCell := fun (b o : Nat) (h : b < W2.heap.size) => hSw.cell (p := ⟨b, o, none⟩) h; clear hSw; go_simp; try with_reducible rfl); try simp only [Act.put, zn1, zn2, zn3]
         refine tV 10 ?_ ?zq ?_; (case zq => rintro _ -; go_simp; try with_reducible rfl); try simp only [Act.put, zn1, zn2, zn3]
         refine tV 11 ?_ ?zq ?_; (case zq => rintro _ -; go_simp; try with_reducible rfl); try simp only [Act.put, zn1, zn2, zn3]
         refine tV 12 ?_ ?zq ?_; (case zq => rintro _ -; go_simp; try with_reducible rfl); try simp only [Act.put, zn1, zn2, zn3]
         refine tV 13 ?_ ?zq ?_; (case zq => rintro _ -; go_simp; try with_reducible rfl); try simp only [Act.put, zn1, zn2, zn3]
         refine tV 14 ?_ ?zq ?_; (case zq => intro w' hSw; have hCell := fun (b o : Nat) (h : b < W2.heap.size) => hSw.cell (p := ⟨b, o, none⟩) h; clear hSw; go_simp; try with_reducible rfl); try simp only [Act.put, zn1, zn2, zn3]
         refine tV 15 ?_ ?zq ?_; (case zq => rintro _ -; go_simp; try with_reducible rfl); try simp only [Act.put, zn1, zn2, zn3]
         refine tV 16 ?_ ?zq ?_; (case zq => rintro _ -; go_simp; try with_reducible rfl); try simp only [Act.put, zn1, zn2, zn3]
         refine tV 17 ?_ ?zq ?_; (case zq => rintro _ -; go_simp; try with_reducible rfl); try simp only [Act.put, zn1, zn2, zn3]
         refine tV 18 ?_ ?zq ?_; (case zq => rintro _ -; go_simp; try with_reducible rfl); try simp only [Act.put, zn1, zn2, zn3]
         refine tV 19 ?_ ?zq ?_; (case zq => intro w' hSw; have hCell := fun (b o : Nat) (h : b < W2.heap.size) => hSw.cell (p := ⟨b, o, none⟩) h; clear hSw; go_simp; try with_reducible rfl); try simp only [Act.put, zn1, zn2, zn3]
         refine tV 20 ?_ ?zq ?_; (case zq => rintro _ -; go_simp; try with_reducible rfl); try simp only [Act.put, zn1, zn2, zn3]
         refine tV 21 ?_ ?zq ?_; (case zq => rintro _ -; go_simp; try with_reducible rfl); try simp only [Act.put, zn1, zn2, zn3]
         refine tV 22 ?_ ?zq ?_; (case zq => rintro _ -; go_simp; try with_reducible rfl); try simp only [Act.put, zn1, zn2, zn3]
         refine tV 23 ?_ ?zq ?_; (case zq => rintro _ -; go_simp; try with_reducible rfl); try simp only [Act.put, zn1, zn2, zn3]
         refine tV 24 ?_ ?zq ?_; (case zq => rintro _ -; go_simp; try with_reducible rfl); try simp only [Act.put, zn1, zn2, zn3]
         refine tV 25 ?_ ?zq ?_; (case zq => rintro _ -; go_simp; try with_reducible rfl); try simp only [Act.put, zn1, zn2, zn3]
         refine tU 26 ?_; (try simp only [Act.put, zn1, zn2, zn3])
         refine tU 27 ?_; (try simp only [Act.put, zn1, zn2, zn3])
         refine tU 28 ?_; (try simp only [Act.put, zn1, zn2, zn3])
         refine tU 29 ?_; (try simp only [Act.put, zn1, zn2, zn3])
         refine tU 30 ?_; (try simp only [Act.put, zn1, zn2, zn3])
         refine tU 31 ?_; (try simp only [Act.put, zn1, zn2, zn3])
         refine tU 32 ?_; (try simp only [Act.put, zn1, zn2, zn3])
         refine tU 33 ?_; (try simp only [Act.put, zn1, zn2, zn3])
         refine tU 34 ?_; (try simp only [Act.put, zn1, zn2, zn3])
         refine tU 35 ?_; (try simp only [Act.put, zn1, zn2, zn3])
         refine tV 36 ?_ ?zq ?_; (case zq => rintro _ -; go_simp; try with_reducible rfl); try simp only [Act.put, zn1, zn2, zn3]
         refine tV 37 ?_ ?zq ?_; (case zq => rintro _ -; go_simp; try with_reducible rfl); try simp only [Act.put, zn1, zn2, zn3]
         refine wpAnyH_done (by kernel_rfl) ?_ _
         replace c0 := cellAt c0 hHeld (by omega)
         replace c1 := cellAt c1 hHeld (by omega)
         replace e0 := cellAt e0 hHeld (by omega)
         replace e1 := cellAt e1 hHeld (by omega)
         replace e2 := cellAt e2 hHeld (by omega)
         replace Hr := Lib.hid (Hr.out.at hHeld)
         replace Hn := Lib.hid (Hn.out.at hHeld)
         replace n1 : w.heap.size < v3.heap.size := ltAt n1 hHeld
         replace HB := Lib.hid (lift HB.out hHeld)
         replace Hb := Lib.hid (lift Hb.out hHeld)
         replace hB := ltAt hB hHeld
         replace m1 : wr.heap.size < v3.heap.size := ltAt m1 hHeld
         clear hHeld
         go_wp2_with fail
         go_roundw
         case rel => exact ⟨k + 1, by omega, by go_num, HU.out.step hlt (by rw [Hx.out]; exact HGd.out) (fun j e => absurd (HK0.out.symm.trans e) (by simp)), Hb.out⟩
         case measure => simp [intOf]; omega
        ·obtain ⟨j, rfl⟩ : ∃ j, k = j + 1 := ⟨k - 1, by omega⟩
         obtain ⟨b', o', he, _, y0, y1, y2⟩ := Hn.out.node (i := j) (by omega)
         injection he with he
         injection he with he1 he2
         subst he1 he2
         clear y1 y2
         generalize hy : ns[j] = y at y0
         obtain ⟨s', t', r'⟩ := y
         have Hy := Lib.hid hy
         clear hy
         simp only at y0
         have k3 : (j : Int) < (ns.length : Int) := by omega
         have k4 : IntKind.i64.wrap (j : Int) = j := IntWalk.i64_in _ (by omega)
         have k5 : IntKind.i64.wrap ((j : Int) + 1) = (j : Int) + 1 := IntWalk.i64_in _ (by omega)
         have k6 : ((j : Int) + 1).toNat = j + 1 := by omega
         have k7 : (0 : Int) ≤ (j : Int) + 1 := by omega
         have k8 : IntKind.i64.wrap ((j : Int) + 1 - 1) = j := by rw [show (j : Int) + 1 - 1 = j from by omega]; exact k4
         have k9 : decide ((0 : Int) < (j : Int) + 1) = true := by rw [decide_eq_true_eq]; omega
         have k10 : (0 : Int) ≤ (j : Int) := by omega
         cases h1 : Op.bytesLess s' s
         ·have Hm := Lib.hid (mayG_nup (es := es) (k := j) hlt (by rw [Hx.out, Hy.out]; exact h1))
          go_wp2_with fail
          first | (refine wp_named ?_; intro W2 hW) | (refine calls_named ?_; intro W2 hW)
          have B2 : Below wr.heap.size wr W2 := by rw [hW]; exact bq2
          replace c0 := cellAt c0 B2 (by omega)
          replace c1 := cellAt c1 B2 (by omega)
          replace y0 := cellAt y0 B2 (by omega)
          replace Hr := Lib.hid (Hr.out.at B2)
          replace Hn := Lib.hid (Hn.out.at B2)
          replace n1 : w.heap.size < W2.heap.size := ltAt n1 B2
          replace HB := Lib.hid (lift HB.out B2)
          replace Hb := Lib.hid (lift Hb.out B2)
          replace hB := ltAt hB B2
          have m1 : wr.heap.size < W2.heap.size := by rw [hW]; simp <;> omega
          have e0 : W2.cell? ⟨wr.heap.size, 0, none⟩ = some (sv s) := by rw [hW]; go_simp
          have e1 : W2.cell? ⟨wr.heap.size, 1, none⟩ = some (.int .i64 t) := by rw [hW]; go_simp
          have e2 : W2.cell? ⟨wr.heap.size, 2, none⟩ = some (.int .i64 r) := by rw [hW]; go_simp
          clear hW
          clear B2
          try go_wp2_with fail
          refine wp_region_held_drew (S := fun w' => Below W2.heap.size W2 w') (by kernel_rfl) (Below.drew (Below.refl _ _)) (fun hHeld => ?_)
          refine tV 0 ?_ ?zq ?_; (case zq => rintro _ -; go_simp; try with_reducible rfl); try simp only [Act.put, zn1, zn2, zn3]
          refine tV 1 ?_ ?zq ?_; (case zq => intro w' hSw; have hCell := fun (b o : Nat) (h : b < W2.heap.size) => hSw.cell (p := ⟨b, o, none⟩) h; clear hSw; go_simp; try with_reducible rfl); try simp only [Act.put, zn1, zn2, zn3]
          refine tV 4 ?_ ?zq ?_; (case zq => rintro _ -; go_simp; try with_reducible rfl); try simp only [Act.put, zn1, zn2, zn3]
          refine tV 5 ?_ ?zq ?_; (case zq => intro w' hSw; have hCell := fun (b o : Nat) (h : b < W2.heap.size) => hSw.cell (p := ⟨b, o, none⟩) h; clear hSw; go_simp; try with_reducible rfl); try simp only [Act.put, zn1, zn2, zn3]
          refine ready_one (i := 2) rfl (by kernel_rfl) (fun K hK => ?_)
          go_simp
          refine (OfK_any s _ hlen).mono ?_
          rintro e v3 ⟨zp, zi, za, rfl, hb⟩
          refine hK.out _ _ ?_ (fun hHeld2 => ?_)
          ·(try dsimp only); first | exact Below.trans hHeld (Below.mono hb hHeld.size) | exact hHeld | exact Below.drew hHeld | exact bq2
          clear hK K hHeld; have hHeld := hHeld2; clear hHeld2; (try simp only [Act.put, zn1, zn2, zn3])
          refine tV 3 ?_ ?zq ?_; (case zq => rintro _ -; go_simp; try with_reducible rfl); try simp only [Act.put, zn1, zn2, zn3]
          refine tV 6 ?_ ?zq ?_; (case zq => rintro _ -; go_simp; try with_reducible rfl); try simp only [Act.put, zn1, zn2, zn3]
          refine tV 7 ?_ ?zq ?_; (case zq => rintro _ -; go_simp; try with_reducible rfl); try simp only [Act.put, zn1, zn2, zn3]
          refine tV 8 ?_ ?zq ?_; (case zq => rintro _ -; go_simp; try with_reducible rfl); try simp only [Act.put, zn1, zn2, zn3]
          refine tV 9 ?_ ?zq ?_; (case zq => intro w' hSw; have hCell := fun (b o : Nat) (h : b < W2.heap.size) => hSw.cell (p := ⟨b, o, none⟩) h; clear hSw; go_simp; try with_reducible rfl); try simp only [Act.put, zn1, zn2, zn3]
          refine tV 10 ?_ ?zq ?_; (case zq => rintro _ -; go_simp; try with_reducible rfl); try simp only [Act.put, zn1, zn2, zn3]
          refine tV 11 ?_ ?zq ?_; (case zq => rintro _ -; go_simp; try with_reducible rfl); try simp only [Act.put, zn1, zn2, zn3]
          refine tV 12 ?_ ?zq ?_; (case zq => rintro _ -; go_simp; try with_reducible rfl); try simp only [Act.put, zn1, zn2, zn3]
          refine tV 13 ?_ ?zq ?_; (case zq => rintro _ -; go_simp; try with_reducible rfl); try simp only [Act.put, zn1, zn2, zn3]
          refine tV 14 ?_ ?zq ?_; (case zq => intro w' hSw; have hCell := fun (b o : Nat) (h : b < W2.heap.size) => hSw.cell (p := ⟨b, o, none⟩) h; clear hSw; go_simp; try with_reducible rfl); try simp only [Act.put, zn1, zn2, zn3]
          refine tV 15 ?_ ?zq ?_; (case zq => rintro _ -; go_simp; try with_reducible rfl); try simp only [Act.put, zn1, zn2, zn3]
          refine tV 16 ?_ ?zq ?_; (case zq => rintro _ -; go_simp; try with_reducible rfl); try simp only [Act.put, zn1, zn2, zn3]
          refine tV 17 ?_ ?zq ?_; (case zq => rintro _ -; go_simp; try with_reducible rfl); try simp only [Act.put, zn1, zn2, zn3]
          refine tV 18 ?_ ?zq ?_; (case zq => rintro _ -; go_simp; try with_reducible rfl); try simp only [Act.put, zn1, zn2, zn3]
          refine tV 19 ?_ ?zq ?_; (case zq => intro w' hSw; have hCell := fun (b o : Nat) (h : b < W2.heap.size) => hSw.cell (p := ⟨b, o, none⟩) h; clear hSw; go_simp; try with_reducible rfl); try simp only [Act.put, zn1, zn2, zn3]
          refine tV 20 ?_ ?zq ?_; (case zq => rintro _ -; go_simp; try with_reducible rfl); try simp only [Act.put, zn1, zn2, zn3]
          refine tV 21 ?_ ?zq ?_; (case zq => rintro _ -; go_simp; try with_reducible rfl); try simp only [Act.put, zn1, zn2, zn3]
          refine tV 22 ?_ ?zq ?_; (case zq => rintro _ -; go_simp; try with_reducible rfl); try simp only [Act.put, zn1, zn2, zn3]
          refine tV 23 ?_ ?zq ?_; (case zq => rintro _ -; go_simp; try with_reducible rfl); try simp only [Act.put, zn1, zn2, zn3]
          refine tV 24 ?_ ?zq ?_; (case zq => rintro _ -; go_simp; try with_reducible rfl); try simp only [Act.put, zn1, zn2, zn3]
          refine tV 25 ?_ ?zq ?_; (case zq => rintro _ -; go_simp; try with_reducible rfl); try simp only [Act.put, zn1, zn2, zn3]
          refine tV 26 ?_ ?zq ?_; (case zq => rintro _ -; go_simp; try with_reducible rfl); try simp only [Act.put, zn1, zn2, zn3]
          refine tV 27 ?_ ?zq ?_; (case zq => intro w' hSw; have hCell := fun (b o : Nat) (h : b < W2.heap.size) => hSw.cell (p := ⟨b, o, none⟩) h; clear hSw; go_simp; try with_reducible rfl); try simp only [Act.put, zn1, zn2, zn3]
          refine tV 28 ?_ ?zq ?_; (case zq => rintro _ -; go_simp; try with_reducible rfl); try simp only [Act.put, zn1, zn2, zn3]
          refine tV 29 ?_ ?zq ?_; (case zq => rintro _ -; go_simp; try with_reducible rfl); try simp only [Act.put, zn1, zn2, zn3]
          refine tV 30 ?_ ?zq ?_; (case zq => rintro _ -; go_simp; try with_reducible rfl); try simp only [Act.put, zn1, zn2, zn3]
          refine tV 31 ?_ ?zq ?_; (case zq => rintro _ -; go_simp; try with_reducible rfl); try simp only [Act.put, zn1, zn2, zn3]
          refine tV 32 ?_ ?zq ?_; (case zq => intro w' hSw; have hCell := fun (b o : Nat) (h : b < W2.heap.size) => hSw.cell (p := ⟨b, o, none⟩) h; clear hSw; go_simp; try with_reducible rfl); try simp only [Act.put, zn1, zn2, zn3]
          refine tV 33 ?_ ?zq ?_; (case zq => rintro _ -; go_simp; try with_reducible rfl); try simp only [Act.put, zn1, zn2, zn3]
          refine tV 34 ?_ ?zq ?_; (case zq => intro w' hSw; have hCell := fun (b o : Nat) (h : b < W2.heap.size) => hSw.cell (p := ⟨b, o, none⟩) h; clear hSw; go_simp; try with_reducible rfl); try simp only [Act.put, zn1, zn2, zn3]
          refine tV 35 ?_ ?zq ?_; (case zq => rintro _ -; go_simp; try with_reducible rfl); try simp only [Act.put, zn1, zn2, zn3]
          refine tV 36 ?_ ?zq ?_; (case zq => rintro _ -; go_simp; try with_reducible rfl); try simp only [Act.put, zn1, zn2, zn3]
          refine tV 37 ?_ ?zq ?_; (case zq => rintro _ -; go_simp; try with_reducible rfl); try simp only [Act.put, zn1, zn2, zn3]
          refine wpAnyH_done (by kernel_rfl) ?_ _
          go_wp2_with fail
          go_ret
          exact ⟨ret_bool (by rw [Hm.out]), lift HB.out hHeld⟩
         ·have HL : Hid (∀ i (e : j + 1 = i + 1), ltS (ns[i]'(by omega)).1 ns[j + 1].1 = true) := Lib.hid (fun i e => by
           obtain rfl : i = j := by omega
           rw [Hx.out, Hy.out]; exact h1)
          go_wp2_with fail
          first | (refine wp_named ?_; intro W2 hW) | (refine calls_named ?_; intro W2 hW)
          have B2 : Below wr.heap.size wr W2 := by rw [hW]; exact bq2
          replace c0 := cellAt c0 B2 (by omega)
          replace c1 := cellAt c1 B2 (by omega)
          replace y0 := cellAt y0 B2 (by omega)
          replace Hr := Lib.hid (Hr.out.at B2)
          replace Hn := Lib.hid (Hn.out.at B2)
          replace n1 : w.heap.size < W2.heap.size := ltAt n1 B2
          replace HB := Lib.hid (lift HB.out B2)
          replace Hb := Lib.hid (lift Hb.out B2)
          replace hB := ltAt hB B2
          have m1 : wr.heap.size < W2.heap.size := by rw [hW]; simp <;> omega
          have e0 : W2.cell? ⟨wr.heap.size, 0, none⟩ = some (sv s) := by rw [hW]; go_simp
          have e1 : W2.cell? ⟨wr.heap.size, 1, none⟩ = some (.int .i64 t) := by rw [hW]; go_simp
          have e2 : W2.cell? ⟨wr.heap.size, 2, none⟩ = some (.int .i64 r) := by rw [hW]; go_simp
          clear hW
          clear B2
          try go_wp2_with fail
          refine wp_region_held_drew (S := fun w' => Below W2.heap.size W2 w') (by kernel_rfl) (Below.drew (Below.refl _ _)) (fun hHeld => ?_)
          refine tV 0 ?_ ?zq ?_; (case zq => rintro _ -; go_simp; try with_reducible rfl); try simp only [Act.put, zn1, zn2, zn3]
          refine tV 1 ?_ ?zq ?_; (case zq => intro w' hSw; have hCell := fun (b o : Nat) (h : b < W2.heap.size) => hSw.cell (p := ⟨b, o, none⟩) h; clear hSw; go_simp; try with_reducible rfl); try simp only [Act.put, zn1, zn2, zn3]
          refine tV 4 ?_ ?zq ?_; (case zq => rintro _ -; go_simp; try with_reducible rfl); try simp only [Act.put, zn1, zn2, zn3]
          refine tV 5 ?_ ?zq ?_; (case zq => intro w' hSw; have hCell := fun (b o : Nat) (h : b < W2.heap.size) => hSw.cell (p := ⟨b, o, none⟩) h; clear hSw; go_simp; try with_reducible rfl); try simp only [Act.put, zn1, zn2, zn3]
          refine ready_one (i := 2) rfl (by kernel_rfl) (fun K hK => ?_)
          go_simp
          refine (OfK_any s _ hlen).mono ?_
          rintro e v3 ⟨zp, zi, za, rfl, hb⟩
          refine hK.out _ _ ?_ (fun hHeld2 => ?_)
          ·(try dsimp only); first | exact Below.trans hHeld (Below.mono hb hHeld.size) | exact hHeld | exact Below.drew hHeld | exact bq2
          clear hK K hHeld; have hHeld := hHeld2; clear hHeld2; (try simp only [Act.put, zn1, zn2, zn3])
          refine tV 3 ?_ ?zq ?_; (case zq => rintro _ -; go_simp; try with_reducible rfl); try simp only [Act.put, zn1, zn2, zn3]
          refine tV 6 ?_ ?zq ?_; (case zq => rintro _ -; go_simp; try with_reducible rfl); try simp only [Act.put, zn1, zn2, zn3]
          refine tV 7 ?_ ?zq ?_; (case zq => rintro _ -; go_simp; try with_reducible rfl); try simp only [Act.put, zn1, zn2, zn3]
          refine tV 8 ?_ ?zq ?_; (case zq => rintro _ -; go_simp; try with_reducible rfl); try simp only [Act.put, zn1, zn2, zn3]
          refine tV 9 ?_ ?zq ?_; (case zq => intro w' hSw; have hCell := fun (b o : Nat) (h : b < W2.heap.size) => hSw.cell (p := ⟨b, o, none⟩) h; clear hSw; go_simp; try with_reducible rfl); try simp only [Act.put, zn1, zn2, zn3]
          refine tV 10 ?_ ?zq ?_; (case zq => rintro _ -; go_simp; try with_reducible rfl); try simp only [Act.put, zn1, zn2, zn3]
          refine tV 11 ?_ ?zq ?_; (case zq => rintro _ -; go_simp; try with_reducible rfl); try simp only [Act.put, zn1, zn2, zn3]
          refine tV 12 ?_ ?zq ?_; (case zq => rintro _ -; go_simp; try with_reducible rfl); try simp only [Act.put, zn1, zn2, zn3]
          refine tV 13 ?_ ?zq ?_; (case zq => rintro _ -; go_simp; try with_reducible rfl); try simp only [Act.put, zn1, zn2, zn3]
          refine tV 14 ?_ ?zq ?_; (case zq => intro w' hSw; have hCell := fun (b o : Nat) (h : b < W2.heap.size) => hSw.cell (p := ⟨b, o, none⟩) h; clear hSw; go_simp; try with_reducible rfl); try simp only [Act.put, zn1, zn2, zn3]
          refine tV 15 ?_ ?zq ?_; (case zq => rintro _ -; go_simp; try with_reducible rfl); try simp only [Act.put, zn1, zn2, zn3]
          refine tV 16 ?_ ?zq ?_; (case zq => rintro _ -; go_simp; try with_reducible rfl); try simp only [Act.put, zn1, zn2, zn3]
          refine tV 17 ?_ ?zq ?_; (case zq => rintro _ -; go_simp; try with_reducible rfl); try simp only [Act.put, zn1, zn2, zn3]
          refine tV 18 ?_ ?zq ?_; (case zq => rintro _ -; go_simp; try with_reducible rfl); try simp only [Act.put, zn1, zn2, zn3]
          refine tV 19 ?_ ?zq ?_; (case zq => intro w' hSw; have hCell := fun (b o : Nat) (h : b < W2.heap.size) => hSw.cell (p := ⟨b, o, none⟩) h; clear hSw; go_simp; try with_reducible rfl); try simp only [Act.put, zn1, zn2, zn3]
          refine tV 20 ?_ ?zq ?_; (case zq => rintro _ -; go_simp; try with_reducible rfl); try simp only [Act.put, zn1, zn2, zn3]
          refine tV 21 ?_ ?zq ?_; (case zq => rintro _ -; go_simp; try with_reducible rfl); try simp only [Act.put, zn1, zn2, zn3]
          refine tV 22 ?_ ?zq ?_; (case zq => rintro _ -; go_simp; try with_reducible rfl); try simp only [Act.put, zn1, zn2, zn3]
          refine tV 23 ?_ ?zq ?_; (case zq => rintro _ -; go_simp; try with_reducible rfl); try simp only [Act.put, zn1, zn2, zn3]
          refine tV 24 ?_ ?zq ?_; (case zq => rintro _ -; go_simp; try with_reducible rfl); try simp only [Act.put, zn1, zn2, zn3]
          refine tV 25 ?_ ?zq ?_; (case zq => rintro _ -; go_simp; try with_reducible rfl); try simp only [Act.put, zn1, zn2, zn3]
          refine tV 26 ?_ ?zq ?_; (case zq => rintro _ -; go_simp; try with_reducible rfl); try simp only [Act.put, zn1, zn2, zn3]
          refine tV 27 ?_ ?zq ?_; (case zq => intro w' hSw; have hCell := fun (b o : Nat) (h : b < W2.heap.size) => hSw.cell (p := ⟨b, o, none⟩) h; clear hSw; go_simp; try with_reducible rfl); try simp only [Act.put, zn1, zn2, zn3]
          refine tV 28 ?_ ?zq ?_; (case zq => rintro _ -; go_simp; try with_reducible rfl); try simp only [Act.put, zn1, zn2, zn3]
          refine tV 29 ?_ ?zq ?_; (case zq => rintro _ -; go_simp; try with_reducible rfl); try simp only [Act.put, zn1, zn2, zn3]
          refine tV 30 ?_ ?zq ?_; (case zq => rintro _ -; go_simp; try with_reducible rfl); try simp only [Act.put, zn1, zn2, zn3]
          refine tV 31 ?_ ?zq ?_; (case zq => rintro _ -; go_simp; try with_reducible rfl); try simp only [Act.put, zn1, zn2, zn3]
          refine tV 32 ?_ ?zq ?_; (case zq => intro w' hSw; have hCell := fun (b o : Nat) (h : b < W2.heap.size) => hSw.cell (p := ⟨b, o, none⟩) h; clear hSw; go_simp; try with_reducible rfl); try simp only [Act.put, zn1, zn2, zn3]
          refine tV 33 ?_ ?zq ?_; (case zq => rintro _ -; go_simp; try with_reducible rfl); try simp only [Act.put, zn1, zn2, zn3]
          refine tV 34 ?_ ?zq ?_; (case zq => intro w' hSw; have hCell := fun (b o : Nat) (h : b < W2.heap.size) => hSw.cell (p := ⟨b, o, none⟩) h; clear hSw; go_simp; try with_reducible rfl); try simp only [Act.put, zn1, zn2, zn3]
          refine tV 35 ?_ ?zq ?_; (case zq => rintro _ -; go_simp; try with_reducible rfl); try simp only [Act.put, zn1, zn2, zn3]
          refine tV 36 ?_ ?zq ?_; (case zq => rintro _ -; go_simp; try with_reducible rfl); try simp only [Act.put, zn1, zn2, zn3]
          refine tV 37 ?_ ?zq ?_; (case zq => rintro _ -; go_simp; try with_reducible rfl); try simp only [Act.put, zn1, zn2, zn3]
          refine wpAnyH_done (by kernel_rfl) ?_ _
          replace c0 := cellAt c0 hHeld (by omega)
          replace c1 := cellAt c1 hHeld (by omega)
          replace y0 := cellAt y0 hHeld (by omega)
          replace e0 := cellAt e0 hHeld (by omega)
          replace e1 := cellAt e1 hHeld (by omega)
          replace e2 := cellAt e2 hHeld (by omega)
          replace Hr := Lib.hid (Hr.out.at hHeld)
          replace Hn := Lib.hid (Hn.out.at hHeld)
          replace n1 : w.heap.size < v3.heap.size := ltAt n1 hHeld
          replace HB := Lib.hid (lift HB.out hHeld)
          replace Hb := Lib.hid (lift Hb.out hHeld)
          replace hB := ltAt hB hHeld
          replace m1 : wr.heap.size < v3.heap.size := ltAt m1 hHeld
          clear hHeld
          go_wp2_with fail
          go_roundw
          case rel => exact ⟨j + 1 + 1, by omega, by go_num, HU.out.step hlt (by rw [Hx.out]; exact HGd.out) HL.out, Hb.out⟩
          case measure => simp [intOf]; omega
    ·have hkb : (kindS s != t) = true := by simp [hkt]
     have Hm := Lib.hid (mayG_n (es := es) hlt (by rw [Hx.out]; show (kindS s != 0 && ((t == kindS s) && (decide (1 ≤ r) && decide (r ≤ 4)))) = false; (simp; omega)))
     go_wp2_with fail
     first | (refine wp_named ?_; intro W2 hW) | (refine calls_named ?_; intro W2 hW)
     have B2 : Below wr.heap.size wr W2 := by rw [hW]; exact bq2
     replace c0 := cellAt c0 B2 (by omega)
     replace c1 := cellAt c1 B2 (by omega)
     replace Hr := Lib.hid (Hr.out.at B2)
     replace Hn := Lib.hid (Hn.out.at B2)
     replace n1 : w.heap.size < W2.heap.size := ltAt n1 B2
     replace HB := Lib.hid (lift HB.out B2)
     replace Hb := Lib.hid (lift Hb.out B2)
     replace hB := ltAt hB B2
     have m1 : wr.heap.size < W2.heap.size := by rw [hW]; simp <;> omega
     have e0 : W2.cell? ⟨wr.heap.size, 0, none⟩ = some (sv s) := by rw [hW]; go_simp
     have e1 : W2.cell? ⟨wr.heap.size, 1, none⟩ = some (.int .i64 t) := by rw [hW]; go_simp
     have e2 : W2.cell? ⟨wr.heap.size, 2, none⟩ = some (.int .i64 r) := by rw [hW]; go_simp
     clear hW
     clear B2
     try go_wp2_with fail
     refine wp_region_held_drew (S := fun w' => Below W2.heap.size W2 w') (by kernel_rfl) (Below.drew (Below.refl _ _)) (fun hHeld => ?_)
     refine tV 0 ?_ ?zq ?_; (case zq => rintro _ -; go_simp; try with_reducible rfl); try simp only [Act.put, zn1, zn2, zn3]
     refine tV 1 ?_ ?zq ?_; (case zq => intro w' hSw; have hCell := fun (b o : Nat) (h : b < W2.heap.size) => hSw.cell (p := ⟨b, o, none⟩) h; clear hSw; go_simp; try with_reducible rfl); try simp only [Act.put, zn1, zn2, zn3]
     refine tV 4 ?_ ?zq ?_; (case zq => rintro _ -; go_simp; try with_reducible rfl); try simp only [Act.put, zn1, zn2, zn3]
     refine tV 5 ?_ ?zq ?_; (case zq => intro w' hSw; have hCell := fun (b o : Nat) (h : b < W2.heap.size) => hSw.cell (p := ⟨b, o, none⟩) h; clear hSw; go_simp; try with_reducible rfl); try simp only [Act.put, zn1, zn2, zn3]
     refine ready_one (i := 2) rfl (by kernel_rfl) (fun K hK => ?_)
     go_simp
     refine (OfK_any s _ hlen).mono ?_
     rintro e v3 ⟨zp, zi, za, rfl, hb⟩
     refine hK.out _ _ ?_ (fun hHeld2 => ?_)
     ·(try dsimp only); first | exact Below.trans hHeld (Below.mono hb hHeld.size) | exact hHeld | exact Below.drew hHeld | exact bq2
     clear hK K hHeld; have hHeld := hHeld2; clear hHeld2; (try simp only [Act.put, zn1, zn2, zn3])
     refine tV 3 ?_ ?zq ?_; (case zq => rintro _ -; go_simp; try with_reducible rfl); try simp only [Act.put, zn1, zn2, zn3]
     refine tV 6 ?_ ?zq ?_; (case zq => rintro _ -; go_simp; try with_reducible rfl); try simp only [Act.put, zn1, zn2, zn3]
     refine tV 7 ?_ ?zq ?_; (case zq => rintro _ -; go_simp; try with_reducible rfl); try simp only [Act.put, zn1, zn2, zn3]
     refine tU 8 ?_; (try simp only [Act.put, zn1, zn2, zn3])
     refine tU 9 ?_; (try simp only [Act.put, zn1, zn2, zn3])
     refine tU 10 ?_; (try simp only [Act.put, zn1, zn2, zn3])
     refine tV 11 ?_ ?zq ?_; (case zq => rintro _ -; go_simp; try with_reducible rfl); try simp only [Act.put, zn1, zn2, zn3]
     refine tV 12 ?_ ?zq ?_; (case zq => rintro _ -; go_simp; try with_reducible rfl); try simp only [Act.put, zn1, zn2, zn3]
     refine tU 13 ?_; (try simp only [Act.put, zn1, zn2, zn3])
     refine tU 14 ?_; (try simp only [Act.put, zn1, zn2, zn3])
     refine tU 15 ?_; (try simp only [Act.put, zn1, zn2, zn3])
     refine tV 16 ?_ ?zq ?_; (case zq => rintro _ -; go_simp; try with_reducible rfl); try simp only [Act.put, zn1, zn2, zn3]
     refine tV 17 ?_ ?zq ?_; (case zq => rintro _ -; go_simp; try with_reducible rfl); try simp only [Act.put, zn1, zn2, zn3]
     refine tU 18 ?_; (try simp only [Act.put, zn1, zn2, zn3])
     refine tU 19 ?_; (try simp only [Act.put, zn1, zn2, zn3])
     refine tU 20 ?_; (try simp only [Act.put, zn1, zn2, zn3])
     refine tV 21 ?_ ?zq ?_; (case zq => rintro _ -; go_simp; try with_reducible rfl); try simp only [Act.put, zn1, zn2, zn3]
     refine tV 22 ?_ ?zq ?_; (case zq => rintro _ -; go_simp; try with_reducible rfl); try simp only [Act.put, zn1, zn2, zn3]
     refine tU 23 ?_; (try simp only [Act.put, zn1, zn2, zn3])
     refine tU 24 ?_; (try simp only [Act.put, zn1, zn2, zn3])
     refine tU 25 ?_; (try simp only [Act.put, zn1, zn2, zn3])
     refine tU 26 ?_; (try simp only [Act.put, zn1, zn2, zn3])
     refine tU 27 ?_; (try simp only [Act.put, zn1, zn2, zn3])
     refine tU 28 ?_; (try simp only [Act.put, zn1, zn2, zn3])
     refine tU 29 ?_; (try simp only [Act.put, zn1, zn2, zn3])
     refine tU 30 ?_; (try simp only [Act.put, zn1, zn2, zn3])
     refine tU 31 ?_; (try simp only [Act.put, zn1, zn2, zn3])
     refine tU 32 ?_; (try simp only [Act.put, zn1, zn2, zn3])
     refine tU 33 ?_; (try simp only [Act.put, zn1, zn2, zn3])
     refine tU 34 ?_; (try simp only [Act.put, zn1, zn2, zn3])
     refine tU 35 ?_; (try simp only [Act.put, zn1, zn2, zn3])
     refine tU 36 ?_; (try simp only [Act.put, zn1, zn2, zn3])
     refine tV 37 ?_ ?zq ?_; (case zq => rintro _ -; go_simp; try with_reducible rfl); try simp only [Act.put, zn1, zn2, zn3]
     refine wpAnyH_done (by kernel_rfl) ?_ _
     go_wp2_with fail
     go_ret
     exact ⟨ret_bool (by rw [Hm.out]), lift HB.out hHeld⟩
   ·have hkn : k = ns.length := by omega
    subst hkn
    obtain ⟨w9, rfl⟩ : ∃ wo : World, wo = wr := ⟨_, rfl⟩
    go_wp2_with fail
    go_loopw [65] (fun i wr => ∃ k : Nat, k ≤ es.length ∧ i = .int .i64 k ∧ Hid (UpE ns es k) ∧ Below w9.heap.size w9 wr) (fun i _ => es.length - (intOf i).toNat)
    case atStart => exact ⟨0, Nat.zero_le _, rfl, ⟨fun _ _ h => absurd h (by omega), fun _ _ h => absurd h (by omega)⟩, Below.refl _ _⟩
    case round =>
     obtain ⟨k, hk, rfl, hall, hb⟩ := hrel
     have HE := Lib.hid hall.out
     clear hall
     have Hb9 := Lib.hid hb
     replace c0 := cellAt c0 hb (by omega)
     replace c1 := cellAt c1 hb (by omega)
     replace Hr := Lib.hid (Hr.out.at hb)
     replace Hn := Lib.hid (Hn.out.at hb)
     replace n1 : w.heap.size < wr.heap.size := ltAt n1 hb
     replace HB := Lib.hid (lift HB.out hb)
     clear hb
     by_cases hlt : k < es.length
     ·obtain ⟨b, o, rfl, hB, x0, x1, x2⟩ := Hr.out.edge hlt
      generalize hx : es[k] = x at x0 x1 x2
      obtain ⟨s, d, r⟩ := x
      have Hx := Lib.hid hx
      clear hx
      simp only at x0 x1 x2
      have k1 : (0 : Int) ≤ (k : Int) := by omega
      have k2 : (k : Int) < (es.length : Int) := by omega
      have hek : edgeOk ns (s, d, r) = ((nodeOf ns s).isSome && ((nodeOf ns d).isSome && (!(s == d) && (((nodeOf ns s).getD ([], 0, 0)).2.2 == 1 && (!decide (r < 1) && !decide (10 < r)))))) := rfl
      have HEK := Lib.hid hek
      clear hek
      by_cases hs0 : (nodeOf ns s).isSome = true
      ·by_cases hd0 : (nodeOf ns d).isSome = true
       ·go_wp2_with fail
        first | (refine wp_named ?_; intro W2 hW) | (refine calls_named ?_; intro W2 hW)
        have B2 : Below wr.heap.size wr W2 := by rw [hW]; exact bq2
        replace c0 := cellAt c0 B2 (by omega)
        replace c1 := cellAt c1 B2 (by omega)
        replace x0 := cellAt x0 B2 (by omega)
        replace x1 := cellAt x1 B2 (by omega)
        replace x2 := cellAt x2 B2 (by omega)
        replace Hr := Lib.hid (Hr.out.at B2)
        replace Hn := Lib.hid (Hn.out.at B2)
        replace n1 : w.heap.size < W2.heap.size := ltAt n1 B2
        replace HB := Lib.hid (lift HB.out B2)
        replace Hb9 := Lib.hid (lift Hb9.out B2)
        replace hB : b < W2.heap.size := ltAt hB B2
        have m1 : wr.heap.size < W2.heap.size := by rw [hW]; simp <;> omega
        have e0 : W2.cell? ⟨wr.heap.size, 0, none⟩ = some (sv s) := by rw [hW]; go_simp
        have e1 : W2.cell? ⟨wr.heap.size, 1, none⟩ = some (sv d) := by rw [hW]; go_simp
        have e2 : W2.cell? ⟨wr.heap.size, 2, none⟩ = some (.int .i64 r) := by rw [hW]; go_simp
        clear hW
        clear B2
        refine (Node15_any An (some ⟨b, o, none⟩) es.length cn ce ns s W2 Hn.out (by omega)).mono ?_
        rintro e v3 ⟨rfl, hb⟩
        replace c0 := cellAt c0 hb (by omega)
        replace c1 := cellAt c1 hb (by omega)
        replace x0 := cellAt x0 hb (by omega)
        replace x1 := cellAt x1 hb (by omega)
        replace x2 := cellAt x2 hb (by omega)
        replace e0 := cellAt e0 hb (by omega)
        replace e1 := cellAt e1 hb (by omega)
        replace e2 := cellAt e2 hb (by omega)
        replace Hr := Lib.hid (Hr.out.at hb)
        replace Hn := Lib.hid (Hn.out.at hb)
        replace n1 : w.heap.size < v3.heap.size := ltAt n1 hb
        replace HB := Lib.hid (lift HB.out hb)
        replace Hb9 := Lib.hid (lift Hb9.out hb)
        replace hB : b < v3.heap.size := ltAt hB hb
        replace m1 : wr.heap.size < v3.heap.size := ltAt m1 hb
        clear hb
        have HEq := Lib.hid HEK.out
        obtain ⟨on, hon⟩ : ∃ on, nodeOf ns s = on := ⟨_, rfl⟩
        obtain ⟨od, hod⟩ : ∃ od, nodeOf ns d = od := ⟨_, rfl⟩
        rw [hon]
        have HV := Lib.hid (show edgeOk ns (s, d, r) = (on.isSome && (od.isSome && (!(s == d) && ((on.getD ([], 0, 0)).2.2 == 1 && (!decide (r < 1) && !decide (10 < r)))))) by rw [HEq.out, hon, hod])
        have HON := Lib.hid hon
        have HOD := Lib.hid hod
        clear hon hod HEq
        unfold nodeV
        generalize hgs : on.getD ([], 0, 0) = gs at *
        obtain ⟨gn, gk, gt⟩ := gs
        have HGS := Lib.hid hgs
        clear hgs
        go_wp2_with fail
        first | (refine wp_named ?_; intro W4 hW) | (refine calls_named ?_; intro W4 hW)
        have B4 : Below v3.heap.size v3 W4 := by rw [hW]; exact bq2
        replace c0 := cellAt c0 B4 (by omega)
        replace c1 := cellAt c1 B4 (by omega)
        replace x0 := cellAt x0 B4 (by omega)
        replace x1 := cellAt x1 B4 (by omega)
        replace x2 := cellAt x2 B4 (by omega)
        replace e0 := cellAt e0 B4 (by omega)
        replace e1 := cellAt e1 B4 (by omega)
        replace e2 := cellAt e2 B4 (by omega)
        replace Hr := Lib.hid (Hr.out.at B4)
        replace Hn := Lib.hid (Hn.out.at B4)
        replace n1 : w.heap.size < W4.heap.size := ltAt n1 B4
        replace HB := Lib.hid (lift HB.out B4)
        replace Hb9 := Lib.hid (lift Hb9.out B4)
        replace hB : b < W4.heap.size := ltAt hB B4
        replace m1 : wr.heap.size < W4.heap.size := ltAt m1 B4
        have m2 : v3.heap.size < W4.heap.size := by rw [hW]; simp <;> omega
        have a0 : W4.cell? ⟨v3.heap.size, 0, none⟩ = some (sv gn) := by rw [hW]; go_simp
        have a1 : W4.cell? ⟨v3.heap.size, 1, none⟩ = some (.int .i64 gk) := by rw [hW]; go_simp
        have a2 : W4.cell? ⟨v3.heap.size, 2, none⟩ = some (.int .i64 gt) := by rw [hW]; go_simp
        clear hW
        clear B4
        refine (Node15_any An (some ⟨b, o, none⟩) es.length cn ce ns d W4 Hn.out (by omega)).mono ?_
        rintro e v5 ⟨rfl, hb⟩
        replace c0 := cellAt c0 hb (by omega)
        replace c1 := cellAt c1 hb (by omega)
        replace x0 := cellAt x0 hb (by omega)
        replace x1 := cellAt x1 hb (by omega)
        replace x2 := cellAt x2 hb (by omega)
        replace e0 := cellAt e0 hb (by omega)
        replace e1 := cellAt e1 hb (by omega)
        replace e2 := cellAt e2 hb (by omega)
        replace a0 := cellAt a0 hb (by omega)
        replace a1 := cellAt a1 hb (by omega)
        replace a2 := cellAt a2 hb (by omega)
        replace Hr := Lib.hid (Hr.out.at hb)
        replace Hn := Lib.hid (Hn.out.at hb)
        replace n1 : w.heap.size < v5.heap.size := ltAt n1 hb
        replace HB := Lib.hid (lift HB.out hb)
        replace Hb9 := Lib.hid (lift Hb9.out hb)
        replace hB : b < v5.heap.size := ltAt hB hb
        replace m1 : wr.heap.size < v5.heap.size := ltAt m1 hb
        replace m2 : v3.heap.size < v5.heap.size := ltAt m2 hb
        clear hb
        rw [HOD.out]
        unfold nodeV
        generalize od.getD ([], 0, 0) = gd at *
        obtain ⟨dn, dk, dt⟩ := gd
        have hv1 : on.isSome = true := by rw [← HON.out]; exact hs0
        have hv2 : od.isSome = true := by rw [← HOD.out]; exact hd0
        rw [hv1, hv2] at HV
        have HV2 := Lib.hid (show edgeOk ns (s, d, r) = (!(s == d) && (gt == 1 && (!decide (r < 1) && !decide (10 < r)))) by rw [HV.out]; simp)
        clear HV
        have HV := HV2
        clear hs0 hd0
        cases hg : (gt == 1)
        ·have hgn : (gt != 1) = true := by simp [bne, hg]
         have Hm := Lib.hid (mayG_e (ns := ns) hlt (by rw [Hx.out, HV.out, hg]; simp))
         go_wp2_with fail
         first | (refine wp_named ?_; intro W6 hW) | (refine calls_named ?_; intro W6 hW)
         have B6 : Below v5.heap.size v5 W6 := by rw [hW]; exact bq2
         replace c0 := cellAt c0 B6 (by omega)
         replace c1 := cellAt c1 B6 (by omega)
         replace x0 := cellAt x0 B6 (by omega)
         replace x1 := cellAt x1 B6 (by omega)
         replace x2 := cellAt x2 B6 (by omega)
         replace e0 := cellAt e0 B6 (by omega)
         replace e1 := cellAt e1 B6 (by omega)
         replace e2 := cellAt e2 B6 (by omega)
         replace a0 := cellAt a0 B6 (by omega)
         replace a1 := cellAt a1 B6 (by omega)
         replace a2 := cellAt a2 B6 (by omega)
         replace Hr := Lib.hid (Hr.out.at B6)
         replace Hn := Lib.hid (Hn.out.at B6)
         replace n1 : w.heap.size < W6.heap.size := ltAt n1 B6
         replace HB := Lib.hid (lift HB.out B6)
         replace Hb9 := Lib.hid (lift Hb9.out B6)
         replace hB : b < W6.heap.size := ltAt hB B6
         replace m1 : wr.heap.size < W6.heap.size := ltAt m1 B6
         replace m2 : v3.heap.size < W6.heap.size := ltAt m2 B6
         clear hW
         clear B6
         try go_wp2_with fail
         refine wp_region_held_drew (S := fun w' => Below W6.heap.size W6 w') (by kernel_rfl) (Below.drew (Below.refl _ _)) (fun hHeld => ?_)
         refine tV 0 ?_ ?zq ?_; (case zq => rintro _ -; go_simp; try with_reducible rfl); try simp only [Act.put, zn1, zn2, zn3]
         refine tV 1 ?_ ?zq ?_; (case zq => rintro _ -; go_simp; try with_reducible rfl); try simp only [Act.put, zn1, zn2, zn3]
         refine tV 2 ?_ ?zq ?_; (case zq => rintro _ -; go_simp; try with_reducible rfl); try simp only [Act.put, zn1, zn2, zn3]
         refine tV 3 ?_ ?zq ?_; (case zq => rintro _ -; go_simp; try with_reducible rfl); try simp only [Act.put, zn1, zn2, zn3]
         refine tV 4 ?_ ?zq ?_; (case zq => rintro _ -; go_simp; try with_reducible rfl); try simp only [Act.put, zn1, zn2, zn3]
         refine tV 5 ?_ ?zq ?_; (case zq => rintro _ -; go_simp; try with_reducible rfl); try simp only [Act.put, zn1, zn2, zn3]
         refine tV 6 ?_ ?zq ?_; (case zq => rintro _ -; go_simp; try with_reducible rfl); try simp only [Act.put, zn1, zn2, zn3]
         refine tV 7 ?_ ?zq ?_; (case zq => rintro _ -; go_simp; try with_reducible rfl); try simp only [Act.put, zn1, zn2, zn3]
         refine tV 8 ?_ ?zq ?_; (case zq => intro w' hSw; have hCell := fun (b o : Nat) (h : b < W6.heap.size) => hSw.cell (p := ⟨b, o, none⟩) h; clear hSw; go_simp; try with_reducible rfl); try simp only [Act.put, zn1, zn2, zn3]
         refine tV 9 ?_ ?zq ?_; (case zq => rintro _ -; go_simp; try with_reducible rfl); try simp only [Act.put, zn1, zn2, zn3]
         refine tV 10 ?_ ?zq ?_; (case zq => rintro _ -; go_simp; try with_reducible rfl); try simp only [Act.put, zn1, zn2, zn3]
         refine tV 11 ?_ ?zq ?_; (case zq => rintro _ -; go_simp; try with_reducible rfl); try simp only [Act.put, zn1, zn2, zn3]
         refine tU 12 ?_; (try simp only [Act.put, zn1, zn2, zn3])
         refine tU 13 ?_; (try simp only [Act.put, zn1, zn2, zn3])
         refine tU 14 ?_; (try simp only [Act.put, zn1, zn2, zn3])
         refine tU 15 ?_; (try simp only [Act.put, zn1, zn2, zn3])
         refine tU 16 ?_; (try simp only [Act.put, zn1, zn2, zn3])
         refine tV 17 ?_ ?zq ?_; (case zq => rintro _ -; go_simp; try with_reducible rfl); try simp only [Act.put, zn1, zn2, zn3]
         refine tV 18 ?_ ?zq ?_; (case zq => rintro _ -; go_simp; try with_reducible rfl); try simp only [Act.put, zn1, zn2, zn3]
         refine tU 19 ?_; (try simp only [Act.put, zn1, zn2, zn3])
         refine tU 20 ?_; (try simp only [Act.put, zn1, zn2, zn3])
         refine tU 21 ?_; (try simp only [Act.put, zn1, zn2, zn3])
         refine tV 22 ?_ ?zq ?_; (case zq => rintro _ -; go_simp; try with_reducible rfl); try simp only [Act.put, zn1, zn2, zn3]
         refine tV 23 ?_ ?zq ?_; (case zq => rintro _ -; go_simp; try with_reducible rfl); try simp only [Act.put, zn1, zn2, zn3]
         refine tU 24 ?_; (try simp only [Act.put, zn1, zn2, zn3])
         refine tU 25 ?_; (try simp only [Act.put, zn1, zn2, zn3])
         refine tU 26 ?_; (try simp only [Act.put, zn1, zn2, zn3])
         refine tV 27 ?_ ?zq ?_; (case zq => rintro _ -; go_simp; try with_reducible rfl); try simp only [Act.put, zn1, zn2, zn3]
         refine tV 28 ?_ ?zq ?_; (case zq => rintro _ -; go_simp; try with_reducible rfl); try simp only [Act.put, zn1, zn2, zn3]
         refine tU 29 ?_; (try simp only [Act.put, zn1, zn2, zn3])
         refine tU 30 ?_; (try simp only [Act.put, zn1, zn2, zn3])
         refine tU 31 ?_; (try simp only [Act.put, zn1, zn2, zn3])
         refine tU 32 ?_; (try simp only [Act.put, zn1, zn2, zn3])
         refine tU 33 ?_; (try simp only [Act.put, zn1, zn2, zn3])
         refine tU 34 ?_; (try simp only [Act.put, zn1, zn2, zn3])
         refine tU 35 ?_; (try simp only [Act.put, zn1, zn2, zn3])
         refine tU 36 ?_; (try simp only [Act.put, zn1, zn2, zn3])
         refine tU 37 ?_; (try simp only [Act.put, zn1, zn2, zn3])
         refine tU 38 ?_; (try simp only [Act.put, zn1, zn2, zn3])
         refine tU 39 ?_; (try simp only [Act.put, zn1, zn2, zn3])
         refine tU 40 ?_; (try simp only [Act.put, zn1, zn2, zn3])
         refine tU 41 ?_; (try simp only [Act.put, zn1, zn2, zn3])
         refine tV 42 ?_ ?zq ?_; (case zq => rintro _ -; go_simp; try with_reducible rfl); try simp only [Act.put, zn1, zn2, zn3]
         refine wpAnyH_done (by kernel_rfl) ?_ _
         go_wp2_with fail
         go_ret
         exact ⟨ret_bool (by rw [Hm.out]), HB.out.trans (hHeld.mono HB.out.size)⟩
        ·have hgn : (gt != 1) = false := by simp [bne, hg]
         cases hsd : (s == d)
         ·by_cases r1 : r < 1
          ·have rb1 : decide (r < 1) = true := by rw [decide_eq_true_eq]; exact r1
           have Hm := Lib.hid (mayG_e (ns := ns) hlt (by rw [Hx.out, HV.out, rb1]; simp))
           go_wp2_with fail
           first | (refine wp_named ?_; intro W6 hW) | (refine calls_named ?_; intro W6 hW)
           have B6 : Below v5.heap.size v5 W6 := by rw [hW]; exact bq2
           replace c0 := cellAt c0 B6 (by omega)
           replace c1 := cellAt c1 B6 (by omega)
           replace x0 := cellAt x0 B6 (by omega)
           replace x1 := cellAt x1 B6 (by omega)
           replace x2 := cellAt x2 B6 (by omega)
           replace e0 := cellAt e0 B6 (by omega)
           replace e1 := cellAt e1 B6 (by omega)
           replace e2 := cellAt e2 B6 (by omega)
           replace a0 := cellAt a0 B6 (by omega)
           replace a1 := cellAt a1 B6 (by omega)
           replace a2 := cellAt a2 B6 (by omega)
           replace Hr := Lib.hid (Hr.out.at B6)
           replace Hn := Lib.hid (Hn.out.at B6)
           replace n1 : w.heap.size < W6.heap.size := ltAt n1 B6
           replace HB := Lib.hid (lift HB.out B6)
           replace Hb9 := Lib.hid (lift Hb9.out B6)
           replace hB : b < W6.heap.size := ltAt hB B6
           replace m1 : wr.heap.size < W6.heap.size := ltAt m1 B6
           replace m2 : v3.heap.size < W6.heap.size := ltAt m2 B6
           clear hW
           clear B6
           try go_wp2_with fail
           refine wp_region_held_drew (S := fun w' => Below W6.heap.size W6 w') (by kernel_rfl) (Below.drew (Below.refl _ _)) (fun hHeld => ?_)
           refine tV 0 ?_ ?zq ?_; (case zq => rintro _ -; go_simp; try with_reducible rfl); try simp only [Act.put, zn1, zn2, zn3]
           refine tV 1 ?_ ?zq ?_; (case zq => rintro _ -; go_simp; try with_reducible rfl); try simp only [Act.put, zn1, zn2, zn3]
           refine tV 2 ?_ ?zq ?_; (case zq => rintro _ -; go_simp; try with_reducible rfl); try simp only [Act.put, zn1, zn2, zn3]
           refine tV 3 ?_ ?zq ?_; (case zq => rintro _ -; go_simp; try with_reducible rfl); try simp only [Act.put, zn1, zn2, zn3]
           refine tV 4 ?_ ?zq ?_; (case zq => rintro _ -; go_simp; try with_reducible rfl); try simp only [Act.put, zn1, zn2, zn3]
           refine tV 5 ?_ ?zq ?_; (case zq => rintro _ -; go_simp; try with_reducible rfl); try simp only [Act.put, zn1, zn2, zn3]
           refine tV 6 ?_ ?zq ?_; (case zq => rintro _ -; go_simp; try with_reducible rfl); try simp only [Act.put, zn1, zn2, zn3]
           refine tV 7 ?_ ?zq ?_; (case zq => rintro _ -; go_simp; try with_reducible rfl); try simp only [Act.put, zn1, zn2, zn3]
           refine tV 8 ?_ ?zq ?_; (case zq => intro w' hSw; have hCell := fun (b o : Nat) (h : b < W6.heap.size) => hSw.cell (p := ⟨b, o, none⟩) h; clear hSw; go_simp; try with_reducible rfl); try simp only [Act.put, zn1, zn2, zn3]
           refine tV 9 ?_ ?zq ?_; (case zq => rintro _ -; go_simp; try with_reducible rfl); try simp only [Act.put, zn1, zn2, zn3]
           refine tV 10 ?_ ?zq ?_; (case zq => rintro _ -; go_simp; try with_reducible rfl); try simp only [Act.put, zn1, zn2, zn3]
           refine tV 11 ?_ ?zq ?_; (case zq => rintro _ -; go_simp; try with_reducible rfl); try simp only [Act.put, zn1, zn2, zn3]
           refine tV 12 ?_ ?zq ?_; (case zq => rintro _ -; go_simp; try with_reducible rfl); try simp only [Act.put, zn1, zn2, zn3]
           refine tV 13 ?_ ?zq ?_; (case zq => intro w' hSw; have hCell := fun (b o : Nat) (h : b < W6.heap.size) => hSw.cell (p := ⟨b, o, none⟩) h; clear hSw; go_simp; try with_reducible rfl); try simp only [Act.put, zn1, zn2, zn3]
           refine tV 14 ?_ ?zq ?_; (case zq => rintro _ -; go_simp; try with_reducible rfl); try simp only [Act.put, zn1, zn2, zn3]
           refine tV 15 ?_ ?zq ?_; (case zq => intro w' hSw; have hCell := fun (b o : Nat) (h : b < W6.heap.size) => hSw.cell (p := ⟨b, o, none⟩) h; clear hSw; go_simp; try with_reducible rfl); try simp only [Act.put, zn1, zn2, zn3]
           refine tV 16 ?_ ?zq ?_; (case zq => rintro _ -; go_simp; try with_reducible rfl); try simp only [Act.put, zn1, zn2, zn3]
           refine tV 17 ?_ ?zq ?_; (case zq => rintro _ -; go_simp; try with_reducible rfl); try simp only [Act.put, zn1, zn2, zn3]
           refine tV 18 ?_ ?zq ?_; (case zq => rintro _ -; go_simp; try with_reducible rfl); try simp only [Act.put, zn1, zn2, zn3]
           refine tV 19 ?_ ?zq ?_; (case zq => rintro _ -; go_simp; try with_reducible rfl); try simp only [Act.put, zn1, zn2, zn3]
           refine tV 20 ?_ ?zq ?_; (case zq => intro w' hSw; have hCell := fun (b o : Nat) (h : b < W6.heap.size) => hSw.cell (p := ⟨b, o, none⟩) h; clear hSw; go_simp; try with_reducible rfl); try simp only [Act.put, zn1, zn2, zn3]
           refine tV 21 ?_ ?zq ?_; (case zq => rintro _ -; go_simp; try with_reducible rfl); try simp only [Act.put, zn1, zn2, zn3]
           refine tV 22 ?_ ?zq ?_; (case zq => rintro _ -; go_simp; try with_reducible rfl); try simp only [Act.put, zn1, zn2, zn3]
           refine tV 23 ?_ ?zq ?_; (case zq => rintro _ -; go_simp; try with_reducible rfl); try simp only [Act.put, zn1, zn2, zn3]
           refine tU 24 ?_; (try simp only [Act.put, zn1, zn2, zn3])
           refine tU 25 ?_; (try simp only [Act.put, zn1, zn2, zn3])
           refine tU 26 ?_; (try simp only [Act.put, zn1, zn2, zn3])
           refine tV 27 ?_ ?zq ?_; (case zq => rintro _ -; go_simp; try with_reducible rfl); try simp only [Act.put, zn1, zn2, zn3]
           refine tV 28 ?_ ?zq ?_; (case zq => rintro _ -; go_simp; try with_reducible rfl); try simp only [Act.put, zn1, zn2, zn3]
           refine tU 29 ?_; (try simp only [Act.put, zn1, zn2, zn3])
           refine tU 30 ?_; (try simp only [Act.put, zn1, zn2, zn3])
           refine tU 31 ?_; (try simp only [Act.put, zn1, zn2, zn3])
           refine tU 32 ?_; (try simp only [Act.put, zn1, zn2, zn3])
           refine tU 33 ?_; (try simp only [Act.put, zn1, zn2, zn3])
           refine tU 34 ?_; (try simp only [Act.put, zn1, zn2, zn3])
           refine tU 35 ?_; (try simp only [Act.put, zn1, zn2, zn3])
           refine tU 36 ?_; (try simp only [Act.put, zn1, zn2, zn3])
           refine tU 37 ?_; (try simp only [Act.put, zn1, zn2, zn3])
           refine tU 38 ?_; (try simp only [Act.put, zn1, zn2, zn3])
           refine tU 39 ?_; (try simp only [Act.put, zn1, zn2, zn3])
           refine tU 40 ?_; (try simp only [Act.put, zn1, zn2, zn3])
           refine tU 41 ?_; (try simp only [Act.put, zn1, zn2, zn3])
           refine tV 42 ?_ ?zq ?_; (case zq => rintro _ -; go_simp; try with_reducible rfl); try simp only [Act.put, zn1, zn2, zn3]
           refine wpAnyH_done (by kernel_rfl) ?_ _
           go_wp2_with fail
           go_ret
           exact ⟨ret_bool (by rw [Hm.out]), HB.out.trans (hHeld.mono HB.out.size)⟩
          ·have rb1 : decide (r < 1) = false := by rw [decide_eq_false_iff_not]; exact r1
           by_cases r10 : 10 < r
           ·have rb4 : decide (10 < r) = true := by rw [decide_eq_true_eq]; exact r10
            have Hm := Lib.hid (mayG_e (ns := ns) hlt (by rw [Hx.out, HV.out, rb4]; simp))
            go_wp2_with fail
            first | (refine wp_named ?_; intro W6 hW) | (refine calls_named ?_; intro W6 hW)
            have B6 : Below v5.heap.size v5 W6 := by rw [hW]; exact bq2
            replace c0 := cellAt c0 B6 (by omega)
            replace c1 := cellAt c1 B6 (by omega)
            replace x0 := cellAt x0 B6 (by omega)
            replace x1 := cellAt x1 B6 (by omega)
            replace x2 := cellAt x2 B6 (by omega)
            replace e0 := cellAt e0 B6 (by omega)
            replace e1 := cellAt e1 B6 (by omega)
            replace e2 := cellAt e2 B6 (by omega)
            replace a0 := cellAt a0 B6 (by omega)
            replace a1 := cellAt a1 B6 (by omega)
            replace a2 := cellAt a2 B6 (by omega)
            replace Hr := Lib.hid (Hr.out.at B6)
            replace Hn := Lib.hid (Hn.out.at B6)
            replace n1 : w.heap.size < W6.heap.size := ltAt n1 B6
            replace HB := Lib.hid (lift HB.out B6)
            replace Hb9 := Lib.hid (lift Hb9.out B6)
            replace hB : b < W6.heap.size := ltAt hB B6
            replace m1 : wr.heap.size < W6.heap.size := ltAt m1 B6
            replace m2 : v3.heap.size < W6.heap.size := ltAt m2 B6
            clear hW
            clear B6
            try go_wp2_with fail
            refine wp_region_held_drew (S := fun w' => Below W6.heap.size W6 w') (by kernel_rfl) (Below.drew (Below.refl _ _)) (fun hHeld => ?_)
            refine tV 0 ?_ ?zq ?_; (case zq => rintro _ -; go_simp; try with_reducible rfl); try simp only [Act.put, zn1, zn2, zn3]
            refine tV 1 ?_ ?zq ?_; (case zq => rintro _ -; go_simp; try with_reducible rfl); try simp only [Act.put, zn1, zn2, zn3]
            refine tV 2 ?_ ?zq ?_; (case zq => rintro _ -; go_simp; try with_reducible rfl); try simp only [Act.put, zn1, zn2, zn3]
            refine tV 3 ?_ ?zq ?_; (case zq => rintro _ -; go_simp; try with_reducible rfl); try simp only [Act.put, zn1, zn2, zn3]
            refine tV 4 ?_ ?zq ?_; (case zq => rintro _ -; go_simp; try with_reducible rfl); try simp only [Act.put, zn1, zn2, zn3]
            refine tV 5 ?_ ?zq ?_; (case zq => rintro _ -; go_simp; try with_reducible rfl); try simp only [Act.put, zn1, zn2, zn3]
            refine tV 6 ?_ ?zq ?_; (case zq => rintro _ -; go_simp; try with_reducible rfl); try simp only [Act.put, zn1, zn2, zn3]
            refine tV 7 ?_ ?zq ?_; (case zq => rintro _ -; go_simp; try with_reducible rfl); try simp only [Act.put, zn1, zn2, zn3]
            refine tV 8 ?_ ?zq ?_; (case zq => intro w' hSw; have hCell := fun (b o : Nat) (h : b < W6.heap.size) => hSw.cell (p := ⟨b, o, none⟩) h; clear hSw; go_simp; try with_reducible rfl); try simp only [Act.put, zn1, zn2, zn3]
            refine tV 9 ?_ ?zq ?_; (case zq => rintro _ -; go_simp; try with_reducible rfl); try simp only [Act.put, zn1, zn2, zn3]
            refine tV 10 ?_ ?zq ?_; (case zq => rintro _ -; go_simp; try with_reducible rfl); try simp only [Act.put, zn1, zn2, zn3]
            refine tV 11 ?_ ?zq ?_; (case zq => rintro _ -; go_simp; try with_reducible rfl); try simp only [Act.put, zn1, zn2, zn3]
            refine tV 12 ?_ ?zq ?_; (case zq => rintro _ -; go_simp; try with_reducible rfl); try simp only [Act.put, zn1, zn2, zn3]
            refine tV 13 ?_ ?zq ?_; (case zq => intro w' hSw; have hCell := fun (b o : Nat) (h : b < W6.heap.size) => hSw.cell (p := ⟨b, o, none⟩) h; clear hSw; go_simp; try with_reducible rfl); try simp only [Act.put, zn1, zn2, zn3]
            refine tV 14 ?_ ?zq ?_; (case zq => rintro _ -; go_simp; try with_reducible rfl); try simp only [Act.put, zn1, zn2, zn3]
            refine tV 15 ?_ ?zq ?_; (case zq => intro w' hSw; have hCell := fun (b o : Nat) (h : b < W6.heap.size) => hSw.cell (p := ⟨b, o, none⟩) h; clear hSw; go_simp; try with_reducible rfl); try simp only [Act.put, zn1, zn2, zn3]
            refine tV 16 ?_ ?zq ?_; (case zq => rintro _ -; go_simp; try with_reducible rfl); try simp only [Act.put, zn1, zn2, zn3]
            refine tV 17 ?_ ?zq ?_; (case zq => rintro _ -; go_simp; try with_reducible rfl); try simp only [Act.put, zn1, zn2, zn3]
            refine tV 18 ?_ ?zq ?_; (case zq => rintro _ -; go_simp; try with_reducible rfl); try simp only [Act.put, zn1, zn2, zn3]
            refine tV 19 ?_ ?zq ?_; (case zq => rintro _ -; go_simp; try with_reducible rfl); try simp only [Act.put, zn1, zn2, zn3]
            refine tV 20 ?_ ?zq ?_; (case zq => intro w' hSw; have hCell := fun (b o : Nat) (h : b < W6.heap.size) => hSw.cell (p := ⟨b, o, none⟩) h; clear hSw; go_simp; try with_reducible rfl); try simp only [Act.put, zn1, zn2, zn3]
            refine tV 21 ?_ ?zq ?_; (case zq => rintro _ -; go_simp; try with_reducible rfl); try simp only [Act.put, zn1, zn2, zn3]
            refine tV 22 ?_ ?zq ?_; (case zq => rintro _ -; go_simp; try with_reducible rfl); try simp only [Act.put, zn1, zn2, zn3]
            refine tV 23 ?_ ?zq ?_; (case zq => rintro _ -; go_simp; try with_reducible rfl); try simp only [Act.put, zn1, zn2, zn3]
            refine tV 24 ?_ ?zq ?_; (case zq => rintro _ -; go_simp; try with_reducible rfl); try simp only [Act.put, zn1, zn2, zn3]
            refine tV 25 ?_ ?zq ?_; (case zq => intro w' hSw; have hCell := fun (b o : Nat) (h : b < W6.heap.size) => hSw.cell (p := ⟨b, o, none⟩) h; clear hSw; go_simp; try with_reducible rfl); try simp only [Act.put, zn1, zn2, zn3]
            refine tV 26 ?_ ?zq ?_; (case zq => rintro _ -; go_simp; try with_reducible rfl); try simp only [Act.put, zn1, zn2, zn3]
            refine tV 27 ?_ ?zq ?_; (case zq => rintro _ -; go_simp; try with_reducible rfl); try simp only [Act.put, zn1, zn2, zn3]
            refine tV 28 ?_ ?zq ?_; (case zq => rintro _ -; go_simp; try with_reducible rfl); try simp only [Act.put, zn1, zn2, zn3]
            refine tU 29 ?_; (try simp only [Act.put, zn1, zn2, zn3])
            refine tU 30 ?_; (try simp only [Act.put, zn1, zn2, zn3])
            refine tU 31 ?_; (try simp only [Act.put, zn1, zn2, zn3])
            refine tU 32 ?_; (try simp only [Act.put, zn1, zn2, zn3])
            refine tU 33 ?_; (try simp only [Act.put, zn1, zn2, zn3])
            refine tU 34 ?_; (try simp only [Act.put, zn1, zn2, zn3])
            refine tU 35 ?_; (try simp only [Act.put, zn1, zn2, zn3])
            refine tU 36 ?_; (try simp only [Act.put, zn1, zn2, zn3])
            refine tU 37 ?_; (try simp only [Act.put, zn1, zn2, zn3])
            refine tU 38 ?_; (try simp only [Act.put, zn1, zn2, zn3])
            refine tU 39 ?_; (try simp only [Act.put, zn1, zn2, zn3])
            refine tU 40 ?_; (try simp only [Act.put, zn1, zn2, zn3])
            refine tU 41 ?_; (try simp only [Act.put, zn1, zn2, zn3])
            refine tV 42 ?_ ?zq ?_; (case zq => rintro _ -; go_simp; try with_reducible rfl); try simp only [Act.put, zn1, zn2, zn3]
            refine wpAnyH_done (by kernel_rfl) ?_ _
            go_wp2_with fail
            go_ret
            exact ⟨ret_bool (by rw [Hm.out]), HB.out.trans (hHeld.mono HB.out.size)⟩
           ·have rb4 : decide (10 < r) = false := by rw [decide_eq_false_iff_not]; exact r10
            have HGd := Lib.hid (show edgeOk ns (s, d, r) = true by rw [HV.out, hg, hsd, rb1, rb4]; rfl)
            by_cases hk0 : k = 0
            ·have k3 : decide (0 < k) = false := by rw [decide_eq_false_iff_not]; omega
             have HK0 := Lib.hid hk0
             clear hk0
             go_wp2_with fail
             first | (refine wp_named ?_; intro W6 hW) | (refine calls_named ?_; intro W6 hW)
             have B6 : Below v5.heap.size v5 W6 := by rw [hW]; exact bq2
             replace c0 := cellAt c0 B6 (by omega)
             replace c1 := cellAt c1 B6 (by omega)
             replace x0 := cellAt x0 B6 (by omega)
             replace x1 := cellAt x1 B6 (by omega)
             replace x2 := cellAt x2 B6 (by omega)
             replace e0 := cellAt e0 B6 (by omega)
             replace e1 := cellAt e1 B6 (by omega)
             replace e2 := cellAt e2 B6 (by omega)
             replace a0 := cellAt a0 B6 (by omega)
             replace a1 := cellAt a1 B6 (by omega)
             replace a2 := cellAt a2 B6 (by omega)
             replace Hr := Lib.hid (Hr.out.at B6)
             replace Hn := Lib.hid (Hn.out.at B6)
             replace n1 : w.heap.size < W6.heap.size := ltAt n1 B6
             replace HB := Lib.hid (lift HB.out B6)
             replace Hb9 := Lib.hid (lift Hb9.out B6)
             replace hB : b < W6.heap.size := ltAt hB B6
             replace m1 : wr.heap.size < W6.heap.size := ltAt m1 B6
             replace m2 : v3.heap.size < W6.heap.size := ltAt m2 B6
             clear hW
             clear B6
             try go_wp2_with fail
             refine wp_region_held_drew (S := fun w' => Below W6.heap.size W6 w') (by kernel_rfl) (Below.drew (Below.refl _ _)) (fun hHeld => ?_)
             refine tV 0 ?_ ?zq ?_; (case zq => rintro _ -; go_simp; try with_reducible rfl); try simp only [Act.put, zn1, zn2, zn3]
             refine tV 1 ?_ ?zq ?_; (case zq => rintro _ -; go_simp; try with_reducible rfl); try simp only [Act.put, zn1, zn2, zn3]
             refine tV 2 ?_ ?zq ?_; (case zq => rintro _ -; go_simp; try with_reducible rfl); try simp only [Act.put, zn1, zn2, zn3]
             refine tV 3 ?_ ?zq ?_; (case zq => rintro _ -; go_simp; try with_reducible rfl); try simp only [Act.put, zn1, zn2, zn3]
             refine tV 4 ?_ ?zq ?_; (case zq => rintro _ -; go_simp; try with_reducible rfl); try simp only [Act.put, zn1, zn2, zn3]
             refine tV 5 ?_ ?zq ?_; (case zq => rintro _ -; go_simp; try with_reducible rfl); try simp only [Act.put, zn1, zn2, zn3]
             refine tV 6 ?_ ?zq ?_; (case zq => rintro _ -; go_simp; try with_reducible rfl); try simp only [Act.put, zn1, zn2, zn3]
             refine tV 7 ?_ ?zq ?_; (case zq => rintro _ -; go_simp; try with_reducible rfl); try simp only [Act.put, zn1, zn2, zn3]
             refine tV 8 ?_ ?zq ?_; (case zq => intro w' hSw; have hCell := fun (b o : Nat) (h : b < W6.heap.size) => hSw.cell (p := ⟨b, o, none⟩) h; clear hSw; go_simp; try with_reducible rfl); try simp only [Act.put, zn1, zn2, zn3]
             refine tV 9 ?_ ?zq ?_; (case zq => rintro _ -; go_simp; try with_reducible rfl); try simp only [Act.put, zn1, zn2, zn3]
             refine tV 10 ?_ ?zq ?_; (case zq => rintro _ -; go_simp; try with_reducible rfl); try simp only [Act.put, zn1, zn2, zn3]
             refine tV 11 ?_ ?zq ?_; (case zq => rintro _ -; go_simp; try with_reducible rfl); try simp only [Act.put, zn1, zn2, zn3]
             refine tV 12 ?_ ?zq ?_; (case zq => rintro _ -; go_simp; try with_reducible rfl); try simp only [Act.put, zn1, zn2, zn3]
             refine tV 13 ?_ ?zq ?_; (case zq => intro w' hSw; have hCell := fun (b o : Nat) (h : b < W6.heap.size) => hSw.cell (p := ⟨b, o, none⟩) h; clear hSw; go_simp; try with_reducible rfl); try simp only [Act.put, zn1, zn2, zn3]
             refine tV 14 ?_ ?zq ?_; (case zq => rintro _ -; go_simp; try with_reducible rfl); try simp only [Act.put, zn1, zn2, zn3]
             refine tV 15 ?_ ?zq ?_; (case zq => intro w' hSw; have hCell := fun (b o : Nat) (h : b < W6.heap.size) => hSw.cell (p := ⟨b, o, none⟩) h; clear hSw; go_simp; try with_reducible rfl); try simp only [Act.put, zn1, zn2, zn3]
             refine tV 16 ?_ ?zq ?_; (case zq => rintro _ -; go_simp; try with_reducible rfl); try simp only [Act.put, zn1, zn2, zn3]
             refine tV 17 ?_ ?zq ?_; (case zq => rintro _ -; go_simp; try with_reducible rfl); try simp only [Act.put, zn1, zn2, zn3]
             refine tV 18 ?_ ?zq ?_; (case zq => rintro _ -; go_simp; try with_reducible rfl); try simp only [Act.put, zn1, zn2, zn3]
             refine tV 19 ?_ ?zq ?_; (case zq => rintro _ -; go_simp; try with_reducible rfl); try simp only [Act.put, zn1, zn2, zn3]
             refine tV 20 ?_ ?zq ?_; (case zq => intro w' hSw; have hCell := fun (b o : Nat) (h : b < W6.heap.size) => hSw.cell (p := ⟨b, o, none⟩) h; clear hSw; go_simp; try with_reducible rfl); try simp only [Act.put, zn1, zn2, zn3]
             refine tV 21 ?_ ?zq ?_; (case zq => rintro _ -; go_simp; try with_reducible rfl); try simp only [Act.put, zn1, zn2, zn3]
             refine tV 22 ?_ ?zq ?_; (case zq => rintro _ -; go_simp; try with_reducible rfl); try simp only [Act.put, zn1, zn2, zn3]
             refine tV 23 ?_ ?zq ?_; (case zq => rintro _ -; go_simp; try with_reducible rfl); try simp only [Act.put, zn1, zn2, zn3]
             refine tV 24 ?_ ?zq ?_; (case zq => rintro _ -; go_simp; try with_reducible rfl); try simp only [Act.put, zn1, zn2, zn3]
             refine tV 25 ?_ ?zq ?_; (case zq => intro w' hSw; have hCell := fun (b o : Nat) (h : b < W6.heap.size) => hSw.cell (p := ⟨b, o, none⟩) h; clear hSw; go_simp; try with_reducible rfl); try simp only [Act.put, zn1, zn2, zn3]
             refine tV 26 ?_ ?zq ?_; (case zq => rintro _ -; go_simp; try with_reducible rfl); try simp only [Act.put, zn1, zn2, zn3]
             refine tV 27 ?_ ?zq ?_; (case zq => rintro _ -; go_simp; try with_reducible rfl); try simp only [Act.put, zn1, zn2, zn3]
             refine tV 28 ?_ ?zq ?_; (case zq => rintro _ -; go_simp; try with_reducible rfl); try simp only [Act.put, zn1, zn2, zn3]
             refine tV 29 ?_ ?zq ?_; (case zq => rintro _ -; go_simp; try with_reducible rfl); try simp only [Act.put, zn1, zn2, zn3]
             refine tV 30 ?_ ?zq ?_; (case zq => rintro _ -; go_simp; try with_reducible rfl); try simp only [Act.put, zn1, zn2, zn3]
             refine tV 31 ?_ ?zq ?_; (case zq => rintro _ -; go_simp; try with_reducible rfl); try simp only [Act.put, zn1, zn2, zn3]
             refine tU 32 ?_; (try simp only [Act.put, zn1, zn2, zn3])
             refine tU 33 ?_; (try simp only [Act.put, zn1, zn2, zn3])
             refine tU 34 ?_; (try simp only [Act.put, zn1, zn2, zn3])
             refine tU 35 ?_; (try simp only [Act.put, zn1, zn2, zn3])
             refine tU 36 ?_; (try simp only [Act.put, zn1, zn2, zn3])
             refine tU 37 ?_; (try simp only [Act.put, zn1, zn2, zn3])
             refine tU 38 ?_; (try simp only [Act.put, zn1, zn2, zn3])
             refine tU 39 ?_; (try simp only [Act.put, zn1, zn2, zn3])
             refine tU 40 ?_; (try simp only [Act.put, zn1, zn2, zn3])
             refine tV 41 ?_ ?zq ?_; (case zq => rintro _ -; go_simp; try with_reducible rfl); try simp only [Act.put, zn1, zn2, zn3]
             refine tV 42 ?_ ?zq ?_; (case zq => rintro _ -; go_simp; try with_reducible rfl); try simp only [Act.put, zn1, zn2, zn3]
             refine wpAnyH_done (by kernel_rfl) ?_ _
             replace c0 := cellAt c0 hHeld (by omega)
             replace c1 := cellAt c1 hHeld (by omega)
             replace x0 := cellAt x0 hHeld (by omega)
             replace x1 := cellAt x1 hHeld (by omega)
             replace x2 := cellAt x2 hHeld (by omega)
             replace e0 := cellAt e0 hHeld (by omega)
             replace e1 := cellAt e1 hHeld (by omega)
             replace e2 := cellAt e2 hHeld (by omega)
             replace a0 := cellAt a0 hHeld (by omega)
             replace a1 := cellAt a1 hHeld (by omega)
             replace a2 := cellAt a2 hHeld (by omega)
             replace Hr := Lib.hid (Hr.out.at hHeld)
             replace Hn := Lib.hid (Hn.out.at hHeld)
             replace n1 : w.heap.size < (W6.drew).heap.size := ltAt n1 hHeld
             replace HB := Lib.hid (lift HB.out hHeld)
             replace Hb9 := Lib.hid (lift Hb9.out hHeld)
             replace hB : b < (W6.drew).heap.size := ltAt hB hHeld
             replace m1 : wr.heap.size < (W6.drew).heap.size := ltAt m1 hHeld
             replace m2 : v3.heap.size < (W6.drew).heap.size := ltAt m2 hHeld
             go_wp2_with fail
             go_roundw
             case rel => exact ⟨k + 1, by omega, by go_num, HE.out.step hlt (by rw [Hx.out]; exact HGd.out) (fun j e => absurd (HK0.out.symm.trans e) (by simp)), Hb9.out⟩
             case measure => simp [intOf]; omega
            ·obtain ⟨j, rfl⟩ : ∃ j, k = j + 1 := ⟨k - 1, by omega⟩
             obtain ⟨b', o', he, _, y0, y1, y2⟩ := Hr.out.edge (i := j) (by omega)
             injection he with he
             injection he with he1 he2
             subst he1 he2
             generalize hy : es[j] = y at y0 y1 y2
             obtain ⟨s', d', r'⟩ := y
             have Hy := Lib.hid hy
             clear hy
             simp only at y0 y1 y2
             have k3 : (j : Int) < (es.length : Int) := by omega
             have k4 : IntKind.i64.wrap (j : Int) = j := IntWalk.i64_in _ (by omega)
             have k5 : IntKind.i64.wrap ((j : Int) + 1) = (j : Int) + 1 := IntWalk.i64_in _ (by omega)
             have k6 : ((j : Int) + 1).toNat = j + 1 := by omega
             have k7 : (0 : Int) ≤ (j : Int) + 1 := by omega
             have k8 : IntKind.i64.wrap ((j : Int) + 1 - 1) = j := by rw [show (j : Int) + 1 - 1 = j from by omega]; exact k4
             have k9 : decide ((0 : Int) < (j : Int) + 1) = true := by rw [decide_eq_true_eq]; omega
             have k10 : (0 : Int) ≤ (j : Int) := by omega
             go_wp2_with fail
             first | (refine wp_named ?_; intro W6 hW) | (refine calls_named ?_; intro W6 hW)
             have B6 : Below v5.heap.size v5 W6 := by rw [hW]; exact bq2
             replace c0 := cellAt c0 B6 (by omega)
             replace c1 := cellAt c1 B6 (by omega)
             replace x0 := cellAt x0 B6 (by omega)
             replace x1 := cellAt x1 B6 (by omega)
             replace x2 := cellAt x2 B6 (by omega)
             replace e0 := cellAt e0 B6 (by omega)
             replace e1 := cellAt e1 B6 (by omega)
             replace e2 := cellAt e2 B6 (by omega)
             replace a0 := cellAt a0 B6 (by omega)
             replace a1 := cellAt a1 B6 (by omega)
             replace a2 := cellAt a2 B6 (by omega)
             replace y0 := cellAt y0 B6 (by omega)
             replace y1 := cellAt y1 B6 (by omega)
             replace y2 := cellAt y2 B6 (by omega)
             replace Hr := Lib.hid (Hr.out.at B6)
             replace Hn := Lib.hid (Hn.out.at B6)
             replace n1 : w.heap.size < W6.heap.size := ltAt n1 B6
             replace HB := Lib.hid (lift HB.out B6)
             replace Hb9 := Lib.hid (lift Hb9.out B6)
             replace hB : b < W6.heap.size := ltAt hB B6
             replace m1 : wr.heap.size < W6.heap.size := ltAt m1 B6
             replace m2 : v3.heap.size < W6.heap.size := ltAt m2 B6
             clear hW
             clear B6
             try go_wp2_with fail
             refine wp_region_held_drew (S := fun w' => Below W6.heap.size W6 w') (by kernel_rfl) (Below.drew (Below.refl _ _)) (fun hHeld => ?_)
             refine tV 0 ?_ ?zq ?_; (case zq => rintro _ -; go_simp; try with_reducible rfl); try simp only [Act.put, zn1, zn2, zn3]
             refine tV 1 ?_ ?zq ?_; (case zq => rintro _ -; go_simp; try with_reducible rfl); try simp only [Act.put, zn1, zn2, zn3]
             refine tV 2 ?_ ?zq ?_; (case zq => rintro _ -; go_simp; try with_reducible rfl); try simp only [Act.put, zn1, zn2, zn3]
             refine tV 3 ?_ ?zq ?_; (case zq => rintro _ -; go_simp; try with_reducible rfl); try simp only [Act.put, zn1, zn2, zn3]
             refine tV 4 ?_ ?zq ?_; (case zq => rintro _ -; go_simp; try with_reducible rfl); try simp only [Act.put, zn1, zn2, zn3]
             refine tV 5 ?_ ?zq ?_; (case zq => rintro _ -; go_simp; try with_reducible rfl); try simp only [Act.put, zn1, zn2, zn3]
             refine tV 6 ?_ ?zq ?_; (case zq => rintro _ -; go_simp; try with_reducible rfl); try simp only [Act.put, zn1, zn2, zn3]
             refine tV 7 ?_ ?zq ?_; (case zq => rintro _ -; go_simp; try with_reducible rfl); try simp only [Act.put, zn1, zn2, zn3]
             refine tV 8 ?_ ?zq ?_; (case zq => intro w' hSw; have hCell := fun (b o : Nat) (h : b < W6.heap.size) => hSw.cell (p := ⟨b, o, none⟩) h; clear hSw; go_simp; try with_reducible rfl); try simp only [Act.put, zn1, zn2, zn3]
             refine tV 9 ?_ ?zq ?_; (case zq => rintro _ -; go_simp; try with_reducible rfl); try simp only [Act.put, zn1, zn2, zn3]
             refine tV 10 ?_ ?zq ?_; (case zq => rintro _ -; go_simp; try with_reducible rfl); try simp only [Act.put, zn1, zn2, zn3]
             refine tV 11 ?_ ?zq ?_; (case zq => rintro _ -; go_simp; try with_reducible rfl); try simp only [Act.put, zn1, zn2, zn3]
             refine tV 12 ?_ ?zq ?_; (case zq => rintro _ -; go_simp; try with_reducible rfl); try simp only [Act.put, zn1, zn2, zn3]
             refine tV 13 ?_ ?zq ?_; (case zq => intro w' hSw; have hCell := fun (b o : Nat) (h : b < W6.heap.size) => hSw.cell (p := ⟨b, o, none⟩) h; clear hSw; go_simp; try with_reducible rfl); try simp only [Act.put, zn1, zn2, zn3]
             refine tV 14 ?_ ?zq ?_; (case zq => rintro _ -; go_simp; try with_reducible rfl); try simp only [Act.put, zn1, zn2, zn3]
             refine tV 15 ?_ ?zq ?_; (case zq => intro w' hSw; have hCell := fun (b o : Nat) (h : b < W6.heap.size) => hSw.cell (p := ⟨b, o, none⟩) h; clear hSw; go_simp; try with_reducible rfl); try simp only [Act.put, zn1, zn2, zn3]
             refine tV 16 ?_ ?zq ?_; (case zq => rintro _ -; go_simp; try with_reducible rfl); try simp only [Act.put, zn1, zn2, zn3]
             refine tV 17 ?_ ?zq ?_; (case zq => rintro _ -; go_simp; try with_reducible rfl); try simp only [Act.put, zn1, zn2, zn3]
             refine tV 18 ?_ ?zq ?_; (case zq => rintro _ -; go_simp; try with_reducible rfl); try simp only [Act.put, zn1, zn2, zn3]
             refine tV 19 ?_ ?zq ?_; (case zq => rintro _ -; go_simp; try with_reducible rfl); try simp only [Act.put, zn1, zn2, zn3]
             refine tV 20 ?_ ?zq ?_; (case zq => intro w' hSw; have hCell := fun (b o : Nat) (h : b < W6.heap.size) => hSw.cell (p := ⟨b, o, none⟩) h; clear hSw; go_simp; try with_reducible rfl); try simp only [Act.put, zn1, zn2, zn3]
             refine tV 21 ?_ ?zq ?_; (case zq => rintro _ -; go_simp; try with_reducible rfl); try simp only [Act.put, zn1, zn2, zn3]
             refine tV 22 ?_ ?zq ?_; (case zq => rintro _ -; go_simp; try with_reducible rfl); try simp only [Act.put, zn1, zn2, zn3]
             refine tV 23 ?_ ?zq ?_; (case zq => rintro _ -; go_simp; try with_reducible rfl); try simp only [Act.put, zn1, zn2, zn3]
             refine tV 24 ?_ ?zq ?_; (case zq => rintro _ -; go_simp; try with_reducible rfl); try simp only [Act.put, zn1, zn2, zn3]
             refine tV 25 ?_ ?zq ?_; (case zq => intro w' hSw; have hCell := fun (b o : Nat) (h : b < W6.heap.size) => hSw.cell (p := ⟨b, o, none⟩) h; clear hSw; go_simp; try with_reducible rfl); try simp only [Act.put, zn1, zn2, zn3]
             refine tV 26 ?_ ?zq ?_; (case zq => rintro _ -; go_simp; try with_reducible rfl); try simp only [Act.put, zn1, zn2, zn3]
             refine tV 27 ?_ ?zq ?_; (case zq => rintro _ -; go_simp; try with_reducible rfl); try simp only [Act.put, zn1, zn2, zn3]
             refine tV 28 ?_ ?zq ?_; (case zq => rintro _ -; go_simp; try with_reducible rfl); try simp only [Act.put, zn1, zn2, zn3]
             refine tV 29 ?_ ?zq ?_; (case zq => rintro _ -; go_simp; try with_reducible rfl); try simp only [Act.put, zn1, zn2, zn3]
             refine tV 30 ?_ ?zq ?_; (case zq => rintro _ -; go_simp; try with_reducible rfl); try simp only [Act.put, zn1, zn2, zn3]
             refine tV 31 ?_ ?zq ?_; (case zq => rintro _ -; go_simp; try with_reducible rfl); try simp only [Act.put, zn1, zn2, zn3]
             refine tV 32 ?_ ?zq ?_; (case zq => rintro _ -; go_simp; try with_reducible rfl); try simp only [Act.put, zn1, zn2, zn3]
             refine tV 33 ?_ ?zq ?_; (case zq => intro w' hSw; have hCell := fun (b o : Nat) (h : b < W6.heap.size) => hSw.cell (p := ⟨b, o, none⟩) h; clear hSw; go_simp; try with_reducible rfl); try simp only [Act.put, zn1, zn2, zn3]
             refine tV 34 ?_ ?zq ?_; (case zq => rintro _ -; go_simp; try with_reducible rfl); try simp only [Act.put, zn1, zn2, zn3]
             refine tV 35 ?_ ?zq ?_; (case zq => rintro _ -; go_simp; try with_reducible rfl); try simp only [Act.put, zn1, zn2, zn3]
             refine tV 36 ?_ ?zq ?_; (case zq => rintro _ -; go_simp; try with_reducible rfl); try simp only [Act.put, zn1, zn2, zn3]
             refine tV 37 ?_ ?zq ?_; (case zq => intro w' hSw; have hCell := fun (b o : Nat) (h : b < W6.heap.size) => hSw.cell (p := ⟨b, o, none⟩) h; clear hSw; go_simp; try with_reducible rfl); try simp only [Act.put, zn1, zn2, zn3]
             refine tV 38 ?_ ?zq ?_; (case zq => intro w' hSw; have hCell := fun (b o : Nat) (h : b < W6.heap.size) => hSw.cell (p := ⟨b, o, none⟩) h; clear hSw; go_simp; try with_reducible rfl); try simp only [Act.put, zn1, zn2, zn3]
             refine ready_one (i := 39) rfl (by kernel_rfl) (fun K hK => ?_)
             go_simp
             refine (less15_any s' d' s d r' r _).mono ?_
             rintro e v7 ⟨rfl, hb⟩
             refine hK.out _ _ ?_ (fun hHeld2 => ?_)
             ·(try dsimp only); first | exact Below.trans hHeld (Below.mono hb hHeld.size) | exact hHeld | exact Below.drew hHeld | exact bq2
             clear hK K hHeld; have hHeld := hHeld2; clear hHeld2; (try simp only [Act.put, zn1, zn2, zn3])
             refine tV 40 ?_ ?zq ?_; (case zq => rintro _ -; go_simp; try with_reducible rfl); try simp only [Act.put, zn1, zn2, zn3]
             refine tV 41 ?_ ?zq ?_; (case zq => rintro _ -; go_simp; try with_reducible rfl); try simp only [Act.put, zn1, zn2, zn3]
             refine tV 42 ?_ ?zq ?_; (case zq => rintro _ -; go_simp; try with_reducible rfl); try simp only [Act.put, zn1, zn2, zn3]
             refine wpAnyH_done (by kernel_rfl) ?_ _
             replace c0 := cellAt c0 hHeld (by omega)
             replace c1 := cellAt c1 hHeld (by omega)
             replace x0 := cellAt x0 hHeld (by omega)
             replace x1 := cellAt x1 hHeld (by omega)
             replace x2 := cellAt x2 hHeld (by omega)
             replace e0 := cellAt e0 hHeld (by omega)
             replace e1 := cellAt e1 hHeld (by omega)
             replace e2 := cellAt e2 hHeld (by omega)
             replace a0 := cellAt a0 hHeld (by omega)
             replace a1 := cellAt a1 hHeld (by omega)
             replace a2 := cellAt a2 hHeld (by omega)
             replace y0 := cellAt y0 hHeld (by omega)
             replace y1 := cellAt y1 hHeld (by omega)
             replace y2 := cellAt y2 hHeld (by omega)
             replace Hr := Lib.hid (Hr.out.at hHeld)
             replace Hn := Lib.hid (Hn.out.at hHeld)
             replace n1 : w.heap.size < v7.heap.size := ltAt n1 hHeld
             replace HB := Lib.hid (lift HB.out hHeld)
             replace Hb9 := Lib.hid (lift Hb9.out hHeld)
             replace hB : b < v7.heap.size := ltAt hB hHeld
             replace m1 : wr.heap.size < v7.heap.size := ltAt m1 hHeld
             replace m2 : v3.heap.size < v7.heap.size := ltAt m2 hHeld
             clear hHeld
             cases hlt' : ltE (s', d', r') (s, d, r)
             ·have Hm := Lib.hid (mayG_eup (ns := ns) (k := j) hlt (by rw [Hx.out, Hy.out]; exact hlt'))
              go_wp2_with fail
              go_ret
              exact ⟨ret_bool (by rw [Hm.out]), HB.out⟩
             ·have HL : Hid (∀ i (e : j + 1 = i + 1), ltE (es[i]'(by omega)) es[j + 1] = true) := Lib.hid (fun i e => by
               obtain rfl : i = j := by omega
               rw [Hx.out, Hy.out]; exact hlt')
              go_wp2_with fail
              go_roundw
              case rel => exact ⟨j + 1 + 1, by omega, by go_num, HE.out.step hlt (by rw [Hx.out]; exact HGd.out) HL.out, Hb9.out⟩
              case measure => simp [intOf]; omega
         ·have Hm := Lib.hid (mayG_e (ns := ns) hlt (by rw [Hx.out, HV.out, hsd]; simp))
          go_wp2_with fail
          first | (refine wp_named ?_; intro W6 hW) | (refine calls_named ?_; intro W6 hW)
          have B6 : Below v5.heap.size v5 W6 := by rw [hW]; exact bq2
          replace c0 := cellAt c0 B6 (by omega)
          replace c1 := cellAt c1 B6 (by omega)
          replace x0 := cellAt x0 B6 (by omega)
          replace x1 := cellAt x1 B6 (by omega)
          replace x2 := cellAt x2 B6 (by omega)
          replace e0 := cellAt e0 B6 (by omega)
          replace e1 := cellAt e1 B6 (by omega)
          replace e2 := cellAt e2 B6 (by omega)
          replace a0 := cellAt a0 B6 (by omega)
          replace a1 := cellAt a1 B6 (by omega)
          replace a2 := cellAt a2 B6 (by omega)
          replace Hr := Lib.hid (Hr.out.at B6)
          replace Hn := Lib.hid (Hn.out.at B6)
          replace n1 : w.heap.size < W6.heap.size := ltAt n1 B6
          replace HB := Lib.hid (lift HB.out B6)
          replace Hb9 := Lib.hid (lift Hb9.out B6)
          replace hB : b < W6.heap.size := ltAt hB B6
          replace m1 : wr.heap.size < W6.heap.size := ltAt m1 B6
          replace m2 : v3.heap.size < W6.heap.size := ltAt m2 B6
          clear hW
          clear B6
          try go_wp2_with fail
          refine wp_region_held_drew (S := fun w' => Below W6.heap.size W6 w') (by kernel_rfl) (Below.drew (Below.refl _ _)) (fun hHeld => ?_)
          refine tV 0 ?_ ?zq ?_; (case zq => rintro _ -; go_simp; try with_reducible rfl); try simp only [Act.put, zn1, zn2, zn3]
          refine tV 1 ?_ ?zq ?_; (case zq => rintro _ -; go_simp; try with_reducible rfl); try simp only [Act.put, zn1, zn2, zn3]
          refine tV 2 ?_ ?zq ?_; (case zq => rintro _ -; go_simp; try with_reducible rfl); try simp only [Act.put, zn1, zn2, zn3]
          refine tV 3 ?_ ?zq ?_; (case zq => rintro _ -; go_simp; try with_reducible rfl); try simp only [Act.put, zn1, zn2, zn3]
          refine tV 4 ?_ ?zq ?_; (case zq => rintro _ -; go_simp; try with_reducible rfl); try simp only [Act.put, zn1, zn2, zn3]
          refine tV 5 ?_ ?zq ?_; (case zq => rintro _ -; go_simp; try with_reducible rfl); try simp only [Act.put, zn1, zn2, zn3]
          refine tV 6 ?_ ?zq ?_; (case zq => rintro _ -; go_simp; try with_reducible rfl); try simp only [Act.put, zn1, zn2, zn3]
          refine tV 7 ?_ ?zq ?_; (case zq => rintro _ -; go_simp; try with_reducible rfl); try simp only [Act.put, zn1, zn2, zn3]
          refine tV 8 ?_ ?zq ?_; (case zq => intro w' hSw; have hCell := fun (b o : Nat) (h : b < W6.heap.size) => hSw.cell (p := ⟨b, o, none⟩) h; clear hSw; go_simp; try with_reducible rfl); try simp only [Act.put, zn1, zn2, zn3]
          refine tV 9 ?_ ?zq ?_; (case zq => rintro _ -; go_simp; try with_reducible rfl); try simp only [Act.put, zn1, zn2, zn3]
          refine tV 10 ?_ ?zq ?_; (case zq => rintro _ -; go_simp; try with_reducible rfl); try simp only [Act.put, zn1, zn2, zn3]
          refine tV 11 ?_ ?zq ?_; (case zq => rintro _ -; go_simp; try with_reducible rfl); try simp only [Act.put, zn1, zn2, zn3]
          refine tV 12 ?_ ?zq ?_; (case zq => rintro _ -; go_simp; try with_reducible rfl); try simp only [Act.put, zn1, zn2, zn3]
          refine tV 13 ?_ ?zq ?_; (case zq => intro w' hSw; have hCell := fun (b o : Nat) (h : b < W6.heap.size) => hSw.cell (p := ⟨b, o, none⟩) h; clear hSw; go_simp; try with_reducible rfl); try simp only [Act.put, zn1, zn2, zn3]
          refine tV 14 ?_ ?zq ?_; (case zq => rintro _ -; go_simp; try with_reducible rfl); try simp only [Act.put, zn1, zn2, zn3]
          refine tV 15 ?_ ?zq ?_; (case zq => intro w' hSw; have hCell := fun (b o : Nat) (h : b < W6.heap.size) => hSw.cell (p := ⟨b, o, none⟩) h; clear hSw; go_simp; try with_reducible rfl); try simp only [Act.put, zn1, zn2, zn3]
          refine tV 16 ?_ ?zq ?_; (case zq => rintro _ -; go_simp; try with_reducible rfl); try simp only [Act.put, zn1, zn2, zn3]
          refine tV 17 ?_ ?zq ?_; (case zq => rintro _ -; go_simp; try with_reducible rfl); try simp only [Act.put, zn1, zn2, zn3]
          refine tV 18 ?_ ?zq ?_; (case zq => rintro _ -; go_simp; try with_reducible rfl); try simp only [Act.put, zn1, zn2, zn3]
          refine tU 19 ?_; (try simp only [Act.put, zn1, zn2, zn3])
          refine tU 20 ?_; (try simp only [Act.put, zn1, zn2, zn3])
          refine tU 21 ?_; (try simp only [Act.put, zn1, zn2, zn3])
          refine tV 22 ?_ ?zq ?_; (case zq => rintro _ -; go_simp; try with_reducible rfl); try simp only [Act.put, zn1, zn2, zn3]
          refine tV 23 ?_ ?zq ?_; (case zq => rintro _ -; go_simp; try with_reducible rfl); try simp only [Act.put, zn1, zn2, zn3]
          refine tU 24 ?_; (try simp only [Act.put, zn1, zn2, zn3])
          refine tU 25 ?_; (try simp only [Act.put, zn1, zn2, zn3])
          refine tU 26 ?_; (try simp only [Act.put, zn1, zn2, zn3])
          refine tV 27 ?_ ?zq ?_; (case zq => rintro _ -; go_simp; try with_reducible rfl); try simp only [Act.put, zn1, zn2, zn3]
          refine tV 28 ?_ ?zq ?_; (case zq => rintro _ -; go_simp; try with_reducible rfl); try simp only [Act.put, zn1, zn2, zn3]
          refine tU 29 ?_; (try simp only [Act.put, zn1, zn2, zn3])
          refine tU 30 ?_; (try simp only [Act.put, zn1, zn2, zn3])
          refine tU 31 ?_; (try simp only [Act.put, zn1, zn2, zn3])
          refine tU 32 ?_; (try simp only [Act.put, zn1, zn2, zn3])
          refine tU 33 ?_; (try simp only [Act.put, zn1, zn2, zn3])
          refine tU 34 ?_; (try simp only [Act.put, zn1, zn2, zn3])
          refine tU 35 ?_; (try simp only [Act.put, zn1, zn2, zn3])
          refine tU 36 ?_; (try simp only [Act.put, zn1, zn2, zn3])
          refine tU 37 ?_; (try simp only [Act.put, zn1, zn2, zn3])
          refine tU 38 ?_; (try simp only [Act.put, zn1, zn2, zn3])
          refine tU 39 ?_; (try simp only [Act.put, zn1, zn2, zn3])
          refine tU 40 ?_; (try simp only [Act.put, zn1, zn2, zn3])
          refine tU 41 ?_; (try simp only [Act.put, zn1, zn2, zn3])
          refine tV 42 ?_ ?zq ?_; (case zq => rintro _ -; go_simp; try with_reducible rfl); try simp only [Act.put, zn1, zn2, zn3]
          refine wpAnyH_done (by kernel_rfl) ?_ _
          go_wp2_with fail
          go_ret
          exact ⟨ret_bool (by rw [Hm.out]), HB.out.trans (hHeld.mono HB.out.size)⟩
       ·go_wp2_with fail
        first | (refine wp_named ?_; intro W2 hW) | (refine calls_named ?_; intro W2 hW)
        have B2 : Below wr.heap.size wr W2 := by rw [hW]; exact bq2
        replace c0 := cellAt c0 B2 (by omega)
        replace c1 := cellAt c1 B2 (by omega)
        replace x0 := cellAt x0 B2 (by omega)
        replace x1 := cellAt x1 B2 (by omega)
        replace x2 := cellAt x2 B2 (by omega)
        replace Hr := Lib.hid (Hr.out.at B2)
        replace Hn := Lib.hid (Hn.out.at B2)
        replace n1 : w.heap.size < W2.heap.size := ltAt n1 B2
        replace HB := Lib.hid (lift HB.out B2)
        replace Hb9 := Lib.hid (lift Hb9.out B2)
        replace hB : b < W2.heap.size := ltAt hB B2
        have m1 : wr.heap.size < W2.heap.size := by rw [hW]; simp <;> omega
        have e0 : W2.cell? ⟨wr.heap.size, 0, none⟩ = some (sv s) := by rw [hW]; go_simp
        have e1 : W2.cell? ⟨wr.heap.size, 1, none⟩ = some (sv d) := by rw [hW]; go_simp
        have e2 : W2.cell? ⟨wr.heap.size, 2, none⟩ = some (.int .i64 r) := by rw [hW]; go_simp
        clear hW
        clear B2
        refine (Node15_any An (some ⟨b, o, none⟩) es.length cn ce ns s W2 Hn.out (by omega)).mono ?_
        rintro e v3 ⟨rfl, hb⟩
        replace c0 := cellAt c0 hb (by omega)
        replace c1 := cellAt c1 hb (by omega)
        replace x0 := cellAt x0 hb (by omega)
        replace x1 := cellAt x1 hb (by omega)
        replace x2 := cellAt x2 hb (by omega)
        replace e0 := cellAt e0 hb (by omega)
        replace e1 := cellAt e1 hb (by omega)
        replace e2 := cellAt e2 hb (by omega)
        replace Hr := Lib.hid (Hr.out.at hb)
        replace Hn := Lib.hid (Hn.out.at hb)
        replace n1 : w.heap.size < v3.heap.size := ltAt n1 hb
        replace HB := Lib.hid (lift HB.out hb)
        replace Hb9 := Lib.hid (lift Hb9.out hb)
        replace hB : b < v3.heap.size := ltAt hB hb
        replace m1 : wr.heap.size < v3.heap.size := ltAt m1 hb
        clear hb
        have HEq := Lib.hid HEK.out
        obtain ⟨on, hon⟩ : ∃ on, nodeOf ns s = on := ⟨_, rfl⟩
        obtain ⟨od, hod⟩ : ∃ od, nodeOf ns d = od := ⟨_, rfl⟩
        rw [hon]
        have HV := Lib.hid (show edgeOk ns (s, d, r) = (on.isSome && (od.isSome && (!(s == d) && ((on.getD ([], 0, 0)).2.2 == 1 && (!decide (r < 1) && !decide (10 < r)))))) by rw [HEq.out, hon, hod])
        have HON := Lib.hid hon
        have HOD := Lib.hid hod
        clear hon hod HEq
        unfold nodeV
        generalize hgs : on.getD ([], 0, 0) = gs at *
        obtain ⟨gn, gk, gt⟩ := gs
        have HGS := Lib.hid hgs
        clear hgs
        go_wp2_with fail
        first | (refine wp_named ?_; intro W4 hW) | (refine calls_named ?_; intro W4 hW)
        have B4 : Below v3.heap.size v3 W4 := by rw [hW]; exact bq2
        replace c0 := cellAt c0 B4 (by omega)
        replace c1 := cellAt c1 B4 (by omega)
        replace x0 := cellAt x0 B4 (by omega)
        replace x1 := cellAt x1 B4 (by omega)
        replace x2 := cellAt x2 B4 (by omega)
        replace e0 := cellAt e0 B4 (by omega)
        replace e1 := cellAt e1 B4 (by omega)
        replace e2 := cellAt e2 B4 (by omega)
        replace Hr := Lib.hid (Hr.out.at B4)
        replace Hn := Lib.hid (Hn.out.at B4)
        replace n1 : w.heap.size < W4.heap.size := ltAt n1 B4
        replace HB := Lib.hid (lift HB.out B4)
        replace Hb9 := Lib.hid (lift Hb9.out B4)
        replace hB : b < W4.heap.size := ltAt hB B4
        replace m1 : wr.heap.size < W4.heap.size := ltAt m1 B4
        have m2 : v3.heap.size < W4.heap.size := by rw [hW]; simp <;> omega
        have a0 : W4.cell? ⟨v3.heap.size, 0, none⟩ = some (sv gn) := by rw [hW]; go_simp
        have a1 : W4.cell? ⟨v3.heap.size, 1, none⟩ = some (.int .i64 gk) := by rw [hW]; go_simp
        have a2 : W4.cell? ⟨v3.heap.size, 2, none⟩ = some (.int .i64 gt) := by rw [hW]; go_simp
        clear hW
        clear B4
        refine (Node15_any An (some ⟨b, o, none⟩) es.length cn ce ns d W4 Hn.out (by omega)).mono ?_
        rintro e v5 ⟨rfl, hb⟩
        replace c0 := cellAt c0 hb (by omega)
        replace c1 := cellAt c1 hb (by omega)
        replace x0 := cellAt x0 hb (by omega)
        replace x1 := cellAt x1 hb (by omega)
        replace x2 := cellAt x2 hb (by omega)
        replace e0 := cellAt e0 hb (by omega)
        replace e1 := cellAt e1 hb (by omega)
        replace e2 := cellAt e2 hb (by omega)
        replace a0 := cellAt a0 hb (by omega)
        replace a1 := cellAt a1 hb (by omega)
        replace a2 := cellAt a2 hb (by omega)
        replace Hr := Lib.hid (Hr.out.at hb)
        replace Hn := Lib.hid (Hn.out.at hb)
        replace n1 : w.heap.size < v5.heap.size := ltAt n1 hb
        replace HB := Lib.hid (lift HB.out hb)
        replace Hb9 := Lib.hid (lift Hb9.out hb)
        replace hB : b < v5.heap.size := ltAt hB hb
        replace m1 : wr.heap.size < v5.heap.size := ltAt m1 hb
        replace m2 : v3.heap.size < v5.heap.size := ltAt m2 hb
        clear hb
        rw [HOD.out]
        unfold nodeV
        generalize od.getD ([], 0, 0) = gd at *
        obtain ⟨dn, dk, dt⟩ := gd
        have hv1 : on.isSome = true := by rw [← HON.out]; exact hs0
        have hv2 : od.isSome = false := by rw [← HOD.out]; simpa using hd0
        clear hs0 hd0
        have Hm := Lib.hid (mayG_e (ns := ns) hlt (by rw [Hx.out, HV.out, hv2]; simp))
        go_wp2_with fail
        first | (refine wp_named ?_; intro W6 hW) | (refine calls_named ?_; intro W6 hW)
        have B6 : Below v5.heap.size v5 W6 := by rw [hW]; exact bq2
        replace c0 := cellAt c0 B6 (by omega)
        replace c1 := cellAt c1 B6 (by omega)
        replace x0 := cellAt x0 B6 (by omega)
        replace x1 := cellAt x1 B6 (by omega)
        replace x2 := cellAt x2 B6 (by omega)
        replace e0 := cellAt e0 B6 (by omega)
        replace e1 := cellAt e1 B6 (by omega)
        replace e2 := cellAt e2 B6 (by omega)
        replace a0 := cellAt a0 B6 (by omega)
        replace a1 := cellAt a1 B6 (by omega)
        replace a2 := cellAt a2 B6 (by omega)
        replace Hr := Lib.hid (Hr.out.at B6)
        replace Hn := Lib.hid (Hn.out.at B6)
        replace n1 : w.heap.size < W6.heap.size := ltAt n1 B6
        replace HB := Lib.hid (lift HB.out B6)
        replace Hb9 := Lib.hid (lift Hb9.out B6)
        replace hB : b < W6.heap.size := ltAt hB B6
        replace m1 : wr.heap.size < W6.heap.size := ltAt m1 B6
        replace m2 : v3.heap.size < W6.heap.size := ltAt m2 B6
        clear hW
        clear B6
        try go_wp2_with fail
        refine wp_region_held_drew (S := fun w' => Below W6.heap.size W6 w') (by kernel_rfl) (Below.drew (Below.refl _ _)) (fun hHeld => ?_)
        refine tV 0 ?_ ?zq ?_; (case zq => rintro _ -; go_simp; try with_reducible rfl); try simp only [Act.put, zn1, zn2, zn3]
        refine tV 1 ?_ ?zq ?_; (case zq => rintro _ -; go_simp; try with_reducible rfl); try simp only [Act.put, zn1, zn2, zn3]
        refine tV 2 ?_ ?zq ?_; (case zq => rintro _ -; go_simp; try with_reducible rfl); try simp only [Act.put, zn1, zn2, zn3]
        refine tV 3 ?_ ?zq ?_; (case zq => rintro _ -; go_simp; try with_reducible rfl); try simp only [Act.put, zn1, zn2, zn3]
        refine tV 4 ?_ ?zq ?_; (case zq => rintro _ -; go_simp; try with_reducible rfl); try simp only [Act.put, zn1, zn2, zn3]
        refine tV 5 ?_ ?zq ?_; (case zq => rintro _ -; go_simp; try with_reducible rfl); try simp only [Act.put, zn1, zn2, zn3]
        refine tV 6 ?_ ?zq ?_; (case zq => rintro _ -; go_simp; try with_reducible rfl); try simp only [Act.put, zn1, zn2, zn3]
        refine tU 7 ?_; (try simp only [Act.put, zn1, zn2, zn3])
        refine tU 8 ?_; (try simp only [Act.put, zn1, zn2, zn3])
        refine tU 9 ?_; (try simp only [Act.put, zn1, zn2, zn3])
        refine tV 10 ?_ ?zq ?_; (case zq => rintro _ -; go_simp; try with_reducible rfl); try simp only [Act.put, zn1, zn2, zn3]
        refine tV 11 ?_ ?zq ?_; (case zq => rintro _ -; go_simp; try with_reducible rfl); try simp only [Act.put, zn1, zn2, zn3]
        refine tU 12 ?_; (try simp only [Act.put, zn1, zn2, zn3])
        refine tU 13 ?_; (try simp only [Act.put, zn1, zn2, zn3])
        refine tU 14 ?_; (try simp only [Act.put, zn1, zn2, zn3])
        refine tU 15 ?_; (try simp only [Act.put, zn1, zn2, zn3])
        refine tU 16 ?_; (try simp only [Act.put, zn1, zn2, zn3])
        refine tV 17 ?_ ?zq ?_; (case zq => rintro _ -; go_simp; try with_reducible rfl); try simp only [Act.put, zn1, zn2, zn3]
        refine tV 18 ?_ ?zq ?_; (case zq => rintro _ -; go_simp; try with_reducible rfl); try simp only [Act.put, zn1, zn2, zn3]
        refine tU 19 ?_; (try simp only [Act.put, zn1, zn2, zn3])
        refine tU 20 ?_; (try simp only [Act.put, zn1, zn2, zn3])
        refine tU 21 ?_; (try simp only [Act.put, zn1, zn2, zn3])
        refine tV 22 ?_ ?zq ?_; (case zq => rintro _ -; go_simp; try with_reducible rfl); try simp only [Act.put, zn1, zn2, zn3]
        refine tV 23 ?_ ?zq ?_; (case zq => rintro _ -; go_simp; try with_reducible rfl); try simp only [Act.put, zn1, zn2, zn3]
        refine tU 24 ?_; (try simp only [Act.put, zn1, zn2, zn3])
        refine tU 25 ?_; (try simp only [Act.put, zn1, zn2, zn3])
        refine tU 26 ?_; (try simp only [Act.put, zn1, zn2, zn3])
        refine tV 27 ?_ ?zq ?_; (case zq => rintro _ -; go_simp; try with_reducible rfl); try simp only [Act.put, zn1, zn2, zn3]
        refine tV 28 ?_ ?zq ?_; (case zq => rintro _ -; go_simp; try with_reducible rfl); try simp only [Act.put, zn1, zn2, zn3]
        refine tU 29 ?_; (try simp only [Act.put, zn1, zn2, zn3])
        refine tU 30 ?_; (try simp only [Act.put, zn1, zn2, zn3])
        refine tU 31 ?_; (try simp only [Act.put, zn1, zn2, zn3])
        refine tU 32 ?_; (try simp only [Act.put, zn1, zn2, zn3])
        refine tU 33 ?_; (try simp only [Act.put, zn1, zn2, zn3])
        refine tU 34 ?_; (try simp only [Act.put, zn1, zn2, zn3])
        refine tU 35 ?_; (try simp only [Act.put, zn1, zn2, zn3])
        refine tU 36 ?_; (try simp only [Act.put, zn1, zn2, zn3])
        refine tU 37 ?_; (try simp only [Act.put, zn1, zn2, zn3])
        refine tU 38 ?_; (try simp only [Act.put, zn1, zn2, zn3])
        refine tU 39 ?_; (try simp only [Act.put, zn1, zn2, zn3])
        refine tU 40 ?_; (try simp only [Act.put, zn1, zn2, zn3])
        refine tU 41 ?_; (try simp only [Act.put, zn1, zn2, zn3])
        refine tV 42 ?_ ?zq ?_; (case zq => rintro _ -; go_simp; try with_reducible rfl); try simp only [Act.put, zn1, zn2, zn3]
        refine wpAnyH_done (by kernel_rfl) ?_ _
        go_wp2_with fail
        go_ret
        exact ⟨ret_bool (by rw [Hm.out]), HB.out.trans (hHeld.mono HB.out.size)⟩
      ·have hs1 : (nodeOf ns s).isSome = false := by simpa using hs0
       go_wp2_with fail
       first | (refine wp_named ?_; intro W2 hW) | (refine calls_named ?_; intro W2 hW)
       have B2 : Below wr.heap.size wr W2 := by rw [hW]; exact bq2
       replace c0 := cellAt c0 B2 (by omega)
       replace c1 := cellAt c1 B2 (by omega)
       replace x0 := cellAt x0 B2 (by omega)
       replace x1 := cellAt x1 B2 (by omega)
       replace x2 := cellAt x2 B2 (by omega)
       replace Hr := Lib.hid (Hr.out.at B2)
       replace Hn := Lib.hid (Hn.out.at B2)
       replace n1 : w.heap.size < W2.heap.size := ltAt n1 B2
       replace HB := Lib.hid (lift HB.out B2)
       replace Hb9 := Lib.hid (lift Hb9.out B2)
       replace hB : b < W2.heap.size := ltAt hB B2
       have m1 : wr.heap.size < W2.heap.size := by rw [hW]; simp <;> omega
       have e0 : W2.cell? ⟨wr.heap.size, 0, none⟩ = some (sv s) := by rw [hW]; go_simp
       have e1 : W2.cell? ⟨wr.heap.size, 1, none⟩ = some (sv d) := by rw [hW]; go_simp
       have e2 : W2.cell? ⟨wr.heap.size, 2, none⟩ = some (.int .i64 r) := by rw [hW]; go_simp
       clear hW
       clear B2
       refine (Node15_any An (some ⟨b, o, none⟩) es.length cn ce ns s W2 Hn.out (by omega)).mono ?_
       rintro e v3 ⟨rfl, hb⟩
       replace c0 := cellAt c0 hb (by omega)
       replace c1 := cellAt c1 hb (by omega)
       replace x0 := cellAt x0 hb (by omega)
       replace x1 := cellAt x1 hb (by omega)
       replace x2 := cellAt x2 hb (by omega)
       replace e0 := cellAt e0 hb (by omega)
       replace e1 := cellAt e1 hb (by omega)
       replace e2 := cellAt e2 hb (by omega)
       replace Hr := Lib.hid (Hr.out.at hb)
       replace Hn := Lib.hid (Hn.out.at hb)
       replace n1 : w.heap.size < v3.heap.size := ltAt n1 hb
       replace HB := Lib.hid (lift HB.out hb)
       replace Hb9 := Lib.hid (lift Hb9.out hb)
       replace hB : b < v3.heap.size := ltAt hB hb
       replace m1 : wr.heap.size < v3.heap.size := ltAt m1 hb
       clear hb
       have HEq := Lib.hid HEK.out
       obtain ⟨on, hon⟩ : ∃ on, nodeOf ns s = on := ⟨_, rfl⟩
       obtain ⟨od, hod⟩ : ∃ od, nodeOf ns d = od := ⟨_, rfl⟩
       rw [hon]
       have HV := Lib.hid (show edgeOk ns (s, d, r) = (on.isSome && (od.isSome && (!(s == d) && ((on.getD ([], 0, 0)).2.2 == 1 && (!decide (r < 1) && !decide (10 < r)))))) by rw [HEq.out, hon, hod])
       have HON := Lib.hid hon
       have HOD := Lib.hid hod
       clear hon hod HEq
       unfold nodeV
       generalize hgs : on.getD ([], 0, 0) = gs at *
       obtain ⟨gn, gk, gt⟩ := gs
       have HGS := Lib.hid hgs
       clear hgs
       go_wp2_with fail
       first | (refine wp_named ?_; intro W4 hW) | (refine calls_named ?_; intro W4 hW)
       have B4 : Below v3.heap.size v3 W4 := by rw [hW]; exact bq2
       replace c0 := cellAt c0 B4 (by omega)
       replace c1 := cellAt c1 B4 (by omega)
       replace x0 := cellAt x0 B4 (by omega)
       replace x1 := cellAt x1 B4 (by omega)
       replace x2 := cellAt x2 B4 (by omega)
       replace e0 := cellAt e0 B4 (by omega)
       replace e1 := cellAt e1 B4 (by omega)
       replace e2 := cellAt e2 B4 (by omega)
       replace Hr := Lib.hid (Hr.out.at B4)
       replace Hn := Lib.hid (Hn.out.at B4)
       replace n1 : w.heap.size < W4.heap.size := ltAt n1 B4
       replace HB := Lib.hid (lift HB.out B4)
       replace Hb9 := Lib.hid (lift Hb9.out B4)
       replace hB : b < W4.heap.size := ltAt hB B4
       replace m1 : wr.heap.size < W4.heap.size := ltAt m1 B4
       have m2 : v3.heap.size < W4.heap.size := by rw [hW]; simp <;> omega
       have a0 : W4.cell? ⟨v3.heap.size, 0, none⟩ = some (sv gn) := by rw [hW]; go_simp
       have a1 : W4.cell? ⟨v3.heap.size, 1, none⟩ = some (.int .i64 gk) := by rw [hW]; go_simp
       have a2 : W4.cell? ⟨v3.heap.size, 2, none⟩ = some (.int .i64 gt) := by rw [hW]; go_simp
       clear hW
       clear B4
       refine (Node15_any An (some ⟨b, o, none⟩) es.length cn ce ns d W4 Hn.out (by omega)).mono ?_
       rintro e v5 ⟨rfl, hb⟩
       replace c0 := cellAt c0 hb (by omega)
       replace c1 := cellAt c1 hb (by omega)
       replace x0 := cellAt x0 hb (by omega)
       replace x1 := cellAt x1 hb (by omega)
       replace x2 := cellAt x2 hb (by omega)
       replace e0 := cellAt e0 hb (by omega)
       replace e1 := cellAt e1 hb (by omega)
       replace e2 := cellAt e2 hb (by omega)
       replace a0 := cellAt a0 hb (by omega)
       replace a1 := cellAt a1 hb (by omega)
       replace a2 := cellAt a2 hb (by omega)
       replace Hr := Lib.hid (Hr.out.at hb)
       replace Hn := Lib.hid (Hn.out.at hb)
       replace n1 : w.heap.size < v5.heap.size := ltAt n1 hb
       replace HB := Lib.hid (lift HB.out hb)
       replace Hb9 := Lib.hid (lift Hb9.out hb)
       replace hB : b < v5.heap.size := ltAt hB hb
       replace m1 : wr.heap.size < v5.heap.size := ltAt m1 hb
       replace m2 : v3.heap.size < v5.heap.size := ltAt m2 hb
       clear hb
       rw [HOD.out]
       unfold nodeV
       generalize od.getD ([], 0, 0) = gd at *
       obtain ⟨dn, dk, dt⟩ := gd
       have hv1 : on.isSome = false := by rw [← HON.out]; exact hs1
       clear hs0 hs1
       have Hm := Lib.hid (mayG_e (ns := ns) hlt (by rw [Hx.out, HV.out, hv1]; simp))
       go_wp2_with fail
       first | (refine wp_named ?_; intro W6 hW) | (refine calls_named ?_; intro W6 hW)
       have B6 : Below v5.heap.size v5 W6 := by rw [hW]; exact bq2
       replace c0 := cellAt c0 B6 (by omega)
       replace c1 := cellAt c1 B6 (by omega)
       replace x0 := cellAt x0 B6 (by omega)
       replace x1 := cellAt x1 B6 (by omega)
       replace x2 := cellAt x2 B6 (by omega)
       replace e0 := cellAt e0 B6 (by omega)
       replace e1 := cellAt e1 B6 (by omega)
       replace e2 := cellAt e2 B6 (by omega)
       replace a0 := cellAt a0 B6 (by omega)
       replace a1 := cellAt a1 B6 (by omega)
       replace a2 := cellAt a2 B6 (by omega)
       replace Hr := Lib.hid (Hr.out.at B6)
       replace Hn := Lib.hid (Hn.out.at B6)
       replace n1 : w.heap.size < W6.heap.size := ltAt n1 B6
       replace HB := Lib.hid (lift HB.out B6)
       replace Hb9 := Lib.hid (lift Hb9.out B6)
       replace hB : b < W6.heap.size := ltAt hB B6
       replace m1 : wr.heap.size < W6.heap.size := ltAt m1 B6
       replace m2 : v3.heap.size < W6.heap.size := ltAt m2 B6
       clear hW
       clear B6
       try go_wp2_with fail
       refine wp_region_held_drew (S := fun w' => Below W6.heap.size W6 w') (by kernel_rfl) (Below.drew (Below.refl _ _)) (fun hHeld => ?_)
       refine tV 0 ?_ ?zq ?_; (case zq => rintro _ -; go_simp; try with_reducible rfl); try simp only [Act.put, zn1, zn2, zn3]
       refine tV 1 ?_ ?zq ?_; (case zq => rintro _ -; go_simp; try with_reducible rfl); try simp only [Act.put, zn1, zn2, zn3]
       refine tV 2 ?_ ?zq ?_; (case zq => rintro _ -; go_simp; try with_reducible rfl); try simp only [Act.put, zn1, zn2, zn3]
       refine tU 3 ?_; (try simp only [Act.put, zn1, zn2, zn3])
       refine tU 4 ?_; (try simp only [Act.put, zn1, zn2, zn3])
       refine tV 5 ?_ ?zq ?_; (case zq => rintro _ -; go_simp; try with_reducible rfl); try simp only [Act.put, zn1, zn2, zn3]
       refine tV 6 ?_ ?zq ?_; (case zq => rintro _ -; go_simp; try with_reducible rfl); try simp only [Act.put, zn1, zn2, zn3]
       refine tU 7 ?_; (try simp only [Act.put, zn1, zn2, zn3])
       refine tU 8 ?_; (try simp only [Act.put, zn1, zn2, zn3])
       refine tU 9 ?_; (try simp only [Act.put, zn1, zn2, zn3])
       refine tV 10 ?_ ?zq ?_; (case zq => rintro _ -; go_simp; try with_reducible rfl); try simp only [Act.put, zn1, zn2, zn3]
       refine tV 11 ?_ ?zq ?_; (case zq => rintro _ -; go_simp; try with_reducible rfl); try simp only [Act.put, zn1, zn2, zn3]
       refine tU 12 ?_; (try simp only [Act.put, zn1, zn2, zn3])
       refine tU 13 ?_; (try simp only [Act.put, zn1, zn2, zn3])
       refine tU 14 ?_; (try simp only [Act.put, zn1, zn2, zn3])
       refine tU 15 ?_; (try simp only [Act.put, zn1, zn2, zn3])
       refine tU 16 ?_; (try simp only [Act.put, zn1, zn2, zn3])
       refine tV 17 ?_ ?zq ?_; (case zq => rintro _ -; go_simp; try with_reducible rfl); try simp only [Act.put, zn1, zn2, zn3]
       refine tV 18 ?_ ?zq ?_; (case zq => rintro _ -; go_simp; try with_reducible rfl); try simp only [Act.put, zn1, zn2, zn3]
       refine tU 19 ?_; (try simp only [Act.put, zn1, zn2, zn3])
       refine tU 20 ?_; (try simp only [Act.put, zn1, zn2, zn3])
       refine tU 21 ?_; (try simp only [Act.put, zn1, zn2, zn3])
       refine tV 22 ?_ ?zq ?_; (case zq => rintro _ -; go_simp; try with_reducible rfl); try simp only [Act.put, zn1, zn2, zn3]
       refine tV 23 ?_ ?zq ?_; (case zq => rintro _ -; go_simp; try with_reducible rfl); try simp only [Act.put, zn1, zn2, zn3]
       refine tU 24 ?_; (try simp only [Act.put, zn1, zn2, zn3])
       refine tU 25 ?_; (try simp only [Act.put, zn1, zn2, zn3])
       refine tU 26 ?_; (try simp only [Act.put, zn1, zn2, zn3])
       refine tV 27 ?_ ?zq ?_; (case zq => rintro _ -; go_simp; try with_reducible rfl); try simp only [Act.put, zn1, zn2, zn3]
       refine tV 28 ?_ ?zq ?_; (case zq => rintro _ -; go_simp; try with_reducible rfl); try simp only [Act.put, zn1, zn2, zn3]
       refine tU 29 ?_; (try simp only [Act.put, zn1, zn2, zn3])
       refine tU 30 ?_; (try simp only [Act.put, zn1, zn2, zn3])
       refine tU 31 ?_; (try simp only [Act.put, zn1, zn2, zn3])
       refine tU 32 ?_; (try simp only [Act.put, zn1, zn2, zn3])
       refine tU 33 ?_; (try simp only [Act.put, zn1, zn2, zn3])
       refine tU 34 ?_; (try simp only [Act.put, zn1, zn2, zn3])
       refine tU 35 ?_; (try simp only [Act.put, zn1, zn2, zn3])
       refine tU 36 ?_; (try simp only [Act.put, zn1, zn2, zn3])
       refine tU 37 ?_; (try simp only [Act.put, zn1, zn2, zn3])
       refine tU 38 ?_; (try simp only [Act.put, zn1, zn2, zn3])
       refine tU 39 ?_; (try simp only [Act.put, zn1, zn2, zn3])
       refine tU 40 ?_; (try simp only [Act.put, zn1, zn2, zn3])
       refine tU 41 ?_; (try simp only [Act.put, zn1, zn2, zn3])
       refine tV 42 ?_ ?zq ?_; (case zq => rintro _ -; go_simp; try with_reducible rfl); try simp only [Act.put, zn1, zn2, zn3]
       refine wpAnyH_done (by kernel_rfl) ?_ _
       go_wp2_with fail
       go_ret
       exact ⟨ret_bool (by rw [Hm.out]), HB.out.trans (hHeld.mono HB.out.size)⟩
     ·have hkE : k = es.length := by omega
      subst hkE
      have HT := Lib.hid (mayG_end (by omega) HU.out HE.out)
      go_wp2_with fail
      go_ret
      exact ⟨ret_bool (by rw [HT.out]), HB.out⟩
end Od
end Go.Proofs.YtmlogmcnblgnbaaGreat
end

section
/- The walk of matinsref15.put: a text into a rising row, once. -/
namespace Go.Proofs.YtmlogmcnblgnbaaGreat
open Go.RowKit Go.Sort

namespace Od
theorem svs_app (a b : List Str) : svs (a ++ b) = svs a ++ svs b := by simp [svs]
set_option maxRecDepth 100000 in
set_option maxHeartbeats 1000000 in
theorem put15_any (A : Option Addr) (c : Nat) (ss : List Str) (s : Str) (w : World) (hr : Rd w w.heap.size 1 A ss.length (svs ss)) (hc : ss.length ≤ c) (hl : ss.length ≤ 1000000) :
  Calls Tryz.prog 66 #[.slice A ss.length c, sv s] w (RdIs 1 (insL ltS s ss).length (svs (insL ltS s ss)) w) := by
 obtain ⟨i0, hi, hz0, hz1, hz2⟩ := info_parts inS
 have Hr := Lib.hid hr
 clear hr
 go_enter Tryz.func66, Tryz.ntmps66
 go_wp2_with fail
 go_loop [5] (fun i => ∃ k : Nat, k ≤ ss.length ∧ i = .int .i64 k ∧ Hid (∀ y ∈ ss.take k, ltS y s = true)) (fun i => ss.length - (intOf i).toNat)
 case atStart => exact ⟨0, Nat.zero_le _, rfl, by simp [Hid]⟩
 case round =>
  obtain ⟨k, hk, rfl, hall⟩ := hrel
  by_cases hlt : k < ss.length
  ·obtain ⟨b, o, rfl, hB, hc0⟩ := Hr.out.str hlt
   generalize hx : ss[k] = x at hc0
   have Hx := Lib.hid hx
   clear hx
   cases hlx : Op.bytesLess x s
   ·have hge : ∀ h : k < ss.length, ltS ss[k] s = false := fun _ => by rw [Hx.out]; exact hlx
    have Hge := Lib.hid hge
    clear hge
    cases hxs : (x == s)
    ·go_wp2_with fail
     have hge := Hge.out
     have hne : ¬ ss[k]? = some s := by rw [List.getElem?_eq_getElem hlt, Hx.out]; intro e; injection e with e; rw [e] at hxs; simp at hxs
     clear hlx hxs
     have hins : insL ltS s ss = ss.take k ++ s :: ss.drop k := by rw [insL_cut ss k hk hall hge, if_neg hne]
     have HI := Lib.hid hins
     have HR1 := Lib.hid (Hr.out.takeA hk)
     have HR2 := Lib.hid (Hr.out.dropA hk hc)
     have hs1 := run_slice_full (P := Tryz.prog) Tryz.underlying27 hi (some ⟨b, o, none⟩) ss.length c k (Nat.le_trans hk hc)
     have hs2 := run_slice_tail (P := Tryz.prog) Tryz.underlying27 hi (some ⟨b, o, none⟩) ss.length c k hk
     rw [hz1] at hs1 hs2
     clear hins hne hge
     have hlk : (ss.drop k).length = ss.length - k := List.length_drop
     have HLk := Lib.hid hlk
     clear hlk
     try go_wp2_with fail
     refine wp_region_held_drew (S := fun w' => Below w.heap.size w w') (by kernel_rfl) (Below.drew (Below.refl _ _)) (fun hHeld => ?_)
     refine tY (i := 0) (v := ?_) rfl ?_ hHeld ?_; rotate_left 1; focus (intro w' hSw; clear hSw; go_simp; try with_reducible rfl)
     (try simp only [Act.put, zn1, zn2, zn3])
     refine tY (i := 1) (v := ?_) rfl ?_ hHeld ?_; rotate_left 1; focus (intro w' hSw; clear hSw; go_simp; try with_reducible rfl)
     (try simp only [Act.put, zn1, zn2, zn3])
     refine tY (i := 2) (v := ?_) rfl ?_ hHeld ?_; rotate_left 1; focus (intro w' hSw; clear hSw; go_simp; try with_reducible rfl)
     (try simp only [Act.put, zn1, zn2, zn3])
     refine tY (i := 3) (v := ?_) rfl ?_ hHeld ?_; rotate_left 1; focus (intro w' hSw; clear hSw; go_simp; try with_reducible rfl)
     (try simp only [Act.put, zn1, zn2, zn3])
     refine tY (i := 4) (v := ?_) rfl ?_ hHeld ?_; rotate_left 1; focus (intro w' hSw; clear hSw; go_simp; try with_reducible rfl)
     (try simp only [Act.put, zn1, zn2, zn3])
     refine tY (i := 6) (v := ?_) rfl ?_ hHeld ?_; rotate_left 1; focus (intro w' hSw; clear hSw; go_simp; try with_reducible rfl)
     (try simp only [Act.put, zn1, zn2, zn3])
     refine tY (i := 7) (v := ?_) rfl ?_ hHeld ?_; rotate_left 1; focus (intro w' hSw; clear hSw; go_simp; try with_reducible rfl)
     (try simp only [Act.put, zn1, zn2, zn3])
     refine tY (i := 8) (v := ?_) rfl ?_ hHeld ?_; rotate_left 1; focus (intro w' hSw; clear hSw; go_simp; try with_reducible rfl)
     (try simp only [Act.put, zn1, zn2, zn3])
     refine ready_one (i := 5) rfl (by kernel_rfl) (fun K hK => ?_)
     go_simp
     refine hK.out _ _ ?_ (fun hHeld2 => ?_)
     ·(try dsimp only); first | exact hHeld | exact bq
     clear hK K hHeld; have hHeld := hHeld2; clear hHeld2; (try simp only [Act.put, zn1, zn2, zn3])
     refine ready_one (i := 9) rfl (by kernel_rfl) (fun K hK => ?_)
     refine step_append_full (by rfl) (.tmp 38) (.tmp 41) 27 (by rfl) 9 i0 (.string ⟨#[]⟩) 1 16 Tryz.underlying27 hi hz0 hz1 hz2 rfl _ (some ⟨w.heap.size, 0, none⟩) 1 [sv s] (by rfl) (Rd.lit w.drew [sv s] 9 1 1 rfl) (Nat.le_refl _) _ _ (ss.length - k) (c - k) _ (by rfl) (HR2.out.at' (Nat.le_refl _) hHeld) (one_drop (one_svs ss) _) (by unfold maxLen; omega) (by omega) ?_
     intro A2 c2 v2 hc2 hr2 hb
     have HR3 := Lib.hid hr2
     clear hr2
     refine hK.out _ _ ?_ (fun hHeld2 => ?_)
     ·(try dsimp only); first | exact Below.trans hHeld (Below.mono hb hHeld.size) | exact hHeld | exact Below.drew hHeld | exact bq
     clear hK K hHeld; have hHeld := hHeld2; clear hHeld2; (try simp only [Act.put, zn1, zn2, zn3])
     refine ready_one (i := 10) rfl (by kernel_rfl) (fun K hK => ?_)
     refine step_append_full (by rfl) (.tmp 36) (.tmp 42) 27 (by rfl) 9 i0 (.string ⟨#[]⟩) 1 16 Tryz.underlying27 hi hz0 hz1 hz2 rfl _ _ k _ (by rfl) (HR1.out.at' (Nat.le_refl _) hHeld) (Nat.le_refl _) _ A2 (1 + (ss.length - k)) c2 _ (by rfl) HR3.out (one_app (one_sv s) (one_drop (one_svs ss) _)) (by unfold maxLen; omega) (by omega) ?_
     intro A3 c3 v3 hc3 hr3 hb
     have HR4 := Lib.hid hr3
     clear hr3
     refine hK.out _ _ ?_ (fun hHeld2 => ?_)
     ·(try dsimp only); first | exact Below.trans hHeld (Below.mono hb hHeld.size) | exact hHeld | exact Below.drew hHeld | exact bq
     clear hK K hHeld; have hHeld := hHeld2; clear hHeld2; (try simp only [Act.put, zn1, zn2, zn3])
     refine tY (i := 11) (v := ?_) rfl ?_ hHeld ?_; rotate_left 1; focus (intro w' hSw; clear hSw; go_simp; try with_reducible rfl)
     (try simp only [Act.put, zn1, zn2, zn3])
     refine wpAnyH_done (by kernel_rfl) ?_ _
     go_wp2_with fail
     go_ret
     refine RdIs.of hc3 HR4.out hHeld ?_ ?_
     ·rw [HI.out, List.length_append, List.length_cons, List.length_take, HLk.out]; omega
     ·rw [HI.out]; simp [svs, List.map_take, List.map_drop]
    ·go_wp2_with fail
     go_ret
     have hins : insL ltS s ss = ss := by rw [insL_cut ss k hk hall Hge.out, if_pos]; rw [List.getElem?_eq_getElem hlt, Hx.out]; simpa using hxs
     exact RdIs.of hc Hr.out (Below.refl _ _) (by rw [hins]) (by rw [hins])
   ·go_wp2_with fail
    go_round
    case rel =>
     refine ⟨k + 1, by omega, by go_num, fun y hy => ?_⟩
     rw [List.take_succ_eq_append_getElem hlt, List.mem_append, List.mem_singleton] at hy
     rcases hy with h | h
     ·exact hall y h
     ·rw [h, Hx.out]; exact hlx
    case measure => simp [intOf]; omega
  ·have hge : ∀ h : k < ss.length, ltS ss[k] s = false := fun h => absurd h hlt
   have hne : ¬ ss[k]? = some s := by rw [List.getElem?_eq_none (by omega)]; simp
   go_wp2_with fail
   have hins : insL ltS s ss = ss.take k ++ s :: ss.drop k := by rw [insL_cut ss k hk hall hge, if_neg hne]
   have HI := Lib.hid hins
   have HR1 := Lib.hid (Hr.out.takeA hk)
   have HR2 := Lib.hid (Hr.out.dropA hk hc)
   have hs1 := run_slice_full (P := Tryz.prog) Tryz.underlying27 hi A ss.length c k (Nat.le_trans hk hc)
   have hs2 := run_slice_tail (P := Tryz.prog) Tryz.underlying27 hi A ss.length c k hk
   rw [hz1] at hs1 hs2
   clear hins hne hge
   have hlk : (ss.drop k).length = ss.length - k := List.length_drop
   have HLk := Lib.hid hlk
   clear hlk
   try go_wp2_with fail
   refine wp_region_held_drew (S := fun w' => Below w.heap.size w w') (by kernel_rfl) (Below.drew (Below.refl _ _)) (fun hHeld => ?_)
   refine tY (i := 0) (v := ?_) rfl ?_ hHeld ?_; rotate_left 1; focus (intro w' hSw; clear hSw; go_simp; try with_reducible rfl)
   (try simp only [Act.put, zn1, zn2, zn3])
   refine tY (i := 1) (v := ?_) rfl ?_ hHeld ?_; rotate_left 1; focus (intro w' hSw; clear hSw; go_simp; try with_reducible rfl)
   (try simp only [Act.put, zn1, zn2, zn3])
   refine tY (i := 2) (v := ?_) rfl ?_ hHeld ?_; rotate_left 1; focus (intro w' hSw; clear hSw; go_simp; try with_reducible rfl)
   (try simp only [Act.put, zn1, zn2, zn3])
   refine tY (i := 3) (v := ?_) rfl ?_ hHeld ?_; rotate_left 1; focus (intro w' hSw; clear hSw; go_simp; try with_reducible rfl)
   (try simp only [Act.put, zn1, zn2, zn3])
   refine tY (i := 4) (v := ?_) rfl ?_ hHeld ?_; rotate_left 1; focus (intro w' hSw; clear hSw; go_simp; try with_reducible rfl)
   (try simp only [Act.put, zn1, zn2, zn3])
   refine tY (i := 6) (v := ?_) rfl ?_ hHeld ?_; rotate_left 1; focus (intro w' hSw; clear hSw; go_simp; try with_reducible rfl)
   (try simp only [Act.put, zn1, zn2, zn3])
   refine tY (i := 7) (v := ?_) rfl ?_ hHeld ?_; rotate_left 1; focus (intro w' hSw; clear hSw; go_simp; try with_reducible rfl)
   (try simp only [Act.put, zn1, zn2, zn3])
   refine tY (i := 8) (v := ?_) rfl ?_ hHeld ?_; rotate_left 1; focus (intro w' hSw; clear hSw; go_simp; try with_reducible rfl)
   (try simp only [Act.put, zn1, zn2, zn3])
   refine ready_one (i := 5) rfl (by kernel_rfl) (fun K hK => ?_)
   go_simp
   refine hK.out _ _ ?_ (fun hHeld2 => ?_)
   ·(try dsimp only); first | exact hHeld | exact bq
   clear hK K hHeld; have hHeld := hHeld2; clear hHeld2; (try simp only [Act.put, zn1, zn2, zn3])
   refine ready_one (i := 9) rfl (by kernel_rfl) (fun K hK => ?_)
   refine step_append_full (by rfl) (.tmp 38) (.tmp 41) 27 (by rfl) 9 i0 (.string ⟨#[]⟩) 1 16 Tryz.underlying27 hi hz0 hz1 hz2 rfl _ (some ⟨w.heap.size, 0, none⟩) 1 [sv s] (by rfl) (Rd.lit w.drew [sv s] 9 1 1 rfl) (Nat.le_refl _) _ _ (ss.length - k) (c - k) _ (by rfl) (HR2.out.at' (Nat.le_refl _) hHeld) (one_drop (one_svs ss) _) (by unfold maxLen; omega) (by omega) ?_
   intro A2 c2 v2 hc2 hr2 hb
   have HR3 := Lib.hid hr2
   clear hr2
   refine hK.out _ _ ?_ (fun hHeld2 => ?_)
   ·(try dsimp only); first | exact Below.trans hHeld (Below.mono hb hHeld.size) | exact hHeld | exact Below.drew hHeld | exact bq
   clear hK K hHeld; have hHeld := hHeld2; clear hHeld2; (try simp only [Act.put, zn1, zn2, zn3])
   refine ready_one (i := 10) rfl (by kernel_rfl) (fun K hK => ?_)
   refine step_append_full (by rfl) (.tmp 36) (.tmp 42) 27 (by rfl) 9 i0 (.string ⟨#[]⟩) 1 16 Tryz.underlying27 hi hz0 hz1 hz2 rfl _ _ k _ (by rfl) (HR1.out.at' (Nat.le_refl _) hHeld) (Nat.le_refl _) _ A2 (1 + (ss.length - k)) c2 _ (by rfl) HR3.out (one_app (one_sv s) (one_drop (one_svs ss) _)) (by unfold maxLen; omega) (by omega) ?_
   intro A3 c3 v3 hc3 hr3 hb
   have HR4 := Lib.hid hr3
   clear hr3
   refine hK.out _ _ ?_ (fun hHeld2 => ?_)
   ·(try dsimp only); first | exact Below.trans hHeld (Below.mono hb hHeld.size) | exact hHeld | exact Below.drew hHeld | exact bq
   clear hK K hHeld; have hHeld := hHeld2; clear hHeld2; (try simp only [Act.put, zn1, zn2, zn3])
   refine tY (i := 11) (v := ?_) rfl ?_ hHeld ?_; rotate_left 1; focus (intro w' hSw; clear hSw; go_simp; try with_reducible rfl)
   (try simp only [Act.put, zn1, zn2, zn3])
   refine wpAnyH_done (by kernel_rfl) ?_ _
   go_wp2_with fail
   go_ret
   refine RdIs.of hc3 HR4.out hHeld ?_ ?_
   ·rw [HI.out, List.length_append, List.length_cons, List.length_take, HLk.out]; omega
   ·rw [HI.out]; simp [svs, List.map_take, List.map_drop]
end Od
end Go.Proofs.YtmlogmcnblgnbaaGreat
end

section
/- '==' of two pairs of texts laid as arrays. -/
namespace Go.Proofs.YtmlogmcnblgnbaaGreat
open Go.RowKit
namespace Od
theorem p2_one (d : Nat) (a b : Str) (w : World) : (Op.equalIn (d + 1) 9 (sv a) (sv b)).run Tryz.prog w = .ok (a == b) w := by
 have hu := Tryz.underlying9
 simp [Op.equalIn, run_underlying hu]
 rw [beq_toListBytes]
 simp
set_option maxRecDepth 100000 in
theorem p2_eq (a1 a2 b1 b2 : Str) (w : World) : (Op.equalIn 10000 145 (.agg #[sv a1, sv a2]) (.agg #[sv b1, sv b2])).run Tryz.prog w = .ok (a1 == b1 && a2 == b2) w := by
 have hu := Tryz.underlying145
 have hus := Tryz.underlying9
 have hi : (Tryz.prog.info? 9).map (·.size) = some 1 := by kernel_rfl
 obtain ⟨i0, hi0, hs0⟩ := Option.map_eq_some_iff.1 hi
 have h1 : ∀ w, (Op.equalIn 9999 9 (sv a1) (sv b1)).run Tryz.prog w = .ok (a1 == b1) w := fun w => p2_one 9998 a1 b1 w
 have h2 : ∀ w, (Op.equalIn 9999 9 (sv a2) (sv b2)).run Tryz.prog w = .ok (a2 == b2) w := fun w => p2_one 9998 a2 b2 w
 show (Op.equalIn (9999 + 1) _ _ _).run _ w = _
 unfold Op.equalIn
 simp [run_underlying hu, run_underlying hus, sizeOf, typeInfo, hi0, hs0, part, isAgg, h1, List.range']
 have h2' := h2 w
 by_cases ha : a1 = b1
 ·subst ha
  by_cases hb : a2 = b2
  ·subst hb; simp [h2']
  ·simp [hb, h2']
 ·simp [ha]
end Od
end Go.Proofs.YtmlogmcnblgnbaaGreat
end
