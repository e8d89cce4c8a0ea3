/- My texts, joined for the claim: WSmallW QLaw WMath WFact WTrace. -/
import Derived.Test.YtmlogmcnblgnbaaGreatZB9
import Derived.Test.YtmlogmcnblgnbaaGreatZB7
import Derived.Test.YtmlogmcnblgnbaaGreatZB4

section
/- The walks of layer 21's own helpers: small, node, three, some. (bel2) -/
namespace Go.Proofs.YtmlogmcnblgnbaaGreat
open Go.RowKit Go.Sort
set_option linter.unusedSimpArgs false

namespace Od
def smallB (ns : List Nd) (es : List Ed) : Bool := decide ((es.length : Int) ≤ 150) && decide ((ns.length : Int) ≤ 40)
theorem smallB_iff {ns : List Nd} {es : List Ed} : smallB ns es = true ↔ ns.length ≤ 40 ∧ es.length ≤ 150 := by
  simp [smallB]; omega
set_option maxHeartbeats 1000000 in
theorem small_any (An Ae : Option Addr) (cn ce : Nat) (ns : List Nd) (es : List Ed) (w : World) :
    Calls Tryz.prog 16 #[gV An ns.length cn Ae es.length ce] w fun e w' => e = .returned (.bool (smallB ns es)) ∧ Below w.heap.size w w' := by
  have HM := Lib.hid (show smallB ns es = (decide ((es.length : Int) ≤ 150) && decide ((ns.length : Int) ≤ 40)) from rfl)
  by_cases h1 : (es.length : Int) ≤ 150
  · have d1 : decide ((es.length : Int) ≤ 150) = true := by simpa using h1
    have D1 := Lib.hid d1
    go_enter Tryz.func16, Tryz.ntmps16
    go_wp2_with fail
    go_ret
    exact ⟨ret_bool (by rw [HM.out, D1.out]; simp), (by repeat (first | exact Below.refl _ _ | assumption | refine Below.alloc ?_ (by first | omega | (simp <;> omega)) _ | refine Below.setCell ?_ (by first | omega | (simp <;> omega)) _ | refine Below.drew ?_))⟩
  · have d1 : decide ((es.length : Int) ≤ 150) = false := by simpa using h1
    have D1 := Lib.hid d1
    go_enter Tryz.func16, Tryz.ntmps16
    go_wp2_with fail
    go_ret
    exact ⟨ret_bool (by rw [HM.out, D1.out]; simp), (by repeat (first | exact Below.refl _ _ | assumption | refine Below.alloc ?_ (by first | omega | (simp <;> omega)) _ | refine Below.setCell ?_ (by first | omega | (simp <;> omega)) _ | refine Below.drew ?_))⟩
set_option maxRecDepth 100000 in
theorem node_any (s : Str) (w : World) : Calls Tryz.prog 69 #[sv s] w fun e w' => e = .returned (.agg #[sv s, .int .i64 4, .int .i64 1]) ∧ Below w.heap.size w w' := by
  go_enter Tryz.func69, Tryz.ntmps69
  go_wp2_with fail
  refine bodyPost_ret (v := .agg #[sv s, .int .i64 4, .int .i64 1]) (by simp only [results, Tryz.results69]; go_simp) rfl ⟨rfl, (by repeat (first | exact Below.refl _ _ | assumption | refine Below.alloc ?_ (by first | omega | (simp <;> omega)) _ | refine Below.setCell ?_ (by first | omega | (simp <;> omega)) _ | refine Below.drew ?_))⟩
def threeJ : List Jb := [(nmA, 3, 1, 0), (nmB, 1, 1, 0), (nmC, 1, 1, 0)]
set_option maxRecDepth 100000 in
theorem three_any (w : World) : Calls Tryz.prog 37 #[] w (RdIs 4 threeJ.length (jbsC threeJ) w) := by
  go_enter Tryz.func37, Tryz.ntmps37
  go_wp2_with fail
  go_ret
  exact ⟨_, 3, rfl, Nat.le_refl _, Rd.lit w (jbsC threeJ) 48 4 3 rfl, (by repeat (first | exact Below.refl _ _ | assumption | refine Below.alloc ?_ (by first | omega | (simp <;> omega)) _ | refine Below.setCell ?_ (by first | omega | (simp <;> omega)) _ | refine Below.drew ?_))⟩
def someNs : List Nd := [(nmA, 4, 1), (nmB, 4, 1), (nmC, 4, 1)]
def someEs : List Ed := [(nmB, nmA, 1), (nmB, nmA, 8), (nmC, nmA, 8)]
def GraphIs (ns : List Nd) (es : List Ed) (w : World) (e : Ending) (w' : World) : Prop := ∃ An cn Ae ce, e = .returned (gV An ns.length cn Ae es.length ce) ∧ ns.length ≤ cn ∧ es.length ≤ ce ∧
  Rd w' w'.heap.size 3 An ns.length (ndsC ns) ∧ Rd w' w'.heap.size 3 Ae es.length (edsC es) ∧ Below w.heap.size w w'
set_option maxRecDepth 100000 in
set_option maxHeartbeats 4000000 in
theorem some_any (w : World) : Calls Tryz.prog 36 #[] w (GraphIs someNs someEs w) := by
  go_enter Tryz.func36, Tryz.ntmps36
  go_wp2_with fail
  first | (refine wp_named ?_; intro W1 hW) | (refine calls_named ?_; intro W1 hW)
  have B1 : Below w.heap.size w W1 := by rw [hW]; exact (by repeat (first | exact Below.refl _ _ | assumption | refine Below.alloc ?_ (by first | omega | (simp <;> omega)) _ | refine Below.setCell ?_ (by first | omega | (simp <;> omega)) _ | refine Below.drew ?_))
  have n1 : w.heap.size < W1.heap.size := by rw [hW]; simp <;> omega
  have c0 : W1.cell? ⟨w.heap.size, 0, none⟩ = some (.slice none 0 0) := by rw [hW]; go_simp
  have c1 : W1.cell? ⟨w.heap.size, 1, none⟩ = some (.slice none 0 0) := by rw [hW]; go_simp
  have f0 : W1.frozen? ⟨w.heap.size, 0, none⟩ = false := by rw [hW]; go_simp
  have f1 : W1.frozen? ⟨w.heap.size, 1, none⟩ = false := by rw [hW]; go_simp
  clear hW
  have HB := Lib.hid B1
  clear B1
  refine (node_any nmA W1).mono ?_
  rintro e w2 ⟨rfl, hb⟩
  replace c0 := cellAt c0 hb (by omega)
  replace c1 := cellAt c1 hb (by omega)
  replace f0 := froAt f0 hb (by omega)
  replace f1 := froAt f1 hb (by omega)
  replace n1 : w.heap.size < w2.heap.size := ltAt n1 hb
  replace HB := Lib.hid (lift HB.out hb)
  clear hb
  go_wp2_with fail
  refine (node_any nmB w2).mono ?_
  rintro e w3a ⟨rfl, hb⟩
  replace c0 := cellAt c0 hb (by omega)
  replace c1 := cellAt c1 hb (by omega)
  replace f0 := froAt f0 hb (by omega)
  replace f1 := froAt f1 hb (by omega)
  replace n1 : w.heap.size < w3a.heap.size := ltAt n1 hb
  replace HB := Lib.hid (lift HB.out hb)
  clear hb
  go_wp2_with fail
  refine (node_any nmC w3a).mono ?_
  rintro e w3 ⟨rfl, hb⟩
  replace c0 := cellAt c0 hb (by omega)
  replace c1 := cellAt c1 hb (by omega)
  replace f0 := froAt f0 hb (by omega)
  replace f1 := froAt f1 hb (by omega)
  replace n1 : w.heap.size < w3.heap.size := ltAt n1 hb
  replace HB := Lib.hid (lift HB.out hb)
  clear hb
  have hz : w.heap.size ≤ w3.heap.size := HB.out.size
  go_wp2_with fail
  refine bodyPost_ret (v := gV (some ⟨w3.heap.size, 0, none⟩) 3 3 (some ⟨w3.heap.size + 1, 0, none⟩) 3 3) (by simp only [results, Tryz.results36]; go_simp) rfl ⟨_, 3, _, 3, rfl, Nat.le_refl _, Nat.le_refl _, ?_, ?_, ?_⟩
  · have h := Rd.lit ((w3.setCell ⟨w.heap.size, 0, none⟩ (.slice (some ⟨w3.heap.size, 0, none⟩) 3 3)).setCell ⟨w.heap.size, 1, none⟩ (.slice (some ⟨w3.heap.size + 1, 0, none⟩) 3 3)) (ndsC someNs) 94 3 3 rfl
    simp only [World.size_alloc, World.size_setCell] at h
    exact (h.alloc (by simp) _).more (by simp)
  · have h := Rd.lit (((w3.setCell ⟨w.heap.size, 0, none⟩ (.slice (some ⟨w3.heap.size, 0, none⟩) 3 3)).setCell ⟨w.heap.size, 1, none⟩ (.slice (some ⟨w3.heap.size + 1, 0, none⟩) 3 3)).alloc (.cells (ndsC someNs).toArray 94)) (edsC someEs) 85 3 3 rfl
    simp only [World.size_alloc, World.size_setCell] at h
    exact h.more (by simp)
  · exact ((((HB.out.setCell (Nat.le_refl _) _).setCell (Nat.le_refl _) _).alloc (by simp; omega) _).alloc (by simp; omega) _)
end Od
end Go.Proofs.YtmlogmcnblgnbaaGreat
end

section
/- Plain laws of chapter 20: what the statements QueueSound, QueueNever, QueueApart, QueueDiamond, QueueStops say of lists. No program. -/
namespace Go.Proofs.YtmlogmcnblgnbaaGreat
set_option linter.unusedSimpArgs false
namespace Od
/-- Of some that go round nowhere one has nobody of them ahead of it. -/
theorem low_exists {l : List Pr} (h : Acyclic l) {left : List Str} : ∀ (n : Nat) (u : Str), u ∈ left → (left.filter (fun w => decide (u ∈ reachL l w))).length ≤ n → ∃ u ∈ left, ∀ v ∈ left, (v, u) ∉ l
  | n, u, hu, hn => by
    by_cases hw : ∃ v ∈ left, (v, u) ∈ l
    · obtain ⟨v, hv, hvu⟩ := hw
      have hlt : (left.filter (fun w => decide (v ∈ reachL l w))).length < (left.filter (fun w => decide (u ∈ reachL l w))).length := by
        have h1 : (left.filter (fun w => decide (v ∈ reachL l w))) = (left.filter (fun w => decide (u ∈ reachL l w))).filter (fun w => decide (v ∈ reachL l w)) := by
          rw [List.filter_filter]
          refine List.filter_congr fun w _ => ?_
          by_cases hvw : v ∈ reachL l w
          · have : u ∈ reachL l w := mem_reachL.2 ((mem_reachL.1 hvw).snoc hvu)
            simp [hvw, this]
          · simp [hvw]
        rw [h1]
        refine Nat.lt_of_le_of_ne (List.length_filter_le _ _) fun e => ?_
        have h2 := List.length_filter_eq_length_iff.1 e v (List.mem_filter.2 ⟨hv, by simpa using mem_reachL.2 (R.one hvu)⟩)
        exact h v (mem_reachL.1 (by simpa using h2))
      cases n with
      | zero => omega
      | succ n => exact low_exists h n v hv (by omega)
    · exact ⟨u, hu, fun v hv hvu => hw ⟨v, hv, hvu⟩⟩
theorem R_swap {l : List Pr} {a b : Str} (h : R (l.map Prod.swap) a b) : R l b a := by
  have hm : ∀ {x y : Str}, (x, y) ∈ l.map Prod.swap → (y, x) ∈ l := by
    intro x y hxy
    obtain ⟨⟨p, r⟩, h1, h2⟩ := List.mem_map.1 hxy
    injection h2 with h3 h4
    simp only at h3 h4
    subst h3 h4
    exact h1
  unfold R at h
  induction h with
  | single h => exact R.one (hm h)
  | tail _ h ih => exact (R.one (hm h)).trans ih
theorem high_exists {l : List Pr} (h : Acyclic l) {left : List Str} {u : Str} (hu : u ∈ left) : ∃ u ∈ left, ∀ v ∈ left, (u, v) ∉ l := by
  have h' : Acyclic (l.map Prod.swap) := fun a ha => h a (R_swap ha)
  obtain ⟨w, h1, h2⟩ := low_exists h' _ u hu (Nat.le_refl _)
  exact ⟨w, h1, fun v hv hwv => h2 v hv (List.mem_map.2 ⟨(w, v), hwv, rfl⟩)⟩
theorem may_state {j : Jb} (h : mayJ j = true) : j.2.2.1 = 1 ∨ j.2.2.1 = 2 ∨ j.2.2.1 = 3 := by
  rw [mayJ_iff] at h; omega
theorem ahead_wait (es : List Ed) {x y : Jb} (h1 : x.2.2.1 = 1) (hne : x.1 ≠ y.1) : aheadJ es x y = ((Ah es y.1 x.1 && endsB x) || (Ah es x.1 y.1 && !endsB y)) := by
  unfold aheadJ
  rw [if_neg (by rw [h1]; intro h; rcases h with h | h
                 · cases h
                 · exact hne h), if_neg (by rw [h1]; decide)]
theorem never {ns : List Nd} {es : List Ed} {q : List Jb} (hs : soundQ ns es q = true) (ho : ∃ j ∈ q, j.2.2.1 ≠ 3) (hr : ∀ j ∈ q, j.2.2.1 ≠ 2) : readyQ es q ≠ [] := by
  obtain ⟨_, hi, hm, _⟩ := soundQ_iff.1 hs
  have hst : ∀ x ∈ q, x.2.2.1 = 1 ∨ x.2.2.1 = 3 := fun x hx => by
    have h1 := may_state ((mayQ_iff.1 hm).2.1 x hx)
    have h2 := hr x hx
    omega
  have hac := isB_iff.1 hi
  have key : ∃ j ∈ q, j.2.2.1 = 1 ∧ FreeJ es q j := by
    by_cases hE : ∃ j ∈ q, j.2.2.1 = 1 ∧ endsB j = true
    · obtain ⟨j0, hj0, hj1, hj2⟩ := hE
      have hmem : ∀ {u : Str}, u ∈ (q.filter (fun j => j.2.2.1 == 1 && endsB j)).map (·.1) ↔ ∃ j ∈ q, (j.2.2.1 = 1 ∧ endsB j = true) ∧ j.1 = u := by
        intro u; simp [List.mem_map, List.mem_filter, and_assoc]
      obtain ⟨u, hu, hmin⟩ := high_exists hac (left := (q.filter (fun j => j.2.2.1 == 1 && endsB j)).map (·.1)) (u := j0.1) (hmem.2 ⟨j0, hj0, ⟨hj1, hj2⟩, rfl⟩)
      obtain ⟨j, hj, ⟨h1, h2⟩, rfl⟩ := hmem.1 hu
      refine ⟨j, hj, h1, fun x hx => ?_⟩
      by_cases hne : x.1 = j.1
      · unfold aheadJ; rw [if_pos (.inr hne)]
      · rcases hst x hx with h3 | h3
        · rw [ahead_wait es h3 hne, h2]
          simp only [Bool.not_true, Bool.and_false, Bool.or_false]
          cases h4 : endsB x
          · simp
          · cases h5 : Ah es j.1 x.1
            · rfl
            · exact absurd (Ah_prs.1 h5) (hmin x.1 (hmem.2 ⟨x, hx, ⟨h3, h4⟩, rfl⟩))
        · unfold aheadJ; rw [if_pos (.inl h3)]
    · obtain ⟨j0, hj0, hj1⟩ := ho
      have hmem : ∀ {u : Str}, u ∈ (q.filter (fun j => j.2.2.1 == 1)).map (·.1) ↔ ∃ j ∈ q, j.2.2.1 = 1 ∧ j.1 = u := by
        intro u; simp [List.mem_map, List.mem_filter, and_assoc]
      have hj1' : j0.2.2.1 = 1 := by have := hst j0 hj0; omega
      obtain ⟨u, hu, hmin⟩ := low_exists hac (left := (q.filter (fun j => j.2.2.1 == 1)).map (·.1)) _ j0.1 (hmem.2 ⟨j0, hj0, hj1', rfl⟩) (Nat.le_refl _)
      obtain ⟨j, hj, h1, rfl⟩ := hmem.1 hu
      refine ⟨j, hj, h1, fun x hx => ?_⟩
      by_cases hne : x.1 = j.1
      · unfold aheadJ; rw [if_pos (.inr hne)]
      · rcases hst x hx with h3 | h3
        · have h4 : endsB x = false := by
            cases h5 : endsB x
            · rfl
            · exact absurd ⟨x, hx, h3, h5⟩ hE
          rw [ahead_wait es h3 hne, h4]
          simp only [Bool.and_false, Bool.false_or]
          cases h5 : Ah es x.1 j.1
          · rfl
          · exact absurd (Ah_prs.1 h5) (hmin x.1 (hmem.2 ⟨x, hx, h3, rfl⟩))
        · unfold aheadJ; rw [if_pos (.inl h3)]
  obtain ⟨j, hj, h1, h2⟩ := key
  intro e
  have := (mem_readyQ hm).2 ⟨j, hj, rfl, h1, h2⟩
  rw [e] at this
  cases this
/-- What may go on: it runs, or it is ready. -/
def Goes (es : List Ed) (q : List Jb) (j : Jb) : Prop := j.2.2.1 = 2 ∨ (j.2.2.1 = 1 ∧ FreeJ es q j)
theorem apart {es : List Ed} {q : List Jb} (hn : NoRun es q) {a b : Jb} (ha : a ∈ q) (hb : b ∈ q) (hne : a.1 ≠ b.1) (sa : Goes es q a) (sb : Goes es q b) : Ah es a.1 b.1 = false ∧ Ah es b.1 a.1 = false := by
  rcases sa with sa | ⟨sa, fa⟩
  · rcases sb with sb | ⟨sb, fb⟩
    · exact ⟨hn a ha b hb sa sb, hn b hb a ha sb sa⟩
    · exact ahead_run (fb a ha) sa hne
  · rcases sb with sb | ⟨sb, fb⟩
    · have := ahead_run (fa b hb) sb (Ne.symm hne)
      exact ⟨this.2, this.1⟩
    · have h1 := fb a ha
      have h2 := fa b hb
      rw [ahead_wait es sa hne] at h1
      rw [ahead_wait es sb (Ne.symm hne)] at h2
      revert h1 h2
      cases Ah es a.1 b.1 <;> cases Ah es b.1 a.1 <;> cases endsB a <;> cases endsB b <;> simp
theorem ahead_far {es : List Ed} {x y : Jb} (h1 : Ah es x.1 y.1 = false) (h2 : Ah es y.1 x.1 = false) : aheadJ es x y = false := by
  unfold aheadJ
  split
  · rfl
  · split <;> simp [h1, h2]
theorem mem_upd_ne {q : List Jb} {u : Str} {f : Jb → Jb} {j : Jb} (hj : j ∈ q) (hne : j.1 ≠ u) : j ∈ updJ q u f := mem_updJ.2 ⟨j, hj, by rw [if_neg hne]⟩
theorem free_upd {es : List Ed} {q : List Jb} {a : Str} {f : Jb → Jb} (hf : ∀ x, (f x).1 = x.1) {j : Jb} (hj : FreeJ es q j) (h1 : Ah es a j.1 = false) (h2 : Ah es j.1 a = false) : FreeJ es (updJ q a f) j := by
  intro y hy
  obtain ⟨x, hx, rfl⟩ := mem_updJ.1 hy
  split
  · rename_i e
    exact ahead_far (by rw [hf, e]; exact h1) (by rw [hf, e]; exact h2)
  · exact hj x hx
theorem any_same {α : Type} {p r : α → Bool} : ∀ {l : List α}, (∀ x ∈ l, p x = r x) → l.any p = l.any r
  | [], _ => rfl
  | x :: l, h => by rw [List.any_cons, List.any_cons, h x (.head _), any_same fun y hy => h y (.tail _ hy)]
theorem lacks_upd {es : List Ed} {q : List Jb} {a b : Str} {f : Jb → Jb} (hf : ∀ x, (f x).1 = x.1) (h : Ah es a b = false) : lacksQ es (updJ q a f) b = lacksQ es q b := by
  unfold lacksQ
  refine any_same fun o ho => ?_
  have h1 := (mem_needsU.1 ho).2
  have hne : o ≠ a := fun e => by subst e; rw [h] at h1; cases h1
  unfold lackJ
  rw [jobOf_upd_ne (fun x e => by rw [hf, e]) hne]
/-- A unit begins, if it is ready, or ends, if it runs. -/
def runsB (q : List Jb) (u : Str) : Bool := q.any (fun j => j.1 == u && j.2.2.1 == 2)
def stepQ (es : List Ed) (q : List Jb) (u : Str) (e : Int) : Option (List Jb) := if runsB q u = true then finishQ q u e else beginQ es q u
theorem runsB_iff {q : List Jb} {u : Str} : runsB q u = true ↔ ∃ j ∈ q, j.1 = u ∧ j.2.2.1 = 2 := by simp [runsB]
theorem runsB_at {q : List Jb} (hd : DQ q) {j : Jb} (hj : j ∈ q) : runsB q j.1 = (j.2.2.1 == 2) := by
  rw [Bool.eq_iff_iff, runsB_iff, beq_iff_eq]
  constructor
  · rintro ⟨x, h1, h2, h3⟩; rw [← hd.eq h1 hj h2]; exact h3
  · intro h; exact ⟨j, hj, rfl, h⟩
/-- What a step makes of the unit's job. -/
def newF (es : List Ed) (q : List Jb) (e : Int) (j : Jb) : Jb := if j.2.2.1 = 2 then ended e j else begun es q j
theorem newF_unit (es : List Ed) (q : List Jb) (e : Int) (j : Jb) : (newF es q e j).1 = j.1 := by
  unfold newF
  split
  · exact ended_unit _ _
  · exact begun_unit _ _ _
theorem finish_of {q : List Jb} (hm : mayQ q = true) {j : Jb} (hj : j ∈ q) {e : Int} (he : mayEnd e j = true) : finishQ q j.1 e = some (updJ q j.1 (ended e)) := by
  unfold finishQ; rw [jobOf_of (mayQ.dq hm) hj]; simp [hm, he]
theorem begin_of {es : List Ed} {q : List Jb} (hm : mayQ q = true) {j : Jb} (hj : j ∈ q) (h1 : j.2.2.1 = 1) (hf : FreeJ es q j) : beginQ es q j.1 = some (updJ q j.1 (begun es q)) := by
  unfold beginQ; rw [if_pos ((mem_readyQ hm).2 ⟨j, hj, rfl, h1, hf⟩)]
/-- A step goes just if the unit's job goes on; a running one's end has to be one. -/
theorem step_some {es : List Ed} {q x : List Jb} {u : Str} {e : Int} (h : stepQ es q u e = some x) :
    mayQ q = true ∧ ∃ j ∈ q, j.1 = u ∧ Goes es q j ∧ (j.2.2.1 = 2 → 1 ≤ e ∧ e ≤ 4) ∧ x = updJ q u (newF es q e) := by
  unfold stepQ at h
  split at h
  · rename_i hr
    obtain ⟨j, hj, rfl, h2⟩ := runsB_iff.1 hr
    obtain ⟨hm, rfl, j', hj', e1, hme⟩ := finish_some h
    refine ⟨hm, j, hj, rfl, .inl h2, fun _ => ⟨(mayEnd_iff.1 hme).1, (mayEnd_iff.1 hme).2.1⟩, updJ_congr fun y hy ey => ?_⟩
    rw [(mayQ.dq hm).eq hy hj ey]
    unfold newF
    rw [if_pos h2]
  · obtain ⟨hm, rfl, j, hj, rfl, h1, hf⟩ := begin_some h
    refine ⟨hm, j, hj, rfl, .inr ⟨h1, hf⟩, fun h2 => by omega, updJ_congr fun y hy ey => ?_⟩
    rw [(mayQ.dq hm).eq hy hj ey]
    unfold newF
    rw [if_neg (by omega)]
theorem step_of {es : List Ed} {q : List Jb} {e : Int} (hm : mayQ q = true) {j : Jb} (hj : j ∈ q) (hg : Goes es q j) (he : j.2.2.1 = 2 → 1 ≤ e ∧ e ≤ 4) : stepQ es q j.1 e = some (updJ q j.1 (newF es q e)) := by
  unfold stepQ
  rw [runsB_at (mayQ.dq hm) hj]
  rcases hg with h2 | ⟨h1, hf⟩
  · rw [if_pos (by simp [h2]), finish_of hm hj (mayEnd_iff.2 ⟨(he h2).1, (he h2).2, by omega, by omega⟩)]
    refine congrArg some (updJ_congr fun y hy ey => ?_)
    rw [(mayQ.dq hm).eq hy hj ey]
    unfold newF
    rw [if_pos h2]
  · rw [if_neg (by simp [h1]), begin_of hm hj h1 hf]
    refine congrArg some (updJ_congr fun y hy ey => ?_)
    rw [(mayQ.dq hm).eq hy hj ey]
    unfold newF
    rw [if_neg (by omega)]
theorem may_step {es : List Ed} {q x : List Jb} {u : Str} {e : Int} (h : stepQ es q u e = some x) : mayQ x = true := by
  unfold stepQ at h
  split at h
  · exact may_finish h
  · exact may_begin h
theorem noRun_step {es : List Ed} (hi : isB es = true) {q x : List Jb} {u : Str} {e : Int} (hn : NoRun es q) (h : stepQ es q u e = some x) : NoRun es x := by
  unfold stepQ at h
  split at h
  · exact noRun_finish hn h
  · exact noRun_begin hi hn h
theorem sound_step {ns : List Nd} {es : List Ed} {q x : List Jb} {u : Str} {e : Int} (hs : soundQ ns es q = true) (h : stepQ es q u e = some x) : soundQ ns es x = true := by
  obtain ⟨h1, h2, h3, h4⟩ := soundQ_iff.1 hs
  exact soundQ_iff.2 ⟨h1, h2, may_step h, noRun_step h2 h4 h⟩
/-- What goes on still does when another one has gone on. -/
theorem goes_on {es : List Ed} {q x : List Jb} {a : Jb} {e : Int} (hn : NoRun es q) (ha : a ∈ q) (ga : Goes es q a) (hx : x = updJ q a.1 (newF es q e)) {b : Jb} (hb : b ∈ q) (hne : a.1 ≠ b.1) (gb : Goes es q b) :
    b ∈ x ∧ Goes es x b ∧ ∀ e', newF es x e' b = newF es q e' b := by
  obtain ⟨h1, h2⟩ := apart hn ha hb hne ga gb
  have hu : ∀ j, (newF es q e j).1 = j.1 := newF_unit es q e
  subst hx
  refine ⟨mem_upd_ne hb (Ne.symm hne), ?_, fun e' => ?_⟩
  · rcases gb with gb | ⟨gb, fb⟩
    · exact .inl gb
    · exact .inr ⟨gb, free_upd hu fb h1 h2⟩
  · have hl := lacks_upd (q := q) hu h1
    unfold newF begun at *
    split
    · rfl
    · rw [hl]
theorem diamond {ns : List Nd} {es : List Ed} {q x y : List Jb} {a b : Str} {e0 e1 : Int} (hs : soundQ ns es q = true) (hab : a ≠ b) (hx : stepQ es q a e0 = some x) (hy : stepQ es q b e1 = some y) :
    ∃ z, stepQ es x b e1 = some z ∧ stepQ es y a e0 = some z := by
  obtain ⟨_, hi, hm, hn⟩ := soundQ_iff.1 hs
  have mx := may_step hx
  have my := may_step hy
  obtain ⟨_, ja, hja, rfl, ga, ea, hx'⟩ := step_some hx
  obtain ⟨_, jb, hjb, rfl, gb, eb, hy'⟩ := step_some hy
  obtain ⟨b1, b2, b3⟩ := goes_on hn hja ga hx' hjb hab gb
  obtain ⟨a1, a2, a3⟩ := goes_on hn hjb gb hy' hja (Ne.symm hab) ga
  refine ⟨_, step_of mx b1 b2 eb, ?_⟩
  rw [step_of my a1 a2 ea]
  refine congrArg some ?_
  have c1 : updJ x jb.1 (newF es x e1) = updJ x jb.1 (newF es q e1) := updJ_congr fun z hz ez => by rw [(mayQ.dq mx).eq hz b1 ez]; exact b3 e1
  have c2 : updJ y ja.1 (newF es y e0) = updJ y ja.1 (newF es q e0) := updJ_congr fun z hz ez => by rw [(mayQ.dq my).eq hz a1 ez]; exact a3 e0
  rw [c1, c2, hx', hy']
  exact updJ_comm (Ne.symm hab) (newF_unit es q e1) (newF_unit es q e0)
/-! Who is ended first -/
theorem mem_waits {es : List Ed} {q : List Jb} (hm : mayQ q = true) {x j : Jb} (hx : x ∈ q) (hj : j ∈ q) (h1 : j.2.2.1 = 1) : x.1 ∈ waitsQ es q j.1 ↔ aheadJ es x j = true := by
  rw [waitsQ_of hm hj h1]
  unfold waitsJ
  rw [List.mem_map]
  constructor
  · rintro ⟨y, h2, h3⟩
    obtain ⟨h4, h5⟩ := List.mem_filter.1 h2
    rw [← (mayQ.dq hm).eq h4 hx h3]; exact h5
  · intro h; exact ⟨x, List.mem_filter.2 ⟨hx, h⟩, rfl⟩
theorem stops {es : List Ed} {q : List Jb} (hi : isB es = true) (hm : mayQ q = true) {a b : Jb} (ha : a ∈ q) (hb : b ∈ q) (h1 : a.2.2.1 = 1) (h2 : b.2.2.1 = 1) (hab : Ah es a.1 b.1 = true) :
    (b.1 ∈ waitsQ es q a.1 ↔ endsB b = true) ∧ (a.1 ∈ waitsQ es q b.1 ↔ endsB b = false) := by
  have hne : a.1 ≠ b.1 := fun e => by rw [e, Ah_self hi] at hab; cases hab
  have hba := Ah_not hi hab
  rw [mem_waits hm hb ha h1, mem_waits hm ha hb h2, ahead_wait es h2 (Ne.symm hne), ahead_wait es h1 hne, hab, hba]
  cases endsB b <;> simp
/-- The type of the last job that is one of some; else t. -/
def pickT (p : Jb → Bool) (t : Int) (q : List Jb) : Int := q.foldl (fun t k => if p k = true then k.2.1 else t) t
theorem pick_all {p : Jb → Bool} {c : Int} : ∀ {q : List Jb}, (∀ x ∈ q, p x = true → x.2.1 = c) → pickT p c q = c
  | [], _ => rfl
  | k :: q, h => by
    show pickT p (if p k = true then k.2.1 else c) q = c
    split
    · rename_i hk; rw [h k (.head _) hk]; exact pick_all fun x hx => h x (.tail _ hx)
    · exact pick_all fun x hx => h x (.tail _ hx)
theorem pick_some {p : Jb → Bool} {c : Int} : ∀ {q : List Jb} {t : Int}, (∀ x ∈ q, p x = true → x.2.1 = c) → (∃ x ∈ q, p x = true) → pickT p t q = c
  | [], _, _, h => by obtain ⟨x, hx, _⟩ := h; cases hx
  | k :: q, t, h, hex => by
    show pickT p (if p k = true then k.2.1 else t) q = c
    by_cases hk : p k = true
    · rw [if_pos hk, h k (.head _) hk]; exact pick_all fun x hx => h x (.tail _ hx)
    · rw [if_neg hk]
      refine pick_some (fun x hx => h x (.tail _ hx)) ?_
      obtain ⟨x, hx, hp⟩ := hex
      rcases List.mem_cons.1 hx with rfl | hx
      · exact absurd hp hk
      · exact ⟨x, hx, hp⟩
theorem pick_none {p : Jb → Bool} : ∀ {q : List Jb} {t : Int}, (∀ x ∈ q, p x = false) → pickT p t q = t
  | [], _, _ => rfl
  | k :: q, t, h => by
    show pickT p (if p k = true then k.2.1 else t) q = t
    rw [h k (.head _)]
    exact pick_none fun x hx => h x (.tail _ hx)
theorem pick_nz {p : Jb → Bool} {q : List Jb} {t : Int} (h : pickT p t q ≠ t) : ∃ x ∈ q, p x = true := by
  refine Classical.byContradiction fun hn => h (pick_none fun x hx => ?_)
  cases hp : p x
  · rfl
  · exact absurd ⟨x, hx, hp⟩ hn
theorem pick_succ {p : Jb → Bool} {q : List Jb} {k : Nat} (hk : k < q.length) (t : Int) : pickT p t (q.take (k + 1)) = if p q[k] = true then q[k].2.1 else pickT p t (q.take k) := by
  unfold pickT
  rw [List.take_succ_eq_append_getElem hk, List.foldl_append]
  rfl
def waitAt (u : Str) (j : Jb) : Bool := j.2.2.1 == 1 && j.1 == u
theorem wait_type {q : List Jb} {u : Str} (hd : DQ q) (h : pickT (waitAt u) 0 q ≠ 0) : ∃ j ∈ q, j.1 = u ∧ j.2.2.1 = 1 ∧ j.2.1 = pickT (waitAt u) 0 q := by
  obtain ⟨j, hj, hp⟩ := pick_nz h
  have hp2 : j.2.2.1 = 1 ∧ j.1 = u := by simpa [waitAt] using hp
  refine ⟨j, hj, hp2.2, hp2.1, (pick_some (fun x hx hpx => ?_) ⟨j, hj, hp⟩).symm⟩
  have : x.1 = u := by simp [waitAt] at hpx; exact hpx.2
  rw [hd.eq hx hj (by rw [this, hp2.2])]
end Od
end Go.Proofs.YtmlogmcnblgnbaaGreat
end

section
/- What a wave comes to, as lists, and what is true of it. No program. -/
namespace Go.Proofs.YtmlogmcnblgnbaaGreat
set_option linter.unusedSimpArgs false
namespace Od
def runsU (q : List Jb) : List Str := if mayQ q = true then (q.filter (fun j => j.2.2.1 == 2)).map (·.1) else []
def stepsQ (es : List Ed) (q : List Jb) : List Str := canon ltS (readyQ es q ++ runsU q)
def canF (t : Int) : Bool := t == 1 || t == 4
def endJ (fails : List Str) (j : Jb) : Int := if (canF j.2.1 && decide (j.1 ∈ fails)) = true then 2 else 1
def endW (fails : List Str) (q : List Jb) (u : Str) : Int := match jobOf q u with | none => 1 | some j => endJ fails j
def stepW (es : List Ed) (fails : List Str) (q : List Jb) (u : Str) : Option (List Jb) := stepQ es q u (endW fails q u)
theorem endJ_in (fails : List Str) (j : Jb) : 1 ≤ endJ fails j ∧ endJ fails j ≤ 4 := by unfold endJ; split <;> omega
theorem mem_runsU {q : List Jb} (h : mayQ q = true) {u : Str} : u ∈ runsU q ↔ ∃ j ∈ q, j.1 = u ∧ j.2.2.1 = 2 := by
  unfold runsU
  rw [if_pos h, List.mem_map]
  constructor
  · rintro ⟨j, h1, rfl⟩
    obtain ⟨h2, h3⟩ := List.mem_filter.1 h1
    exact ⟨j, h2, rfl, by simpa using h3⟩
  · rintro ⟨j, h1, rfl, h2⟩
    exact ⟨j, List.mem_filter.2 ⟨h1, by simpa using h2⟩, rfl⟩
theorem mem_stepsQ {es : List Ed} {q : List Jb} (h : mayQ q = true) {u : Str} : u ∈ stepsQ es q ↔ ∃ j ∈ q, j.1 = u ∧ Goes es q j := by
  unfold stepsQ
  rw [mem_canon toS, List.mem_append, mem_readyQ h, mem_runsU h]
  constructor
  · rintro (⟨j, h1, h2, h3, h4⟩ | ⟨j, h1, h2, h3⟩)
    · exact ⟨j, h1, h2, .inr ⟨h3, h4⟩⟩
    · exact ⟨j, h1, h2, .inl h3⟩
  · rintro ⟨j, h1, h2, h3 | ⟨h3, h4⟩⟩
    · exact .inr ⟨j, h1, h2, h3⟩
    · exact .inl ⟨j, h1, h2, h3, h4⟩
theorem stepsQ_no {es : List Ed} {q : List Jb} (h : mayQ q = false) : stepsQ es q = [] := by
  unfold stepsQ readyQ runsU
  rw [if_neg (by simp [h]), if_neg (by simp [h])]
  rfl
theorem stepsQ_len (es : List Ed) (q : List Jb) : (stepsQ es q).length ≤ 2 * q.length := by
  unfold stepsQ
  refine Nat.le_trans (canon_len _) ?_
  rw [List.length_append]
  have h1 := readyQ_len es q
  have h2 : (runsU q).length ≤ q.length := by
    unfold runsU; split
    · rw [List.length_map]; exact List.length_filter_le _ _
    · simp
  omega
/-- What becomes of a job that goes on. -/
def nextJ (es : List Ed) (fails : List Str) (q : List Jb) (j : Jb) : Jb := newF es q (endJ fails j) j
theorem nextJ_unit (es : List Ed) (fails : List Str) (q : List Jb) (j : Jb) : (nextJ es fails q j).1 = j.1 := newF_unit _ _ _ _
theorem endW_of {fails : List Str} {q : List Jb} (h : mayQ q = true) {j : Jb} (hj : j ∈ q) : endW fails q j.1 = endJ fails j := by
  unfold endW; rw [jobOf_of (mayQ.dq h) hj]
theorem stepW_of {es : List Ed} {fails : List Str} {q : List Jb} (h : mayQ q = true) {j : Jb} (hj : j ∈ q) (hg : Goes es q j) : stepW es fails q j.1 = some (updJ q j.1 (fun _ => nextJ es fails q j)) := by
  unfold stepW
  rw [endW_of h hj, step_of h hj hg (fun _ => endJ_in fails j)]
  refine congrArg some (updJ_congr fun y hy ey => ?_)
  rw [(mayQ.dq h).eq hy hj ey]
  rfl
theorem stepW_may {es : List Ed} {fails : List Str} {q x : List Jb} {u : Str} (h : stepW es fails q u = some x) : mayQ x = true := may_step h
/-! Which one is picked -/
def pickW (picks : List Int) (i n : Nat) : Nat := match picks[i]? with | none => 0 | some p => (p % (n : Int)).toNat
theorem pickW_lt (picks : List Int) (i : Nat) {n : Nat} (h : 0 < n) : pickW picks i n < n := by
  unfold pickW
  split
  · exact h
  · rename_i p _
    have h1 := Int.emod_nonneg p (b := (n : Int)) (by omega)
    have h2 := Int.emod_lt_of_pos p (b := (n : Int)) (by omega)
    omega
theorem go_mod (p : Int) {n : Nat} (h : 0 < n) : (p.tmod n + n).tmod n = ((p % (n : Int)).toNat : Int) := by
  have h1 := Int.emod_nonneg p (b := (n : Int)) (by omega)
  have h2 : p.tmod n = p % n ∨ p.tmod n = p % n - n := by
    rw [Int.tmod_eq_emod]
    split
    · left; omega
    · rename_i hc
      right
      simp only [Int.natAbs_natCast] at *
  have h3 := Int.emod_lt_of_pos p (b := (n : Int)) (by omega)
  rw [Int.toNat_of_nonneg h1]
  rcases h2 with h2 | h2
  · rw [h2, Int.tmod_eq_emod_of_nonneg (by omega), Int.add_emod_right, Int.emod_emod]
  · rw [h2, show p % (n : Int) - n + n = p % n from by omega, Int.tmod_eq_emod_of_nonneg h1, Int.emod_emod]
/-! A round, and all rounds -/
abbrev St := List Jb × List Nd
def endedOf (x : List Jb) (u : Str) : List Nd := (x.filter (fun j => j.1 == u && j.2.2.1 == 3)).map doneOf
def goW (es : List Ed) (fails : List Str) (picks : List Int) (i : Nat) (s : St) : St :=
  match (stepsQ es s.1)[pickW picks i (stepsQ es s.1).length]? with
  | none => s
  | some u => match stepW es fails s.1 u with
    | none => s
    | some x => (x, s.2 ++ endedOf x u)
def runN (es : List Ed) (fails : List Str) (picks : List Int) (q : List Jb) : Nat → St
  | 0 => (q, [])
  | m + 1 => goW es fails picks m (runN es fails picks q m)
/-- A round that went on. -/
structure Went (es : List Ed) (fails : List Str) (s s' : St) (j : Jb) : Prop where
  here : j ∈ s.1
  goes : Goes es s.1 j
  jobs : s'.1 = updJ s.1 j.1 (fun _ => nextJ es fails s.1 j)
  over : s'.2 = s.2 ++ (if (nextJ es fails s.1 j).2.2.1 = 3 then [doneOf (nextJ es fails s.1 j)] else [])
theorem endedOf_upd {q : List Jb} (hd : DQ q) {j x : Jb} (hj : j ∈ q) (hx : x.1 = j.1) : endedOf (updJ q j.1 (fun _ => x)) j.1 = if x.2.2.1 = 3 then [doneOf x] else [] := by
  unfold endedOf
  have key : ∀ {q : List Jb}, DQ q → (q.filter (fun y => y.1 == j.1)) = if j.1 ∈ q.map (·.1) then q.filter (fun y => y.1 == j.1) else [] := by
    intro q _
    split
    · rfl
    · rename_i h
      rw [List.filter_eq_nil_iff]
      intro a ha
      simp only [beq_iff_eq]
      exact fun e => h (List.mem_map.2 ⟨a, ha, e⟩)
  clear key
  induction q with
  | nil => cases hj
  | cons y r ih =>
    have hd' : (y.1 :: r.map (·.1)).Nodup := hd
    obtain ⟨h1, h2⟩ := List.nodup_cons.1 hd'
    by_cases hy : y.1 = j.1
    · have hr : ∀ z ∈ r, z.1 ≠ j.1 := fun z hz e => h1 (List.mem_map.2 ⟨z, hz, by rw [e, hy]⟩)
      have e1 : updJ (y :: r) j.1 (fun _ => x) = x :: r := by
        show (if y.1 = j.1 then x else y) :: updJ r j.1 (fun _ => x) = x :: r
        rw [if_pos hy, updJ_none hr]
      rw [e1, List.filter_cons]
      have e2 : r.filter (fun z => z.1 == j.1 && z.2.2.1 == 3) = [] := List.filter_eq_nil_iff.2 fun z hz => by simp [hr z hz]
      rw [e2]
      by_cases h3 : x.2.2.1 = 3
      · simp [hx, h3]
      · simp [hx, h3]
    · have e1 : updJ (y :: r) j.1 (fun _ => x) = y :: updJ r j.1 (fun _ => x) := by
        show (if y.1 = j.1 then x else y) :: updJ r j.1 (fun _ => x) = _
        rw [if_neg hy]
      rw [e1, List.filter_cons, if_neg (by simp [hy])]
      rcases List.mem_cons.1 hj with e | hj'
      · exact absurd (by rw [e]) hy
      · exact ih h2 hj'
theorem go_went {es : List Ed} {fails : List Str} {picks : List Int} {i : Nat} {s : St} (hm : mayQ s.1 = true) (hn : stepsQ es s.1 ≠ []) :
    ∃ (hk : pickW picks i (stepsQ es s.1).length < (stepsQ es s.1).length) (j : Jb), (stepsQ es s.1)[pickW picks i (stepsQ es s.1).length] = j.1 ∧ Went es fails s (goW es fails picks i s) j := by
  have hk := pickW_lt picks i (List.length_pos_iff.2 hn)
  refine ⟨hk, ?_⟩
  obtain ⟨j, hj, hu, hg⟩ := (mem_stepsQ hm).1 (List.getElem_mem hk)
  refine ⟨j, hu.symm, ?_⟩
  have e : goW es fails picks i s = (updJ s.1 j.1 (fun _ => nextJ es fails s.1 j), s.2 ++ endedOf (updJ s.1 j.1 (fun _ => nextJ es fails s.1 j)) j.1) := by
    unfold goW
    rw [List.getElem?_eq_getElem hk, ← hu]
    simp only
    rw [stepW_of hm hj hg]
  rw [e]
  exact ⟨hj, hg, rfl, by simp only; rw [endedOf_upd (mayQ.dq hm) hj (nextJ_unit _ _ _ _)]⟩
theorem go_stuck {es : List Ed} {fails : List Str} {picks : List Int} {i : Nat} {s : St} (hn : stepsQ es s.1 = []) : goW es fails picks i s = s := by
  unfold goW; rw [hn]; rfl
theorem Went.may {es : List Ed} {fails : List Str} {s s' : St} {j : Jb} (h : Went es fails s s' j) (hm : mayQ s.1 = true) : mayQ s'.1 = true := by
  have := stepW_of (fails := fails) hm h.here h.goes
  rw [← h.jobs] at this
  exact stepW_may this
theorem Went.sound {es : List Ed} {ns : List Nd} {fails : List Str} {s s' : St} {j : Jb} (h : Went es fails s s' j) (hs : soundQ ns es s.1 = true) : soundQ ns es s'.1 = true := by
  have := stepW_of (fails := fails) (soundQ_iff.1 hs).2.2.1 h.here h.goes
  rw [← h.jobs] at this
  exact sound_step hs this
/-- What holds at first and stays so by each step holds at the end. -/
theorem runN_inv {es : List Ed} {fails : List Str} {picks : List Int} {q : List Jb} {P : St → Prop} (hm : mayQ q = true) (h0 : P (q, [])) (hs : ∀ s s' j, mayQ s.1 = true → P s → Went es fails s s' j → P s') : ∀ m, mayQ (runN es fails picks q m).1 = true ∧ P (runN es fails picks q m)
  | 0 => ⟨hm, h0⟩
  | m + 1 => by
    obtain ⟨h1, h2⟩ := runN_inv hm h0 hs m
    show mayQ (goW es fails picks m (runN es fails picks q m)).1 = true ∧ P (goW es fails picks m (runN es fails picks q m))
    by_cases hn : stepsQ es (runN es fails picks q m).1 = []
    · rw [go_stuck hn]; exact ⟨h1, h2⟩
    · obtain ⟨_, j, _, hw⟩ := go_went (fails := fails) (picks := picks) (i := m) h1 hn
      exact ⟨hw.may h1, hs _ _ _ h1 h2 hw⟩
/-! It ends -/
def msJ (j : Jb) : Nat := if j.2.2.1 = 3 then 0 else (if j.2.1 = 3 then 2 else 0) + (if j.2.2.1 = 1 then 2 else 1)
def msQ (q : List Jb) : Nat := (q.map msJ).sum
theorem ms_upd {q : List Jb} (hd : DQ q) {j x : Jb} (hj : j ∈ q) : msQ (updJ q j.1 (fun _ => x)) + msJ j = msQ q + msJ x := by
  unfold msQ
  induction q with
  | nil => cases hj
  | cons y r ih =>
    have hd' : (y.1 :: r.map (·.1)).Nodup := hd
    obtain ⟨h1, h2⟩ := List.nodup_cons.1 hd'
    by_cases hy : y.1 = j.1
    · have hr : ∀ z ∈ r, z.1 ≠ j.1 := fun z hz e => h1 (List.mem_map.2 ⟨z, hz, by rw [e, hy]⟩)
      have e1 : updJ (y :: r) j.1 (fun _ => x) = x :: r := by
        show (if y.1 = j.1 then x else y) :: updJ r j.1 (fun _ => x) = x :: r
        rw [if_pos hy, updJ_none hr]
      have e2 : y = j := hd.eq (.head _) hj hy
      rw [e1, e2]
      simp only [List.map_cons, List.sum_cons]
      omega
    · have e1 : updJ (y :: r) j.1 (fun _ => x) = y :: updJ r j.1 (fun _ => x) := by
        show (if y.1 = j.1 then x else y) :: updJ r j.1 (fun _ => x) = _
        rw [if_neg hy]
      rw [e1]
      rcases List.mem_cons.1 hj with e | hj'
      · exact absurd (by rw [e]) hy
      · have := ih h2 hj'
        simp only [List.map_cons, List.sum_cons]
        omega
theorem ms_le (q : List Jb) : msQ q ≤ 4 * q.length := by
  unfold msQ
  induction q with
  | nil => simp
  | cons y r ih =>
    simp only [List.map_cons, List.sum_cons, List.length_cons]
    have : msJ y ≤ 4 := by unfold msJ; split <;> (try split) <;> (try split) <;> omega
    omega
theorem ms_next {es : List Ed} {fails : List Str} {q : List Jb} {j : Jb} (hg : Goes es q j) : msJ (nextJ es fails q j) < msJ j := by
  unfold nextJ newF
  rcases hg with h2 | ⟨h1, _⟩
  · rw [if_pos h2]
    unfold ended msJ
    split
    · rename_i h; simp [h2, h.1]
    · simp [h2]
  · rw [if_neg (by omega)]
    unfold begun msJ
    split
    · simp [h1]
    · simp [h1]
theorem Went.less {es : List Ed} {fails : List Str} {s s' : St} {j : Jb} (h : Went es fails s s' j) (hm : mayQ s.1 = true) : msQ s'.1 < msQ s.1 := by
  have h1 := ms_upd (mayQ.dq hm) (x := nextJ es fails s.1 j) h.here
  have h2 := ms_next (fails := fails) h.goes
  rw [h.jobs]
  omega
theorem runN_stuck {es : List Ed} {fails : List Str} {picks : List Int} {q : List Jb} {m : Nat} (h : stepsQ es (runN es fails picks q m).1 = []) : ∀ k, runN es fails picks q (m + k) = runN es fails picks q m
  | 0 => rfl
  | k + 1 => by
    show goW es fails picks (m + k) (runN es fails picks q (m + k)) = _
    rw [runN_stuck h k]
    exact go_stuck h
theorem runN_less {es : List Ed} {fails : List Str} {picks : List Int} {q : List Jb} (hm : mayQ q = true) : ∀ m, stepsQ es (runN es fails picks q m).1 = [] ∨ msQ (runN es fails picks q m).1 + m ≤ msQ q
  | 0 => .inr (by simp [runN])
  | m + 1 => by
    have hmm := (runN_inv (P := fun _ => True) (es := es) (fails := fails) (picks := picks) hm trivial (fun _ _ _ _ _ _ => trivial) m).1
    rcases runN_less hm m with h | h
    · left
      rw [runN_stuck h 1]; exact h
    · by_cases hn : stepsQ es (runN es fails picks q m).1 = []
      · left; rw [runN_stuck hn 1]; exact hn
      · right
        obtain ⟨_, j, _, hw⟩ := go_went (fails := fails) (picks := picks) (i := m) hmm hn
        have := hw.less hmm
        show msQ (goW es fails picks m (runN es fails picks q m)).1 + (m + 1) ≤ _
        omega
/-- What it all comes to, and who ended on the way. -/
def runE (es : List Ed) (fails : List Str) (picks : List Int) (q : List Jb) : St := runN es fails picks q (msQ q + 1)
theorem runE_stuck {es : List Ed} {fails : List Str} {picks : List Int} {q : List Jb} (hm : mayQ q = true) : stepsQ es (runE es fails picks q).1 = [] := by
  rcases runN_less (es := es) (fails := fails) (picks := picks) hm (msQ q + 1) with h | h
  · exact h
  · omega
theorem runE_at {es : List Ed} {fails : List Str} {picks : List Int} {q : List Jb} (hm : mayQ q = true) {m : Nat} (h : stepsQ es (runN es fails picks q m).1 = []) : runN es fails picks q m = runE es fails picks q := by
  unfold runE
  rcases Nat.le_total m (msQ q + 1) with hl | hl
  · obtain ⟨k, hk⟩ := Nat.le.dest hl
    rw [← hk, runN_stuck h]
  · obtain ⟨k, hk⟩ := Nat.le.dest hl
    rw [← hk, runN_stuck (runE_stuck hm)]
theorem runE_inv {es : List Ed} {fails : List Str} {picks : List Int} {q : List Jb} {P : St → Prop} (hm : mayQ q = true) (h0 : P (q, [])) (hs : ∀ s s' j, mayQ s.1 = true → P s → Went es fails s s' j → P s') : P (runE es fails picks q) := (runN_inv hm h0 hs _).2
theorem upd_units {q : List Jb} {j x : Jb} (hx : x.1 = j.1) : (updJ q j.1 (fun _ => x)).map (·.1) = q.map (·.1) := updJ_units fun _ _ _ => hx
theorem runN_units {es : List Ed} {fails : List Str} {picks : List Int} {q : List Jb} (hm : mayQ q = true) (m : Nat) : (runN es fails picks q m).1.map (·.1) = q.map (·.1) :=
  (runN_inv (P := fun s => s.1.map (·.1) = q.map (·.1)) hm rfl (fun s s' j _ h hw => by rw [hw.jobs, upd_units (nextJ_unit _ _ _ _)]; exact h) m).2
theorem runN_len {es : List Ed} {fails : List Str} {picks : List Int} {q : List Jb} (hm : mayQ q = true) (m : Nat) : (runN es fails picks q m).1.length = q.length := by
  have := congrArg List.length (runN_units (es := es) (fails := fails) (picks := picks) hm m)
  simpa using this
end Od
end Go.Proofs.YtmlogmcnblgnbaaGreat
end

section
/- What becomes of each job, whatever the picks. No program. -/
namespace Go.Proofs.YtmlogmcnblgnbaaGreat
set_option linter.unusedSimpArgs false
namespace Od
/-- Is a need's start to end otherwise than done? -/
def lackF (F : Str → Int) (q : List Jb) (o : Str) : Bool := match jobOf q o with | none => false | some j => startsB j && F o != 1
def lacksF (es : List Ed) (F : Str → Int) (q : List Jb) (u : Str) : Bool := (needsU es u).any (lackF F q)
def endF1 (es : List Ed) (fails : List Str) (q : List Jb) (F : Str → Int) (j : Jb) : Int :=
  if j.2.2.1 = 3 then j.2.2.2 else if j.2.1 = 2 then 1
  else if (startsB j && ((j.2.1 == 3 || j.2.2.1 == 1) && lacksF es F q j.1)) = true then 3
  else if j.1 ∈ fails then 2 else 1
def endFn (es : List Ed) (fails : List Str) (q : List Jb) : Nat → Str → Int
  | 0, _ => 1
  | n + 1, u => match jobOf q u with
    | none => 1
    | some j => endF1 es fails q (endFn es fails q n) j
def rank (es : List Ed) (q : List Jb) (u : Str) : Nat := ((q.map (·.1)).filter (fun w => decide (u ∈ reachL (prsL es) w))).length
theorem rank_le (es : List Ed) (q : List Jb) (u : Str) : rank es q u ≤ q.length := by
  unfold rank
  refine Nat.le_trans (List.length_filter_le _ _) ?_
  simp
theorem rank_units {es : List Ed} {q q' : List Jb} (h : q'.map (·.1) = q.map (·.1)) (u : Str) : rank es q' u = rank es q u := by unfold rank; rw [h]
theorem rank_lt {es : List Ed} (hi : isB es = true) {q : List Jb} {o u : Str} (ho : o ∈ q.map (·.1)) (ha : Ah es o u = true) : rank es q o < rank es q u := by
  have hac := isB_iff.1 hi
  have hou := Ah_prs.1 ha
  unfold rank
  generalize hleft : q.map (·.1) = left at *
  have h1 : (left.filter (fun w => decide (o ∈ reachL (prsL es) w))) = (left.filter (fun w => decide (u ∈ reachL (prsL es) w))).filter (fun w => decide (o ∈ reachL (prsL es) w)) := by
    rw [List.filter_filter]
    refine List.filter_congr fun w _ => ?_
    by_cases hvw : o ∈ reachL (prsL es) w
    · have : u ∈ reachL (prsL es) w := mem_reachL.2 ((mem_reachL.1 hvw).snoc hou)
      simp [hvw, this]
    · simp [hvw]
  rw [h1]
  refine Nat.lt_of_le_of_ne (List.length_filter_le _ _) fun e => ?_
  have h2 := List.length_filter_eq_length_iff.1 e o (List.mem_filter.2 ⟨ho, by simpa using mem_reachL.2 (R.one hou)⟩)
  exact hac o (mem_reachL.1 (by simpa using h2))
theorem jobOf_unit {q : List Jb} {u : Str} {j : Jb} (h : jobOf q u = some j) : u ∈ q.map (·.1) := by
  obtain ⟨h1, h2⟩ := jobOf_mem h
  exact List.mem_map.2 ⟨j, h1, h2⟩
theorem any_congr {α : Type} {p r : α → Bool} {l : List α} (h : ∀ x ∈ l, p x = r x) : l.any p = l.any r := by
  induction l with
  | nil => rfl
  | cons a l ih => rw [List.any_cons, List.any_cons, h a (.head _), ih fun x hx => h x (.tail _ hx)]
theorem lacksF_congr {es : List Ed} (hi : isB es = true) {q : List Jb} {F G : Str → Int} {u : Str} (h : ∀ o, o ∈ q.map (·.1) → rank es q o < rank es q u → F o = G o) : lacksF es F q u = lacksF es G q u := by
  refine any_congr fun o ho => ?_
  obtain ⟨_, ha⟩ := mem_needsU.1 ho
  unfold lackF
  cases hj : jobOf q o with
  | none => rfl
  | some j => simp only; rw [h o (jobOf_unit hj) (rank_lt hi (jobOf_unit hj) ha)]
theorem endF1_congr {es : List Ed} (hi : isB es = true) {fails : List Str} {q : List Jb} {F G : Str → Int} {j : Jb} (h : ∀ o, o ∈ q.map (·.1) → rank es q o < rank es q j.1 → F o = G o) : endF1 es fails q F j = endF1 es fails q G j := by
  unfold endF1
  rw [lacksF_congr hi h]
theorem endFn_same {es : List Ed} (hi : isB es = true) {fails : List Str} {q : List Jb} : ∀ (n m : Nat) (u : Str), rank es q u < n → rank es q u < m → endFn es fails q n u = endFn es fails q m u
  | 0, _, _, h, _ => by omega
  | _ + 1, 0, _, _, h => by omega
  | n + 1, m + 1, u, h1, h2 => by
    show (match jobOf q u with | none => 1 | some j => endF1 es fails q (endFn es fails q n) j) = (match jobOf q u with | none => 1 | some j => endF1 es fails q (endFn es fails q m) j)
    cases hj : jobOf q u with
    | none => rfl
    | some j =>
      simp only
      obtain ⟨_, rfl⟩ := jobOf_mem hj
      exact endF1_congr hi fun o _ hr => endFn_same hi n m o (by omega) (by omega)
/-- How a unit's job ends. -/
def endU (es : List Ed) (fails : List Str) (q : List Jb) (u : Str) : Int := endFn es fails q (q.length + 1) u
theorem endU_eq {es : List Ed} (hi : isB es = true) {fails : List Str} {q : List Jb} (hd : DQ q) {j : Jb} (hj : j ∈ q) : endU es fails q j.1 = endF1 es fails q (endU es fails q) j := by
  have h1 : endU es fails q j.1 = endF1 es fails q (endFn es fails q q.length) j := by
    show (match jobOf q j.1 with | none => 1 | some k => endF1 es fails q (endFn es fails q q.length) k) = _
    rw [jobOf_of hd hj]
  rw [h1]
  refine endF1_congr hi fun o _ hr => ?_
  have := rank_le es q j.1
  have := rank_le es q o
  exact endFn_same hi _ _ o (by omega) (by omega)
theorem endU_none {es : List Ed} {fails : List Str} {q : List Jb} {u : Str} (h : jobOf q u = none) : endU es fails q u = 1 := by
  show (match jobOf q u with | none => 1 | some k => endF1 es fails q (endFn es fails q q.length) k) = _
  rw [h]
/-- Nothing else answers so. -/
theorem endU_only {es : List Ed} (hi : isB es = true) {fails : List Str} {q : List Jb} (hd : DQ q) {F : Str → Int} (hF : ∀ j ∈ q, F j.1 = endF1 es fails q F j) : ∀ (n : Nat) (j : Jb), j ∈ q → rank es q j.1 < n → F j.1 = endU es fails q j.1
  | 0, _, _, h => by omega
  | n + 1, j, hj, h => by
    rw [hF j hj, endU_eq hi hd hj]
    refine endF1_congr hi fun o ho hr => ?_
    obtain ⟨k, hk, rfl⟩ := List.mem_map.1 ho
    exact endU_only hi hd hF n k hk (by omega)
theorem endU_only' {es : List Ed} (hi : isB es = true) {fails : List Str} {q : List Jb} (hd : DQ q) {F : Str → Int} (hF : ∀ j ∈ q, F j.1 = endF1 es fails q F j) {j : Jb} (hj : j ∈ q) : F j.1 = endU es fails q j.1 := endU_only hi hd hF _ j hj (Nat.lt_succ_self _)
def factJ (es : List Ed) (fails : List Str) (q : List Jb) (j : Jb) : Jb := if j.2.2.1 = 3 then j else (j.1, if j.2.1 = 3 then 1 else j.2.1, 3, endU es fails q j.1)
def factQ (es : List Ed) (fails : List Str) (q : List Jb) : List Jb := q.map (factJ es fails q)
theorem starts_next (es : List Ed) (fails : List Str) (q : List Jb) (j : Jb) : startsB (nextJ es fails q j) = startsB j := by
  unfold nextJ newF ended begun startsB
  split
  · split
    · rename_i h; simp [h.1]
    · rfl
  · split <;> rfl
theorem jobOf_upd {q : List Jb} (hd : DQ q) {j x : Jb} (hj : j ∈ q) (hx : x.1 = j.1) (o : Str) : jobOf (updJ q j.1 (fun _ => x)) o = if o = j.1 then some x else jobOf q o := by
  split
  · rename_i e
    subst e
    have hd' : DQ (updJ q j.1 (fun _ => x)) := hd.of_units (upd_units hx)
    refine (jobOf_iff hd').2 ⟨mem_updJ.2 ⟨j, hj, by rw [if_pos rfl]⟩, hx⟩
  · rename_i e
    exact jobOf_upd_ne (fun _ _ => hx) e
theorem lackF_upd {q : List Jb} (hd : DQ q) {j x : Jb} (hj : j ∈ q) (hx : x.1 = j.1) (hs : startsB x = startsB j) (F : Str → Int) (o : Str) : lackF F (updJ q j.1 (fun _ => x)) o = lackF F q o := by
  unfold lackF
  rw [jobOf_upd hd hj hx]
  by_cases e : o = j.1
  · rw [if_pos e, e, jobOf_of hd hj]
    simp only
    rw [hs]
  · rw [if_neg e]
theorem lacksF_upd {es : List Ed} {q : List Jb} (hd : DQ q) {j x : Jb} (hj : j ∈ q) (hx : x.1 = j.1) (hs : startsB x = startsB j) (F : Str → Int) (u : Str) : lacksF es F (updJ q j.1 (fun _ => x)) u = lacksF es F q u :=
  any_congr fun o _ => lackF_upd hd hj hx hs F o
/-- Of what is ready all that it needs is ended. -/
theorem lacks_ready {es : List Ed} (hi : isB es = true) {fails : List Str} {q : List Jb} (hm : mayQ q = true) {j : Jb} (ht : endsB j = false) (hf : FreeJ es q j) : lacksF es (endU es fails q) q j.1 = lacksQ es q j.1 := by
  refine any_congr fun o ho => ?_
  obtain ⟨_, ha⟩ := mem_needsU.1 ho
  unfold lackF lackJ
  cases hk : jobOf q o with
  | none => rfl
  | some k =>
    simp only
    obtain ⟨hk1, rfl⟩ := jobOf_mem hk
    have hne : k.1 ≠ j.1 := fun e => by rw [e, Ah_self hi] at ha; cases ha
    have hfk := hf k hk1
    have hst := may_state ((mayQ_iff.1 hm).2.1 k hk1)
    have h3 : k.2.2.1 = 3 := by
      rcases hst with h | h | h
      · rw [ahead_wait es h hne, ha, ht] at hfk; simp at hfk
      · have := (ahead_run hfk h hne).1; rw [this] at ha; cases ha
      · exact h
    have e1 : endU es fails q k.1 = k.2.2.2 := by
      rw [endU_eq hi (mayQ.dq hm) hk1]; unfold endF1; rw [if_pos h3]
    rw [e1]
    simp [openB, h3]
theorem next_end {es : List Ed} (hi : isB es = true) {fails : List Str} {q : List Jb} (hm : mayQ q = true) {j : Jb} (hj : j ∈ q) (hg : Goes es q j) :
    endF1 es fails (updJ q j.1 (fun _ => nextJ es fails q j)) (endU es fails q) (nextJ es fails q j) = endU es fails q j.1 := by
  have hd := mayQ.dq hm
  have hx := nextJ_unit es fails q j
  have hl : ∀ u, lacksF es (endU es fails q) (updJ q j.1 (fun _ => nextJ es fails q j)) u = lacksF es (endU es fails q) q u := lacksF_upd hd hj hx (starts_next es fails q j) _
  rw [endU_eq hi hd hj]
  unfold endF1
  rw [hl, hx, starts_next]
  have hty := mayJ_iff.1 ((mayQ_iff.1 hm).2.1 j hj)
  obtain ⟨s, t, r, d⟩ := j
  simp only at *
  rcases hg with h2 | ⟨h1, hf⟩
  · simp only at h2
    subst h2
    unfold nextJ newF ended endJ canF
    simp only [startsB]
    by_cases ht3 : t = 3
    · subst ht3
      simp
    · by_cases ht1 : t = 1
      · subst ht1
        by_cases hfl : s ∈ fails <;> simp [hfl]
      · by_cases ht2 : t = 2
        · subst ht2; simp
        · have ht4 : t = 4 := by omega
          subst ht4
          by_cases hfl : s ∈ fails <;> simp [hfl]
  · simp only at h1
    subst h1
    unfold nextJ newF begun
    simp only
    by_cases ht1 : t = 1
    · subst ht1
      have hlr := lacks_ready hi (fails := fails) hm (j := (s, 1, 1, d)) rfl hf
      simp only at hlr
      rw [hlr]
      cases hlq : lacksQ es q s
      · simp [startsB]
      · simp [startsB]
    · have hb : (t == 1) = false := by simpa using ht1
      simp only [hb, Bool.false_and, Bool.false_eq_true, if_false]
      simp [startsB, hb]
theorem endU_step {es : List Ed} (hi : isB es = true) {fails : List Str} {q : List Jb} (hm : mayQ q = true) {j : Jb} (hj : j ∈ q) (hg : Goes es q j) {k : Jb} (hk : k ∈ updJ q j.1 (fun _ => nextJ es fails q j)) :
    endU es fails q k.1 = endU es fails (updJ q j.1 (fun _ => nextJ es fails q j)) k.1 := by
  have hd := mayQ.dq hm
  have hx := nextJ_unit es fails q j
  refine endU_only' hi (hd.of_units (upd_units hx)) (fun y hy => ?_) hk
  obtain ⟨y0, hy0, e⟩ := mem_updJ.1 hy
  by_cases hu : y0.1 = j.1
  · rw [if_pos hu] at e
    subst e
    rw [next_end hi hm hj hg, hx]
  · rw [if_neg hu] at e
    subst e
    rw [endU_eq hi hd hy0]
    unfold endF1
    rw [lacksF_upd hd hj hx (starts_next es fails q j)]
theorem type_next (es : List Ed) (fails : List Str) (q : List Jb) (j : Jb) : (if (nextJ es fails q j).2.1 = 3 then 1 else (nextJ es fails q j).2.1) = (if j.2.1 = 3 then 1 else j.2.1) := by
  unfold nextJ newF ended begun
  split
  · split
    · rename_i h; rw [h.1]; rfl
    · rfl
  · split <;> rfl
theorem type_over {es : List Ed} {fails : List Str} {q : List Jb} {j : Jb} (hg : Goes es q j) (h3 : (nextJ es fails q j).2.2.1 = 3) : (nextJ es fails q j).2.1 ≠ 3 := by
  revert h3
  unfold nextJ newF
  rcases hg with h2 | ⟨h1, _⟩
  · rw [if_pos h2]
    unfold ended
    split
    · intro h; simp at h
    · rename_i hn
      intro _ h3
      simp only at h3
      refine hn ⟨h3, h2, ?_⟩
      unfold endJ canF
      simp [h3]
  · rw [if_neg (by omega)]
    unfold begun
    split
    · rename_i h
      intro _ h3
      simp only at h3
      simp [h3] at h
    · intro h; simp at h
theorem fact_step {es : List Ed} (hi : isB es = true) {fails : List Str} {q : List Jb} (hm : mayQ q = true) {j : Jb} (hj : j ∈ q) (hg : Goes es q j) : factQ es fails (updJ q j.1 (fun _ => nextJ es fails q j)) = factQ es fails q := by
  have hd := mayQ.dq hm
  have hx := nextJ_unit es fails q j
  have hst := fun {k : Jb} (hk : k ∈ updJ q j.1 (fun _ => nextJ es fails q j)) => endU_step hi (fails := fails) hm hj hg hk
  generalize hx' : updJ q j.1 (fun _ => nextJ es fails q j) = x at *
  unfold factQ
  have : ∀ y ∈ q, factJ es fails x (if y.1 = j.1 then nextJ es fails q j else y) = factJ es fails q y := by
    intro y hy
    have hin : (if y.1 = j.1 then nextJ es fails q j else y) ∈ x := by rw [← hx']; exact mem_updJ.2 ⟨y, hy, rfl⟩
    have he := hst hin
    by_cases hu : y.1 = j.1
    · obtain rfl : y = j := hd.eq hy hj hu
      rw [if_pos rfl] at he ⊢
      have hopen : ¬ y.2.2.1 = 3 := by rcases hg with h | ⟨h, _⟩ <;> omega
      have hne := next_end hi (fails := fails) hm hj hg
      unfold factJ
      rw [if_neg hopen]
      by_cases h3 : (nextJ es fails q y).2.2.1 = 3
      · rw [if_pos h3]
        unfold endF1 at hne
        rw [if_pos h3] at hne
        rw [← hne, ← type_next es fails q y, if_neg (type_over hg h3)]
        rw [← hx, ← h3]
      · rw [if_neg h3, type_next, ← he, hx]
    · rw [if_neg hu] at he ⊢
      unfold factJ
      rw [he]
  have e : x.map (factJ es fails x) = q.map (fun y => factJ es fails x (if y.1 = j.1 then nextJ es fails q j else y)) := by
    generalize factJ es fails x = f
    rw [← hx']
    unfold updJ
    rw [List.map_map]
    rfl
  rw [e]
  exact List.map_congr_left this
theorem fact_over {es : List Ed} {fails : List Str} {q : List Jb} (h : ∀ j ∈ q, j.2.2.1 = 3) : factQ es fails q = q := by
  unfold factQ
  rw [List.map_congr_left (g := id) (fun x hx => by unfold factJ; rw [if_pos (h x hx)]; rfl), List.map_id]
theorem stuck_over {ns : List Nd} {es : List Ed} {q : List Jb} (hs : soundQ ns es q = true) (h : stepsQ es q = []) : ∀ j ∈ q, j.2.2.1 = 3 := by
  obtain ⟨_, hi, hm, _⟩ := soundQ_iff.1 hs
  have hno : ∀ j ∈ q, ¬ Goes es q j := fun j hj hg => by
    have := (mem_stepsQ (es := es) hm).2 ⟨j, hj, rfl, hg⟩
    rw [h] at this; cases this
  intro j hj
  refine Classical.byContradiction fun h3 => ?_
  have hr := never hs ⟨j, hj, h3⟩ (fun k hk h2 => hno k hk (.inl h2))
  cases hl : readyQ es q with
  | nil => exact hr hl
  | cons u r =>
    obtain ⟨k, hk, _, h1, hf⟩ := (mem_readyQ hm).1 (show u ∈ readyQ es q by rw [hl]; exact .head _)
    exact hno k hk (.inr ⟨h1, hf⟩)
theorem sound_ends {ns : List Nd} {es : List Ed} {q : List Jb} (hs : soundQ ns es q = true) : mayQ q = true ∧ isB es = true := ⟨(soundQ_iff.1 hs).2.2.1, (soundQ_iff.1 hs).2.1⟩
theorem run_sound {ns : List Nd} {es : List Ed} {fails : List Str} {picks : List Int} {q : List Jb} (hs : soundQ ns es q = true) (m : Nat) : soundQ ns es (runN es fails picks q m).1 = true ∧ factQ es fails (runN es fails picks q m).1 = factQ es fails q :=
  (runN_inv (P := fun s => soundQ ns es s.1 = true ∧ factQ es fails s.1 = factQ es fails q) (sound_ends hs).1 ⟨hs, rfl⟩ (fun s s' j hm ⟨h1, h2⟩ hw => ⟨hw.sound h1, by rw [hw.jobs, fact_step (sound_ends h1).2 hm hw.here hw.goes]; exact h2⟩) m).2
/-- Whatever the picks, one end. -/
theorem run_fact {ns : List Nd} {es : List Ed} {fails : List Str} {picks : List Int} {q : List Jb} (hs : soundQ ns es q = true) : (runE es fails picks q).1 = factQ es fails q := by
  obtain ⟨h1, h2⟩ := run_sound (fails := fails) (picks := picks) hs (msQ q + 1)
  rw [← h2]
  exact (fact_over (stuck_over h1 (runE_stuck (sound_ends hs).1))).symm
end Od
end Go.Proofs.YtmlogmcnblgnbaaGreat
end

section
/- Who ends on the way, and in which order. No program. -/
namespace Go.Proofs.YtmlogmcnblgnbaaGreat
set_option linter.unusedSimpArgs false
namespace Od
def opN (j : Jb) : Nat := if j.2.2.1 = 3 then 0 else 1
def openN (q : List Jb) : Nat := (q.map opN).sum
theorem openN_succ {q : List Jb} {k : Nat} (h : k < q.length) : openN (q.take (k + 1)) = openN (q.take k) + opN q[k] := by
  unfold openN
  rw [List.take_succ_eq_append_getElem h, List.map_append, List.sum_append]
  simp
theorem openN_le (q : List Jb) : openN q ≤ q.length := by
  unfold openN
  induction q with
  | nil => simp
  | cons y r ih =>
    simp only [List.map_cons, List.sum_cons, List.length_cons]
    have : opN y ≤ 1 := by unfold opN; split <;> omega
    omega
theorem sum_upd (f : Jb → Nat) {q : List Jb} (hd : DQ q) {j x : Jb} (hj : j ∈ q) : ((updJ q j.1 (fun _ => x)).map f).sum + f j = (q.map f).sum + f x := by
  induction q with
  | nil => cases hj
  | cons y r ih =>
    have hd' : (y.1 :: r.map (·.1)).Nodup := hd
    obtain ⟨h1, h2⟩ := List.nodup_cons.1 hd'
    by_cases hy : y.1 = j.1
    · have hr : ∀ z ∈ r, z.1 ≠ j.1 := fun z hz e => h1 (List.mem_map.2 ⟨z, hz, by rw [e, hy]⟩)
      have e1 : updJ (y :: r) j.1 (fun _ => x) = x :: r := by
        show (if y.1 = j.1 then x else y) :: updJ r j.1 (fun _ => x) = x :: r
        rw [if_pos hy, updJ_none hr]
      have e2 : y = j := hd.eq (.head _) hj hy
      rw [e1, e2]
      simp only [List.map_cons, List.sum_cons]
      omega
    · have e1 : updJ (y :: r) j.1 (fun _ => x) = y :: updJ r j.1 (fun _ => x) := by
        show (if y.1 = j.1 then x else y) :: updJ r j.1 (fun _ => x) = _
        rw [if_neg hy]
      rw [e1]
      rcases List.mem_cons.1 hj with e | hj'
      · exact absurd (by rw [e]) hy
      · have := ih h2 hj'
        simp only [List.map_cons, List.sum_cons]
        omega
theorem Goes.open {es : List Ed} {q : List Jb} {j : Jb} (h : Goes es q j) : j.2.2.1 ≠ 3 := by rcases h with h | ⟨h, _⟩ <;> omega
/-- Each that was open ends once. -/
structure Told (q : List Jb) (s : St) : Prop where
  fro : ∀ j ∈ s.1, ∃ j0 ∈ q, j0.1 = j.1 ∧ (j0.2.2.1 = 3 → j = j0)
  over : ∀ d ∈ s.2, ∃ j ∈ s.1, j.2.2.1 = 3 ∧ d = doneOf j ∧ ∀ j0 ∈ q, j0.1 = j.1 → j0.2.2.1 ≠ 3
  all : ∀ j ∈ s.1, j.2.2.1 = 3 → (∀ j0 ∈ q, j0.1 = j.1 → j0.2.2.1 ≠ 3) → doneOf j ∈ s.2
  once : (s.2.map (·.1)).Nodup
  len : s.2.length + openN s.1 = openN q
theorem Told.zero {q : List Jb} : Told q (q, []) where
  fro := fun j hj => ⟨j, hj, rfl, fun _ => rfl⟩
  over := fun d hd => by cases hd
  all := fun j hj h3 h => absurd h3 (h j hj rfl)
  once := .nil
  len := by simp
theorem Told.step {es : List Ed} {fails : List Str} {q : List Jb} (hq : DQ q) {s s' : St} {j : Jb} (hm : mayQ s.1 = true) (h : Told q s) (hw : Went es fails s s' j) : Told q s' := by
  have hd := mayQ.dq hm
  have hx := nextJ_unit es fails s.1 j
  have hop := hw.goes.open
  have hj0 : ∀ j0 ∈ q, j0.1 = j.1 → j0.2.2.1 ≠ 3 := fun j0 h0 e h3 => by
    obtain ⟨k, hk, e2, h4⟩ := h.fro j hw.here
    have : k = j0 := hq.eq hk h0 (by rw [e2, e])
    subst this
    have := h4 h3
    rw [this] at hop
    exact hop h3
  have hnot : ∀ d ∈ s.2, d.1 ≠ j.1 := fun d hdd e => by
    obtain ⟨k, hk, h3, e2, _⟩ := h.over d hdd
    have : k = j := hd.eq hk hw.here (by rw [← e, e2]; rfl)
    subst this
    exact hop h3
  obtain ⟨x1, x2⟩ := s'
  have hjobs := hw.jobs
  have hover := hw.over
  simp only at hjobs hover
  have hmem : ∀ y, y ∈ x1 ↔ ∃ z ∈ s.1, y = if z.1 = j.1 then nextJ es fails s.1 j else z := fun y => by rw [hjobs]; exact mem_updJ
  have hhere : nextJ es fails s.1 j ∈ x1 := (hmem _).2 ⟨j, hw.here, by rw [if_pos rfl]⟩
  have hsum := sum_upd opN hd (x := nextJ es fails s.1 j) hw.here
  rw [← hjobs] at hsum
  have hopj : opN j = 1 := by unfold opN; rw [if_neg hop]
  have hlen := h.len
  unfold openN at hlen
  generalize hnx : nextJ es fails s.1 j = x at *
  refine ⟨fun y hy => ?_, fun d hdd => ?_, fun y hy h3 h0 => ?_, ?_, ?_⟩
  · obtain ⟨z, hz, e⟩ := (hmem y).1 hy
    by_cases hu : z.1 = j.1
    · rw [if_pos hu] at e
      subst e
      obtain ⟨k, hk, e2, _⟩ := h.fro j hw.here
      exact ⟨k, hk, by rw [e2, hx], fun h3 => absurd h3 (hj0 k hk e2)⟩
    · rw [if_neg hu] at e
      subst e
      exact h.fro _ hz
  · rw [hover] at hdd
    rcases List.mem_append.1 hdd with hdd | hdd
    · obtain ⟨k, hk, h3, e2, h4⟩ := h.over d hdd
      refine ⟨k, (hmem k).2 ⟨k, hk, ?_⟩, h3, e2, h4⟩
      rw [if_neg]
      intro e
      exact hnot d hdd (by rw [e2]; exact e)
    · split at hdd
      · rename_i h3
        rw [List.mem_singleton] at hdd
        exact ⟨x, hhere, h3, hdd, fun j0 h0 e => hj0 j0 h0 (by rw [e, hx])⟩
      · cases hdd
  · obtain ⟨z, hz, e⟩ := (hmem y).1 hy
    show doneOf y ∈ x2
    rw [hover]
    by_cases hu : z.1 = j.1
    · rw [if_pos hu] at e
      subst e
      rw [if_pos h3]
      simp
    · rw [if_neg hu] at e
      subst e
      exact List.mem_append_left _ (h.all _ hz h3 h0)
  · show (x2.map (·.1)).Nodup
    rw [hover, List.map_append]
    split
    · rw [List.nodup_append]
      refine ⟨h.once, by simp, ?_⟩
      intro a ha b hb e
      subst e
      simp only [List.map_cons, List.map_nil, List.mem_singleton] at hb
      obtain ⟨d, hdd, e2⟩ := List.mem_map.1 ha
      exact hnot d hdd (by rw [e2, hb]; exact hx)
    · simpa using h.once
  · show x2.length + (x1.map opN).sum = openN q
    unfold openN
    rw [hover, List.length_append]
    by_cases h3 : x.2.2.1 = 3
    · have : opN x = 0 := by unfold opN; rw [if_pos h3]
      rw [if_pos h3]
      simp only [List.length_singleton]
      unfold openN at *
      omega
    · have : opN x = 1 := by unfold opN; rw [if_neg h3]
      rw [if_neg h3]
      simp only [List.length_nil]
      unfold openN at *
      omega
theorem run_told {es : List Ed} {fails : List Str} {picks : List Int} {q : List Jb} (hm : mayQ q = true) (m : Nat) : Told q (runN es fails picks q m) :=
  (runN_inv (P := Told q) hm .zero (fun _ _ _ h1 h2 h3 => h2.step (mayQ.dq hm) h1 h3) m).2
theorem Told.len_le {q : List Jb} {s : St} (h : Told q s) : s.2.length ≤ q.length := by
  have := h.len
  have := openN_le q
  omega
/-! The order -/
def clashD (es : List Ed) (d e : Nd) : Bool := ((d.2.1 == 1 && e.2.1 == 1) && Ah es e.1 d.1) || ((d.2.1 == 2 && e.2.1 == 2) && Ah es d.1 e.1)
def finT (t : Int) : Int := if t = 3 then 1 else t
def finD (j : Jb) : Nd := (j.1, finT j.2.1, 0)
structure Lined (es : List Ed) (q : List Jb) (s : St) : Prop where
  run : ∀ x ∈ s.1, x.2.2.1 = 2 → x.2.1 ≠ 3 → runsB q x.1 = false → ∀ y ∈ s.1, y.2.2.1 ≠ 3 → clashD es (doneOf x) (finD y) = false
  over : ∀ d ∈ s.2, runsB q d.1 = false → ∀ y ∈ s.1, y.2.2.1 ≠ 3 → clashD es d (finD y) = false
  pw : s.2.Pairwise (fun d e => runsB q d.1 = false → clashD es d e = false)
theorem clash_free {es : List Ed} (hi : isB es = true) {q : List Jb} (hm : mayQ q = true) {j y : Jb} (hf : FreeJ es q j) (hy : y ∈ q) (hop : y.2.2.1 ≠ 3) (e : Int) : clashD es (j.1, j.2.1, e) (finD y) = false := by
  by_cases hu : y.1 = j.1
  · unfold clashD finD
    simp only
    rw [hu, Ah_self hi]
    simp
  · have h1 := hf y hy
    have hst := may_state ((mayQ_iff.1 hm).2.1 y hy)
    rcases hst with h | h | h
    · rw [ahead_wait es h hu] at h1
      unfold clashD finD finT
      unfold endsB at h1
      simp only
      cases a1 : Ah es j.1 y.1 <;> cases a2 : Ah es y.1 j.1 <;> simp only [a1, a2, Bool.and_true, Bool.and_false, Bool.or_false, Bool.false_or, Bool.true_and, Bool.false_and] at h1 ⊢
      · have : (j.2.1 == 1) = false := by
          simp at h1
          rw [beq_eq_false_iff_ne]; intro e; simp [e] at h1
        rw [this]; rfl
      · have : y.2.1 ≠ 2 := by simp at h1; exact h1.1
        have h4 : ((if y.2.1 = 3 then (1 : Int) else y.2.1) == 2) = false := by
          rw [beq_eq_false_iff_ne]; split <;> omega
        rw [h4]; simp
      · have : y.2.1 ≠ 2 := by simp at h1; exact h1.1.1
        have h4 : ((if y.2.1 = 3 then (1 : Int) else y.2.1) == 2) = false := by
          rw [beq_eq_false_iff_ne]; split <;> omega
        have h5 : (j.2.1 == 1) = false := by
          simp at h1
          rw [beq_eq_false_iff_ne]; intro e; simp [e] at h1
        rw [h4, h5]; simp
    · obtain ⟨a1, a2⟩ := ahead_run h1 h hu
      unfold clashD finD
      simp only
      rw [a1, a2]
      simp
    · exact absurd h hop
theorem Lined.zero {es : List Ed} {q : List Jb} (hd : DQ q) : Lined es q (q, []) where
  run := fun x hx h2 _ hr => by rw [runsB_at hd hx, h2] at hr; cases hr
  over := fun d hd => by cases hd
  pw := .nil
theorem Lined.step {es : List Ed} (hi : isB es = true) {fails : List Str} {q : List Jb} {s s' : St} {j : Jb} (hm : mayQ s.1 = true) (h : Lined es q s) (hw : Went es fails s s' j) : Lined es q s' := by
  have hx := nextJ_unit es fails s.1 j
  have hop := hw.goes.open
  obtain ⟨x1, x2⟩ := s'
  have hjobs := hw.jobs
  have hover := hw.over
  simp only at hjobs hover
  have htn : finT (nextJ es fails s.1 j).2.1 = finT j.2.1 := type_next es fails s.1 j
  -- each open one was open
  have hback : ∀ y ∈ x1, y.2.2.1 ≠ 3 → ∃ z ∈ s.1, z.2.2.1 ≠ 3 ∧ finD y = finD z := by
    intro y hy h3
    rw [hjobs] at hy
    obtain ⟨z, hz, e⟩ := mem_updJ.1 hy
    by_cases hu : z.1 = j.1
    · rw [if_pos hu] at e
      subst e
      exact ⟨j, hw.here, hop, by unfold finD; rw [htn, hx]⟩
    · rw [if_neg hu] at e
      subst e
      exact ⟨_, hz, h3, rfl⟩
  -- what ends
  have hend : (nextJ es fails s.1 j).2.2.1 = 3 → runsB q j.1 = false → ∀ z ∈ s.1, z.2.2.1 ≠ 3 → clashD es (doneOf (nextJ es fails s.1 j)) (finD z) = false := by
    intro h3 hr z hz hzo
    have hto := type_over hw.goes h3
    have ht : (nextJ es fails s.1 j).2.1 = j.2.1 ∧ j.2.1 ≠ 3 := by
      unfold finT at htn
      rw [if_neg hto] at htn
      by_cases e : j.2.1 = 3
      · exfalso
        rcases hw.goes with h2 | ⟨h1, _⟩
        · revert h3
          unfold nextJ newF ended endJ canF
          rw [if_pos h2]
          simp [e, h2]
        · revert h3
          unfold nextJ newF begun
          rw [if_neg (by omega)]
          simp [e]
      · rw [if_neg e] at htn
        exact ⟨htn, e⟩
    unfold doneOf
    rw [hx, ht.1]
    rcases hw.goes with h2 | ⟨h1, hf⟩
    · exact h.run j hw.here h2 ht.2 hr z hz hzo
    · exact clash_free hi hm hf hz hzo _
  refine ⟨fun x hxx h2 ht hr y hy hyo => ?_, fun d hd hr y hy hyo => ?_, ?_⟩
  · obtain ⟨z, hz, hzo, ez⟩ := hback y hy hyo
    rw [ez]
    have hxx' : x ∈ x1 := hxx
    rw [hjobs] at hxx'
    obtain ⟨v, hv, e⟩ := mem_updJ.1 hxx'
    by_cases hu : v.1 = j.1
    · rw [if_pos hu] at e
      subst e
      rcases hw.goes with h2' | ⟨h1, hf⟩
      · exfalso
        revert h2
        unfold nextJ newF ended
        rw [if_pos h2']
        split <;> simp
      · have e2 : nextJ es fails s.1 j = (j.1, j.2.1, 2, j.2.2.2) := by
          revert h2
          unfold nextJ newF begun
          rw [if_neg (by omega)]
          split
          · simp
          · intro _; rfl
        rw [e2] at ht ⊢
        exact clash_free hi hm hf hz hzo _
    · rw [if_neg hu] at e
      subst e
      exact h.run _ hv h2 ht hr z hz hzo
  · obtain ⟨z, hz, hzo, ez⟩ := hback y hy hyo
    rw [ez]
    have hd' : d ∈ x2 := hd
    rw [hover] at hd'
    rcases List.mem_append.1 hd' with hd' | hd'
    · exact h.over d hd' hr z hz hzo
    · split at hd'
      · rename_i h3
        rw [List.mem_singleton] at hd'
        subst hd'
        exact hend h3 (by rw [← hx]; exact hr) z hz hzo
      · cases hd'
  · show x2.Pairwise _
    rw [hover]
    split
    · rename_i h3
      rw [List.pairwise_append]
      refine ⟨h.pw, List.pairwise_singleton _ _, ?_⟩
      intro d hd e he hr
      rw [List.mem_singleton] at he
      subst he
      have h4 := h.over d hd hr j hw.here hop
      have e2 : finT j.2.1 = (nextJ es fails s.1 j).2.1 := by
        rw [← htn]; unfold finT; rw [if_neg (type_over hw.goes h3)]
      unfold clashD finD at h4
      unfold clashD doneOf
      simp only at h4 ⊢
      rw [hx, ← e2]
      exact h4
    · simpa using h.pw
theorem run_lined {es : List Ed} (hi : isB es = true) {fails : List Str} {picks : List Int} {q : List Jb} (hm : mayQ q = true) (m : Nat) : Lined es q (runN es fails picks q m) :=
  (runN_inv (P := Lined es q) hm (.zero (mayQ.dq hm)) (fun _ _ _ h1 h2 h3 => h2.step hi h1 h3) m).2
end Od
end Go.Proofs.YtmlogmcnblgnbaaGreat
end
