/- My texts, joined for the claim: QBase QMath QFind. -/
import Derived.Test.YtmlogmcnblgnbaaGreatZB3
import Derived.Test.YtmlogmcnblgnbaaGreatZB2

section
/- Texts sorted, each once; slices.Contains, IndexFunc and ContainsFunc at texts; rows that rise. -/
namespace Go.Proofs.YtmlogmcnblgnbaaGreat
open Go.RowKit Go.Maps Go.Sort

namespace Od
theorem sortS_le (ss : List Str) : LE ltS (sortS ss) := by
  have h := List.pairwise_mergeSort (le := fun x y : Str => decide (x ≤ y)) (fun a b c h1 h2 => by
    simp only [decide_eq_true_eq] at *
    exact List.le_trans h1 h2) (fun a b => by
    simp only [Bool.or_eq_true, decide_eq_true_eq]
    exact List.le_total a b) ss
  refine h.imp fun {a b} hab => ?_
  rw [ltS_false]
  exact List.not_lt.2 (by simpa using hab)
theorem mem_sortS {ss : List Str} {s : Str} : s ∈ sortS ss ↔ s ∈ ss := (List.mergeSort_perm _ _).mem_iff
theorem le_nodup_ss : ∀ {ss : List Str}, LE ltS ss → ss.Nodup → SS ltS ss
  | [], _, _ => List.Pairwise.nil
  | x :: r, h1, h2 => by
    obtain ⟨hx, hr⟩ := List.pairwise_cons.1 h1
    obtain ⟨hx2, hr2⟩ := List.nodup_cons.1 h2
    refine List.pairwise_cons.2 ⟨fun y hy => ?_, le_nodup_ss hr hr2⟩
    cases h : ltS x y
    · exact absurd (toS.total h (hx y hy)) (fun e => hx2 (e ▸ hy))
    · rfl
theorem sortS_ss {ss : List Str} (h : ss.Nodup) : SS ltS (sortS ss) := le_nodup_ss (sortS_le ss) ((List.mergeSort_perm _ _).nodup_iff.2 h)
theorem onceS_ss (ss : List Str) : SS ltS (onceS ss) := compact_ss toS (sortS_le ss)
theorem mem_onceS {ss : List Str} {s : Str} : s ∈ onceS ss ↔ s ∈ ss := by unfold onceS; rw [mem_compact, mem_sortS]
theorem onceS_canon (ss : List Str) : onceS ss = canon ltS ss := SS.eq_canon toS (onceS_ss ss) fun _ => mem_onceS
theorem idxOf_zs (ss : List Str) (x : Str) : Lib.containsS (ss.map fun s => (⟨s.toArray⟩ : ByteArray)) ⟨x.toArray⟩ = decide (x ∈ ss) := by
  rw [Bool.eq_iff_iff, Lib.containsS_iff, decide_eq_true_eq, List.mem_map]
  constructor
  · rintro ⟨a, ha, e⟩
    injection e with e
    have : a = x := by simpa using e
    exact this ▸ ha
  · intro h
    exact ⟨x, h, rfl⟩
theorem containsS_rd (A : Option Addr) (c : Nat) (ss : List Str) (x : Str) (w : World) (hr : Rd w w.heap.size 1 A ss.length (svs ss)) (hl : ss.length ≤ 1000000) :
    Calls Tryz.prog 38 #[.slice A ss.length c, sv x] w fun e w' => e = .returned (.bool (decide (x ∈ ss))) ∧ w' = w := by
  rcases Nat.eq_zero_or_pos ss.length with h0 | h0
  · have hn := List.length_eq_zero_iff.1 h0
    subst hn
    refine (Tryz.slices_Contains_string_empty A c _ w).mono ?_
    rintro e w' ⟨rfl, rfl⟩
    exact ⟨by simp, rfl⟩
  · obtain ⟨b, o, rfl, hb, hc⟩ := hr.open h0
    refine (Tryz.slices_Contains_string b o ss.length c (ss.map fun s => ⟨s.toArray⟩) ⟨x.toArray⟩ w (by simp) (by omega) (fun j hj => ?_)).mono ?_
    · have hj' : j < ss.length := by simpa using hj
      rw [hc j (by omega)]
      simp [svs, hj']
    · rintro e w' ⟨rfl, rfl⟩
      exact ⟨by rw [List.take_of_length_le (by simp), idxOf_zs], rfl⟩
theorem mem_outS {es : List Ed} {u s : Str} {rel : Int} : s ∈ outS es u rel ↔ (u, s, rel) ∈ es := by
  unfold outS outRaw
  rw [mem_onceS, List.mem_map]
  constructor
  · rintro ⟨⟨a, b, c⟩, h, rfl⟩
    obtain ⟨h1, h2⟩ := List.mem_filter.1 h
    have : a = u ∧ c = rel := by simpa [outP] using h2
    rw [← this.1, ← this.2]
    exact h1
  · intro h
    exact ⟨_, List.mem_filter.2 ⟨h, by simp [outP]⟩, rfl⟩
theorem hasE_out (es : List Ed) (u s : Str) (rel : Int) : decide (s ∈ outS es u rel) = hasE es u s rel := by
  rw [Bool.eq_iff_iff, decide_eq_true_eq, mem_outS, hasE_iff]

/-- A function value that says of a text whether p, whatever has been made since. -/
structure SaysS (g : Nat) (caps : Array Value) (p : Str → Bool) (w : World) : Prop where
  enters : ∀ (args : Array Value) (W : World), (callFunc g args).run Tryz.prog W = .ok (.enter g args) W
  says : ∀ (W : World) (s : Str), Below w.heap.size w W → Calls Tryz.prog g (#[sv s] ++ caps) W fun e w' => e = .returned (.bool (p s)) ∧ Below W.heap.size W w'
set_option maxRecDepth 100000 in
set_option maxHeartbeats 1000000 in
theorem IndexFuncS (A : Option Addr) (c : Nat) (ss : List Str) (g : Nat) (caps : Array Value) (p : Str → Bool) (w : World) (hr : Rd w w.heap.size 1 A ss.length (svs ss)) (hl : ss.length ≤ 1000000) (hp : SaysS g caps p w) :
    Calls Tryz.prog 131 #[.slice A ss.length c, .func (.func g) #[] caps] w (FindIdx ss p w) := by
  have Hr := Lib.hid hr
  have Hp := Lib.hid hp
  have eg := hp.enters
  clear hr hp
  go_enter Tryz.func131, Tryz.ntmps131
  go_wp2_with fail
  go_loopw [8] (fun i wr => ∃ k : Nat, k ≤ ss.length ∧ i = .int .i64 k ∧ Hid ((ss.take k).any p = false) ∧ Below w.heap.size w wr) (fun i _ => ss.length - (intOf i).toNat)
  case atStart => exact ⟨0, Nat.zero_le _, rfl, by simp [Hid], Below.refl _ _⟩
  case round =>
    obtain ⟨k, hk, rfl, hall, hbel⟩ := hrel
    by_cases hlt : k < ss.length
    · obtain ⟨b, o, rfl, hB, hc0⟩ := (Hr.out.on (Nat.le_refl _) hbel).str hlt
      have Hbel := Lib.hid hbel
      clear hbel
      generalize hx : ss[k] = x at hc0
      have Hx := Lib.hid hx
      clear hx
      have hcall := Hp.out.says wr x Hbel.out
      have Hcall := Lib.hid hcall
      clear hcall
      go_wp2_with fail
      refine Hcall.out.mono ?_
      rintro e w2 ⟨rfl, hb2⟩
      have Hb2 := Lib.hid (Hbel.out.trans (hb2.mono Hbel.out.size))
      clear hb2
      cases hpx : p x
      · have Hpx := Lib.hid hpx
        go_wp2_with fail
        go_roundw
        case rel => exact ⟨k + 1, by omega, by go_num, by show _ = false; rw [any_take_succ hlt, hall.out, Hx.out, Hpx.out]; rfl, Hb2.out⟩
        case measure => simp [intOf]; omega
      · have Hpx := Lib.hid hpx
        go_wp2_with fail
        go_ret
        exact ⟨k, rfl, .inr ⟨k, hlt, rfl, find_at hlt hall.out (by rw [Hx.out]; exact Hpx.out), by rw [Hx.out]; exact Hpx.out, fun j hj => take_any_at hk hall.out hj⟩, Hb2.out⟩
    · have ha := hall.out
      rw [List.take_of_length_le (by omega)] at ha
      have Ha := Lib.hid ha
      clear ha
      go_wp2_with fail
      go_ret
      exact ⟨-1, rfl, .inl ⟨rfl, find_none_take Ha.out⟩, hbel⟩
set_option maxHeartbeats 1000000 in
theorem ContainsFuncS (A : Option Addr) (c : Nat) (ss : List Str) (g : Nat) (caps : Array Value) (p : Str → Bool) (w : World) (hr : Rd w w.heap.size 1 A ss.length (svs ss)) (hl : ss.length ≤ 1000000) (hp : SaysS g caps p w) :
    Calls Tryz.prog 99 #[.slice A ss.length c, .func (.func g) #[] caps] w fun e w' => e = .returned (.bool (ss.any p)) ∧ Below w.heap.size w w' := by
  go_enter Tryz.func99, Tryz.ntmps99
  go_wp2_with fail
  refine (IndexFuncS A c ss g caps p w hr hl hp).mono ?_
  rintro e w2 ⟨r, rfl, hcase, hb⟩
  have hiff : decide ((0 : Int) ≤ r) = ss.any p := by
    rcases hcase with ⟨rfl, h⟩ | ⟨k, hk, rfl, _, h, _⟩
    · rw [Bool.eq_iff_iff]
      constructor
      · intro h; simp at h
      · intro h2; obtain ⟨x, hx, hpx⟩ := List.any_eq_true.1 h2; rw [List.find?_eq_none] at h; exact absurd hpx (h x hx)
    · rw [any_of_at hk h]; simp
  have Hiff := Lib.hid hiff
  clear hiff hcase
  go_wp2_with fail
  go_ret
  exact ⟨ret_bool Hiff.out, hb⟩
theorem up_pw {α : Type} {c : α → α → Int} (ht : ∀ x y z, c x y < 0 → c y z < 0 → c x z < 0) : ∀ {l : List α}, risesB c l = true → l.Pairwise (fun x y => c x y < 0)
  | [], _ => .nil
  | [x], _ => List.pairwise_singleton _ _
  | x :: y :: r, h => by
    unfold risesB at h
    rw [Bool.and_eq_true, decide_eq_true_eq] at h
    have ih := up_pw ht h.2
    refine List.pairwise_cons.2 ⟨fun z hz => ?_, ih⟩
    rcases List.mem_cons.1 hz with e | e
    · rw [e]; exact h.1
    · exact ht _ _ _ h.1 ((List.pairwise_cons.1 ih).1 z e)
theorem pw_up {α : Type} {c : α → α → Int} : ∀ {l : List α}, l.Pairwise (fun x y => c x y < 0) → risesB c l = true
  | [], _ => rfl
  | [x], _ => rfl
  | x :: y :: r, h => by
    unfold risesB
    obtain ⟨h1, h2⟩ := List.pairwise_cons.1 h
    rw [Bool.and_eq_true, decide_eq_true_eq]
    exact ⟨h1 y (.head _), pw_up h2⟩
theorem aheadB_prs {es : List Ed} {a b : Str} : es.any (aheadB a b) = true ↔ (a, b) ∈ prsL es := by
  rw [List.any_eq_true, mem_prsL]
  have hp : ∀ e : Ed, pairOf e = pairE e := fun e => rfl
  simp only [aheadB, hp, beq_iff_eq]
theorem lessS_lt (a b : Str) : lessS a b = ltS a b := rfl
end Od
end Go.Proofs.YtmlogmcnblgnbaaGreat
end

section
/- What a queue's functions answer, as lists, and what is true of it. No program. -/
namespace Go.Proofs.YtmlogmcnblgnbaaGreat
set_option linter.unusedSimpArgs false
namespace Od
/-- Does a come directly ahead of b? -/
def Ah (es : List Ed) (a b : Str) : Bool := es.any (aheadB a b)
theorem Ah_prs {es : List Ed} {a b : Str} : Ah es a b = true ↔ (a, b) ∈ prsL es := aheadB_prs
theorem Ah_self {es : List Ed} (h : isB es = true) (a : Str) : Ah es a a = false := by
  cases hh : Ah es a a
  · rfl
  · exact absurd (R.one (Ah_prs.1 hh)) (isB_iff.1 h a)
theorem Ah_not {es : List Ed} (h : isB es = true) {a b : Str} (hab : Ah es a b = true) : Ah es b a = false := by
  cases hh : Ah es b a
  · rfl
  · exact absurd ((R.one (Ah_prs.1 hab)).snoc (Ah_prs.1 hh)) (isB_iff.1 h a)
/-! What a queue may be -/
def stB (j : Jb) : Bool := if j.2.2.1 = 1 ∨ j.2.2.1 = 2 then j.2.2.2 == 0 else if j.2.2.1 = 3 then decide (1 ≤ j.2.2.2) && decide (j.2.2.2 ≤ 4) else false
def mayJ (j : Jb) : Bool := kindS j.1 != 0 && (!decide (j.2.1 < 1) && (!decide (4 < j.2.1) && stB j))
def jobCmp (a b : Jb) : Int := cmpS a.1 b.1
def mayQ (q : List Jb) : Bool := decide ((q.length : Int) ≤ 64) && (q.all mayJ && risesB jobCmp q)
def upQ (q : List Jb) : Prop := q.Pairwise (fun a b => ltS a.1 b.1 = true)
theorem cmpS_lt {a b : Str} : cmpS a b < 0 ↔ ltS a b = true := by
  unfold cmpS
  rw [lessS_lt]
  split
  · simp_all
  · split <;> simp_all
theorem upQ_iff {q : List Jb} : risesB jobCmp q = true ↔ upQ q := by
  constructor
  · intro h
    exact (up_pw (c := jobCmp) (fun x y z h1 h2 => cmpS_lt.2 (toS.trans (cmpS_lt.1 h1) (cmpS_lt.1 h2))) h).imp fun {a b} h => cmpS_lt.1 h
  · intro h
    exact pw_up (h.imp fun {a b} h => cmpS_lt.2 h)
theorem mayQ_iff {q : List Jb} : mayQ q = true ↔ q.length ≤ 64 ∧ (∀ j ∈ q, mayJ j = true) ∧ upQ q := by
  unfold mayQ
  rw [Bool.and_eq_true, Bool.and_eq_true, decide_eq_true_eq, List.all_eq_true, upQ_iff]
  constructor
  · rintro ⟨h1, h2⟩; exact ⟨by omega, h2⟩
  · rintro ⟨h1, h2⟩; exact ⟨by omega, h2⟩
theorem mayQ_nil : mayQ [] = true := mayQ_iff.2 ⟨by simp, by simp, .nil⟩
theorem upQ_map {q : List Jb} : upQ q ↔ (q.map (·.1)).Pairwise (fun a b => ltS a b = true) := (List.pairwise_map (f := fun x : Jb => x.1) (R := fun a b => ltS a b = true)).symm
/-- Each unit once. -/
def DQ (q : List Jb) : Prop := (q.map (·.1)).Nodup
theorem upQ.dq {q : List Jb} (h : upQ q) : DQ q := by
  show (q.map (·.1)).Pairwise (· ≠ ·)
  exact (upQ_map.1 h).imp fun {a b} hab e => by rw [e, toS.irrefl] at hab; cases hab
theorem mayQ.dq {q : List Jb} (h : mayQ q = true) : DQ q := (mayQ_iff.1 h).2.2.dq
theorem DQ.eq : ∀ {q : List Jb}, DQ q → ∀ {x y : Jb}, x ∈ q → y ∈ q → x.1 = y.1 → x = y
  | [], _, x, y, hx, _, _ => by cases hx
  | j :: r, h, x, y, hx, hy, he => by
    have h' : (j.1 :: r.map (·.1)).Nodup := h
    obtain ⟨h1, h2⟩ := List.nodup_cons.1 h'
    rcases List.mem_cons.1 hx with ex | hx'
    · rcases List.mem_cons.1 hy with ey | hy'
      · rw [ex, ey]
      · exact absurd (List.mem_map.2 ⟨y, hy', by rw [← he, ex]⟩) h1
    · rcases List.mem_cons.1 hy with ey | hy'
      · exact absurd (List.mem_map.2 ⟨x, hx', by rw [he, ey]⟩) h1
      · exact DQ.eq h2 hx' hy' he
theorem DQ.of_units {q q' : List Jb} (h : DQ q) (e : q'.map (·.1) = q.map (·.1)) : DQ q' := by unfold DQ; rw [e]; exact h
theorem upQ.of_units {q q' : List Jb} (h : upQ q) (e : q'.map (·.1) = q.map (·.1)) : upQ q' := by rw [upQ_map, e]; exact upQ_map.1 h
/-! Where a unit's job is -/
def jobOf (q : List Jb) (u : Str) : Option Jb := q.find? (fun j => j.1 == u)
theorem jobOf_mem {q : List Jb} {u : Str} {j : Jb} (h : jobOf q u = some j) : j ∈ q ∧ j.1 = u := ⟨List.mem_of_find?_eq_some h, by have := List.find?_some h; simpa using this⟩
theorem jobOf_of {q : List Jb} (hd : DQ q) {j : Jb} (hj : j ∈ q) : jobOf q j.1 = some j := by
  cases h : jobOf q j.1 with
  | none => have := List.find?_eq_none.1 h j hj; simp at this
  | some k => obtain ⟨h1, h2⟩ := jobOf_mem h; rw [hd.eq h1 hj h2]
theorem jobOf_none {q : List Jb} {u : Str} : jobOf q u = none ↔ ∀ j ∈ q, j.1 ≠ u := by unfold jobOf; simp [List.find?_eq_none]
theorem jobOf_iff {q : List Jb} (hd : DQ q) {u : Str} {j : Jb} : jobOf q u = some j ↔ j ∈ q ∧ j.1 = u :=
  ⟨jobOf_mem, fun ⟨h1, h2⟩ => h2 ▸ jobOf_of hd h1⟩
def updJ (q : List Jb) (u : Str) (f : Jb → Jb) : List Jb := q.map (fun x => if x.1 = u then f x else x)
theorem updJ_len (q : List Jb) (u : Str) (f : Jb → Jb) : (updJ q u f).length = q.length := by simp [updJ]
theorem mem_updJ {q : List Jb} {u : Str} {f : Jb → Jb} {y : Jb} : y ∈ updJ q u f ↔ ∃ x ∈ q, y = if x.1 = u then f x else x := by
  unfold updJ; rw [List.mem_map]
  constructor
  · rintro ⟨x, h1, h2⟩; exact ⟨x, h1, h2.symm⟩
  · rintro ⟨x, h1, h2⟩; exact ⟨x, h1, h2.symm⟩
theorem updJ_units {q : List Jb} {u : Str} {f : Jb → Jb} (h : ∀ x ∈ q, x.1 = u → (f x).1 = u) : (updJ q u f).map (·.1) = q.map (·.1) := by
  unfold updJ
  rw [List.map_map]
  apply List.map_congr_left
  intro x hx
  simp only [Function.comp]
  split
  · rename_i e; rw [h x hx e, e]
  · rfl
theorem updJ_congr {q : List Jb} {u : Str} {f g : Jb → Jb} (h : ∀ x ∈ q, x.1 = u → f x = g x) : updJ q u f = updJ q u g := by
  unfold updJ
  apply List.map_congr_left
  intro x hx
  split
  · rename_i e; exact h x hx e
  · rfl
theorem updJ_none {q : List Jb} {u : Str} {f : Jb → Jb} (h : ∀ x ∈ q, x.1 ≠ u) : updJ q u f = q := by
  unfold updJ
  rw [List.map_congr_left (g := id) (fun x hx => by rw [if_neg (h x hx)]; rfl), List.map_id]
theorem updJ_comm {q : List Jb} {a b : Str} {f g : Jb → Jb} (hab : a ≠ b) (hf : ∀ x, (f x).1 = x.1) (hg : ∀ x, (g x).1 = x.1) : updJ (updJ q a f) b g = updJ (updJ q b g) a f := by
  unfold updJ
  rw [List.map_map, List.map_map]
  apply List.map_congr_left
  intro x _
  simp only [Function.comp]
  by_cases h1 : x.1 = a
  · have h2 : ¬ x.1 = b := by rw [h1]; exact hab
    have h3 : ¬ (f x).1 = b := by rw [hf]; exact h2
    rw [if_pos h1, if_neg h3, if_neg h2, if_pos h1]
  · rw [if_neg h1]
    by_cases h2 : x.1 = b
    · have h3 : ¬ (g x).1 = a := by rw [hg]; exact h1
      rw [if_pos h2, if_neg h3]
    · rw [if_neg h2, if_neg h1]
theorem set_upd {q : List Jb} (hd : DQ q) {k : Nat} (hk : k < q.length) (x : Jb) : q.set k x = updJ q q[k].1 (fun _ => x) := by
  apply List.ext_getElem (by simp [updJ])
  intro i h1 h2
  have hi : i < q.length := by simpa using h1
  simp only [List.getElem_set, updJ, List.getElem_map]
  by_cases e : k = i
  · subst e; simp
  · rw [if_neg e, if_neg]
    intro e2
    have hp := List.pairwise_iff_getElem.1 (show (q.map (·.1)).Pairwise (· ≠ ·) from hd)
    rcases Nat.lt_or_gt_of_ne e with h | h
    · exact hp k i (by simpa using hk) (by simpa using hi) h (by simp [e2])
    · exact hp i k (by simpa using hi) (by simpa using hk) h (by simp [e2])
theorem jobOf_upd_ne {q : List Jb} {u v : Str} {f : Jb → Jb} (hf : ∀ x, x.1 = u → (f x).1 = u) (hne : v ≠ u) : jobOf (updJ q u f) v = jobOf q v := by
  unfold jobOf updJ
  induction q with
  | nil => rfl
  | cons x r ih =>
    simp only [List.map_cons, List.find?_cons]
    by_cases hx : x.1 = u
    · have h1 : ((f x).1 == v) = false := by rw [hf x hx]; simpa using Ne.symm hne
      have h2 : (x.1 == v) = false := by rw [hx]; simpa using Ne.symm hne
      rw [if_pos hx, h1, h2]
      exact ih
    · rw [if_neg hx]
      split
      · rfl
      · exact ih
theorem mayQ_upd {q : List Jb} {u : Str} {f : Jb → Jb} (h : mayQ q = true) (hf : ∀ x ∈ q, x.1 = u → mayJ (f x) = true ∧ (f x).1 = u) : mayQ (updJ q u f) = true := by
  obtain ⟨h1, h2, h3⟩ := mayQ_iff.1 h
  refine mayQ_iff.2 ⟨by rw [updJ_len]; exact h1, fun y hy => ?_, h3.of_units (updJ_units fun x hx e => (hf x hx e).2)⟩
  obtain ⟨x, hx, rfl⟩ := mem_updJ.1 hy
  split
  · rename_i e; exact (hf x hx e).1
  · exact h2 x hx
theorem mayQ_sub {q l : List Jb} (h : mayQ q = true) (hs : l.Sublist q) : mayQ l = true := by
  obtain ⟨h1, h2, h3⟩ := mayQ_iff.1 h
  exact mayQ_iff.2 ⟨Nat.le_trans hs.length_le h1, fun j hj => h2 j (hs.subset hj), List.Pairwise.sublist hs h3⟩
/-! Who goes ahead -/
def endsB (j : Jb) : Bool := j.2.1 == 2 || j.2.1 == 3
def openB (j : Jb) : Bool := j.2.2.1 != 3
def startsB (j : Jb) : Bool := j.2.1 == 1 || j.2.1 == 3
def aheadJ (es : List Ed) (x y : Jb) : Bool :=
  if x.2.2.1 = 3 ∨ x.1 = y.1 then false
  else if x.2.2.1 = 2 then Ah es x.1 y.1 || Ah es y.1 x.1
  else (Ah es y.1 x.1 && endsB x) || (Ah es x.1 y.1 && !endsB y)
def waitsJ (es : List Ed) (q : List Jb) (j : Jb) : List Str := (q.filter (fun x => aheadJ es x j)).map (·.1)
def waitsQ (es : List Ed) (q : List Jb) (u : Str) : List Str :=
  match jobOf q u with
  | none => []
  | some j => if (mayQ q && j.2.2.1 == 1) = true then waitsJ es q j else []
def readyB (es : List Ed) (q : List Jb) (j : Jb) : Bool := j.2.2.1 == 1 && (waitsQ es q j.1).isEmpty
def readyQ (es : List Ed) (q : List Jb) : List Str := if mayQ q = true then (q.filter (readyB es q)).map (·.1) else []
def runPair (es : List Ed) (a b : Jb) : Bool := (a.2.2.1 == 2 && b.2.2.1 == 2) && (Ah es a.1 b.1 || Ah es b.1 a.1)
def noPair (es : List Ed) : List Jb → Bool
  | [] => true
  | a :: r => r.all (fun b => !runPair es a b) && noPair es r
def soundQ (ns : List Nd) (es : List Ed) (q : List Jb) : Bool := mayG ns es && (isB es && (mayQ q && noPair es q))
def NoRun (es : List Ed) (q : List Jb) : Prop := ∀ x ∈ q, ∀ y ∈ q, x.2.2.1 = 2 → y.2.2.1 = 2 → Ah es x.1 y.1 = false
theorem noPair_iff {es : List Ed} {q : List Jb} : noPair es q = true ↔ q.Pairwise (fun a b => runPair es a b = false) := by
  induction q with
  | nil => simp [noPair]
  | cons a r ih =>
    unfold noPair
    rw [Bool.and_eq_true, ih, List.pairwise_cons, List.all_eq_true]
    simp only [Bool.not_eq_true']
theorem noPair_run {es : List Ed} (hi : isB es = true) {q : List Jb} : noPair es q = true ↔ NoRun es q := by
  rw [noPair_iff]
  constructor
  · intro h x hx y hy h1 h2
    obtain ⟨i, hi1, rfl⟩ := List.mem_iff_getElem.1 hx
    obtain ⟨k, hk1, rfl⟩ := List.mem_iff_getElem.1 hy
    have hp := List.pairwise_iff_getElem.1 h
    rcases Nat.lt_trichotomy i k with h3 | h3 | h3
    · have := hp i k hi1 hk1 h3
      simp only [runPair, h1, h2, BEq.rfl, Bool.and_self, Bool.true_and, Bool.or_eq_false_iff] at this
      exact this.1
    · subst h3; exact Ah_self hi _
    · have := hp k i hk1 hi1 h3
      simp only [runPair, h1, h2, BEq.rfl, Bool.and_self, Bool.true_and, Bool.or_eq_false_iff] at this
      exact this.2
  · intro h
    refine List.pairwise_iff_getElem.2 fun i k hi1 hk1 _ => ?_
    have h1 := h q[i] (List.getElem_mem hi1) q[k] (List.getElem_mem hk1)
    have h2 := h q[k] (List.getElem_mem hk1) q[i] (List.getElem_mem hi1)
    unfold runPair
    cases h3 : (q[i].2.2.1 == 2)
    · rfl
    · cases h4 : (q[k].2.2.1 == 2)
      · rfl
      · simp only [beq_iff_eq] at h3 h4
        rw [h1 h3 h4, h2 h4 h3]; rfl
theorem soundQ_iff {ns : List Nd} {es : List Ed} {q : List Jb} : soundQ ns es q = true ↔ mayG ns es = true ∧ isB es = true ∧ mayQ q = true ∧ NoRun es q := by
  unfold soundQ
  rw [Bool.and_eq_true, Bool.and_eq_true, Bool.and_eq_true]
  constructor
  · rintro ⟨h1, h2, h3, h4⟩; exact ⟨h1, h2, h3, (noPair_run h2).1 h4⟩
  · rintro ⟨h1, h2, h3, h4⟩; exact ⟨h1, h2, h3, (noPair_run h2).2 h4⟩
/-- Nothing goes ahead of a job. -/
def FreeJ (es : List Ed) (q : List Jb) (j : Jb) : Prop := ∀ x ∈ q, aheadJ es x j = false
theorem waitsQ_of {es : List Ed} {q : List Jb} (h : mayQ q = true) {j : Jb} (hj : j ∈ q) (h1 : j.2.2.1 = 1) : waitsQ es q j.1 = waitsJ es q j := by
  unfold waitsQ; rw [jobOf_of (mayQ.dq h) hj]; simp [h, h1]
theorem waitsQ_no {es : List Ed} {q : List Jb} (h : mayQ q = true) {j : Jb} (hj : j ∈ q) (h1 : j.2.2.1 ≠ 1) : waitsQ es q j.1 = [] := by
  unfold waitsQ; rw [jobOf_of (mayQ.dq h) hj]; simp [h1]
theorem waitsJ_nil {es : List Ed} {q : List Jb} {j : Jb} : waitsJ es q j = [] ↔ FreeJ es q j := by
  unfold waitsJ FreeJ
  rw [List.map_eq_nil_iff, List.filter_eq_nil_iff]
  simp only [Bool.not_eq_true]
theorem readyB_iff {es : List Ed} {q : List Jb} (h : mayQ q = true) {j : Jb} (hj : j ∈ q) : readyB es q j = true ↔ j.2.2.1 = 1 ∧ FreeJ es q j := by
  unfold readyB
  rw [Bool.and_eq_true, beq_iff_eq, List.isEmpty_iff]
  constructor
  · rintro ⟨h1, h2⟩; rw [waitsQ_of h hj h1] at h2; exact ⟨h1, waitsJ_nil.1 h2⟩
  · rintro ⟨h1, h2⟩; exact ⟨h1, by rw [waitsQ_of h hj h1]; exact waitsJ_nil.2 h2⟩
theorem mem_readyQ {es : List Ed} {q : List Jb} (h : mayQ q = true) {u : Str} : u ∈ readyQ es q ↔ ∃ j ∈ q, j.1 = u ∧ j.2.2.1 = 1 ∧ FreeJ es q j := by
  unfold readyQ
  rw [if_pos h, List.mem_map]
  constructor
  · rintro ⟨j, h1, h2⟩
    obtain ⟨h3, h4⟩ := List.mem_filter.1 h1
    exact ⟨j, h3, h2, (readyB_iff h h3).1 h4⟩
  · rintro ⟨j, h1, h2, h3⟩
    exact ⟨j, List.mem_filter.2 ⟨h1, (readyB_iff h h1).2 h3⟩, h2⟩
theorem readyQ_may {es : List Ed} {q : List Jb} {u : Str} (h : u ∈ readyQ es q) : mayQ q = true := by
  unfold readyQ at h
  split at h
  · assumption
  · cases h
theorem readyQ_len (es : List Ed) (q : List Jb) : (readyQ es q).length ≤ q.length := by
  unfold readyQ
  split
  · rw [List.length_map]; exact List.length_filter_le _ _
  · simp
theorem readyQ_up {es : List Ed} {q : List Jb} : SS ltS (readyQ es q) := by
  unfold readyQ
  split
  · rename_i h
    have h3 := (mayQ_iff.1 h).2.2
    have : upQ (q.filter (readyB es q)) := List.Pairwise.sublist List.filter_sublist h3
    exact upQ_map.1 this
  · exact .nil
/-! What a begin comes to -/
def needsU (es : List Ed) (u : Str) : List Str := (outS es u 1 ++ outS es u 4).filter (fun o => Ah es o u)
def lackJ (q : List Jb) (o : Str) : Bool := match jobOf q o with | none => false | some j => !openB j && (startsB j && j.2.2.2 != 1)
def lacksQ (es : List Ed) (q : List Jb) (u : Str) : Bool := (needsU es u).any (lackJ q)
def lostJ (es : List Ed) (u : Str) (x : Jb) : Bool := (hasE es u x.1 1 || hasE es u x.1 4) && (Ah es x.1 u && (x.2.2.1 == 3 && (startsB x && x.2.2.2 != 1)))
theorem mem_needsU {es : List Ed} {u o : Str} : o ∈ needsU es u ↔ (hasE es u o 1 || hasE es u o 4) = true ∧ Ah es o u = true := by
  unfold needsU
  rw [List.mem_filter, List.mem_append, mem_outS, mem_outS, Bool.or_eq_true, hasE_iff, hasE_iff]
theorem lacks_lost {es : List Ed} {q : List Jb} (hd : DQ q) (u : Str) : lacksQ es q u = q.any (lostJ es u) := by
  rw [Bool.eq_iff_iff]
  unfold lacksQ
  rw [List.any_eq_true, List.any_eq_true]
  constructor
  · rintro ⟨o, h1, h2⟩
    obtain ⟨h3, h4⟩ := mem_needsU.1 h1
    unfold lackJ at h2
    cases hj : jobOf q o with
    | none => rw [hj] at h2; cases h2
    | some j =>
      rw [hj] at h2
      obtain ⟨h5, rfl⟩ := jobOf_mem hj
      refine ⟨j, h5, ?_⟩
      unfold lostJ
      simp only [openB, bne, Bool.not_not] at h2
      rw [h3, h4]
      simpa [bne] using h2
  · rintro ⟨x, h1, h2⟩
    unfold lostJ at h2
    rw [Bool.and_eq_true, Bool.and_eq_true] at h2
    refine ⟨x.1, mem_needsU.2 ⟨h2.1, h2.2.1⟩, ?_⟩
    unfold lackJ
    rw [jobOf_of hd h1]
    have h3 := h2.2.2
    simp only [openB, bne, Bool.not_not]
    simpa [bne] using h3
def begun (es : List Ed) (q : List Jb) (j : Jb) : Jb := if (j.2.1 == 1 && lacksQ es q j.1) = true then (j.1, j.2.1, 3, 3) else (j.1, j.2.1, 2, j.2.2.2)
def beginQ (es : List Ed) (q : List Jb) (u : Str) : Option (List Jb) := if u ∈ readyQ es q then some (updJ q u (begun es q)) else none
/-! What an end comes to -/
def ended (e : Int) (j : Jb) : Jb := if j.2.1 = 3 ∧ j.2.2.1 = 2 ∧ e = 1 then (j.1, 1, 1, j.2.2.2) else (j.1, j.2.1, 3, e)
def mayEnd (e : Int) (j : Jb) : Bool := !decide (e < 1) && (!decide (4 < e) && (openB j && !(j.2.2.1 == 1 && (e == 1 || e == 2))))
def finishQ (q : List Jb) (u : Str) (e : Int) : Option (List Jb) :=
  match jobOf q u with
  | none => none
  | some j => if (mayQ q && mayEnd e j) = true then some (updJ q u (ended e)) else none
def doneOf (j : Jb) : Nd := (j.1, j.2.1, j.2.2.2)
def clearQ (q : List Jb) : List Jb × List Nd := if mayQ q = true then (q.filter openB, (q.filter (fun j => !openB j)).map doneOf) else ([], [])
theorem begun_unit (es : List Ed) (q : List Jb) (j : Jb) : (begun es q j).1 = j.1 := by unfold begun; split <;> rfl
theorem ended_unit (e : Int) (j : Jb) : (ended e j).1 = j.1 := by unfold ended; split <;> rfl
theorem mayJ_iff {j : Jb} : mayJ j = true ↔ kindS j.1 ≠ 0 ∧ 1 ≤ j.2.1 ∧ j.2.1 ≤ 4 ∧ (((j.2.2.1 = 1 ∨ j.2.2.1 = 2) ∧ j.2.2.2 = 0) ∨ (j.2.2.1 = 3 ∧ 1 ≤ j.2.2.2 ∧ j.2.2.2 ≤ 4)) := by
  unfold mayJ stB
  rw [Bool.and_eq_true, Bool.and_eq_true, Bool.and_eq_true]
  simp only [bne_iff_ne, Bool.not_eq_true', decide_eq_false_iff_not, Int.not_lt]
  refine and_congr_right fun _ => and_congr_right fun _ => and_congr_right fun _ => ?_
  split
  · rename_i h; simp only [beq_iff_eq]; omega
  · rename_i h
    split
    · rename_i h3; simp only [Bool.and_eq_true, decide_eq_true_eq]; omega
    · rename_i h3; simp only [Bool.false_eq_true, false_iff]; omega
theorem mayJ_begun {es : List Ed} {q : List Jb} {j : Jb} (h : mayJ j = true) (h1 : j.2.2.1 = 1) : mayJ (begun es q j) = true := by
  rw [mayJ_iff] at h
  unfold begun
  split
  · rw [mayJ_iff]; exact ⟨h.1, h.2.1, h.2.2.1, .inr ⟨rfl, by show (1 : Int) ≤ 3; decide, by show (3 : Int) ≤ 4; decide⟩⟩
  · rw [mayJ_iff]; exact ⟨h.1, h.2.1, h.2.2.1, .inl ⟨.inr rfl, by have := h.2.2.2; show j.2.2.2 = 0; omega⟩⟩
theorem mayJ_ended {e : Int} {j : Jb} (h : mayJ j = true) (h1 : openB j = true) (h2 : 1 ≤ e) (h3 : e ≤ 4) : mayJ (ended e j) = true := by
  rw [mayJ_iff] at h
  have h1' : j.2.2.1 ≠ 3 := by simpa [openB] using h1
  unfold ended
  split
  · rw [mayJ_iff]; exact ⟨h.1, by show (1 : Int) ≤ 1; decide, by show (1 : Int) ≤ 4; decide, .inl ⟨.inl rfl, by have := h.2.2.2; show j.2.2.2 = 0; omega⟩⟩
  · rw [mayJ_iff]; exact ⟨h.1, h.2.1, h.2.2.1, .inr ⟨rfl, h2, h3⟩⟩
/-! What stays sound -/
theorem begin_some {es : List Ed} {q x : List Jb} {u : Str} (h : beginQ es q u = some x) : mayQ q = true ∧ x = updJ q u (begun es q) ∧ ∃ j ∈ q, j.1 = u ∧ j.2.2.1 = 1 ∧ FreeJ es q j := by
  unfold beginQ at h
  split at h
  · rename_i hu
    injection h with h
    have hm := readyQ_may hu
    exact ⟨hm, h.symm, (mem_readyQ hm).1 hu⟩
  · cases h
theorem finish_some {q x : List Jb} {u : Str} {e : Int} (h : finishQ q u e = some x) : mayQ q = true ∧ x = updJ q u (ended e) ∧ ∃ j ∈ q, j.1 = u ∧ mayEnd e j = true := by
  unfold finishQ at h
  cases hj : jobOf q u with
  | none => rw [hj] at h; cases h
  | some j =>
    rw [hj] at h
    simp only at h
    split at h
    · rename_i hc
      rw [Bool.and_eq_true] at hc
      injection h with h
      exact ⟨hc.1, h.symm, j, (jobOf_mem hj).1, (jobOf_mem hj).2, hc.2⟩
    · cases h
theorem mayEnd_iff {e : Int} {j : Jb} : mayEnd e j = true ↔ 1 ≤ e ∧ e ≤ 4 ∧ j.2.2.1 ≠ 3 ∧ ¬ (j.2.2.1 = 1 ∧ (e = 1 ∨ e = 2)) := by
  unfold mayEnd openB
  simp only [Bool.and_eq_true, Bool.not_eq_true', decide_eq_false_iff_not, Int.not_lt, bne_iff_ne, Bool.and_eq_false_iff, Bool.or_eq_false_iff, beq_eq_false_iff_ne, ne_eq]
  omega
theorem may_begin {es : List Ed} {q x : List Jb} {u : Str} (h : beginQ es q u = some x) : mayQ x = true := by
  obtain ⟨hm, rfl, j, hj, rfl, h1, _⟩ := begin_some h
  refine mayQ_upd hm fun y hy e => ?_
  have := (mayQ.dq hm).eq hy hj e
  subst this
  exact ⟨mayJ_begun ((mayQ_iff.1 hm).2.1 y hy) h1, begun_unit _ _ _⟩
theorem may_finish {q x : List Jb} {u : Str} {e : Int} (h : finishQ q u e = some x) : mayQ x = true := by
  obtain ⟨hm, rfl, j, hj, rfl, h1⟩ := finish_some h
  refine mayQ_upd hm fun y hy e' => ?_
  have := (mayQ.dq hm).eq hy hj e'
  subst this
  have h2 := mayEnd_iff.1 h1
  exact ⟨mayJ_ended ((mayQ_iff.1 hm).2.1 y hy) (by simpa [openB] using h2.2.2.1) h2.1 h2.2.1, ended_unit _ _⟩
theorem ahead_run {es : List Ed} {x j : Jb} (h : aheadJ es x j = false) (h2 : x.2.2.1 = 2) (hne : x.1 ≠ j.1) : Ah es x.1 j.1 = false ∧ Ah es j.1 x.1 = false := by
  unfold aheadJ at h
  rw [if_neg (by rw [h2]; intro h; rcases h with h | h; · cases h
                 · exact hne h), if_pos h2, Bool.or_eq_false_iff] at h
  exact h
theorem noRun_begin {es : List Ed} (hi : isB es = true) {q x : List Jb} {u : Str} (hn : NoRun es q) (h : beginQ es q u = some x) : NoRun es x := by
  obtain ⟨hm, rfl, j, hj, rfl, h1, hf⟩ := begin_some h
  intro a ha b hb ra rb
  obtain ⟨a', ha', rfl⟩ := mem_updJ.1 ha
  obtain ⟨b', hb', rfl⟩ := mem_updJ.1 hb
  by_cases ea : a'.1 = j.1
  · rw [if_pos ea] at ra ⊢
    by_cases eb : b'.1 = j.1
    · rw [if_pos eb, begun_unit, begun_unit, ea, eb]; exact Ah_self hi _
    · rw [if_neg eb] at rb ⊢
      rw [begun_unit, ea]
      exact (ahead_run (hf b' hb') rb eb).2
  · rw [if_neg ea] at ra ⊢
    by_cases eb : b'.1 = j.1
    · rw [if_pos eb, begun_unit, eb]
      exact (ahead_run (hf a' ha') ra ea).1
    · rw [if_neg eb] at rb ⊢
      exact hn a' ha' b' hb' ra rb
theorem noRun_finish {es : List Ed} {q x : List Jb} {u : Str} {e : Int} (hn : NoRun es q) (h : finishQ q u e = some x) : NoRun es x := by
  obtain ⟨hm, rfl, _⟩ := finish_some h
  intro a ha b hb ra rb
  obtain ⟨a', ha', rfl⟩ := mem_updJ.1 ha
  obtain ⟨b', hb', rfl⟩ := mem_updJ.1 hb
  have hend : ∀ j : Jb, (ended e j).2.2.1 ≠ 2 := fun j => by unfold ended; split <;> simp
  by_cases ea : a'.1 = u
  · rw [if_pos ea] at ra; exact absurd ra (hend _)
  · rw [if_neg ea] at ra ⊢
    by_cases eb : b'.1 = u
    · rw [if_pos eb] at rb; exact absurd rb (hend _)
    · rw [if_neg eb] at rb ⊢
      exact hn a' ha' b' hb' ra rb
theorem sound_begin {ns : List Nd} {es : List Ed} {q x : List Jb} {u : Str} (hs : soundQ ns es q = true) (h : beginQ es q u = some x) : soundQ ns es x = true := by
  obtain ⟨h1, h2, h3, h4⟩ := soundQ_iff.1 hs
  exact soundQ_iff.2 ⟨h1, h2, may_begin h, noRun_begin h2 h4 h⟩
theorem sound_finish {ns : List Nd} {es : List Ed} {q x : List Jb} {u : Str} {e : Int} (hs : soundQ ns es q = true) (h : finishQ q u e = some x) : soundQ ns es x = true := by
  obtain ⟨h1, h2, h3, h4⟩ := soundQ_iff.1 hs
  exact soundQ_iff.2 ⟨h1, h2, may_finish h, noRun_finish h4 h⟩
theorem sound_clear {ns : List Nd} {es : List Ed} {q : List Jb} (hs : soundQ ns es q = true) : soundQ ns es (clearQ q).1 = true := by
  obtain ⟨h1, h2, h3, h4⟩ := soundQ_iff.1 hs
  unfold clearQ
  rw [if_pos h3]
  refine soundQ_iff.2 ⟨h1, h2, mayQ_sub h3 List.filter_sublist, fun x hx y hy => h4 x (List.mem_filter.1 hx).1 y (List.mem_filter.1 hy).1⟩
end Od
end Go.Proofs.YtmlogmcnblgnbaaGreat
end

section
/- The walks of small helpers of package queue and of its reference: open, ends, Starts; find, at; slices.IndexFunc and ContainsFunc at jobs. -/
namespace Go.Proofs.YtmlogmcnblgnbaaGreat
open Go.RowKit
set_option linter.unusedSimpArgs false

namespace Od
structure SaysJ (g : Nat) (caps : Array Value) (p : Jb → Bool) (w : World) : Prop where
  enters : ∀ (args : Array Value) (W : World), (callFunc g args).run Tryz.prog W = .ok (.enter g args) W
  says : ∀ (W : World) (s : Str) (t r d : Int), Below w.heap.size w W → Calls Tryz.prog g (#[jbV (s, t, r, d)] ++ caps) W fun e w' => e = .returned (.bool (p (s, t, r, d))) ∧ Below W.heap.size W w'
set_option maxRecDepth 100000 in
set_option maxHeartbeats 1000000 in
theorem IndexFuncJ (A : Option Addr) (c : Nat) (ns : List Jb) (g : Nat) (caps : Array Value) (p : Jb → Bool) (w : World) (hr : Rd w w.heap.size 4 A ns.length (jbsC ns)) (hl : ns.length ≤ 1000000) (hp : SaysJ g caps p w) :
    Calls Tryz.prog 73 #[.slice A ns.length c, .func (.func g) #[] caps] w (FindIdx ns p w) := by
  have Hr := Lib.hid hr
  have Hp := Lib.hid hp
  have eg := hp.enters
  clear hr hp
  go_enter Tryz.func73, Tryz.ntmps73
  go_wp2_with fail
  go_loopw [8] (fun i wr => ∃ k : Nat, k ≤ ns.length ∧ i = .int .i64 k ∧ Hid ((ns.take k).any p = false) ∧ Below w.heap.size w wr) (fun i _ => ns.length - (intOf i).toNat)
  case atStart => exact ⟨0, Nat.zero_le _, rfl, by simp [Hid], Below.refl _ _⟩
  case round =>
    obtain ⟨k, hk, rfl, hall, hbel⟩ := hrel
    by_cases hlt : k < ns.length
    · obtain ⟨b, o, rfl, hB, hc0, hc1, hc2, hc3⟩ := (Hr.out.on (Nat.le_refl _) hbel).job hlt
      have Hbel := Lib.hid hbel
      clear hbel
      generalize hx : ns[k] = x at hc0 hc1 hc2 hc3
      obtain ⟨s, d, r, q⟩ := x
      have Hx := Lib.hid hx
      clear hx
      simp only at hc0 hc1 hc2 hc3
      have hcall := Hp.out.says wr s d r q Hbel.out
      cases hpx : p (s, d, r, q)
      · rw [hpx] at hcall
        have Hpx := Lib.hid hpx
        have Hcall := Lib.hid hcall
        clear hpx hcall
        go_wp2_with fail
        refine Hcall.out.mono ?_
        rintro e w2 ⟨rfl, hb2⟩
        have Hb2 := Lib.hid hb2
        clear hb2
        go_wp2_with fail
        go_roundw
        case rel => exact ⟨k + 1, by omega, by go_num, by show _ = false; rw [any_take_succ hlt, hall.out, Hx.out, Hpx.out]; rfl, Hbel.out.trans (Hb2.out.mono Hbel.out.size)⟩
        case measure => simp [intOf]; omega
      · rw [hpx] at hcall
        have Hpx := Lib.hid hpx
        have Hcall := Lib.hid hcall
        clear hpx hcall
        go_wp2_with fail
        refine Hcall.out.mono ?_
        rintro e w2 ⟨rfl, hb2⟩
        have Hb2 := Lib.hid hb2
        clear hb2
        go_wp2_with fail
        go_ret
        exact ⟨k, rfl, .inr ⟨k, hlt, rfl, find_at hlt hall.out (by rw [Hx.out]; exact Hpx.out), by rw [Hx.out]; exact Hpx.out, fun j hj => take_any_at hk hall.out hj⟩, Hbel.out.trans (Hb2.out.mono Hbel.out.size)⟩
    · have hkl : k = ns.length := by omega
      have ha := hall.out
      rw [List.take_of_length_le (by omega)] at ha
      have Ha := Lib.hid ha
      clear ha hkl
      go_wp2_with fail
      go_ret
      exact ⟨-1, rfl, .inl ⟨rfl, find_none_take Ha.out⟩, hbel⟩
theorem idx_any {α : Type} {xs : List α} {p : α → Bool} {w w' : World} {e : Ending} (h : FindIdx xs p w e w') : ∃ r : Int, e = .returned (.int .i64 r) ∧ decide ((0 : Int) ≤ r) = xs.any p ∧ Below w.heap.size w w' := by
  obtain ⟨r, rfl, hcase, hb⟩ := h
  refine ⟨r, rfl, ?_, hb⟩
  rcases hcase with ⟨rfl, h⟩ | ⟨k, hk, rfl, _, h, _⟩
  · rw [Bool.eq_iff_iff]
    constructor
    · intro h; simp at h
    · intro h2; obtain ⟨x, hx, hpx⟩ := List.any_eq_true.1 h2; rw [List.find?_eq_none] at h; exact absurd hpx (h x hx)
  · rw [any_of_at hk h]; simp
/-! Where a unit's job is -/
set_option maxHeartbeats 1000000 in
theorem find1_any (a s : Str) (t r d : Int) (pa : Nat) (w : World) (ha : w.cell? ⟨pa, 0, none⟩ = some (sv a)) :
    Calls Tryz.prog 97 #[jbV (s, t, r, d), .pointer (some ⟨pa, 0, none⟩)] w fun e w' => e = .returned (.bool (s == a)) ∧ Below w.heap.size w w' := by
  have la : pa < w.heap.size := cell_blk ha
  have n1 : ¬ pa = w.heap.size := by omega
  cases hsa : (s == a)
  · have hsa' : ¬ s = a := by simpa using hsa
    go_enter Tryz.func97, Tryz.ntmps97
    go_wp2_with fail
    go_ret
    exact ⟨ret_bool (by simp_all), (Below.refl _ _).alloc (Nat.le_refl _) _⟩
  · have hsa' : s = a := by simpa using hsa
    subst hsa'
    go_enter Tryz.func97, Tryz.ntmps97
    go_wp2_with fail
    go_ret
    exact ⟨ret_bool (by simp_all), (Below.refl _ _).alloc (Nat.le_refl _) _⟩
theorem says_find (a : Str) (pa : Nat) (w : World) (ha : w.cell? ⟨pa, 0, none⟩ = some (sv a)) :
    SaysJ 97 #[.pointer (some ⟨pa, 0, none⟩)] (fun j => j.1 == a) w where
  enters := enters_of Tryz.func97 (by kernel_rfl) rfl
  says := fun W s t r d h => find1_any a s t r d pa W ((h.cell (p := ⟨pa, 0, none⟩) (cell_blk ha)).trans ha)
set_option maxHeartbeats 1000000 in
theorem find_any (A : Option Addr) (c : Nat) (q : List Jb) (u : Str) (w : World) (hr : Rd w w.heap.size 4 A q.length (jbsC q)) (hl : q.length ≤ 1000000) :
    Calls Tryz.prog 67 #[.slice A q.length c, sv u] w (FindIdx q (fun j => j.1 == u) w) := by
  have Hr := Lib.hid hr
  clear hr
  go_enter Tryz.func67, Tryz.ntmps67
  go_wp2_with fail
  refine (IndexFuncJ A c q _ _ (fun j => j.1 == u) _ ?hr hl (says_find u _ _ ?ha)).mono ?_
  case ha => go_simp
  case hr => exact (Hr.out.alloc (Nat.le_refl _) _).more (by simp)
  rintro e w2 ⟨r, rfl, hcase, hb2⟩
  have Hc := Lib.hid hcase
  have Hb2 := Lib.hid hb2
  clear hb2 hcase
  go_wp2_with fail
  go_ret
  exact ⟨r, rfl, Hc.out, below_alloc (Nat.le_refl _) Hb2.out⟩
/-- A row of jobs, and where a unit's first one is: what 'find' and 'at' give. -/
theorem at_any (A : Option Addr) (c : Nat) (q : List Jb) (u : Str) (w : World) (hr : Rd w w.heap.size 4 A q.length (jbsC q)) (hl : q.length ≤ 1000000) :
    Calls Tryz.prog 45 #[.slice A q.length c, sv u] w (FindIdx q (fun j => j.1 == u) w) := by
  have Hr := Lib.hid hr
  clear hr
  go_enter Tryz.func45, Tryz.ntmps45
  go_wp2_with fail
  go_loopw [9] (fun i wr => ∃ k : Nat, k ≤ q.length ∧ i = .int .i64 k ∧ Hid ((q.take k).any (fun j => j.1 == u) = false) ∧ Below w.heap.size w wr) (fun i _ => q.length - (intOf i).toNat)
  case atStart => exact ⟨0, Nat.zero_le _, rfl, by simp [Hid], Below.refl _ _⟩
  case round =>
    obtain ⟨k, hk, rfl, hall, hb⟩ := hrel
    replace Hr := Lib.hid (Hr.out.at hb)
    have Hb := Lib.hid hb
    clear hb
    by_cases hlt : k < q.length
    · obtain ⟨b, o, rfl, hB, x0, x1, x2, x3⟩ := Hr.out.job hlt
      generalize hx : q[k] = x at x0 x1 x2 x3
      obtain ⟨s, t, r, d⟩ := x
      have Hx := Lib.hid hx
      clear hx
      simp only at x0 x1 x2 x3
      cases hsu : (s == u)
      · have Hsu := Lib.hid hsu
        go_wp2_with fail
        go_roundw
        case rel => exact ⟨k + 1, by omega, by go_num, by show _ = false; rw [any_take_succ hlt, hall.out, Hx.out]; exact Hsu.out, Hb.out.alloc Hb.out.size _⟩
        case measure => simp [intOf]; omega
      · have Hsu := Lib.hid hsu
        go_wp2_with fail
        go_ret
        exact ⟨k, rfl, .inr ⟨k, hlt, rfl, find_at hlt hall.out (by rw [Hx.out]; exact Hsu.out), by rw [Hx.out]; exact Hsu.out, fun j hj => take_any_at hk hall.out hj⟩, Hb.out.alloc Hb.out.size _⟩
    · have ha := hall.out
      rw [List.take_of_length_le (by omega)] at ha
      have Ha := Lib.hid ha
      clear ha
      go_wp2_with fail
      go_ret
      exact ⟨-1, rfl, .inl ⟨rfl, find_none_take Ha.out⟩, Hb.out⟩
/-! Is it open, does it end, does it begin something? -/
set_option maxHeartbeats 1000000 in
theorem open_any (s : Str) (t r d : Int) (w : World) : Calls Tryz.prog 75 #[jbV (s, t, r, d)] w fun e w' => e = .returned (.bool (openB (s, t, r, d))) ∧ Below w.heap.size w w' := by
  have HM := Lib.hid (show openB (s, t, r, d) = (r != 3) from rfl)
  by_cases h1 : r = 3
  · go_enter Tryz.func75, Tryz.ntmps75
    go_wp2_with fail
    all_goals go_ret
    all_goals exact ⟨ret_bool (by rw [HM.out, Bool.eq_iff_iff] <;> simp only [Bool.or_eq_true, beq_iff_eq, bne_iff_ne, Bool.false_eq_true, false_iff, true_iff] <;> omega), (Below.refl _ _).alloc (Nat.le_refl _) _⟩
  · go_enter Tryz.func75, Tryz.ntmps75
    go_wp2_with fail
    all_goals go_ret
    all_goals exact ⟨ret_bool (by rw [HM.out, Bool.eq_iff_iff] <;> simp only [Bool.or_eq_true, beq_iff_eq, bne_iff_ne, Bool.false_eq_true, false_iff, true_iff] <;> omega), (Below.refl _ _).alloc (Nat.le_refl _) _⟩
set_option maxHeartbeats 1000000 in
theorem ends_any (s : Str) (t r d : Int) (w : World) : Calls Tryz.prog 98 #[jbV (s, t, r, d)] w fun e w' => e = .returned (.bool (endsB (s, t, r, d))) ∧ Below w.heap.size w w' := by
  have HM := Lib.hid (show endsB (s, t, r, d) = (t == 2 || t == 3) from rfl)
  by_cases h1 : t = 2
  · go_enter Tryz.func98, Tryz.ntmps98
    go_wp2_with fail
    all_goals go_ret
    all_goals exact ⟨ret_bool (by rw [HM.out, Bool.eq_iff_iff] <;> simp only [Bool.or_eq_true, beq_iff_eq, bne_iff_ne, Bool.false_eq_true, false_iff, true_iff] <;> omega), (Below.refl _ _).alloc (Nat.le_refl _) _⟩
  · by_cases h2 : t = 3
    · go_enter Tryz.func98, Tryz.ntmps98
      go_wp2_with fail
      all_goals go_ret
      all_goals exact ⟨ret_bool (by rw [HM.out, Bool.eq_iff_iff] <;> simp only [Bool.or_eq_true, beq_iff_eq, bne_iff_ne, Bool.false_eq_true, false_iff, true_iff] <;> omega), (Below.refl _ _).alloc (Nat.le_refl _) _⟩
    · go_enter Tryz.func98, Tryz.ntmps98
      go_wp2_with fail
      all_goals go_ret
      all_goals exact ⟨ret_bool (by rw [HM.out, Bool.eq_iff_iff] <;> simp only [Bool.or_eq_true, beq_iff_eq, bne_iff_ne, Bool.false_eq_true, false_iff, true_iff] <;> omega), (Below.refl _ _).alloc (Nat.le_refl _) _⟩
set_option maxHeartbeats 1000000 in
theorem ends20_any (s : Str) (t r d : Int) (w : World) : Calls Tryz.prog 143 #[jbV (s, t, r, d)] w fun e w' => e = .returned (.bool (endsB (s, t, r, d))) ∧ Below w.heap.size w w' := by
  have HM := Lib.hid (show endsB (s, t, r, d) = (t == 2 || t == 3) from rfl)
  by_cases h1 : t = 2
  · go_enter Tryz.func143, Tryz.ntmps143
    go_wp2_with fail
    all_goals go_ret
    all_goals exact ⟨ret_bool (by rw [HM.out, Bool.eq_iff_iff] <;> simp only [Bool.or_eq_true, beq_iff_eq, bne_iff_ne, Bool.false_eq_true, false_iff, true_iff] <;> omega), (Below.refl _ _).alloc (Nat.le_refl _) _⟩
  · by_cases h2 : t = 3
    · go_enter Tryz.func143, Tryz.ntmps143
      go_wp2_with fail
      all_goals go_ret
      all_goals exact ⟨ret_bool (by rw [HM.out, Bool.eq_iff_iff] <;> simp only [Bool.or_eq_true, beq_iff_eq, bne_iff_ne, Bool.false_eq_true, false_iff, true_iff] <;> omega), (Below.refl _ _).alloc (Nat.le_refl _) _⟩
    · go_enter Tryz.func143, Tryz.ntmps143
      go_wp2_with fail
      all_goals go_ret
      all_goals exact ⟨ret_bool (by rw [HM.out, Bool.eq_iff_iff] <;> simp only [Bool.or_eq_true, beq_iff_eq, bne_iff_ne, Bool.false_eq_true, false_iff, true_iff] <;> omega), (Below.refl _ _).alloc (Nat.le_refl _) _⟩
set_option maxHeartbeats 1000000 in
theorem Starts_any (s : Str) (t r d : Int) (w : World) : Calls Tryz.prog 102 #[jbV (s, t, r, d)] w fun e w' => e = .returned (.bool (startsB (s, t, r, d))) ∧ Below w.heap.size w w' := by
  have HM := Lib.hid (show startsB (s, t, r, d) = (t == 1 || t == 3) from rfl)
  by_cases h1 : t = 1
  · go_enter Tryz.func102, Tryz.ntmps102
    go_wp2_with fail
    all_goals go_ret
    all_goals exact ⟨ret_bool (by rw [HM.out, Bool.eq_iff_iff] <;> simp only [Bool.or_eq_true, beq_iff_eq, bne_iff_ne, Bool.false_eq_true, false_iff, true_iff] <;> omega), (Below.refl _ _).alloc (Nat.le_refl _) _⟩
  · by_cases h2 : t = 3
    · go_enter Tryz.func102, Tryz.ntmps102
      go_wp2_with fail
      all_goals go_ret
      all_goals exact ⟨ret_bool (by rw [HM.out, Bool.eq_iff_iff] <;> simp only [Bool.or_eq_true, beq_iff_eq, bne_iff_ne, Bool.false_eq_true, false_iff, true_iff] <;> omega), (Below.refl _ _).alloc (Nat.le_refl _) _⟩
    · go_enter Tryz.func102, Tryz.ntmps102
      go_wp2_with fail
      all_goals go_ret
      all_goals exact ⟨ret_bool (by rw [HM.out, Bool.eq_iff_iff] <;> simp only [Bool.or_eq_true, beq_iff_eq, bne_iff_ne, Bool.false_eq_true, false_iff, true_iff] <;> omega), (Below.refl _ _).alloc (Nat.le_refl _) _⟩
end Od
end Go.Proofs.YtmlogmcnblgnbaaGreat
end
