/- My texts, joined for the claim: ONeeds Kit3 OKept GInfo GIns OParted OStraight GSortM OFn GOff. -/
import Derived.Test.YtbllehjhmfehbaaGreatZC2
import Derived.Test.YtbllehjhmfehbaaGreatZC0
import Derived.Test.YtbllehjhmfehbaaGreatRows
import Derived.WalkKit
import Derived.Test.YtbllehjhmfehbaaGreatZC1

section
/- The walk of order.needs; slices.Contains at texts. -/
namespace Go.Proofs.YtbllehjhmfehbaaGreat
open Go.RowKit Go.Maps Go.Sort

namespace Od
theorem idxOf_zs (ss : List Str) (x : Str) : Lib.containsS (ss.map fun s => (⟨s.toArray⟩ : ByteArray)) ⟨x.toArray⟩ = decide (x ∈ ss) := by
  rw [Bool.eq_iff_iff, Lib.containsS_iff, decide_eq_true_eq, List.mem_map]
  constructor
  · rintro ⟨a, ha, e⟩
    injection e with e
    have : a = x := by simpa using e
    exact this ▸ ha
  · intro h
    exact ⟨x, h, rfl⟩
theorem containsS_rd (A : Option Addr) (c : Nat) (ss : List Str) (x : Str) (w : World) (hr : Rd w w.heap.size 1 A ss.length (svs ss)) (hl : ss.length ≤ 1000000) :
    Calls Tryz.prog 108 #[.slice A ss.length c, sv x] w fun e w' => e = .returned (.bool (decide (x ∈ ss))) ∧ w' = w := by
  rcases Nat.eq_zero_or_pos ss.length with h0 | h0
  · have hn := List.length_eq_zero_iff.1 h0
    subst hn
    refine (Tryz.slices_Contains_string_empty A c _ w).mono ?_
    rintro e w' ⟨rfl, rfl⟩
    exact ⟨by simp, rfl⟩
  · obtain ⟨b, o, rfl, hb, hc⟩ := hr.open h0
    refine (Tryz.slices_Contains_string b o ss.length c (ss.map fun s => ⟨s.toArray⟩) ⟨x.toArray⟩ w (by simp) (by omega) (fun j hj => ?_)).mono ?_
    · have hj' : j < ss.length := by simpa using hj
      rw [hc j (by omega)]
      simp [svs, hj']
    · rintro e w' ⟨rfl, rfl⟩
      exact ⟨by rw [List.take_of_length_le (by simp), idxOf_zs], rfl⟩
theorem mem_outS {es : List Ed} {u s : Str} {rel : Int} : s ∈ outS es u rel ↔ (u, s, rel) ∈ es := by
  unfold outS outRaw
  rw [mem_onceS, List.mem_map]
  constructor
  · rintro ⟨⟨a, b, c⟩, h, rfl⟩
    obtain ⟨h1, h2⟩ := List.mem_filter.1 h
    have : a = u ∧ c = rel := by simpa [outP] using h2
    rw [← this.1, ← this.2]
    exact h1
  · intro h
    exact ⟨_, List.mem_filter.2 ⟨h, by simp [outP]⟩, rfl⟩
theorem hasE_out (es : List Ed) (u s : Str) (rel : Int) : decide (s ∈ outS es u rel) = hasE es u s rel := by
  rw [Bool.eq_iff_iff, decide_eq_true_eq, mem_outS, hasE_iff]

/-- What a need is: of the first k of the two relations. -/
def needK (es : List Ed) (p : Pr) (k : Nat) : Bool := ([1, 4] : List Int).take k |>.any (fun r => hasE es p.2 p.1 r)
theorem needK_two (es : List Ed) (p : Pr) : needK es p 2 = needsB es p := by simp [needK, needsB]

set_option maxRecDepth 100000 in
set_option maxHeartbeats 4000000 in
theorem needs_any (An Ae : Option Addr) (nn cn ce : Nat) (es : List Ed) (x y : Str) (w : World) (hr : Rd w w.heap.size 3 Ae es.length (edsC es)) (hl : es.length ≤ 300000) :
    Calls Tryz.prog 158 #[gV An nn cn Ae es.length ce, prV (x, y)] w fun e w' => e = .returned (.bool (needsB es (x, y))) ∧ Below w.heap.size w w' := by
  have Hr := Lib.hid hr
  clear hr
  go_enter Tryz.func158, Tryz.ntmps158
  go_wp2_with fail
  go_loopw [9] (fun i wr => ∃ k : Nat, k ≤ 2 ∧ i = .int .i64 k ∧ Hid (needK es (x, y) k = false) ∧ Below (w.heap.size + 1 + 1 + 1) (((w.alloc (.cells #[.slice An nn cn, .slice Ae es.length ce] 25)).alloc (.cells #[sv x, sv y] 137)).alloc (.cells #[.int .i64 1, .int .i64 4] 3)) wr) (fun i _ => 2 - (intOf i).toNat)
  case atStart => exact ⟨0, by omega, rfl, rfl, Below.refl _ _⟩
  case round =>
    obtain ⟨k, hk, rfl, hall, hbel⟩ := hrel
    have hz := hbel.size
    simp only [World.size_alloc] at hz
    have hB : Below w.heap.size w wr := (((((Below.refl _ w).alloc (Nat.le_refl _) _).alloc (by simp) _).alloc (by simp; omega) _).trans (hbel.mono (by omega)))
    have Hr1 := Lib.hid ((Hr.out.below hB).more (Nat.le_trans (by omega) hz))
    have c00 : wr.cell? ⟨w.heap.size, 0, none⟩ = some (.slice An nn cn) := by rw [hbel.cell (p := ⟨w.heap.size, 0, none⟩) (by show w.heap.size < _; omega)]; go_simp
    have c01 : wr.cell? ⟨w.heap.size, 1, none⟩ = some (.slice Ae es.length ce) := by rw [hbel.cell (p := ⟨w.heap.size, 1, none⟩) (by show w.heap.size < _; omega)]; go_simp
    have c10 : wr.cell? ⟨w.heap.size + 1, 0, none⟩ = some (sv x) := by rw [hbel.cell (p := ⟨w.heap.size + 1, 0, none⟩) (by show w.heap.size + 1 < _; omega)]; go_simp
    have c11 : wr.cell? ⟨w.heap.size + 1, 1, none⟩ = some (sv y) := by rw [hbel.cell (p := ⟨w.heap.size + 1, 1, none⟩) (by show w.heap.size + 1 < _; omega)]; go_simp
    have c20 : wr.cell? ⟨w.heap.size + 1 + 1, 0, none⟩ = some (.int .i64 1) := by rw [hbel.cell (p := ⟨w.heap.size + 1 + 1, 0, none⟩) (by show w.heap.size + 1 + 1 < _; omega)]; go_simp
    have c21 : wr.cell? ⟨w.heap.size + 1 + 1, 1, none⟩ = some (.int .i64 4) := by rw [hbel.cell (p := ⟨w.heap.size + 1 + 1, 1, none⟩) (by show w.heap.size + 1 + 1 < _; omega)]; go_simp
    have HB := Lib.hid hB
    have HL := Lib.hid hbel
    clear hB hbel
    by_cases hlt : k < 2
    · obtain ⟨rel, hrel, hck, hnk⟩ : ∃ rel : Int, (([1, 4] : List Int)[k]? = some rel) ∧ wr.cell? ⟨w.heap.size + 1 + 1, k, none⟩ = some (.int .i64 rel) ∧ needK es (x, y) (k + 1) = (needK es (x, y) k || hasE es y x rel) := by
        rcases (show k = 0 ∨ k = 1 by omega) with rfl | rfl
        · exact ⟨1, rfl, c20, by simp [needK]⟩
        · exact ⟨4, rfl, c21, by simp [needK]⟩
      have HN := Lib.hid hnk
      clear c20 c21 hrel hnk
      have hz1 : w.heap.size < wr.heap.size := by omega
      have hz2 : w.heap.size + 1 < wr.heap.size := by omega
      go_wp2_with fail
      go_region_held3 (fun w' => w'.cell? ⟨w.heap.size, 0, none⟩ = some (.slice An nn cn) ∧ w'.cell? ⟨w.heap.size, 1, none⟩ = some (.slice Ae es.length ce) ∧ w'.cell? ⟨w.heap.size + 1, 0, none⟩ = some (sv x) ∧ w'.cell? ⟨w.heap.size + 1, 1, none⟩ = some (sv y)) (go_keep)
        (first
          | (go_at_call 24; refine (Out_any An Ae nn cn ce es y rel _ Hr1.out.drew (by omega)).mono ?_; rintro e w2 ⟨A2, c2, rfl, ho2, hb2⟩
             have d00 : w2.cell? ⟨w.heap.size, 0, none⟩ = some (.slice An nn cn) := (hb2.cell (p := ⟨w.heap.size, 0, none⟩) hz1).trans c00
             have d01 : w2.cell? ⟨w.heap.size, 1, none⟩ = some (.slice Ae es.length ce) := (hb2.cell (p := ⟨w.heap.size, 1, none⟩) hz1).trans c01
             have d10 : w2.cell? ⟨w.heap.size + 1, 0, none⟩ = some (sv x) := (hb2.cell (p := ⟨w.heap.size + 1, 0, none⟩) hz2).trans c10
             have d11 : w2.cell? ⟨w.heap.size + 1, 1, none⟩ = some (sv y) := (hb2.cell (p := ⟨w.heap.size + 1, 1, none⟩) hz2).trans c11
             have HO2 := Lib.hid ho2
             have HB2 := Lib.hid hb2
             clear ho2 hb2)
          | (go_at_call 108; refine (containsS_rd A2 c2 (outS es y rel) x _ (own_rd' HO2.out) (by have := outRaw_len es y rel; have := onceS_len (outRaw es y rel); unfold outS; omega)).mono ?_; rintro e w3 ⟨rfl, rfl⟩))
      have hlit : Below (w.heap.size + 1 + 1 + 1) _ w3 := HL.out.trans ((show Below wr.heap.size wr w3 from ⟨HB2.out.os, HB2.out.tape, HB2.out.output, HB2.out.size, HB2.out.block⟩).mono hz)
      have hfin : Below w.heap.size w w3 := HB.out.trans ((show Below wr.heap.size wr w3 from ⟨HB2.out.os, HB2.out.tape, HB2.out.output, HB2.out.size, HB2.out.block⟩).mono (by omega))
      have HL3 := Lib.hid hlit
      have HF3 := Lib.hid hfin
      clear hlit hfin
      have HN2 := HN.out
      rw [hall.out, Bool.false_or] at HN2
      rw [hasE_out]
      cases hE : hasE es y x rel
      · have HE := Lib.hid hE
        clear hE
        go_wp2_with fail
        go_roundw
        case rel => exact ⟨k + 1, by omega, by go_num, HN2.trans HE.out, HL3.out⟩
        case measure => simp [intOf]; omega
      · have HE := Lib.hid hE
        clear hE
        go_wp2_with fail
        go_ret
        refine ⟨ret_bool ?_, HF3.out⟩
        rw [← needK_two]
        have h1 : needK es (x, y) (k + 1) = true := HN2.trans HE.out
        rcases (show k = 0 ∨ k = 1 by omega) with rfl | rfl
        · simp only [needK, List.take_succ_cons, List.take_zero, List.any_cons, List.any_nil, Bool.or_false, Nat.zero_add] at h1 ⊢
          simp [h1]
        · exact h1.symm
    · have hk2 : k = 2 := by omega
      subst hk2
      clear c20 c21 c00 c01 c10 c11
      go_wp2_with fail
      go_ret
      exact ⟨ret_bool (by rw [← needK_two]; exact hall.out.symm), HB.out⟩
end Od
end Go.Proofs.YtbllehjhmfehbaaGreat
end

section
/- Words for walks by check points: the world at hand under a name of its own, and all that is known of it carried over by one 'Below'. -/
namespace Go.Proofs.YtbllehjhmfehbaaGreat
open Go.RowKit

/-- The world at hand under a name. -/
theorem wp_named {P : Program} {c : Code} {Q : Exit → Act → World → Prop} {a : Act} {w : World} (h : ∀ W, W = w → c.wp P Q a W) : c.wp P Q a w := h w rfl
theorem calls_named {P : Program} {f : FuncId} {args : Array Value} {w : World} {Q : Ending → World → Prop} (h : ∀ W, W = w → Calls P f args W Q) : Calls P f args w Q := h w rfl
section
variable {w w' w2 : World} {B k n : Nat} {A : Option Addr} {xs : List Value}
/-- What reads as a list in a world still does in a later one. -/
theorem Rd.at (h : Rd w w.heap.size k A n xs) (hb : Below w.heap.size w w') : Rd w' w'.heap.size k A n xs := (h.on (Nat.le_refl _) hb).more hb.size
theorem Rd.at' (h : Rd w B k A n xs) (hB : B ≤ w.heap.size) (hb : Below w.heap.size w w') : Rd w' w'.heap.size k A n xs := (h.on hB hb).more (Nat.le_trans hB hb.size)
/-- First one, then what a call made of it. -/
theorem lift (h : Below w.heap.size w w') (g : Below w'.heap.size w' w2) : Below w.heap.size w w2 := h.trans (g.mono h.size)
theorem liftB (h : Below B w w') (hB : B ≤ w.heap.size) (g : Below w'.heap.size w' w2) : Below B w w2 := h.trans (g.mono (Nat.le_trans hB h.size))
theorem cellAt {b o : Nat} {v : Value} (c : w.cell? ⟨b, o, none⟩ = some v) (hb : Below w.heap.size w w') (n : b < w.heap.size) : w'.cell? ⟨b, o, none⟩ = some v := (hb.cell (p := ⟨b, o, none⟩) n).trans c
theorem froAt {b o : Nat} (c : w.frozen? ⟨b, o, none⟩ = false) (hb : Below w.heap.size w w') (n : b < w.heap.size) : w'.frozen? ⟨b, o, none⟩ = false := (hb.frozen (p := ⟨b, o, none⟩) n).trans c
theorem ltAt {b : Nat} (n : b < w.heap.size) (hb : Below w.heap.size w w') : b < w'.heap.size := Nat.lt_of_lt_of_le n hb.size
theorem leAt {b : Nat} (n : b ≤ w.heap.size) (hb : Below w.heap.size w w') : b ≤ w'.heap.size := Nat.le_trans n hb.size
end
end Go.Proofs.YtbllehjhmfehbaaGreat
end

section
/- The walk of order.kept: the pairs that stay. -/
namespace Go.Proofs.YtbllehjhmfehbaaGreat
open Go.RowKit Go.Maps Go.Sort

namespace Od
theorem WaysX.kept {w w' : World} {X : Nat → Prop} {m : Nat} {l : List Pr} (h : WaysX w X m l) {b : Nat} (hg : w.grownBy w' (some b)) (hX : X b) : WaysX w' X m l := by
  obtain ⟨f, h, h1, h2⟩ := h
  refine ⟨f, ⟨h.map.kept hg (fun e => h1 (by cases e; exact hX)), h.low, fun s hs => (h.row s hs).kept hg ?_, h.sep, h.off⟩, h1, h2⟩
  cases hv : (rowV (f s)).ownBlock with
  | none => exact .inl rfl
  | some g => exact .inr (fun e => h2 s hs g hv (by cases e; exact hX))
theorem Keeps.of_grown {w w' : World} {X : Nat → Prop} {b : Nat} (hg : w.grownBy w' (some b)) (hX : ∀ j, X j → j < w.heap.size) (hb : ¬ X b) : Keeps X w w' :=
  ⟨hg.os, hg.tape, hg.output, hg.size, fun j hj => hg.block j (hX j hj) (fun e => hb (by cases e; exact hj))⟩
theorem Keeps.mono {w w' : World} {X Y : Nat → Prop} (h : Keeps X w w') (hXY : ∀ j, Y j → X j) : Keeps Y w w' := ⟨h.os, h.tape, h.output, h.size, fun j hj => h.block j (hXY j hj)⟩

open Classical in
/-- What a set of pairs holds. -/
noncomputable def setP (D : List Pr) (p : Pr) : Option Value := if p ∈ D then some (.bool true) else none
theorem setP_put {w : World} {m n : Nat} {b : Pr} {D : List Pr} {f : Pr → Option Value} (h : MapIs pairKind w m n f) (h1 : f b = some (.bool true)) (h2 : ∀ s, s ≠ b → f s = setP D s) : MapIs pairKind w m n (setP (D ++ [b])) := by
  have : f = setP (D ++ [b]) := by
    funext s
    by_cases h : s = b
    · subst h; rw [h1]; simp [setP]
    · rw [h2 s h]; simp [setP, h]
  rw [← this]; exact h
theorem phase_len (es : List Ed) (first : Bool) : ∀ (l acc : List Pr), (phase es first acc l).length ≤ acc.length + l.length
  | [], acc => Nat.le_refl _
  | p :: l, acc => by
    rw [phase_cons]
    have := phase_len es first l (if keepB es first acc p = true then acc ++ [p] else acc)
    split at this <;> simp_all <;> omega
theorem phase_mem (es : List Ed) (first : Bool) : ∀ (l acc : List Pr) (p : Pr), p ∈ phase es first acc l → p ∈ acc ∨ p ∈ l
  | [], acc, p, h => .inl h
  | q :: l, acc, p, h => by
    rw [phase_cons] at h
    rcases phase_mem es first l _ p h with e | e
    · split at e
      · rcases List.mem_append.1 e with e | e
        · exact .inl e
        · rw [List.mem_singleton.1 e]; exact .inr (.head _)
      · exact .inl e
    · exact .inr (.tail _ e)
def accL (es : List Ed) : Nat → List Pr
  | 0 => []
  | 1 => phase es true [] (prsL es)
  | _ => keptL es
theorem accL_len (es : List Ed) (i : Nat) (hi : i < 2) : (accL es i).length ≤ (prsL es).length := by
  rcases (show i = 0 ∨ i = 1 by omega) with rfl | rfl
  · exact Nat.zero_le _
  · exact Nat.le_trans (phase_len es true _ _) (by simp)
theorem accL_mem {es : List Ed} {i : Nat} (hi : i < 2) {p : Pr} (h : p ∈ accL es i) : p ∈ prsL es := by
  rcases (show i = 0 ∨ i = 1 by omega) with rfl | rfl
  · simp [accL] at h
  · rcases phase_mem es true _ _ p h with e | e
    · simp at e
    · exact e
def firstB (i : Nat) : Bool := decide (i = 0)
theorem accL_next (es : List Ed) (i : Nat) (hi : i < 2) : phase es (firstB i) (accL es i) (prsL es) = accL es (i + 1) := by
  rcases (show i = 0 ∨ i = 1 by omega) with rfl | rfl
  · rfl
  · rfl
theorem phase_take {es : List Ed} {first : Bool} {acc : List Pr} {k : Nat} (hk : k < (prsL es).length) :
    phase es first acc ((prsL es).take (k + 1)) = if keepB es first (phase es first acc ((prsL es).take k)) (prsL es)[k] = true then phase es first acc ((prsL es).take k) ++ [(prsL es)[k]] else phase es first acc ((prsL es).take k) := by
  rw [List.take_succ_eq_append_getElem hk, phase_app]

theorem setF_get (D : List Str) (x : Str) : (setF D x).getD (.bool false) = .bool (decide (x ∈ D)) := by
  by_cases h : x ∈ D <;> simp [setF, h]
/-- A call hands back a set of pairs of its own. -/
def SetPIs (S : List Pr) (w : World) (e : Ending) (w' : World) : Prop := ∃ b n, e = .returned (.map (some b)) ∧ MapIs pairKind w' b n (setP S) ∧ w.heap.size ≤ b ∧ Below w.heap.size w w'

set_option maxRecDepth 100000 in
set_option maxHeartbeats 4000000 in
theorem kept_any (An Ae : Option Addr) (nn cn ce : Nat) (es : List Ed) (w : World) (hr : Rd w w.heap.size 3 Ae es.length (edsC es)) (hok : OkE es) (hl : es.length ≤ 100000) :
    Calls Tryz.prog 119 #[gV An nn cn Ae es.length ce] w (SetPIs (keptL es) w) := by
  have Hr := Lib.hid hr
  have HO := Lib.hid hok.prs
  have hpl := prsL_len es
  clear hr hok
  have hmm : ∀ (t : TypeId) (w : World), (Instr.makeMap t none).run Tryz.prog w = .ok (.map (some w.heap.size)) (w.alloc (.map #[] 0)) := fun _ _ => rfl
  go_enter Tryz.func119, Tryz.ntmps119
  go_wp2_with fail
  refine (pairs_any An Ae nn cn ce es _ ?hr (by omega)).mono ?_
  case hr => exact (((Hr.out.alloc (Nat.le_refl _) _).alloc (by simp) _).alloc (by simp; omega) _).more (by simp; omega)
  rintro e w2 ⟨A, c, rfl, hown, hb2⟩
  have hb3 := hb2.alloc hb2.size (.cells #[.bool true, .bool false] 4)
  have hx := WaysX.empty (w := (w.alloc (.cells #[.slice An nn cn, .slice Ae es.length ce] 25)).alloc (.map #[] 0)) hb3
  have hmo : MapIs pairKind _ _ 0 _ := ((MapIs.made pairKind (w.alloc (.cells #[.slice An nn cn, .slice Ae es.length ce] 25))).alloc (.map #[] 0)).on hb3
  rw [show (fun _ => none : Pr → Option Value) = setP [] from by funext s; simp [setP]] at hmo
  simp only [World.size_alloc] at hx hmo
  have hz2 := hb2.size
  simp only [World.size_alloc] at hz2
  have hlo : ∀ g, (Value.slice A (prsL es).length c).ownBlock = some g → w.heap.size + 1 + 1 < g ∧ g < w2.heap.size := fun g hg => by
    have := hown.lt g hg
    simp only [World.size_alloc] at this
    exact ⟨by omega, this.2⟩
  have hBel : Below w.heap.size w (w2.alloc (.cells #[.bool true, .bool false] 4)) := (below_alloc (Nat.le_refl _) (below_alloc (Nat.le_refl _) (below_alloc (Nat.le_refl _) hb3)))
  have e00 : (w2.alloc (.cells #[.bool true, .bool false] 4)).cell? ⟨w.heap.size, 0, none⟩ = some (.slice An nn cn) := by rw [hb3.cell (p := ⟨w.heap.size, 0, none⟩) (by simp; omega)]; go_simp
  have e01 : (w2.alloc (.cells #[.bool true, .bool false] 4)).cell? ⟨w.heap.size, 1, none⟩ = some (.slice Ae es.length ce) := by rw [hb3.cell (p := ⟨w.heap.size, 1, none⟩) (by simp; omega)]; go_simp
  have e10 : (w2.alloc (.cells #[.bool true, .bool false] 4)).cell? ⟨w2.heap.size, 0, none⟩ = some (.bool true) := by go_simp
  have e11 : (w2.alloc (.cells #[.bool true, .bool false] 4)).cell? ⟨w2.heap.size, 1, none⟩ = some (.bool false) := by go_simp
  have hown3 := hown.alloc (.cells #[.bool true, .bool false] 4)
  have HX := Lib.hid hx
  have HM := Lib.hid hmo
  have HW := Lib.hid hown3
  have HLo := Lib.hid hlo
  have HB := Lib.hid hBel
  have HE := Lib.hid (And.intro e00 (And.intro e01 (And.intro e10 e11)))
  have Hr0 := Lib.hid (Hr.out.on (Nat.le_refl _) hBel)
  have hs0 : (w2.alloc (.cells #[.bool true, .bool false] 4)).heap.size = w2.heap.size + 1 := by simp
  have HS0 := Lib.hid hs0
  clear hx hmo hown hown3 hlo hb2 hb3 hBel e00 e01 e10 e11 hs0
  go_wp2_with fail
  go_loopw [16] (fun j wr => ∃ i : Nat, i ≤ 2 ∧ j = .int .i64 i ∧ WaysX wr (fun j => j < w2.heap.size + 1 ∧ j ≠ w.heap.size + 1 + 1) (w.heap.size + 1 + 1) (accL es i) ∧ MapIs pairKind wr (w.heap.size + 1) (accL es i).length (setP (accL es i)) ∧
    Keeps (fun j => j < w2.heap.size + 1 ∧ j ≠ w.heap.size + 1 + 1 ∧ j ≠ w.heap.size + 1) (w2.alloc (.cells #[.bool true, .bool false] 4)) wr) (fun j _ => 2 - (intOf j).toNat)
  case atStart => exact ⟨0, by omega, rfl, HX.out, HM.out, Keeps.refl _ _⟩
  case round =>
    obtain ⟨i, hi, rfl, hw, hm, hk⟩ := hrel
    have hz := hk.size
    rw [HS0.out] at hz
    by_cases hlt : i < 2
    · have hdi : decide ((i : Int) < 2) = true := by simp; omega
      have hfb : wr.cell? ⟨w2.heap.size, i, none⟩ = some (.bool (firstB i)) := by
        rw [World.cell?_of_block (a := ⟨w2.heap.size, i, none⟩) (hk.block w2.heap.size ⟨by omega, by omega, by omega⟩)]
        rcases (show i = 0 ∨ i = 1 by omega) with rfl | rfl
        · exact HE.out.2.2.1
        · exact HE.out.2.2.2
      have HW1 := Lib.hid hw
      have HM1 := Lib.hid hm
      have HK1 := Lib.hid hk
      have hal := accL_len es i hlt
      have HF := Lib.hid (show ∀ p, p ∈ accL es i → p ∈ prsL es from fun p => accL_mem hlt)
      clear hw hm hk
      generalize hfi : firstB i = first at hfb
      have HFi := Lib.hid hfi
      clear hfi
      go_wp2_with fail
      go_loopw [22] (fun j wr => ∃ k : Nat, k ≤ (prsL es).length ∧ j = .int .i64 k ∧ WaysX wr (fun j => j < w2.heap.size + 1 ∧ j ≠ w.heap.size + 1 + 1) (w.heap.size + 1 + 1) (phase es first (accL es i) ((prsL es).take k)) ∧ MapIs pairKind wr (w.heap.size + 1) (phase es first (accL es i) ((prsL es).take k)).length (setP (phase es first (accL es i) ((prsL es).take k))) ∧
        Keeps (fun j => j < w2.heap.size + 1 ∧ j ≠ w.heap.size + 1 + 1 ∧ j ≠ w.heap.size + 1) (w2.alloc (.cells #[.bool true, .bool false] 4)) wr) (fun j _ => (prsL es).length - (intOf j).toNat)
      case atStart => exact ⟨0, by omega, rfl, HW1.out, HM1.out, HK1.out⟩
      case round =>
        obtain ⟨k, hk, rfl, hw, hm, hkp⟩ := hrel
        have hz1 := hkp.size
        rw [HS0.out] at hz1
        have hlen : (phase es first (accL es i) ((prsL es).take k)).length ≤ 2 * (prsL es).length := by
          have := phase_len es first ((prsL es).take k) (accL es i)
          rw [List.length_take] at this
          omega
        have hmem : ∀ p, p ∈ phase es first (accL es i) ((prsL es).take k) → p ∈ prsL es := fun p hp => by
          rcases phase_mem es first _ _ p hp with e | e
          · exact HF.out p e
          · exact List.mem_of_mem_take e
        by_cases hlt2 : k < (prsL es).length
        · have hpt := @phase_take es first (accL es i) k hlt2
          have hown := hkp.own HW.out (fun g hg => by have := HLo.out g hg; exact ⟨by omega, by omega, by omega⟩)
          obtain ⟨bb, o, hA, hB1, hc0, hc1⟩ := (own_rd' hown).pair hlt2
          have hpok := HO.out _ (List.getElem_mem hlt2)
          have c00 : wr.cell? ⟨w.heap.size, 0, none⟩ = some (.slice An nn cn) := (World.cell?_of_block (a := ⟨w.heap.size, 0, none⟩) (hkp.block w.heap.size ⟨by omega, by omega, by omega⟩)).trans HE.out.1
          have c01 : wr.cell? ⟨w.heap.size, 1, none⟩ = some (.slice Ae es.length ce) := (World.cell?_of_block (a := ⟨w.heap.size, 1, none⟩) (hkp.block w.heap.size ⟨by omega, by omega, by omega⟩)).trans HE.out.2.1
          have Hr1 := Lib.hid (((hkp.rd Hr0.out (fun j hj => ⟨by omega, by omega, by omega⟩)).more (Nat.le_trans (by omega) hz1)))
          generalize hacc : phase es first (accL es i) ((prsL es).take k) = acc at hw hm hpt hlen hmem
          generalize hx : (prsL es)[k] = q at hc0 hc1 hpok hpt
          obtain ⟨x, y⟩ := q
          have HW2 := Lib.hid hw
          have HM2 := Lib.hid hm
          have HK2 := Lib.hid hkp
          have HPt := Lib.hid hpt
          have HMem := Lib.hid (show ∀ p, p ∈ acc → okS p.1 ∧ okS p.2 from fun p hp => HO.out p (hmem p hp))
          simp only at hc0 hc1 hpok
          have n1 : w.heap.size < wr.heap.size := by omega
          clear hw hm hkp hpt hmem hown hx hacc
          subst hA
          go_wp2_with fail
          first | (refine wp_named ?_; intro W hW) | (refine calls_named ?_; intro W hW)
          have BW : Below wr.heap.size wr W := by rw [hW]; exact (by repeat (first | exact Below.refl _ _ | assumption | refine Below.alloc ?_ (by simp <;> omega) _ | refine Below.setCell ?_ (by simp <;> omega) _ | refine Below.drew ?_))
          replace c00 := cellAt c00 BW (by omega)
          replace c01 := cellAt c01 BW (by omega)
          replace n1 : w.heap.size < W.heap.size := ltAt n1 BW
          replace Hr1 := Lib.hid (Hr1.out.at BW)
          replace HW2 := Lib.hid (HW2.out.on BW)
          replace HM2 := Lib.hid (HM2.out.on BW)
          replace HK2 := Lib.hid (HK2.out.then (fun j hj => by rw [HS0.out]; exact hj.1) BW)
          have n2 : wr.heap.size < W.heap.size := by rw [hW]; simp <;> omega
          have c10 : W.cell? ⟨wr.heap.size, 0, none⟩ = some (sv x) := by rw [hW]; go_simp
          have c11 : W.cell? ⟨wr.heap.size, 1, none⟩ = some (sv y) := by rw [hW]; go_simp
          clear hW
          clear BW
          have hstay : ∀ (v : World), ¬ keepB es first acc (x, y) = true → WaysX v (fun j => j < w2.heap.size + 1 ∧ j ≠ w.heap.size + 1 + 1) (w.heap.size + 1 + 1) acc → MapIs pairKind v (w.heap.size + 1) acc.length (setP acc) → Keeps (fun j => j < w2.heap.size + 1 ∧ j ≠ w.heap.size + 1 + 1 ∧ j ≠ w.heap.size + 1) (w2.alloc (.cells #[.bool true, .bool false] 4)) v →
              ∃ k' : Nat, k' ≤ (prsL es).length ∧ Value.int .i64 ((k : Int) + 1) = .int .i64 k' ∧ WaysX v (fun j => j < w2.heap.size + 1 ∧ j ≠ w.heap.size + 1 + 1) (w.heap.size + 1 + 1) (phase es first (accL es i) ((prsL es).take k')) ∧ MapIs pairKind v (w.heap.size + 1) (phase es first (accL es i) ((prsL es).take k')).length (setP (phase es first (accL es i) ((prsL es).take k'))) ∧ Keeps (fun j => j < w2.heap.size + 1 ∧ j ≠ w.heap.size + 1 + 1 ∧ j ≠ w.heap.size + 1) (w2.alloc (.cells #[.bool true, .bool false] 4)) v := by
            intro v hk h1 h2 h3
            refine ⟨k + 1, by omega, by go_num, ?_⟩
            rw [HPt.out, if_neg hk]
            exact ⟨h1, h2, h3⟩
          have HSt := Lib.hid hstay
          clear hstay
          by_cases hn : needsB es (x, y) = first
          · have hn2 : (needsB es (x, y) == first) = true := by simpa using hn
            by_cases hxy : x = y
            · have hxy2 : (!x == y) = false := by simpa using hxy
              have hkb : ¬ keepB es first acc (x, y) = true := by rw [keepB_iff]; exact fun h => h.2.1 hxy
              have HKb := Lib.hid hkb
              have Hn := Lib.hid hn
              clear hkb hxy hn
              try go_wp2_with fail
              refine wp_region_held_drew (S := fun w' => Below W.heap.size W w') (by kernel_rfl) (Below.drew (Below.refl _ _)) (fun hHeld => ?_)
              refine tY (i := 0) (v := ?_) rfl ?_ hHeld ?_; rotate_left 1; focus (intro w' hSw; have hCell := fun (b o : Nat) (h : b < W.heap.size) => hSw.cell (p := ⟨b, o, none⟩) h; clear hSw; go_simp; try with_reducible rfl)
              (try simp only [Act.put, zn1, zn2, zn3])
              refine tY (i := 1) (v := ?_) rfl ?_ hHeld ?_; rotate_left 1; focus (intro w' hSw; have hCell := fun (b o : Nat) (h : b < W.heap.size) => hSw.cell (p := ⟨b, o, none⟩) h; clear hSw; go_simp; try with_reducible rfl)
              (try simp only [Act.put, zn1, zn2, zn3])
              refine tY (i := 3) (v := ?_) rfl ?_ hHeld ?_; rotate_left 1; focus (intro w' hSw; clear hSw; go_simp; try with_reducible rfl)
              (try simp only [Act.put, zn1, zn2, zn3])
              refine ready_one (i := 2) rfl (by kernel_rfl) (fun K hK => ?_)
              go_simp
              refine (needs_any An Ae nn cn ce es x y _ (Hr1.out.at hHeld) (by omega)).mono ?_
              rintro e v2 ⟨rfl, hb⟩
              refine hK.out _ _ ?_ (fun hHeld2 => ?_)
              · (try dsimp only); first | exact Below.trans hHeld (Below.mono hb hHeld.size) | exact hHeld | exact Below.drew hHeld | exact (by repeat (first | exact Below.refl _ _ | assumption | refine Below.alloc ?_ (by simp <;> omega) _ | refine Below.setCell ?_ (by simp <;> omega) _ | refine Below.drew ?_))
              clear hK K hHeld; have hHeld := hHeld2; clear hHeld2; (try simp only [Act.put, zn1, zn2, zn3])
              refine tY (i := 4) (v := ?_) rfl ?_ hHeld ?_; rotate_left 1; focus (intro w' hSw; clear hSw; go_simp; try with_reducible rfl)
              (try simp only [Act.put, zn1, zn2, zn3])
              refine tY (i := 5) (v := ?_) rfl ?_ hHeld ?_; rotate_left 1; focus (intro w' hSw; clear hSw; go_simp; try with_reducible rfl)
              (try simp only [Act.put, zn1, zn2, zn3])
              refine tY (i := 6) (v := ?_) rfl ?_ hHeld ?_; rotate_left 1; focus (intro w' hSw; clear hSw; go_simp; try with_reducible rfl)
              (try simp only [Act.put, zn1, zn2, zn3])
              refine tY (i := 7) (v := ?_) rfl ?_ hHeld ?_; rotate_left 1; focus (intro w' hSw; have hCell := fun (b o : Nat) (h : b < W.heap.size) => hSw.cell (p := ⟨b, o, none⟩) h; clear hSw; go_simp; try with_reducible rfl)
              (try simp only [Act.put, zn1, zn2, zn3])
              refine tY (i := 8) (v := ?_) rfl ?_ hHeld ?_; rotate_left 1; focus (intro w' hSw; clear hSw; go_simp; try with_reducible rfl)
              (try simp only [Act.put, zn1, zn2, zn3])
              refine tY (i := 9) (v := ?_) rfl ?_ hHeld ?_; rotate_left 1; focus (intro w' hSw; have hCell := fun (b o : Nat) (h : b < W.heap.size) => hSw.cell (p := ⟨b, o, none⟩) h; clear hSw; go_simp; try with_reducible rfl)
              (try simp only [Act.put, zn1, zn2, zn3])
              refine tY (i := 10) (v := ?_) rfl ?_ hHeld ?_; rotate_left 1; focus (intro w' hSw; clear hSw; go_simp; try with_reducible rfl)
              (try simp only [Act.put, zn1, zn2, zn3])
              refine tY (i := 11) (v := ?_) rfl ?_ hHeld ?_; rotate_left 1; focus (intro w' hSw; clear hSw; go_simp; try with_reducible rfl)
              (try simp only [Act.put, zn1, zn2, zn3])
              refine tY (i := 12) (v := ?_) rfl ?_ hHeld ?_; rotate_left 1; focus (intro w' hSw; clear hSw; go_simp; try with_reducible rfl)
              (try simp only [Act.put, zn1, zn2, zn3])
              refine tS (i := 13) rfl hHeld ?_; (try simp only [Act.put, zn1, zn2, zn3])
              refine tS (i := 14) rfl hHeld ?_; (try simp only [Act.put, zn1, zn2, zn3])
              refine tS (i := 15) rfl hHeld ?_; (try simp only [Act.put, zn1, zn2, zn3])
              refine tS (i := 16) rfl hHeld ?_; (try simp only [Act.put, zn1, zn2, zn3])
              refine tS (i := 17) rfl hHeld ?_; (try simp only [Act.put, zn1, zn2, zn3])
              refine tS (i := 18) rfl hHeld ?_; (try simp only [Act.put, zn1, zn2, zn3])
              refine tS (i := 19) rfl hHeld ?_; (try simp only [Act.put, zn1, zn2, zn3])
              refine tS (i := 20) rfl hHeld ?_; (try simp only [Act.put, zn1, zn2, zn3])
              refine tY (i := 21) (v := ?_) rfl ?_ hHeld ?_; rotate_left 1; focus (intro w' hSw; clear hSw; go_simp; try with_reducible rfl)
              (try simp only [Act.put, zn1, zn2, zn3])
              refine wpAnyH_done (by kernel_rfl) ?_ _
              replace c00 := cellAt c00 hHeld (by omega)
              replace c01 := cellAt c01 hHeld (by omega)
              replace c10 := cellAt c10 hHeld (by omega)
              replace c11 := cellAt c11 hHeld (by omega)
              replace n1 : w.heap.size < v2.heap.size := ltAt n1 hHeld
              replace Hr1 := Lib.hid (Hr1.out.at hHeld)
              replace HW2 := Lib.hid (HW2.out.on hHeld)
              replace HM2 := Lib.hid (HM2.out.on hHeld)
              replace HK2 := Lib.hid (HK2.out.then (fun j hj => by rw [HS0.out]; exact hj.1) hHeld)
              replace n2 : wr.heap.size < v2.heap.size := ltAt n2 hHeld
              go_wp2_with fail
              go_roundw
              case rel => exact HSt.out v2 HKb.out HW2.out HM2.out HK2.out
              case measure => simp [intOf]; omega
            · have hxy2 : (!x == y) = true := by simpa using hxy
              have Hn := Lib.hid (And.intro hn hxy)
              clear hn hxy
              try go_wp2_with fail
              refine wp_region_held_drew (S := fun w' => Below W.heap.size W w') (by kernel_rfl) (Below.drew (Below.refl _ _)) (fun hHeld => ?_)
              refine tY (i := 0) (v := ?_) rfl ?_ hHeld ?_; rotate_left 1; focus (intro w' hSw; have hCell := fun (b o : Nat) (h : b < W.heap.size) => hSw.cell (p := ⟨b, o, none⟩) h; clear hSw; go_simp; try with_reducible rfl)
              (try simp only [Act.put, zn1, zn2, zn3])
              refine tY (i := 1) (v := ?_) rfl ?_ hHeld ?_; rotate_left 1; focus (intro w' hSw; have hCell := fun (b o : Nat) (h : b < W.heap.size) => hSw.cell (p := ⟨b, o, none⟩) h; clear hSw; go_simp; try with_reducible rfl)
              (try simp only [Act.put, zn1, zn2, zn3])
              refine tY (i := 3) (v := ?_) rfl ?_ hHeld ?_; rotate_left 1; focus (intro w' hSw; clear hSw; go_simp; try with_reducible rfl)
              (try simp only [Act.put, zn1, zn2, zn3])
              refine ready_one (i := 2) rfl (by kernel_rfl) (fun K hK => ?_)
              go_simp
              refine (needs_any An Ae nn cn ce es x y _ (Hr1.out.at hHeld) (by omega)).mono ?_
              rintro e v2 ⟨rfl, hb⟩
              refine hK.out _ _ ?_ (fun hHeld2 => ?_)
              · (try dsimp only); first | exact Below.trans hHeld (Below.mono hb hHeld.size) | exact hHeld | exact Below.drew hHeld | exact (by repeat (first | exact Below.refl _ _ | assumption | refine Below.alloc ?_ (by simp <;> omega) _ | refine Below.setCell ?_ (by simp <;> omega) _ | refine Below.drew ?_))
              clear hK K hHeld; have hHeld := hHeld2; clear hHeld2; (try simp only [Act.put, zn1, zn2, zn3])
              refine tY (i := 4) (v := ?_) rfl ?_ hHeld ?_; rotate_left 1; focus (intro w' hSw; clear hSw; go_simp; try with_reducible rfl)
              (try simp only [Act.put, zn1, zn2, zn3])
              refine tY (i := 5) (v := ?_) rfl ?_ hHeld ?_; rotate_left 1; focus (intro w' hSw; clear hSw; go_simp; try with_reducible rfl)
              (try simp only [Act.put, zn1, zn2, zn3])
              refine tY (i := 6) (v := ?_) rfl ?_ hHeld ?_; rotate_left 1; focus (intro w' hSw; clear hSw; go_simp; try with_reducible rfl)
              (try simp only [Act.put, zn1, zn2, zn3])
              refine tY (i := 7) (v := ?_) rfl ?_ hHeld ?_; rotate_left 1; focus (intro w' hSw; have hCell := fun (b o : Nat) (h : b < W.heap.size) => hSw.cell (p := ⟨b, o, none⟩) h; clear hSw; go_simp; try with_reducible rfl)
              (try simp only [Act.put, zn1, zn2, zn3])
              refine tY (i := 8) (v := ?_) rfl ?_ hHeld ?_; rotate_left 1; focus (intro w' hSw; clear hSw; go_simp; try with_reducible rfl)
              (try simp only [Act.put, zn1, zn2, zn3])
              refine tY (i := 9) (v := ?_) rfl ?_ hHeld ?_; rotate_left 1; focus (intro w' hSw; have hCell := fun (b o : Nat) (h : b < W.heap.size) => hSw.cell (p := ⟨b, o, none⟩) h; clear hSw; go_simp; try with_reducible rfl)
              (try simp only [Act.put, zn1, zn2, zn3])
              refine tY (i := 10) (v := ?_) rfl ?_ hHeld ?_; rotate_left 1; focus (intro w' hSw; clear hSw; go_simp; try with_reducible rfl)
              (try simp only [Act.put, zn1, zn2, zn3])
              refine tY (i := 11) (v := ?_) rfl ?_ hHeld ?_; rotate_left 1; focus (intro w' hSw; clear hSw; go_simp; try with_reducible rfl)
              (try simp only [Act.put, zn1, zn2, zn3])
              refine tY (i := 12) (v := ?_) rfl ?_ hHeld ?_; rotate_left 1; focus (intro w' hSw; clear hSw; go_simp; try with_reducible rfl)
              (try simp only [Act.put, zn1, zn2, zn3])
              refine tY (i := 13) (v := ?_) rfl ?_ hHeld ?_; rotate_left 1; focus (intro w' hSw; clear hSw; go_simp; try with_reducible rfl)
              (try simp only [Act.put, zn1, zn2, zn3])
              refine tY (i := 14) (v := ?_) rfl ?_ hHeld ?_; rotate_left 1; focus (intro w' hSw; clear hSw; go_simp; try with_reducible rfl)
              (try simp only [Act.put, zn1, zn2, zn3])
              refine tY (i := 15) (v := ?_) rfl ?_ hHeld ?_; rotate_left 1; focus (intro w' hSw; have hCell := fun (b o : Nat) (h : b < W.heap.size) => hSw.cell (p := ⟨b, o, none⟩) h; clear hSw; go_simp; try with_reducible rfl)
              (try simp only [Act.put, zn1, zn2, zn3])
              refine tY (i := 17) (v := ?_) rfl ?_ hHeld ?_; rotate_left 1; focus (intro w' hSw; clear hSw; go_simp; try with_reducible rfl)
              (try simp only [Act.put, zn1, zn2, zn3])
              refine tY (i := 18) (v := ?_) rfl ?_ hHeld ?_; rotate_left 1; focus (intro w' hSw; have hCell := fun (b o : Nat) (h : b < W.heap.size) => hSw.cell (p := ⟨b, o, none⟩) h; clear hSw; go_simp; try with_reducible rfl)
              (try simp only [Act.put, zn1, zn2, zn3])
              refine ready_one (i := 16) rfl (by kernel_rfl) (fun K hK => ?_)
              go_simp
              refine (behind_any 0 (w.heap.size + 1 + 1) acc y _ (HW2.out.on hHeld).is hpok.2 HMem.out (by omega)).mono ?_
              rintro e v3 ⟨b5, D, rfl, hm5, hD, hlo5, hle5, hb⟩
              have HM5 := Lib.hid hm5
              have HD := Lib.hid hD
              clear hm5 hD
              refine hK.out _ _ ?_ (fun hHeld2 => ?_)
              · (try dsimp only); first | exact Below.trans hHeld (Below.mono hb hHeld.size) | exact hHeld | exact Below.drew hHeld | exact (by repeat (first | exact Below.refl _ _ | assumption | refine Below.alloc ?_ (by simp <;> omega) _ | refine Below.setCell ?_ (by simp <;> omega) _ | refine Below.drew ?_))
              clear hK K hHeld; have hHeld := hHeld2; clear hHeld2; (try simp only [Act.put, zn1, zn2, zn3])
              refine ready_one (i := 19) rfl (by kernel_rfl) (fun K hK => ?_)
              refine step_lookup_is _ (by rfl) (.tmp 42) (.tmp 44) 35 (by rfl) 4 Tryz.underlying35 (.bool false) (by rfl) b5 _ _ (by rfl) HM5.out x (by rfl) hpok.1 ?_
              rw [setF_get]
              refine hK.out _ _ ?_ (fun hHeld2 => ?_)
              · (try dsimp only); first | exact Below.trans hHeld (Below.mono hb hHeld.size) | exact hHeld | exact Below.drew hHeld | exact (by repeat (first | exact Below.refl _ _ | assumption | refine Below.alloc ?_ (by simp <;> omega) _ | refine Below.setCell ?_ (by simp <;> omega) _ | refine Below.drew ?_))
              clear hK K hHeld; have hHeld := hHeld2; clear hHeld2; (try simp only [Act.put, zn1, zn2, zn3])
              refine tY (i := 20) (v := ?_) rfl ?_ hHeld ?_; rotate_left 1; focus (intro w' hSw; clear hSw; go_simp; try with_reducible rfl)
              (try simp only [Act.put, zn1, zn2, zn3])
              refine tY (i := 21) (v := ?_) rfl ?_ hHeld ?_; rotate_left 1; focus (intro w' hSw; clear hSw; go_simp; try with_reducible rfl)
              (try simp only [Act.put, zn1, zn2, zn3])
              refine wpAnyH_done (by kernel_rfl) ?_ _
              replace c00 := cellAt c00 hHeld (by omega)
              replace c01 := cellAt c01 hHeld (by omega)
              replace c10 := cellAt c10 hHeld (by omega)
              replace c11 := cellAt c11 hHeld (by omega)
              replace n1 : w.heap.size < v3.heap.size := ltAt n1 hHeld
              replace Hr1 := Lib.hid (Hr1.out.at hHeld)
              replace HW2 := Lib.hid (HW2.out.on hHeld)
              replace HM2 := Lib.hid (HM2.out.on hHeld)
              replace HK2 := Lib.hid (HK2.out.then (fun j hj => by rw [HS0.out]; exact hj.1) hHeld)
              replace n2 : wr.heap.size < v3.heap.size := ltAt n2 hHeld
              cases hd0 : decide (x ∈ D)
              · have hkb : keepB es first acc (x, y) = true := by rw [keepB_iff]; exact ⟨Hn.out.1, Hn.out.2, fun h => by have := (HD.out x).2 (mem_reachL.2 h); simp [this] at hd0⟩
                have HKb := Lib.hid hkb
                have Hd0 := Lib.hid hd0
                clear hkb hd0
                have hmn : acc.length < maxLen := by unfold maxLen; omega
                go_wp2_with (first
                  | (at_mapUpdate; refine wpList_update_is _ (by rfl) (.tmp 48) (.tmp 49) (.const (.bool true)) 167 (by rfl) 4 Tryz.underlying167 (w.heap.size + 1) _ _ (by rfl) HM2.out hmn (x, y) (.bool true) (by rfl) (by rfl) hpok ?_; intro v4 hm4 hg4; have d10 : v4.cell? ⟨wr.heap.size, 0, none⟩ = some (sv x) := (World.cell?_of_block (a := ⟨wr.heap.size, 0, none⟩) (hg4.block wr.heap.size n2 (by simp; omega))).trans c10; have d11 : v4.cell? ⟨wr.heap.size, 1, none⟩ = some (sv y) := (World.cell?_of_block (a := ⟨wr.heap.size, 1, none⟩) (hg4.block wr.heap.size n2 (by simp; omega))).trans c11; have hz4 : v3.heap.size ≤ v4.heap.size := hg4.size; have HM4 := Lib.hid hm4; have HG4 := Lib.hid hg4; clear hm4 hg4)
                  | fail)
                have hz3 : wr.heap.size ≤ v3.heap.size := Nat.le_of_lt n2
                have HW4 := Lib.hid (HW2.out.kept HG4.out ⟨by omega, by omega⟩)
                have hXlt : ∀ j, (j < w2.heap.size + 1 ∧ j ≠ w.heap.size + 1 + 1) → j < v4.heap.size := fun j hj => by omega
                have HXl := Lib.hid hXlt
                clear hXlt
                refine (put_any (fun j => j < w2.heap.size + 1 ∧ j ≠ w.heap.size + 1 + 1) (w.heap.size + 1 + 1) acc x y v4 HW4.out HXl.out hpok.1 (by omega)).mono ?_
                rintro e v5 ⟨rfl, hw5, hk5⟩
                have HW5 := Lib.hid hw5
                have HK5 := Lib.hid hk5
                clear hw5 hk5
                go_wp2_with fail
                go_roundw
                case rel =>
                  refine ⟨k + 1, by omega, by go_num, ?_⟩
                  rw [HPt.out, if_pos HKb.out]
                  refine ⟨HW5.out, ?_, HK2.out.trans ((Keeps.of_grown HG4.out (fun j hj => by omega) (by omega)).trans (HK5.out.mono (fun j hj => ⟨hj.1, hj.2.1⟩)))⟩
                  rw [List.length_append]
                  exact HK5.out.map (setP_put HM4.out (by simp) (fun s hs => by simp [hs])) ⟨by omega, by omega⟩
                case measure => simp [intOf]; omega
              · have hkb : ¬ keepB es first acc (x, y) = true := by rw [keepB_iff]; exact fun h => h.2.2 (mem_reachL.1 ((HD.out x).1 (by simpa using hd0)))
                have HKb := Lib.hid hkb
                have Hd0 := Lib.hid hd0
                clear hkb hd0
                go_wp2_with fail
                go_roundw
                case rel => exact HSt.out v3 HKb.out HW2.out HM2.out HK2.out
                case measure => simp [intOf]; omega
          · have hn2 : (needsB es (x, y) == first) = false := by simpa using hn
            have hkb : ¬ keepB es first acc (x, y) = true := by rw [keepB_iff]; exact fun h => hn h.1
            have HKb := Lib.hid hkb
            have Hn := Lib.hid hn
            clear hkb hn
            try go_wp2_with fail
            refine wp_region_held_drew (S := fun w' => Below W.heap.size W w') (by kernel_rfl) (Below.drew (Below.refl _ _)) (fun hHeld => ?_)
            refine tY (i := 0) (v := ?_) rfl ?_ hHeld ?_; rotate_left 1; focus (intro w' hSw; have hCell := fun (b o : Nat) (h : b < W.heap.size) => hSw.cell (p := ⟨b, o, none⟩) h; clear hSw; go_simp; try with_reducible rfl)
            (try simp only [Act.put, zn1, zn2, zn3])
            refine tY (i := 1) (v := ?_) rfl ?_ hHeld ?_; rotate_left 1; focus (intro w' hSw; have hCell := fun (b o : Nat) (h : b < W.heap.size) => hSw.cell (p := ⟨b, o, none⟩) h; clear hSw; go_simp; try with_reducible rfl)
            (try simp only [Act.put, zn1, zn2, zn3])
            refine tY (i := 3) (v := ?_) rfl ?_ hHeld ?_; rotate_left 1; focus (intro w' hSw; clear hSw; go_simp; try with_reducible rfl)
            (try simp only [Act.put, zn1, zn2, zn3])
            refine ready_one (i := 2) rfl (by kernel_rfl) (fun K hK => ?_)
            go_simp
            refine (needs_any An Ae nn cn ce es x y _ (Hr1.out.at hHeld) (by omega)).mono ?_
            rintro e v2 ⟨rfl, hb⟩
            refine hK.out _ _ ?_ (fun hHeld2 => ?_)
            · (try dsimp only); first | exact Below.trans hHeld (Below.mono hb hHeld.size) | exact hHeld | exact Below.drew hHeld | exact (by repeat (first | exact Below.refl _ _ | assumption | refine Below.alloc ?_ (by simp <;> omega) _ | refine Below.setCell ?_ (by simp <;> omega) _ | refine Below.drew ?_))
            clear hK K hHeld; have hHeld := hHeld2; clear hHeld2; (try simp only [Act.put, zn1, zn2, zn3])
            refine tY (i := 4) (v := ?_) rfl ?_ hHeld ?_; rotate_left 1; focus (intro w' hSw; clear hSw; go_simp; try with_reducible rfl)
            (try simp only [Act.put, zn1, zn2, zn3])
            refine tY (i := 5) (v := ?_) rfl ?_ hHeld ?_; rotate_left 1; focus (intro w' hSw; clear hSw; go_simp; try with_reducible rfl)
            (try simp only [Act.put, zn1, zn2, zn3])
            refine tS (i := 6) rfl hHeld ?_; (try simp only [Act.put, zn1, zn2, zn3])
            refine tS (i := 7) rfl hHeld ?_; (try simp only [Act.put, zn1, zn2, zn3])
            refine tS (i := 8) rfl hHeld ?_; (try simp only [Act.put, zn1, zn2, zn3])
            refine tS (i := 9) rfl hHeld ?_; (try simp only [Act.put, zn1, zn2, zn3])
            refine tS (i := 10) rfl hHeld ?_; (try simp only [Act.put, zn1, zn2, zn3])
            refine tY (i := 11) (v := ?_) rfl ?_ hHeld ?_; rotate_left 1; focus (intro w' hSw; clear hSw; go_simp; try with_reducible rfl)
            (try simp only [Act.put, zn1, zn2, zn3])
            refine tY (i := 12) (v := ?_) rfl ?_ hHeld ?_; rotate_left 1; focus (intro w' hSw; clear hSw; go_simp; try with_reducible rfl)
            (try simp only [Act.put, zn1, zn2, zn3])
            refine tS (i := 13) rfl hHeld ?_; (try simp only [Act.put, zn1, zn2, zn3])
            refine tS (i := 14) rfl hHeld ?_; (try simp only [Act.put, zn1, zn2, zn3])
            refine tS (i := 15) rfl hHeld ?_; (try simp only [Act.put, zn1, zn2, zn3])
            refine tS (i := 16) rfl hHeld ?_; (try simp only [Act.put, zn1, zn2, zn3])
            refine tS (i := 17) rfl hHeld ?_; (try simp only [Act.put, zn1, zn2, zn3])
            refine tS (i := 18) rfl hHeld ?_; (try simp only [Act.put, zn1, zn2, zn3])
            refine tS (i := 19) rfl hHeld ?_; (try simp only [Act.put, zn1, zn2, zn3])
            refine tS (i := 20) rfl hHeld ?_; (try simp only [Act.put, zn1, zn2, zn3])
            refine tY (i := 21) (v := ?_) rfl ?_ hHeld ?_; rotate_left 1; focus (intro w' hSw; clear hSw; go_simp; try with_reducible rfl)
            (try simp only [Act.put, zn1, zn2, zn3])
            refine wpAnyH_done (by kernel_rfl) ?_ _
            replace c00 := cellAt c00 hHeld (by omega)
            replace c01 := cellAt c01 hHeld (by omega)
            replace c10 := cellAt c10 hHeld (by omega)
            replace c11 := cellAt c11 hHeld (by omega)
            replace n1 : w.heap.size < v2.heap.size := ltAt n1 hHeld
            replace Hr1 := Lib.hid (Hr1.out.at hHeld)
            replace HW2 := Lib.hid (HW2.out.on hHeld)
            replace HM2 := Lib.hid (HM2.out.on hHeld)
            replace HK2 := Lib.hid (HK2.out.then (fun j hj => by rw [HS0.out]; exact hj.1) hHeld)
            replace n2 : wr.heap.size < v2.heap.size := ltAt n2 hHeld
            go_wp2_with fail
            go_roundw
            case rel => exact HSt.out v2 HKb.out HW2.out HM2.out HK2.out
            case measure => simp [intOf]; omega
        · have hkn : k = (prsL es).length := by omega
          rw [List.take_of_length_le (by omega), ← HFi.out, accL_next es i hlt] at hw hm
          have HW2 := Lib.hid hw
          have HM2 := Lib.hid hm
          have HK2 := Lib.hid hkp
          clear hw hm hkp hmem hlen
          go_wp2_with fail
          go_roundw
          case rel => exact ⟨i + 1, by omega, by go_num, HW2.out, HM2.out, HK2.out⟩
          case measure => simp [intOf]; omega
    · have hi2 : i = 2 := by omega
      subst hi2
      have HM1 := Lib.hid hm
      have HK1 := Lib.hid hk
      clear hw hm hk
      go_wp2_with fail
      go_ret
      exact ⟨w.heap.size + 1, _, rfl, HM1.out, by omega, HB.out.trans (HK1.out.below (fun j hj => ⟨by omega, by omega, by omega⟩))⟩
end Od
end Go.Proofs.YtbllehjhmfehbaaGreat
end

section
/- The rows of the program's table of types that appends ask for. -/
namespace Go.Proofs.YtbllehjhmfehbaaGreat
open Go.RowKit
namespace Od
theorem inS : (Tryz.prog.info? 9).map (fun i => (i.zero, i.size, i.bytes)) = some (some (.string ⟨#[]⟩), 1, 16) := by kernel_rfl
theorem inE : (Tryz.prog.info? 45).map (fun i => (i.zero, i.size, i.bytes)) = some (some (.agg #[.string ⟨#[]⟩, .string ⟨#[]⟩, .int .i64 0]), 3, 40) := by kernel_rfl
theorem inN : (Tryz.prog.info? 39).map (fun i => (i.zero, i.size, i.bytes)) = some (some (.agg #[.string ⟨#[]⟩, .int .i64 0, .int .i64 0]), 3, 32) := by kernel_rfl
end Od
end Go.Proofs.YtbllehjhmfehbaaGreat
end

section
/- Appends to slices whose capacity is full ('l[:k:k]', a literal), cuts of slices that read as lists: what 'append(l[:k:k], append([]T{x}, l[k:]...)...)' is made of. No program. -/
namespace Go.Proofs.YtbllehjhmfehbaaGreat
open Go.RowKit

/-- 'l[k:]' as a place. -/
def dropA (A : Option Addr) (c k size : Nat) : Option Addr := if c = k then A else A.map (·.add (k * size))
/-- 'l[:k:k]' as a place. -/
def takeA (A : Option Addr) (k size : Nat) : Option Addr := if k = 0 then A else A.map (·.add (0 * size))
section
variable {P : Program}
theorem run_slice_tail {t e : TypeId} {i : TypeInfo} (ht : P.underlying t = some (.slice e)) (hi : P.info? e = some i) (A : Option Addr) (n c k : Nat) (hk : k ≤ n) (w : World) :
    (Instr.slice t (.slice A n c) (some (.int .i64 k)) none none).run P w = .ok (.slice (dropA A c k i.size) (n - k) (c - k)) w := by
  simp [Instr.slice, run_underlying ht, Instr.sliceBounds, Instr.sliceBound, asIntOf, sizeOf, typeInfo, hi, dropA]
  intro h; omega
theorem run_slice_full {t e : TypeId} {i : TypeInfo} (ht : P.underlying t = some (.slice e)) (hi : P.info? e = some i) (A : Option Addr) (n c k : Nat) (hk : k ≤ c) (w : World) :
    (Instr.slice t (.slice A n c) none (some (.int .i64 k)) (some (.int .i64 k))).run P w = .ok (.slice (takeA A k i.size) k k) w := by
  simp [Instr.slice, run_underlying ht, Instr.sliceBounds, Instr.sliceBound, asIntOf, sizeOf, typeInfo, hi, takeA]
  intro h; omega
theorem Addr.add_zero (a : Addr) : a.add 0 = a := by simp [Addr.add]
theorem Rd.dropA {w : World} {B k n m c : Nat} {A : Option Addr} {xs : List Value} (h : Rd w B k A n xs) (hm : m ≤ n) (hc : n ≤ c) : Rd w B k (dropA A c m k) (n - m) (xs.drop (m * k)) := h.drop hm hc
theorem Rd.takeA {w : World} {B k n m : Nat} {A : Option Addr} {xs : List Value} (h : Rd w B k A n xs) (hm : m ≤ n) : Rd w B k (takeA A m k) m (xs.take (m * k)) := by
  have h' := h.take hm
  unfold Go.Proofs.YtbllehjhmfehbaaGreat.takeA
  split
  · exact h'
  · simp only [Nat.zero_mul]
    rw [show (fun x : Addr => x.add 0) = id from funext Addr.add_zero]
    simpa using h'

theorem run_append_full (w : World) (t ty e : TypeId) (i : TypeInfo) (z : Value) (size bytes : Nat) (ht : P.underlying t = some (.slice e)) (hi : P.info? e = some i) (hz : i.zero = some z)
    (hsize : i.size = size) (hby : i.bytes = bytes) (hzs : z.cells.size = size) (B : Nat) (A : Option Addr) (n : Nat) (xs : List Value) (hr : Rd w B size A n xs) (hB : B ≤ w.heap.size)
    (B2 : Nat) (A2 : Option Addr) (m c : Nat) (news : List Value) (hr2 : Rd w B2 size A2 m news) (h1 : ∀ u ∈ news, u.oneCell' = true) (h63 : n + m ≤ maxLen) (hbytes : (n + m) * bytes ≤ 140737488355328) :
    ∃ A' c' w', (Builtin.append_ #[t, t] ty #[.slice A n n, .slice A2 m c]).run P w = .ok (.slice A' (n + m) c') w' ∧ n + m ≤ c' ∧ Rd w' w'.heap.size size A' (n + m) (xs ++ news) ∧ Below w.heap.size w w' ∧ (0 < m → ∀ ad, A' = some ad → w.heap.size ≤ ad.block) := by
  subst hsize
  subst hby
  have hs : Src P i.size t (.slice A2 m c) m news w := src_rd ht hr2 h1 fun e => by
    rcases Nat.eq_zero_or_pos m with h0 | h0
    · exact h0
    · obtain ⟨ad, h, _⟩ := hr2.2 h0; rw [e] at h; cases h
  have hnl := hs.newsLen
  rcases Nat.eq_zero_or_pos m with h0 | h0
  · subst h0
    have hn : news = [] := List.eq_nil_of_length_eq_zero (by simpa using hnl)
    subst hn
    exact ⟨A, n, w, run_append_nothing (P := P) w t t ty e i ht hi A n n (Nat.le_refl _) _ hs, by omega, by simpa using hr.more hB, Below.refl _ _, fun h => absurd h (by omega)⟩
  · have hlen : (xs ++ news).length = (n + m) * i.size := by rw [List.length_append, hr.1, hnl, Nat.add_mul]
    have hold : (Builtin.firstCells i.size n (.slice A n n)).run P w.drew = .ok xs.toArray w.drew := by
      cases A with
      | none =>
        have hn : n = 0 := by
          rcases Nat.eq_zero_or_pos n with h | h
          · exact h
          · obtain ⟨ad, h, _⟩ := hr.2 h; cases h
        subst hn
        have hx : xs = [] := List.eq_nil_of_length_eq_zero (by simpa using hr.1)
        subst hx
        exact run_firstCells_none w.drew i.size 0 0 0
      | some ad =>
        refine run_firstCells_some w.drew i.size n ad n n xs hr.1 (fun j u hu => ?_)
        have hj : j < n * i.size := by
          have := (List.getElem?_eq_some_iff.1 hu).1
          rw [hr.1] at this
          exact this
        have hn0 : 0 < n := by
          rcases Nat.eq_zero_or_pos n with h | h
          · rw [h, Nat.zero_mul] at hj; omega
          · exact h
        obtain ⟨ad', he, _, hsp, hc⟩ := hr.2 hn0
        injection he with he
        subst he
        have hadd : ad.add j = ⟨ad.block, ad.off + j, none⟩ := by
          unfold Addr.add
          split
          · rename_i h0; subst h0; cases ad; simp_all
          · rfl
        rw [hadd]
        exact (hc j hj).trans hu
    have hm2 : n + m ≤ 9223372036854775807 := by simp only [maxLen] at h63; omega
    have hg : n < n + m := by omega
    have hrun := run_append_grow_src (P := P) w t t ty e i z ht hi hz A n n xs hold (.slice A2 m c) m news hs hg (by omega) (growslice_fits hg hbytes)
    have hge := grownCap_ge w (n + m) n e
    refine ⟨_, _, _, hrun, by omega, ⟨hlen, fun _ => ⟨_, rfl, by simp, rfl, fun j hj => ?_⟩⟩, ⟨rfl, rfl, rfl, by simp, fun k hk => Below.heap_alloc w.drew _ k hk⟩, fun _ ad e => by injection e with e; rw [← e]; exact Nat.le_refl _⟩
    show (w.drew.alloc _).cell? ⟨w.heap.size, 0 + j, none⟩ = _
    rw [Nat.zero_add]
    refine (World.cell?_alloc_new w.drew _ _ j).trans ?_
    rw [Array.getElem?_append_left (by simp only [List.size_toArray]; rw [hlen]; exact hj), List.getElem?_toArray]

/-- At a step of a region that draws its order. -/
theorem step_append_full {w : World} {ops : Array Oper} {o : Oper} {a : Act} {K : Act → World → Prop} {Q : Exit → Act → World → Prop} {E : Prop} (hw : Region.wanted o (yielded ops a.tmps) = true) (s x : Operand) (t : TypeId)
    (ho : o.op = .call { callee := .builtin .append, args := #[s, x], argTypes := #[t, t] })
    (e : TypeId) (i : TypeInfo) (z : Value) (size bytes : Nat) (ht : P.underlying t = some (.slice e)) (hi : P.info? e = some i) (hz : i.zero = some z)
    (hsize : i.size = size) (hby : i.bytes = bytes) (hzs : z.cells.size = size) (B : Nat) (A : Option Addr) (n : Nat) (xs : List Value) (hs : a.eval s = .slice A n n) (hr : Rd w B size A n xs) (hB : B ≤ w.heap.size)
    (B2 : Nat) (A2 : Option Addr) (m c : Nat) (news : List Value) (hx : a.eval x = .slice A2 m c) (hr2 : Rd w B2 size A2 m news) (h1 : ∀ u ∈ news, u.oneCell' = true) (h63 : n + m ≤ maxLen) (hbytes : (n + m) * bytes ≤ 140737488355328)
    (h : ∀ A' c' w', n + m ≤ c' → Rd w' w'.heap.size size A' (n + m) (xs ++ news) → Below w.heap.size w w' → K (a.put o.dst (.slice A' (n + m) c')) w') :
    if Region.wanted o (yielded ops a.tmps) = true then Oper.wp P o a w K Q else E := by
  rw [if_pos hw]
  obtain ⟨A', c', w', hrun, hc, h2, h3, h4⟩ := run_append_full (P := P) w t o.type e i z size bytes ht hi hz hsize hby hzs B A n xs hr hB B2 A2 m c news hr2 h1 h63 hbytes
  unfold Oper.wp execOp
  simp only [ho, resolve, invoke, builtin, Sem.run_bind, Sem.run_pure, Result.andThen_ok, List.map_toArray, List.map_cons, List.map_nil, hs, hx, hrun]
  exact h A' c' w' hc h2 h3
/-- The same, and where it lies. -/
theorem step_append_fresh {w : World} {ops : Array Oper} {o : Oper} {a : Act} {K : Act → World → Prop} {Q : Exit → Act → World → Prop} {E : Prop} (hw : Region.wanted o (yielded ops a.tmps) = true) (s x : Operand) (t : TypeId)
    (ho : o.op = .call { callee := .builtin .append, args := #[s, x], argTypes := #[t, t] })
    (e : TypeId) (i : TypeInfo) (z : Value) (size bytes : Nat) (ht : P.underlying t = some (.slice e)) (hi : P.info? e = some i) (hz : i.zero = some z)
    (hsize : i.size = size) (hby : i.bytes = bytes) (hzs : z.cells.size = size) (B : Nat) (A : Option Addr) (n : Nat) (xs : List Value) (hs : a.eval s = .slice A n n) (hr : Rd w B size A n xs) (hB : B ≤ w.heap.size)
    (B2 : Nat) (A2 : Option Addr) (m c : Nat) (news : List Value) (hx : a.eval x = .slice A2 m c) (hr2 : Rd w B2 size A2 m news) (h1 : ∀ u ∈ news, u.oneCell' = true) (h63 : n + m ≤ maxLen) (hbytes : (n + m) * bytes ≤ 140737488355328)
    (h : ∀ A' c' w', n + m ≤ c' → Rd w' w'.heap.size size A' (n + m) (xs ++ news) → Below w.heap.size w w' → (0 < m → ∀ ad, A' = some ad → w.heap.size ≤ ad.block) → K (a.put o.dst (.slice A' (n + m) c')) w') :
    if Region.wanted o (yielded ops a.tmps) = true then Oper.wp P o a w K Q else E := by
  rw [if_pos hw]
  obtain ⟨A', c', w', hrun, hc, h2, h3, h4⟩ := run_append_full (P := P) w t o.type e i z size bytes ht hi hz hsize hby hzs B A n xs hr hB B2 A2 m c news hr2 h1 h63 hbytes
  unfold Oper.wp execOp
  simp only [ho, resolve, invoke, builtin, Sem.run_bind, Sem.run_pure, Result.andThen_ok, List.map_toArray, List.map_cons, List.map_nil, hs, hx, hrun]
  exact h A' c' w' hc h2 h3 h4
/-- In a walk. -/
theorem wpList_append_full (w : World) {ops : Array Oper} {rest : List Oper} {o : Oper} {a : Act} {Q : Exit → Act → World → Prop} (hgd : o.guard = none) (s x : Operand) (t : TypeId)
    (ho : o.op = .call { callee := .builtin .append, args := #[s, x], argTypes := #[t, t] })
    (e : TypeId) (i : TypeInfo) (z : Value) (size bytes : Nat) (ht : P.underlying t = some (.slice e)) (hi : P.info? e = some i) (hz : i.zero = some z)
    (hsize : i.size = size) (hby : i.bytes = bytes) (hzs : z.cells.size = size) (B : Nat) (A : Option Addr) (n : Nat) (xs : List Value) (hs : a.eval s = .slice A n n) (hr : Rd w B size A n xs) (hB : B ≤ w.heap.size)
    (B2 : Nat) (A2 : Option Addr) (m c : Nat) (news : List Value) (hx : a.eval x = .slice A2 m c) (hr2 : Rd w B2 size A2 m news) (h1 : ∀ u ∈ news, u.oneCell' = true) (h63 : n + m ≤ maxLen) (hbytes : (n + m) * bytes ≤ 140737488355328)
    (h : ∀ A' c' w', n + m ≤ c' → Rd w' w'.heap.size size A' (n + m) (xs ++ news) → Below w.heap.size w w' → wpList P ops Q rest (a.put o.dst (.slice A' (n + m) c')) w') : wpList P ops Q (o :: rest) a w := by
  refine wpList_plain hgd fun K hK => ?_
  obtain ⟨A', c', w', hrun, hc, h2, h3, h4⟩ := run_append_full (P := P) w t o.type e i z size bytes ht hi hz hsize hby hzs B A n xs hr hB B2 A2 m c news hr2 h1 h63 hbytes
  unfold Oper.wp execOp
  simp only [ho, resolve, invoke, builtin, Sem.run_bind, Sem.run_pure, Result.andThen_ok, List.map_toArray, List.map_cons, List.map_nil, hs, hx, hrun]
  exact hK _ _ (h A' c' w' hc h2 h3)
/-- The same, and where it lies. -/
theorem wpList_append_fresh (w : World) {ops : Array Oper} {rest : List Oper} {o : Oper} {a : Act} {Q : Exit → Act → World → Prop} (hgd : o.guard = none) (s x : Operand) (t : TypeId)
    (ho : o.op = .call { callee := .builtin .append, args := #[s, x], argTypes := #[t, t] })
    (e : TypeId) (i : TypeInfo) (z : Value) (size bytes : Nat) (ht : P.underlying t = some (.slice e)) (hi : P.info? e = some i) (hz : i.zero = some z)
    (hsize : i.size = size) (hby : i.bytes = bytes) (hzs : z.cells.size = size) (B : Nat) (A : Option Addr) (n : Nat) (xs : List Value) (hs : a.eval s = .slice A n n) (hr : Rd w B size A n xs) (hB : B ≤ w.heap.size)
    (B2 : Nat) (A2 : Option Addr) (m c : Nat) (news : List Value) (hx : a.eval x = .slice A2 m c) (hr2 : Rd w B2 size A2 m news) (h1 : ∀ u ∈ news, u.oneCell' = true) (h63 : n + m ≤ maxLen) (hbytes : (n + m) * bytes ≤ 140737488355328)
    (h : ∀ A' c' w', n + m ≤ c' → Rd w' w'.heap.size size A' (n + m) (xs ++ news) → Below w.heap.size w w' → (0 < m → ∀ ad, A' = some ad → w.heap.size ≤ ad.block) → wpList P ops Q rest (a.put o.dst (.slice A' (n + m) c')) w') : wpList P ops Q (o :: rest) a w := by
  refine wpList_plain hgd fun K hK => ?_
  obtain ⟨A', c', w', hrun, hc, h2, h3, h4⟩ := run_append_full (P := P) w t o.type e i z size bytes ht hi hz hsize hby hzs B A n xs hr hB B2 A2 m c news hr2 h1 h63 hbytes
  unfold Oper.wp execOp
  simp only [ho, resolve, invoke, builtin, Sem.run_bind, Sem.run_pure, Result.andThen_ok, List.map_toArray, List.map_cons, List.map_nil, hs, hx, hrun]
  exact hK _ _ (h A' c' w' hc h2 h3 h4)
end

/-- A call hands back a slice that reads as xs (k cells an element), and has turned nothing of what was there. -/
def RdIs (k n : Nat) (xs : List Value) (w : World) (e : Ending) (w' : World) : Prop := ∃ A c, e = .returned (.slice A n c) ∧ n ≤ c ∧ Rd w' w'.heap.size k A n xs ∧ Below w.heap.size w w'
/-- From block B on, if there is anything. -/
def FreshA (B : Nat) (A : Option Addr) (n : Nat) : Prop := 0 < n → ∀ ad, A = some ad → B ≤ ad.block
theorem FreshA.low {B B' n : Nat} {A : Option Addr} (h : FreshA B A n) (hB : B' ≤ B) : FreshA B' A n := fun hn ad e => Nat.le_trans hB (h hn ad e)
theorem own_fresh {w : World} {base e k n m c : Nat} {A : Option Addr} {xs : List Value} (h : w.ownsRow base e k (.slice A m c) n xs) : FreshA base A n := by
  intro hn ad hA
  subst hA
  rcases h.2 with ⟨hv, h0⟩ | ⟨g, cap, cur, hv, hg, _⟩
  · omega
  · injection hv with h1; injection h1 with h1; subst h1; exact hg
theorem Rd.setCellF {w : World} {B k n : Nat} {A : Option Addr} {xs : List Value} (h : Rd w B k A n xs) {p : Addr} (hp : ∀ ad, 0 < n → A = some ad → p.block ≠ ad.block) (u : Value) : Rd (w.setCell p u) B k A n xs :=
  ⟨h.1, fun hn => by
    obtain ⟨ad, e, hb, hs, hc⟩ := h.2 hn
    exact ⟨ad, e, hb, hs, fun j hj => (World.cell?_setCell_other w p _ u (fun h' => hp ad hn e (by subst h'; rfl))).trans (hc j hj)⟩⟩
/-- A call hands back a slice of what it has made. -/
def RdNew (k n : Nat) (xs : List Value) (w : World) (e : Ending) (w' : World) : Prop := ∃ A c, e = .returned (.slice A n c) ∧ n ≤ c ∧ Rd w' w'.heap.size k A n xs ∧ FreshA w.heap.size A n ∧ Below w.heap.size w w'
theorem RdNew.is {k n : Nat} {xs : List Value} {w w' : World} {e : Ending} (h : RdNew k n xs w e w') : RdIs k n xs w e w' := by obtain ⟨A, c, h1, h2, h3, _, h4⟩ := h; exact ⟨A, c, h1, h2, h3, h4⟩
theorem RdIs.of {k n n' : Nat} {xs xs' : List Value} {w w' : World} {A : Option Addr} {c : Nat} (hc : n' ≤ c) (h : Rd w' w'.heap.size k A n' xs') (hb : Below w.heap.size w w') (hn : n' = n) (hx : xs' = xs) : RdIs k n xs w (.returned (.slice A n' c)) w' := by
  subst hn hx; exact ⟨A, c, rfl, hc, h, hb⟩
theorem one_drop {l : List Value} (h : ∀ u ∈ l, u.oneCell' = true) (n : Nat) : ∀ u ∈ l.drop n, u.oneCell' = true := fun u hu => h u (List.mem_of_mem_drop hu)
theorem one_app {l l' : List Value} (h : ∀ u ∈ l, u.oneCell' = true) (h' : ∀ u ∈ l', u.oneCell' = true) : ∀ u ∈ l ++ l', u.oneCell' = true := fun u hu => (List.mem_append.1 hu).elim (h u) (h' u)
theorem one_svs (l : List Str) : ∀ u ∈ svs l, u.oneCell' = true := fun u hu => by
  obtain ⟨s, _, rfl⟩ := List.mem_map.1 hu; rfl
theorem one_sv (s : Str) : ∀ u ∈ [sv s], u.oneCell' = true := fun u hu => by rw [List.mem_singleton.1 hu]; rfl
theorem insL_cut {α : Type} [DecidableEq α] {lt : α → α → Bool} {x : α} : ∀ (l : List α) (k : Nat), k ≤ l.length → (∀ y ∈ l.take k, lt y x = true) → (∀ h : k < l.length, lt l[k] x = false) →
    insL lt x l = if l[k]? = some x then l else l.take k ++ x :: l.drop k
  | [], k, hk, _, _ => by
    have : k = 0 := by simpa using hk
    subst this; simp [insL]
  | y :: r, 0, _, _, h => by
    have h0 : lt y x = false := h (by simp)
    unfold insL
    rw [h0]
    by_cases e : y = x <;> simp [e]
  | y :: r, k + 1, hk, h1, h2 => by
    have h0 : lt y x = true := h1 y (by simp)
    have ih := insL_cut r k (by simpa using hk) (fun z hz => h1 z (by simp [hz])) (fun h => by have := h2 (by simpa using h); simpa using this)
    unfold insL
    rw [if_pos h0, ih]
    simp only [List.getElem?_cons_succ]
    split <;> simp
end Go.Proofs.YtbllehjhmfehbaaGreat
end

section
/- The walks of order.parted, Straight and Round: the edges that stay, and those that go. -/
namespace Go.Proofs.YtbllehjhmfehbaaGreat
open Go.RowKit Go.Maps Go.Sort

section
variable {P : Program} {ops : Array Oper} {rest : List Oper} {o : Oper} {a : Act} {Q : Exit → Act → World → Prop} {w : World}
theorem wpList_want (hw : Region.wanted o (yielded ops a.tmps) = true) (h : ∀ K : Act → World → Prop, (∀ a w, wpList P ops Q rest a w → K a w) → o.wp P a w K Q) : wpList P ops Q (o :: rest) a w :=
  wpList_step fun K hK => by rw [if_pos hw]; exact h K hK
theorem wpList_lookup_w {k : TypeId} {α : Type} {κ : KeyKind P k α} (hw : Region.wanted o (yielded ops a.tmps) = true) (m x : Operand) (t : TypeId) (hop : o.op = Op.lookup t m x false) (e : TypeId) (ht : P.underlying t = some (.map k e)) (z : Value) (hz : (zeroValue e).run P w = .ok z w)
    (b n : Nat) (f : α → Option Value) (hm : a.eval m = .map (some b)) (h : MapIs κ w b n f) (key : α) (hx : a.eval x = κ.val key) (hk : κ.ok key)
    (hK : wpList P ops Q rest (a.put o.dst ((f key).getD z)) w) : wpList P ops Q (o :: rest) a w := by
  refine wpList_want hw fun K' hK' => ?_
  have hrun := h.lookup ht hz hk
  unfold Oper.wp
  simp [execOp, hop, hm, hx, hrun, Result.andThen]
  exact hK' _ _ hK
end

namespace Od
theorem pairE_of (e : Ed) : pairE e = pairOf e := rfl
theorem one_edC (e : Ed) : ∀ u ∈ edC e, u.oneCell' = true := fun u h => by
  simp [edC] at h; rcases h with rfl | rfl | rfl <;> rfl
theorem edsC_app (l : List Ed) (e : Ed) : edsC (l ++ [e]) = edsC l ++ edC e := by simp [edsC]
theorem setP_get (D : List Pr) (x : Pr) : (setP D x).getD (.bool false) = .bool (decide (x ∈ D)) := by
  by_cases h : x ∈ D <;> simp [setP, h]
/-- Two slices of the call's own: the edges that stay and those that go. -/
def PartIs (es : List Ed) (w : World) (e : Ending) (w' : World) : Prop := ∃ A1 c1 A2 c2, e = .returned (.tuple #[.slice A1 (straight es).length c1, .slice A2 (gone es).length c2]) ∧
  (straight es).length ≤ c1 ∧ (gone es).length ≤ c2 ∧ Rd w' w'.heap.size 3 A1 (straight es).length (edsC (straight es)) ∧ Rd w' w'.heap.size 3 A2 (gone es).length (edsC (gone es)) ∧ FreshA w.heap.size A1 (straight es).length ∧ FreshA w.heap.size A2 (gone es).length ∧ Below w.heap.size w w'

set_option maxRecDepth 100000 in
set_option maxHeartbeats 4000000 in
theorem parted_any (An Ae : Option Addr) (nn cn ce : Nat) (es : List Ed) (w : World) (hr : Rd w w.heap.size 3 Ae es.length (edsC es)) (hok : OkE es) (hl : es.length ≤ 100000) :
    Calls Tryz.prog 79 #[gV An nn cn Ae es.length ce] w (PartIs es w) := by
  obtain ⟨i0, hi, hz0, hz1, hz2⟩ := info_parts inE
  have Hr := Lib.hid hr
  have HO := Lib.hid hok
  clear hr hok
  go_enter Tryz.func79, Tryz.ntmps79
  go_wp2_with fail
  first | (refine wp_named ?_; intro W1 hW) | (refine calls_named ?_; intro W1 hW)
  have B1 : Below w.heap.size w W1 := by rw [hW]; exact (by repeat (first | exact Below.refl _ _ | assumption | refine Below.alloc ?_ (by simp <;> omega) _ | refine Below.setCell ?_ (by simp <;> omega) _ | refine Below.drew ?_))
  replace Hr := Lib.hid (Hr.out.at B1)
  have n1 : w.heap.size < W1.heap.size := by rw [hW]; simp <;> omega
  have c10 : W1.cell? ⟨w.heap.size, 0, none⟩ = some (.slice An nn cn) := by rw [hW]; go_simp
  have c11 : W1.cell? ⟨w.heap.size, 1, none⟩ = some (.slice Ae es.length ce) := by rw [hW]; go_simp
  clear hW
  refine (kept_any An Ae nn cn ce es W1 Hr.out HO.out hl).mono ?_
  rintro e w2 ⟨bm, nm, rfl, hm, hlo, hb⟩
  have HM := Lib.hid hm
  have HB1 := Lib.hid (lift B1 hb)
  replace c10 := cellAt c10 hb (by omega)
  replace c11 := cellAt c11 hb (by omega)
  replace Hr := Lib.hid (Hr.out.at hb)
  replace n1 : w.heap.size < w2.heap.size := ltAt n1 hb
  clear hm hb B1
  go_wp2_with fail
  go_loopw [5, 6, 16] (fun v5 v6 i wr => ∃ j : Nat, j ≤ es.length ∧ i = .int .i64 j ∧ wr.ownsRow w2.heap.size 45 3 v5 ((es.take j).filter (stays es)).length (edsC ((es.take j).filter (stays es))) ∧
    wr.ownsRow w2.heap.size 45 3 v6 ((es.take j).filter (fun e => !stays es e)).length (edsC ((es.take j).filter (fun e => !stays es e))) ∧ Sep v5 v6 ∧ Below w2.heap.size w2 wr) (fun _ _ i _ => es.length - (intOf i).toNat)
  case atStart => exact ⟨0, Nat.zero_le _, rfl, by simpa [edsC] using World.ownsRow_nil _ _ _ _, by simpa [edsC] using World.ownsRow_nil _ _ _ _, .inl rfl, Below.refl _ _⟩
  case round =>
    obtain ⟨j, hj, rfl, ho5, ho6, hsep, hb⟩ := hrel
    obtain ⟨A5, c5, rfl, _⟩ := own_rd ho5
    obtain ⟨A6, c6, rfl, _⟩ := own_rd ho6
    have hl5 := List.length_filter_le (stays es) (es.take j)
    have hl6 := List.length_filter_le (fun e => !stays es e) (es.take j)
    have htk : (es.take j).length ≤ es.length := by rw [List.length_take]; omega
    by_cases hlt : j < es.length
    · obtain ⟨b, o, rfl, hB, hc0, hc1, hc2⟩ := (Hr.out.at hb).edge hlt
      have H5 := Lib.hid ho5
      have H6 := Lib.hid ho6
      have HS := Lib.hid hsep
      have HMr := Lib.hid (HM.out.on hb)
      have hz := hb.size
      have HB := Lib.hid hb
      have hf5 := @filter_take_succ Ed (stays es) es j hlt
      have hf6 := @filter_take_succ Ed (fun e => !stays es e) es j hlt
      generalize hx : es[j] = e at hc0 hc1 hc2 hf5 hf6
      obtain ⟨s, d, r⟩ := e
      have HX := Lib.hid hx
      have HF5 := Lib.hid hf5
      have HF6 := Lib.hid hf6
      generalize hL5 : (es.take j).filter (stays es) = L5 at *
      generalize hL6 : (es.take j).filter (fun e => !stays es e) = L6 at *
      have HL := Lib.hid (And.intro hL5 hL6)
      have h563 : L5.length + 1 ≤ maxLen := by unfold maxLen; omega
      have h5by : (L5.length + 1) * 40 ≤ 140737488355328 := by omega
      have h663 : L6.length + 1 ≤ maxLen := by unfold maxLen; omega
      have h6by : (L6.length + 1) * 40 ≤ 140737488355328 := by omega
      clear hx ho5 ho6 hsep hb hf5 hf6 hL5 hL6
      simp only at hc0 hc1 hc2
      go_wp2_with fail
      first | (refine wp_named ?_; intro W3 hW) | (refine calls_named ?_; intro W3 hW)
      have B3 : Below wr.heap.size wr W3 := by rw [hW]; exact (by repeat (first | exact Below.refl _ _ | assumption | refine Below.alloc ?_ (by simp <;> omega) _ | refine Below.setCell ?_ (by simp <;> omega) _ | refine Below.drew ?_))
      replace H5 := Lib.hid (own_on H5.out B3)
      replace H6 := Lib.hid (own_on H6.out B3)
      replace HMr := Lib.hid (HMr.out.on B3)
      replace HB := Lib.hid (HB.out.trans (B3.mono HB.out.size))
      replace hz : w2.heap.size ≤ W3.heap.size := leAt hz B3
      have n3 : wr.heap.size < W3.heap.size := by rw [hW]; simp <;> omega
      have c30 : W3.cell? ⟨wr.heap.size, 0, none⟩ = some (sv s) := by rw [hW]; go_simp
      have c31 : W3.cell? ⟨wr.heap.size, 1, none⟩ = some (sv d) := by rw [hW]; go_simp
      have c32 : W3.cell? ⟨wr.heap.size, 2, none⟩ = some (.int .i64 r) := by rw [hW]; go_simp
      clear hW
      refine (of_any s d r W3).mono ?_
      rintro e v ⟨rfl, hb⟩
      replace c30 := cellAt c30 hb (by omega)
      replace c31 := cellAt c31 hb (by omega)
      replace c32 := cellAt c32 hb (by omega)
      replace H5 := Lib.hid (own_on H5.out hb)
      replace H6 := Lib.hid (own_on H6.out hb)
      replace HMr := Lib.hid (HMr.out.on hb)
      replace HB := Lib.hid (HB.out.trans (hb.mono HB.out.size))
      replace hz : w2.heap.size ≤ v.heap.size := leAt hz hb
      replace n3 : wr.heap.size < v.heap.size := ltAt n3 hb
      clear hb B3
      have hzp : w2.heap.size ≤ (v.alloc (.cells #[sv [], sv []] 137)).heap.size := by simp; omega
      unfold ofV
      cases hp : pairOf (s, d, r)
      · have Hst := Lib.hid (show stays es (s, d, r) = true by simp [stays, pairE_of, hp])
        have Hp := Lib.hid hp
        clear hp hzp
        simp only [Option.getD_none, Option.isSome_none]
        have HBp := Lib.hid (show Below w2.heap.size w2 (v.alloc (.cells #[sv [], sv []] 137)) from HB.out.alloc hz _)
        have hzp : w2.heap.size ≤ (v.alloc (.cells #[sv [], sv []] 137)).heap.size := by simp; omega
        go_wp2_with (first | fail | (at_builtin; refine wpList_pushm w2 (v.alloc (.cells #[sv [], sv []] 137)) (by rfl) (.tmp 32) (.tmp 34) 23 (by rfl) w2.heap.size 45 i0 _ 3 40 Tryz.underlying23 hi hz0 hz1 hz2 rfl (by decide) _ _ _ (by rfl) (own_alloc H5.out _) (edC (s, d, r)) (v.heap.size + 1) (by simp) (by rfl) rfl (one_edC _) h563 h5by hzp HBp.out ?_; intro A1 c1 w4 hown4 hbel4 hg4 hat4) | fail)
        go_roundw
        case rel =>
          have e5 := HF5.out
          have e6 := HF6.out
          rw [Hst.out] at e5 e6
          simp only [if_true, Bool.not_true, Bool.false_eq_true, if_false, List.append_nil] at e5 e6
          refine ⟨j + 1, by omega, by go_num, ?_, ?_, ?_, hbel4⟩
          · rw [e5, List.length_append, edsC_app]; exact hown4
          · rw [e6]; exact HS.out.kept (own_alloc H6.out _) hg4
          · exact HS.out.push (own_alloc H6.out _) hat4
        case measure => simp [intOf]; omega
      · rename_i q
        obtain ⟨x, y⟩ := q
        have hpok : okS x ∧ okS y := HO.out.prs (x, y) (mem_prsL.2 ⟨es[j], List.getElem_mem hlt, by rw [HX.out, pairE_of]; exact hp⟩)
        have Hp := Lib.hid hp
        simp only [Option.getD_some, Option.isSome_some]
        cases hin : decide ((x, y) ∈ keptL es)
        · have Hst := Lib.hid (show stays es (s, d, r) = false by simp only [stays, pairE_of, hp]; exact hin)
          have hlk : (setP (keptL es) (x, y)).getD (.bool false) = .bool false := by rw [setP_get, hin]
          clear hp hin hzp
          have HBp := Lib.hid (show Below w2.heap.size w2 (v.alloc (.cells #[sv x, sv y] 137)) from HB.out.alloc hz _)
          have hzp : w2.heap.size ≤ (v.alloc (.cells #[sv x, sv y] 137)).heap.size := by simp; omega
          go_wp2_with (first | (at_lookup; refine wpList_lookup_w (by rfl) (.tmp 28) (.tmp 29) 167 (by rfl) 4 Tryz.underlying167 (.bool false) (by rfl) bm _ _ (by rfl) (HMr.out.alloc _) (x, y) (by rfl) hpok ?_; rw [hlk]) | (at_builtin; refine wpList_pushm w2 (v.alloc (.cells #[sv x, sv y] 137)) (by rfl) (.tmp 36) (.tmp 38) 23 (by rfl) w2.heap.size 45 i0 _ 3 40 Tryz.underlying23 hi hz0 hz1 hz2 rfl (by decide) _ _ _ (by rfl) (own_alloc H6.out _) (edC (s, d, r)) (v.heap.size + 1) (by simp) (by rfl) rfl (one_edC _) h663 h6by hzp HBp.out ?_; intro A1 c1 w4 hown4 hbel4 hg4 hat4) | fail)
          go_roundw
          case rel =>
            have e5 := HF5.out
            have e6 := HF6.out
            rw [Hst.out] at e5 e6
            simp only [Bool.not_false, if_true, Bool.false_eq_true, if_false, List.append_nil] at e5 e6
            refine ⟨j + 1, by omega, by go_num, ?_, ?_, ?_, hbel4⟩
            · rw [e5]; exact HS.out.symm.kept (own_alloc H5.out _) hg4
            · rw [e6, List.length_append, edsC_app]; exact hown4
            · exact (HS.out.symm.push (own_alloc H5.out _) hat4).symm
          case measure => simp [intOf]; omega
        · have Hst := Lib.hid (show stays es (s, d, r) = true by simp only [stays, pairE_of, hp]; exact hin)
          have hlk : (setP (keptL es) (x, y)).getD (.bool false) = .bool true := by rw [setP_get, hin]
          clear hp hin hzp
          have HBp := Lib.hid (show Below w2.heap.size w2 (v.alloc (.cells #[sv x, sv y] 137)) from HB.out.alloc hz _)
          have hzp : w2.heap.size ≤ (v.alloc (.cells #[sv x, sv y] 137)).heap.size := by simp; omega
          go_wp2_with (first | (at_lookup; refine wpList_lookup_w (by rfl) (.tmp 28) (.tmp 29) 167 (by rfl) 4 Tryz.underlying167 (.bool false) (by rfl) bm _ _ (by rfl) (HMr.out.alloc _) (x, y) (by rfl) hpok ?_; rw [hlk]) | (at_builtin; refine wpList_pushm w2 (v.alloc (.cells #[sv x, sv y] 137)) (by rfl) (.tmp 32) (.tmp 34) 23 (by rfl) w2.heap.size 45 i0 _ 3 40 Tryz.underlying23 hi hz0 hz1 hz2 rfl (by decide) _ _ _ (by rfl) (own_alloc H5.out _) (edC (s, d, r)) (v.heap.size + 1) (by simp) (by rfl) rfl (one_edC _) h563 h5by hzp HBp.out ?_; intro A1 c1 w4 hown4 hbel4 hg4 hat4) | fail)
          go_roundw
          case rel =>
            have e5 := HF5.out
            have e6 := HF6.out
            rw [Hst.out] at e5 e6
            simp only [if_true, Bool.not_true, Bool.false_eq_true, if_false, List.append_nil] at e5 e6
            refine ⟨j + 1, by omega, by go_num, ?_, ?_, ?_, hbel4⟩
            · rw [e5, List.length_append, edsC_app]; exact hown4
            · rw [e6]; exact HS.out.kept (own_alloc H6.out _) hg4
            · exact HS.out.push (own_alloc H6.out _) hat4
          case measure => simp [intOf]; omega
    · have hjn : j = es.length := by omega
      subst hjn
      simp only [List.take_length] at ho5 ho6
      have H5 := Lib.hid ho5
      have H6 := Lib.hid ho6
      have HB := Lib.hid (lift HB1.out hb)
      clear ho5 ho6 hb hl5 hl6
      go_wp2_with fail
      go_ret2
      rw [List.take_length]
      exact ⟨A5, c5, A6, c6, rfl, (own_cap H5.out).1, (own_cap H6.out).1, own_rd' H5.out, own_rd' H6.out, (own_fresh H5.out).low HB1.out.size, (own_fresh H6.out).low HB1.out.size, HB.out⟩
end Od
end Go.Proofs.YtbllehjhmfehbaaGreat
end

section
/- The walks of slices.Clone at nodes, of order.Straight and order.Round. -/
namespace Go.Proofs.YtbllehjhmfehbaaGreat
open Go.RowKit Go.Maps Go.Sort

theorem eql_slice_nil {P : Program} {t e : TypeId} (h : P.underlying t = some (.slice e)) (a : Option Addr) (n c : Nat) (w : World) : (binOp .eql t (.slice a n c) (.slice none 0 0)).run P w = .ok (.bool a.isNone) w := by
  simp only [binOp]
  simp [run_equal_slice_nil w t e a n c h]
namespace Od
theorem one_ndsC (l : List Nd) : ∀ u ∈ ndsC l, u.oneCell' = true := fun u hu => by
  obtain ⟨p, _, h⟩ := List.mem_flatMap.1 hu
  simp [ndC] at h; rcases h with rfl | rfl | rfl <;> rfl
/-- A graph that reads as these nodes and edges. -/
def GraphIs (ns : List Nd) (es : List Ed) (w : World) (e : Ending) (w' : World) : Prop := ∃ An cn Ae ce, e = .returned (gV An ns.length cn Ae es.length ce) ∧ ns.length ≤ cn ∧ es.length ≤ ce ∧
  Rd w' w'.heap.size 3 An ns.length (ndsC ns) ∧ Rd w' w'.heap.size 3 Ae es.length (edsC es) ∧ Below w.heap.size w w'
set_option maxRecDepth 100000 in
set_option maxHeartbeats 1000000 in
theorem cloneN_any (A : Option Addr) (c : Nat) (ns : List Nd) (w : World) (hr : Rd w w.heap.size 3 A ns.length (ndsC ns)) (hl : ns.length ≤ 1000000) :
    Calls Tryz.prog 80 #[.slice A ns.length c] w (RdNew 3 ns.length (ndsC ns) w) := by
  obtain ⟨i0, hi, hz0, hz1, hz2⟩ := info_parts inN
  have Hr := Lib.hid hr
  clear hr
  cases A with
  | none =>
    have hn : ns.length = 0 := by
      rcases Nat.eq_zero_or_pos ns.length with h | h
      · exact h
      · obtain ⟨ad, h, _⟩ := Hr.out.2 h; cases h
    have HN := Lib.hid hn
    clear hn
    have hq : ∀ w, (binOp .eql 22 (.slice none ns.length c) (.slice none 0 0)).run Tryz.prog w = .ok (.bool true) w := eql_slice_nil Tryz.underlying22 _ _ _
    go_enter Tryz.func80, Tryz.ntmps80
    go_wp2_with fail
    go_ret
    exact ⟨none, 0, by rw [HN.out]; rfl, by rw [HN.out]; exact Nat.le_refl _, by have h0 := List.length_eq_zero_iff.1 HN.out; subst h0; exact Rd.none_, fun h => absurd h (by rw [HN.out]; omega), Below.refl _ _⟩
  | some ad =>
    have h63 : 0 + ns.length ≤ maxLen := by unfold maxLen; omega
    have hby : (0 + ns.length) * 32 ≤ 140737488355328 := by omega
    have hq : ∀ w, (binOp .eql 22 (.slice (some ad) ns.length c) (.slice none 0 0)).run Tryz.prog w = .ok (.bool false) w := eql_slice_nil Tryz.underlying22 _ _ _
    go_enter Tryz.func80, Tryz.ntmps80
    go_wp2_with (first
      | (at_builtin; refine wpList_append_fresh _ (by rfl) (.tmp 5) (.tmp 6) 22 (by rfl) 39 i0 _ 3 32 Tryz.underlying22 hi hz0 hz1 hz2 rfl 0 (some ⟨w.heap.size, 0, none⟩) 0 [] (by rfl) Rd.none_ (Nat.zero_le _) _ (some ad) ns.length c (ndsC ns) (by rfl) (Hr.out.alloc (Nat.le_refl _) _) (one_ndsC ns) h63 hby ?_; intro A1 c1 w1 hc1 hr1 hb1 hf1)
      | fail)
    go_ret
    exact ⟨A1, c1, rfl, by omega, by simpa using hr1, fun hn ad e => Nat.le_trans (by simp) (hf1 hn ad e), below_alloc (Nat.le_refl _) hb1⟩

set_option maxRecDepth 100000 in
set_option maxHeartbeats 1000000 in
theorem Straight_any (An Ae : Option Addr) (cn ce : Nat) (ns : List Nd) (es : List Ed) (w : World) (hn : Rd w w.heap.size 3 An ns.length (ndsC ns)) (hr : Rd w w.heap.size 3 Ae es.length (edsC es)) (hok : OkE es) (hln : ns.length ≤ 1000000) (hl : es.length ≤ 100000) :
    Calls Tryz.prog 36 #[gV An ns.length cn Ae es.length ce] w (GraphIs ns (straight es) w) := by
  have Hn := Lib.hid hn
  have Hr := Lib.hid hr
  have HO := Lib.hid hok
  clear hr hn hok
  go_enter Tryz.func36, Tryz.ntmps36
  go_wp2_with fail
  first | (refine wp_named ?_; intro W1 hW) | (refine calls_named ?_; intro W1 hW)
  have B1 : Below w.heap.size w W1 := by rw [hW]; exact (by repeat (first | exact Below.refl _ _ | assumption | refine Below.alloc ?_ (by simp <;> omega) _ | refine Below.setCell ?_ (by simp <;> omega) _ | refine Below.drew ?_))
  replace Hr := Lib.hid (Hr.out.at B1)
  replace Hn := Lib.hid (Hn.out.at B1)
  have n1 : w.heap.size < W1.heap.size := by rw [hW]; simp <;> omega
  have n2 : (w.heap.size + 1) < W1.heap.size := by rw [hW]; simp <;> omega
  have c10 : W1.cell? ⟨w.heap.size, 0, none⟩ = some (.slice An ns.length cn) := by rw [hW]; go_simp
  have c11 : W1.cell? ⟨w.heap.size, 1, none⟩ = some (.slice Ae es.length ce) := by rw [hW]; go_simp
  have c20 : W1.cell? ⟨w.heap.size + 1, 0, none⟩ = some (.slice none 0 0) := by rw [hW]; go_simp
  have c21 : W1.cell? ⟨w.heap.size + 1, 1, none⟩ = some (.slice none 0 0) := by rw [hW]; go_simp
  have f20 : W1.frozen? ⟨w.heap.size + 1, 0, none⟩ = false := by rw [hW]; go_simp
  have f21 : W1.frozen? ⟨w.heap.size + 1, 1, none⟩ = false := by rw [hW]; go_simp
  clear hW
  have hz1 := n2
  refine (parted_any An Ae ns.length cn ce es W1 Hr.out HO.out hl).mono ?_
  rintro e w2 ⟨A1, c1, A2, c2, rfl, hc1, hc2, hr1, hr2, hf1, hf2, hb⟩
  have HS1 := Lib.hid hr1
  replace c10 := cellAt c10 hb (by omega)
  replace c11 := cellAt c11 hb (by omega)
  replace c20 := cellAt c20 hb (by omega)
  replace c21 := cellAt c21 hb (by omega)
  replace f20 := froAt f20 hb (by omega)
  replace f21 := froAt f21 hb (by omega)
  replace Hr := Lib.hid (Hr.out.at hb)
  replace Hn := Lib.hid (Hn.out.at hb)
  replace n1 : w.heap.size < w2.heap.size := ltAt n1 hb
  replace n2 : (w.heap.size + 1) < w2.heap.size := ltAt n2 hb
  have HB2 := Lib.hid (lift B1 hb)
  clear hr1 hr2 hb B1
  go_wp2_with fail
  have hz3 := n2
  refine (cloneN_any An cn ns w2 Hn.out hln).mono ?_
  rintro e w3 ⟨A3, c3, rfl, hc3, hr3, hf3, hb⟩
  have HS3 := Lib.hid hr3
  replace c10 := cellAt c10 hb (by omega)
  replace c11 := cellAt c11 hb (by omega)
  replace c20 := cellAt c20 hb (by omega)
  replace c21 := cellAt c21 hb (by omega)
  replace f20 := froAt f20 hb (by omega)
  replace f21 := froAt f21 hb (by omega)
  replace Hr := Lib.hid (Hr.out.at hb)
  replace Hn := Lib.hid (Hn.out.at hb)
  replace n1 : w.heap.size < w3.heap.size := ltAt n1 hb
  replace n2 : (w.heap.size + 1) < w3.heap.size := ltAt n2 hb
  replace HB2 := Lib.hid (lift HB2.out hb)
  replace HS1 := Lib.hid (HS1.out.at hb)
  clear hr3 hb
  go_wp2_with fail
  refine bodyPost_ret (v := gV A3 ns.length c3 A1 (straight es).length c1) ?_ rfl ⟨A3, c3, A1, c1, rfl, hc3, hc1, ?_, ?_, ?_⟩
  · simp [results, Tryz.results36, go_sem, c20, c21]
  · exact ((HS3.out.setCellF (p := ⟨w.heap.size + 1, 0, none⟩) (fun ad hn e => Nat.ne_of_lt (Nat.lt_of_lt_of_le hz3 (hf3 hn ad e))) _).setCellF (p := ⟨w.heap.size + 1, 1, none⟩) (fun ad hn e => Nat.ne_of_lt (Nat.lt_of_lt_of_le hz3 (hf3 hn ad e))) _).more (by simp)
  · exact ((HS1.out.setCellF (p := ⟨w.heap.size + 1, 0, none⟩) (fun ad hn e => Nat.ne_of_lt (Nat.lt_of_lt_of_le hz1 (hf1 hn ad e))) _).setCellF (p := ⟨w.heap.size + 1, 1, none⟩) (fun ad hn e => Nat.ne_of_lt (Nat.lt_of_lt_of_le hz1 (hf1 hn ad e))) _).more (by simp)
  · exact (HB2.out.setCell (by show w.heap.size ≤ w.heap.size + 1; omega) _).setCell (by show w.heap.size ≤ w.heap.size + 1; omega) _
set_option maxRecDepth 100000 in
set_option maxHeartbeats 1000000 in
theorem Round_any (An Ae : Option Addr) (nn cn ce : Nat) (es : List Ed) (w : World) (hr : Rd w w.heap.size 3 Ae es.length (edsC es)) (hok : OkE es) (hl : es.length ≤ 100000) :
    Calls Tryz.prog 37 #[gV An nn cn Ae es.length ce] w (RdIs 3 (gone es).length (edsC (gone es)) w) := by
  have Hr := Lib.hid hr
  have HO := Lib.hid hok
  clear hr hok
  go_enter Tryz.func37, Tryz.ntmps37
  go_wp2_with fail
  first | (refine wp_named ?_; intro W1 hW) | (refine calls_named ?_; intro W1 hW)
  have B1 : Below w.heap.size w W1 := by rw [hW]; exact (by repeat (first | exact Below.refl _ _ | assumption | refine Below.alloc ?_ (by simp <;> omega) _ | refine Below.setCell ?_ (by simp <;> omega) _ | refine Below.drew ?_))
  replace Hr := Lib.hid (Hr.out.at B1)
  clear hW
  refine (parted_any An Ae nn cn ce es W1 Hr.out HO.out hl).mono ?_
  rintro e w2 ⟨A1, c1, A2, c2, rfl, hc1, hc2, hr1, hr2, hf1, hf2, hb⟩
  go_wp2_with fail
  go_ret
  exact RdIs.of hc2 hr2 (lift B1 hb) rfl rfl
end Od
end Go.Proofs.YtbllehjhmfehbaaGreat
end

section
/- Units in order: what both sorts come to. No program. -/
namespace Go.Proofs.YtbllehjhmfehbaaGreat
open Go.RowKit
namespace Od
def pairAh (a b : Str) (e : Ed) : Bool := pairE e == some (a, b)
/-- Is one of left directly ahead of b? -/
def waitsB (es : List Ed) (left : List Str) (b : Str) : Bool := left.any (fun a => es.any (pairAh a b))
def freeAt (es : List Ed) (left : List Str) : Option Nat := left.findIdx? (fun b => !waitsB es left b)
def sortGo (es : List Ed) : Nat → List Str → List Str → Option (List Str)
  | _, [], out => some out
  | 0, _ :: _, _ => none
  | n + 1, x :: r, out => match freeAt es (x :: r) with
    | none => none
    | some i => sortGo es n ((x :: r).eraseIdx i) (out ++ [(x :: r).getD i []])
def sortU (es : List Ed) (units : List Str) : Option (List Str) := sortGo es (canon ltS units).length (canon ltS units) []
theorem sortGo_nil (es : List Ed) (n : Nat) (out : List Str) : sortGo es n [] out = some out := by cases n <;> rfl
theorem sortGo_none {es : List Ed} {left out : List Str} (h0 : 0 < left.length) (h : ∀ j (hj : j < left.length), waitsB es left left[j] = true) : sortGo es left.length left out = none := by
  cases left with
  | nil => simp at h0
  | cons x r =>
    have hf : freeAt es (x :: r) = none := by
      unfold freeAt
      rw [List.findIdx?_eq_none_iff]
      intro y hy
      obtain ⟨j, hj, e⟩ := List.mem_iff_getElem.1 hy
      have := h j hj
      rw [e] at this
      simp [this]
    show sortGo es (r.length + 1) (x :: r) out = none
    simp only [sortGo, hf]
theorem sortGo_some {es : List Ed} {left out : List Str} {k : Nat} (hk : k < left.length) (h : ∀ j (hj : j < left.length), j < k → waitsB es left left[j] = true) (hw : waitsB es left left[k] = false) :
    sortGo es left.length left out = sortGo es (left.eraseIdx k).length (left.eraseIdx k) (out ++ [left[k]]) := by
  cases left with
  | nil => simp at hk
  | cons x r =>
    have hf : freeAt es (x :: r) = some k := by
      unfold freeAt
      rw [List.findIdx?_eq_some_iff_getElem]
      refine ⟨hk, by simp [hw], fun j hj => ?_⟩
      have := h j (by omega) hj
      simp [this]
    have hl : ((x :: r).eraseIdx k).length = r.length := by rw [List.length_eraseIdx, if_pos hk]; simp
    rw [hl]
    show sortGo es (r.length + 1) (x :: r) out = _
    simp only [sortGo, hf]
    rw [List.getD_eq_getElem?_getD, List.getElem?_eq_getElem hk]
    rfl
theorem erase_cut {l : List Str} (k : Nat) : l.eraseIdx k = l.take k ++ l.drop (k + 1) := List.eraseIdx_eq_take_drop_succ l k
end Od
end Go.Proofs.YtbllehjhmfehbaaGreat
end

section
/- slices.IndexFunc and ContainsFunc at texts; the closures of order.Sort; slices.Delete of the call's own. -/
namespace Go.Proofs.YtbllehjhmfehbaaGreat
open Go.RowKit Go.Sort

namespace Od
theorem pairAh_eq (a b : Str) : pairAh a b = aheadB a b := rfl
/-- A function value that says of a text whether p, whatever has been made since. -/
structure SaysS (g : Nat) (caps : Array Value) (p : Str → Bool) (w : World) : Prop where
  enters : ∀ (args : Array Value) (W : World), (callFunc g args).run Tryz.prog W = .ok (.enter g args) W
  says : ∀ (W : World) (s : Str), Below w.heap.size w W → Calls Tryz.prog g (#[sv s] ++ caps) W fun e w' => e = .returned (.bool (p s)) ∧ Below W.heap.size W w'
set_option maxRecDepth 100000 in
set_option maxHeartbeats 1000000 in
theorem IndexFuncS (A : Option Addr) (c : Nat) (ss : List Str) (g : Nat) (caps : Array Value) (p : Str → Bool) (w : World) (hr : Rd w w.heap.size 1 A ss.length (svs ss)) (hl : ss.length ≤ 1000000) (hp : SaysS g caps p w) :
    Calls Tryz.prog 114 #[.slice A ss.length c, .func (.func g) #[] caps] w (FindIdx ss p w) := by
  have Hr := Lib.hid hr
  have Hp := Lib.hid hp
  have eg := hp.enters
  clear hr hp
  go_enter Tryz.func114, Tryz.ntmps114
  go_wp2_with fail
  go_loopw [8] (fun i wr => ∃ k : Nat, k ≤ ss.length ∧ i = .int .i64 k ∧ Hid ((ss.take k).any p = false) ∧ Below w.heap.size w wr) (fun i _ => ss.length - (intOf i).toNat)
  case atStart => exact ⟨0, Nat.zero_le _, rfl, by simp [Hid], Below.refl _ _⟩
  case round =>
    obtain ⟨k, hk, rfl, hall, hbel⟩ := hrel
    by_cases hlt : k < ss.length
    · obtain ⟨b, o, rfl, hB, hc0⟩ := (Hr.out.on (Nat.le_refl _) hbel).str hlt
      have Hbel := Lib.hid hbel
      clear hbel
      generalize hx : ss[k] = x at hc0
      have Hx := Lib.hid hx
      clear hx
      have hcall := Hp.out.says wr x Hbel.out
      have Hcall := Lib.hid hcall
      clear hcall
      go_wp2_with fail
      refine Hcall.out.mono ?_
      rintro e w2 ⟨rfl, hb2⟩
      have Hb2 := Lib.hid (Hbel.out.trans (hb2.mono Hbel.out.size))
      clear hb2
      cases hpx : p x
      · have Hpx := Lib.hid hpx
        go_wp2_with fail
        go_roundw
        case rel => exact ⟨k + 1, by omega, by go_num, by show _ = false; rw [any_take_succ hlt, hall.out, Hx.out, Hpx.out]; rfl, Hb2.out⟩
        case measure => simp [intOf]; omega
      · have Hpx := Lib.hid hpx
        go_wp2_with fail
        go_ret
        exact ⟨k, rfl, .inr ⟨k, hlt, rfl, find_at hlt hall.out (by rw [Hx.out]; exact Hpx.out), by rw [Hx.out]; exact Hpx.out, fun j hj => take_any_at hk hall.out hj⟩, Hb2.out⟩
    · have ha := hall.out
      rw [List.take_of_length_le (by omega)] at ha
      have Ha := Lib.hid ha
      clear ha
      go_wp2_with fail
      go_ret
      exact ⟨-1, rfl, .inl ⟨rfl, find_none_take Ha.out⟩, hbel⟩
set_option maxHeartbeats 1000000 in
theorem ContainsFuncS (A : Option Addr) (c : Nat) (ss : List Str) (g : Nat) (caps : Array Value) (p : Str → Bool) (w : World) (hr : Rd w w.heap.size 1 A ss.length (svs ss)) (hl : ss.length ≤ 1000000) (hp : SaysS g caps p w) :
    Calls Tryz.prog 116 #[.slice A ss.length c, .func (.func g) #[] caps] w fun e w' => e = .returned (.bool (ss.any p)) ∧ Below w.heap.size w w' := by
  go_enter Tryz.func116, Tryz.ntmps116
  go_wp2_with fail
  refine (IndexFuncS A c ss g caps p w hr hl hp).mono ?_
  rintro e w2 ⟨r, rfl, hcase, hb⟩
  have hiff : decide ((0 : Int) ≤ r) = ss.any p := by
    rcases hcase with ⟨rfl, h⟩ | ⟨k, hk, rfl, _, h, _⟩
    · rw [Bool.eq_iff_iff]
      constructor
      · intro h; simp at h
      · intro h2; obtain ⟨x, hx, hpx⟩ := List.any_eq_true.1 h2; rw [List.find?_eq_none] at h; exact absurd hpx (h x hx)
    · rw [any_of_at hk h]; simp
  have Hiff := Lib.hid hiff
  clear hiff hcase
  go_wp2_with fail
  go_ret
  exact ⟨ret_bool Hiff.out, hb⟩
theorem deleteS_own (base c i : Nat) (A : Option Addr) (ss : List Str) (w : World) (h : w.ownsRow base 9 1 (.slice A ss.length c) ss.length (svs ss)) (hi : i < ss.length) (hsz : ss.length ≤ 1000000) :
    Calls Tryz.prog 118 #[.slice A ss.length c, .int .i64 i, .int .i64 ((i : Int) + 1)] w fun e w' => e = .returned (.slice A (ss.eraseIdx i).length c) ∧ w'.ownsRow base 9 1 (.slice A (ss.eraseIdx i).length c) (ss.eraseIdx i).length (svs (ss.eraseIdx i)) ∧ w.grownBy w' (Value.slice A ss.length c).ownBlock := by
  have hel : (ss.eraseIdx i).length = ss.length - 1 := by rw [List.length_eraseIdx, if_pos hi]
  rcases h.2 with ⟨hv, hn⟩ | ⟨g, cap, cur, hv, hg, hb, h1, h2, h3, h4⟩
  · omega
  · injection hv with e1 _ e3
    subst e1 e3
    have hgl : g < w.heap.size := (Array.getElem?_eq_some_iff.1 hb).1
    have hmx : c ≤ 9223372036854775807 := by unfold maxLen at h2; omega
    refine (show Calls Tryz.prog 118 #[.slice (some ⟨g, 0, none⟩) ss.length c, .int .i64 i, .int .i64 ((i : Int) + 1)] w _ from Tryz.slices_Delete_string g 0 c i (i + 1) ss w (holds_of_block hb (by rw [Nat.mul_one] at h4; exact h4)) (by omega) hmx (by omega) hi).mono ?_
    rintro e w' ⟨rfl, q, rfl⟩
    rw [← erase_cut]
    refine ⟨by rw [hel]; simp, ⟨by simp [svs], .inr ⟨g, c, _, rfl, hg, by rw [← grow_empty (putRow _ _ _ _ _)]; exact heap_sorted _ hb, by omega, h2, by simp [putCells, h3], ?_⟩⟩, by rw [← grow_empty (putRow _ _ _ _ _)]; exact grownBy_sorted _⟩
    rw [Nat.mul_one]
    exact take_putCells' cur _ _ (by simp; omega)
end Od
end Go.Proofs.YtbllehjhmfehbaaGreat
end

section
/- A slice that reads as a list while a row of the call's own is appended to. No program. -/
namespace Go.Proofs.YtbllehjhmfehbaaGreat
open Go.RowKit
/-- The block at A is not the one that v owns. -/
def OffA (A : Option Addr) (n : Nat) (v : Value) : Prop := 0 < n → ∀ ad, A = some ad → v.ownBlock ≠ some ad.block
section
variable {w w' : World} {B k n : Nat} {A : Option Addr} {xs : List Value} {v v2 : Value}
theorem OffA.nil : OffA A n (.slice none 0 0) := fun _ _ _ h => by cases h
theorem OffA.fresh {base e k' n' : Nat} {xs' : List Value} (h : FreshA B A n) (ho : w.ownsRow base e k' v n' xs') (hB : w.heap.size ≤ B) : OffA A n v := fun hn ad hA hv => by
  have h1 := h hn ad hA
  have h2 := (ho.lt _ hv).2
  omega
theorem Rd.kept (h : Rd w w.heap.size k A n xs) (hoff : OffA A n v) (hg : w.grownBy w' v.ownBlock) : Rd w' w'.heap.size k A n xs :=
  ⟨h.1, fun hn => by
    obtain ⟨ad, e, hb, hs, hc⟩ := h.2 hn
    exact ⟨ad, e, Nat.lt_of_lt_of_le hb hg.size, hs, fun j hj => (World.cell?_of_block (a := ⟨ad.block, ad.off + j, none⟩) (hg.block ad.block hb (fun e' => hoff hn ad e e'.symm))).trans (hc j hj)⟩⟩
theorem OffA.push (h : OffA A n v) (hr : Rd w w.heap.size k A n xs) (hat : v2.ownBlock = v.ownBlock ∨ v2.ownBlock = some (w.heap.size + 1)) : OffA A n v2 := fun hn ad hA hv => by
  rcases hat with e | e
  · exact h hn ad hA (e ▸ hv)
  · obtain ⟨ad', e', hb, _⟩ := hr.2 hn
    rw [hA] at e'; injection e' with e'; subst e'
    rw [e] at hv; injection hv with hv
    omega
end
end Go.Proofs.YtbllehjhmfehbaaGreat
end
