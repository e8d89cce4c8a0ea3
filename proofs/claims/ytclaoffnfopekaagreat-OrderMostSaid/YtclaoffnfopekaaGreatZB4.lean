/- My texts, joined for the claim: ONeeds GRegion Kit3 OKept GInfo. -/
import Derived.Test.YtclaoffnfopekaaGreatZB3
import Derived.Test.YtclaoffnfopekaaGreatZB0
import Derived.Deep.RegionHeld3
import Derived.Test.YtclaoffnfopekaaGreatRows
import Derived.WalkKit

section
/- The walk of order.needs; slices.Contains at texts. -/
namespace Go.Proofs.YtclaoffnfopekaaGreat
open Go.RowKit Go.Maps Go.Sort

namespace Od
theorem idxOf_zs (ss : List Str) (x : Str) : Lib.containsS (ss.map fun s => (⟨s.toArray⟩ : ByteArray)) ⟨x.toArray⟩ = decide (x ∈ ss) := by
  rw [Bool.eq_iff_iff, Lib.containsS_iff, decide_eq_true_eq, List.mem_map]
  constructor
  · rintro ⟨a, ha, e⟩
    injection e with e
    have : a = x := by simpa using e
    exact this ▸ ha
  · intro h
    exact ⟨x, h, rfl⟩
theorem containsS_rd (A : Option Addr) (c : Nat) (ss : List Str) (x : Str) (w : World) (hr : Rd w w.heap.size 1 A ss.length (svs ss)) (hl : ss.length ≤ 1000000) :
    Calls Tryz.prog 97 #[.slice A ss.length c, sv x] w fun e w' => e = .returned (.bool (decide (x ∈ ss))) ∧ w' = w := by
  rcases Nat.eq_zero_or_pos ss.length with h0 | h0
  · have hn := List.length_eq_zero_iff.1 h0
    subst hn
    refine (Tryz.slices_Contains_string_empty A c _ w).mono ?_
    rintro e w' ⟨rfl, rfl⟩
    exact ⟨by simp, rfl⟩
  · obtain ⟨b, o, rfl, hb, hc⟩ := hr.open h0
    refine (Tryz.slices_Contains_string b o ss.length c (ss.map fun s => ⟨s.toArray⟩) ⟨x.toArray⟩ w (by simp) (by omega) (fun j hj => ?_)).mono ?_
    · have hj' : j < ss.length := by simpa using hj
      rw [hc j (by omega)]
      simp [svs, hj']
    · rintro e w' ⟨rfl, rfl⟩
      exact ⟨by rw [List.take_of_length_le (by simp), idxOf_zs], rfl⟩
theorem mem_outS {es : List Ed} {u s : Str} {rel : Int} : s ∈ outS es u rel ↔ (u, s, rel) ∈ es := by
  unfold outS outRaw
  rw [mem_onceS, List.mem_map]
  constructor
  · rintro ⟨⟨a, b, c⟩, h, rfl⟩
    obtain ⟨h1, h2⟩ := List.mem_filter.1 h
    have : a = u ∧ c = rel := by simpa [outP] using h2
    rw [← this.1, ← this.2]
    exact h1
  · intro h
    exact ⟨_, List.mem_filter.2 ⟨h, by simp [outP]⟩, rfl⟩
theorem hasE_out (es : List Ed) (u s : Str) (rel : Int) : decide (s ∈ outS es u rel) = hasE es u s rel := by
  rw [Bool.eq_iff_iff, decide_eq_true_eq, mem_outS, hasE_iff]

/-- What a need is: of the first k of the two relations. -/
def needK (es : List Ed) (p : Pr) (k : Nat) : Bool := ([1, 4] : List Int).take k |>.any (fun r => hasE es p.2 p.1 r)
theorem needK_two (es : List Ed) (p : Pr) : needK es p 2 = needsB es p := by simp [needK, needsB]

set_option maxRecDepth 100000 in
set_option maxHeartbeats 4000000 in
theorem needs_any (An Ae : Option Addr) (nn cn ce : Nat) (es : List Ed) (x y : Str) (w : World) (hr : Rd w w.heap.size 3 Ae es.length (edsC es)) (hl : es.length ≤ 300000) :
    Calls Tryz.prog 84 #[gV An nn cn Ae es.length ce, prV (x, y)] w fun e w' => e = .returned (.bool (needsB es (x, y))) ∧ Below w.heap.size w w' := by
  have Hr := Lib.hid hr
  clear hr
  go_enter Tryz.func84, Tryz.ntmps84
  go_wp2_with fail
  go_loopw [9] (fun i wr => ∃ k : Nat, k ≤ 2 ∧ i = .int .i64 k ∧ Hid (needK es (x, y) k = false) ∧ Below (w.heap.size + 1 + 1 + 1) (((w.alloc (.cells #[.slice An nn cn, .slice Ae es.length ce] 25)).alloc (.cells #[sv x, sv y] 50)).alloc (.cells #[.int .i64 1, .int .i64 4] 3)) wr) (fun i _ => 2 - (intOf i).toNat)
  case atStart => exact ⟨0, by omega, rfl, rfl, Below.refl _ _⟩
  case round =>
    obtain ⟨k, hk, rfl, hall, hbel⟩ := hrel
    have hz := hbel.size
    simp only [World.size_alloc] at hz
    have hB : Below w.heap.size w wr := (((((Below.refl _ w).alloc (Nat.le_refl _) _).alloc (by simp) _).alloc (by simp; omega) _).trans (hbel.mono (by omega)))
    have Hr1 := Lib.hid ((Hr.out.below hB).more (Nat.le_trans (by omega) hz))
    have c00 : wr.cell? ⟨w.heap.size, 0, none⟩ = some (.slice An nn cn) := by rw [hbel.cell (p := ⟨w.heap.size, 0, none⟩) (by show w.heap.size < _; omega)]; go_simp
    have c01 : wr.cell? ⟨w.heap.size, 1, none⟩ = some (.slice Ae es.length ce) := by rw [hbel.cell (p := ⟨w.heap.size, 1, none⟩) (by show w.heap.size < _; omega)]; go_simp
    have c10 : wr.cell? ⟨w.heap.size + 1, 0, none⟩ = some (sv x) := by rw [hbel.cell (p := ⟨w.heap.size + 1, 0, none⟩) (by show w.heap.size + 1 < _; omega)]; go_simp
    have c11 : wr.cell? ⟨w.heap.size + 1, 1, none⟩ = some (sv y) := by rw [hbel.cell (p := ⟨w.heap.size + 1, 1, none⟩) (by show w.heap.size + 1 < _; omega)]; go_simp
    have c20 : wr.cell? ⟨w.heap.size + 1 + 1, 0, none⟩ = some (.int .i64 1) := by rw [hbel.cell (p := ⟨w.heap.size + 1 + 1, 0, none⟩) (by show w.heap.size + 1 + 1 < _; omega)]; go_simp
    have c21 : wr.cell? ⟨w.heap.size + 1 + 1, 1, none⟩ = some (.int .i64 4) := by rw [hbel.cell (p := ⟨w.heap.size + 1 + 1, 1, none⟩) (by show w.heap.size + 1 + 1 < _; omega)]; go_simp
    have HB := Lib.hid hB
    have HL := Lib.hid hbel
    clear hB hbel
    by_cases hlt : k < 2
    · obtain ⟨rel, hrel, hck, hnk⟩ : ∃ rel : Int, (([1, 4] : List Int)[k]? = some rel) ∧ wr.cell? ⟨w.heap.size + 1 + 1, k, none⟩ = some (.int .i64 rel) ∧ needK es (x, y) (k + 1) = (needK es (x, y) k || hasE es y x rel) := by
        rcases (show k = 0 ∨ k = 1 by omega) with rfl | rfl
        · exact ⟨1, rfl, c20, by simp [needK]⟩
        · exact ⟨4, rfl, c21, by simp [needK]⟩
      have HN := Lib.hid hnk
      clear c20 c21 hrel hnk
      have hz1 : w.heap.size < wr.heap.size := by omega
      have hz2 : w.heap.size + 1 < wr.heap.size := by omega
      go_wp2_with fail
      go_region_held3 (fun w' => w'.cell? ⟨w.heap.size, 0, none⟩ = some (.slice An nn cn) ∧ w'.cell? ⟨w.heap.size, 1, none⟩ = some (.slice Ae es.length ce) ∧ w'.cell? ⟨w.heap.size + 1, 0, none⟩ = some (sv x) ∧ w'.cell? ⟨w.heap.size + 1, 1, none⟩ = some (sv y)) (go_keep)
        (first
          | (go_at_call 98; refine (Out_any An Ae nn cn ce es y rel _ Hr1.out.drew (by omega)).mono ?_; rintro e w2 ⟨A2, c2, rfl, ho2, hb2⟩
             have d00 : w2.cell? ⟨w.heap.size, 0, none⟩ = some (.slice An nn cn) := (hb2.cell (p := ⟨w.heap.size, 0, none⟩) hz1).trans c00
             have d01 : w2.cell? ⟨w.heap.size, 1, none⟩ = some (.slice Ae es.length ce) := (hb2.cell (p := ⟨w.heap.size, 1, none⟩) hz1).trans c01
             have d10 : w2.cell? ⟨w.heap.size + 1, 0, none⟩ = some (sv x) := (hb2.cell (p := ⟨w.heap.size + 1, 0, none⟩) hz2).trans c10
             have d11 : w2.cell? ⟨w.heap.size + 1, 1, none⟩ = some (sv y) := (hb2.cell (p := ⟨w.heap.size + 1, 1, none⟩) hz2).trans c11
             have HO2 := Lib.hid ho2
             have HB2 := Lib.hid hb2
             clear ho2 hb2)
          | (go_at_call 97; refine (containsS_rd A2 c2 (outS es y rel) x _ (own_rd' HO2.out) (by have := outRaw_len es y rel; have := onceS_len (outRaw es y rel); unfold outS; omega)).mono ?_; rintro e w3 ⟨rfl, rfl⟩))
      have hlit : Below (w.heap.size + 1 + 1 + 1) _ w3 := HL.out.trans ((show Below wr.heap.size wr w3 from ⟨HB2.out.os, HB2.out.tape, HB2.out.output, HB2.out.size, HB2.out.block⟩).mono hz)
      have hfin : Below w.heap.size w w3 := HB.out.trans ((show Below wr.heap.size wr w3 from ⟨HB2.out.os, HB2.out.tape, HB2.out.output, HB2.out.size, HB2.out.block⟩).mono (by omega))
      have HL3 := Lib.hid hlit
      have HF3 := Lib.hid hfin
      clear hlit hfin
      have HN2 := HN.out
      rw [hall.out, Bool.false_or] at HN2
      rw [hasE_out]
      cases hE : hasE es y x rel
      · have HE := Lib.hid hE
        clear hE
        go_wp2_with fail
        go_roundw
        case rel => exact ⟨k + 1, by omega, by go_num, HN2.trans HE.out, HL3.out⟩
        case measure => simp [intOf]; omega
      · have HE := Lib.hid hE
        clear hE
        go_wp2_with fail
        go_ret
        refine ⟨ret_bool ?_, HF3.out⟩
        rw [← needK_two]
        have h1 : needK es (x, y) (k + 1) = true := HN2.trans HE.out
        rcases (show k = 0 ∨ k = 1 by omega) with rfl | rfl
        · simp only [needK, List.take_succ_cons, List.take_zero, List.any_cons, List.any_nil, Bool.or_false, Nat.zero_add] at h1 ⊢
          simp [h1]
        · exact h1.symm
    · have hk2 : k = 2 := by omega
      subst hk2
      clear c20 c21 c00 c01 c10 c11
      go_wp2_with fail
      go_ret
      exact ⟨ret_bool (by rw [← needK_two]; exact hall.out.symm), HB.out⟩
end Od
end Go.Proofs.YtclaoffnfopekaaGreat
end

section
/- Moves through a region that draws its order, one operation after another (what a guard shuts out too). No program. -/
namespace Go.Proofs.YtclaoffnfopekaaGreat
open Go.RowKit
section
variable {P : Program} {ops : Array Oper} {Q : Exit → Act → World → Prop} {md : Region.Mode} {S : World → Prop}
variable {i : Nat} {dst : Option Tmp} {op : Op} {ty : TypeId} {pos : String} {aft : Array Edge} {grd : Option (Nat × Bool)} {v : Value} {fuel : Nat} {listed : Array Bool} {a : Act} {w : World}
/-- What yields its value in every world that meets S is taken first. -/
theorem take_yield (hi : ops[i]? = some ⟨dst, op, ty, pos, aft, grd⟩) (hs : Region.noSelect ops = true) (hf : Region.free md ops listed i = true) (hr : (Region.ready md ops listed).contains i = true)
    (hQ : ∀ c a w, Q (.panic c) (a.put dst v) w → Q (.panic c) a w) (hw : Region.wanted ⟨dst, op, ty, pos, aft, grd⟩ (yielded ops a.tmps) = true) (hy : ∀ w, S w → (execOp a.eval ⟨dst, op, ty, pos, aft, grd⟩).run P w = .ok (.value v) w)
    (hS : S w) (h : wpAnyH P md ops Q S fuel (listed.setIfInBounds i true) (a.put dst v) w) : wpAnyH P md ops Q S (fuel + 1) listed a w :=
  wpAnyH_take hi hs hf hr hQ (.inl ⟨hw, hy⟩) hS h
/-- What its guard shuts out is passed by. -/
theorem take_skip (hi : ops[i]? = some ⟨dst, op, ty, pos, aft, grd⟩) (hs : Region.noSelect ops = true) (hf : Region.free md ops listed i = true) (hr : (Region.ready md ops listed).contains i = true)
    (hQ : ∀ c a w, Q (.panic c) (a.put dst undef) w → Q (.panic c) a w) (hw : Region.wanted ⟨dst, op, ty, pos, aft, grd⟩ (yielded ops a.tmps) = false)
    (hS : S w) (h : wpAnyH P md ops Q S fuel (listed.setIfInBounds i true) (a.put dst undef) w) : wpAnyH P md ops Q S (fuel + 1) listed a w :=
  wpAnyH_take hi hs hf hr hQ (.inr ⟨hw, rfl⟩) hS h
/-- One alone may come up. -/
theorem ready_one (hi : ops[i]? = some ⟨dst, op, ty, pos, aft, grd⟩) (hr : Region.ready md ops listed = [i])
    (h : ∀ K' : Act → World → Prop, Shut (∀ a w, S w → (S w → wpAnyH P md ops Q S fuel (listed.setIfInBounds i true) a w) → K' a w) → if Region.wanted ⟨dst, op, ty, pos, aft, grd⟩ (yielded ops a.tmps) = true then Oper.wp P ⟨dst, op, ty, pos, aft, grd⟩ a w K' Q else K' (a.put dst undef) w) :
    wpAnyH P md ops Q S (fuel + 1) listed a w :=
  wpAnyH_ready hr (by simp) (AllReadyH.cons hi h AllReadyH.nil)
end
end Go.Proofs.YtclaoffnfopekaaGreat
end

section
/- Words for walks by check points: the world at hand under a name of its own, and all that is known of it carried over by one 'Below'. -/
namespace Go.Proofs.YtclaoffnfopekaaGreat
open Go.RowKit

/-- The world at hand under a name. -/
theorem wp_named {P : Program} {c : Code} {Q : Exit → Act → World → Prop} {a : Act} {w : World} (h : ∀ W, W = w → c.wp P Q a W) : c.wp P Q a w := h w rfl
theorem calls_named {P : Program} {f : FuncId} {args : Array Value} {w : World} {Q : Ending → World → Prop} (h : ∀ W, W = w → Calls P f args W Q) : Calls P f args w Q := h w rfl
section
variable {w w' w2 : World} {B k n : Nat} {A : Option Addr} {xs : List Value}
/-- What reads as a list in a world still does in a later one. -/
theorem Rd.at (h : Rd w w.heap.size k A n xs) (hb : Below w.heap.size w w') : Rd w' w'.heap.size k A n xs := (h.on (Nat.le_refl _) hb).more hb.size
theorem Rd.at' (h : Rd w B k A n xs) (hB : B ≤ w.heap.size) (hb : Below w.heap.size w w') : Rd w' w'.heap.size k A n xs := (h.on hB hb).more (Nat.le_trans hB hb.size)
/-- First one, then what a call made of it. -/
theorem lift (h : Below w.heap.size w w') (g : Below w'.heap.size w' w2) : Below w.heap.size w w2 := h.trans (g.mono h.size)
theorem liftB (h : Below B w w') (hB : B ≤ w.heap.size) (g : Below w'.heap.size w' w2) : Below B w w2 := h.trans (g.mono (Nat.le_trans hB h.size))
theorem cellAt {b o : Nat} {v : Value} (c : w.cell? ⟨b, o, none⟩ = some v) (hb : Below w.heap.size w w') (n : b < w.heap.size) : w'.cell? ⟨b, o, none⟩ = some v := (hb.cell (p := ⟨b, o, none⟩) n).trans c
theorem froAt {b o : Nat} (c : w.frozen? ⟨b, o, none⟩ = false) (hb : Below w.heap.size w w') (n : b < w.heap.size) : w'.frozen? ⟨b, o, none⟩ = false := (hb.frozen (p := ⟨b, o, none⟩) n).trans c
theorem ltAt {b : Nat} (n : b < w.heap.size) (hb : Below w.heap.size w w') : b < w'.heap.size := Nat.lt_of_lt_of_le n hb.size
theorem leAt {b : Nat} (n : b ≤ w.heap.size) (hb : Below w.heap.size w w') : b ≤ w'.heap.size := Nat.le_trans n hb.size
end
end Go.Proofs.YtclaoffnfopekaaGreat
end

section
/- The walk of order.kept: the pairs that stay. -/
namespace Go.Proofs.YtclaoffnfopekaaGreat
open Go.RowKit Go.Maps Go.Sort

namespace Od
theorem WaysX.kept {w w' : World} {X : Nat → Prop} {m : Nat} {l : List Pr} (h : WaysX w X m l) {b : Nat} (hg : w.grownBy w' (some b)) (hX : X b) : WaysX w' X m l := by
  obtain ⟨f, h, h1, h2⟩ := h
  refine ⟨f, ⟨h.map.kept hg (fun e => h1 (by cases e; exact hX)), h.low, fun s hs => (h.row s hs).kept hg ?_, h.sep, h.off⟩, h1, h2⟩
  cases hv : (rowV (f s)).ownBlock with
  | none => exact .inl rfl
  | some g => exact .inr (fun e => h2 s hs g hv (by cases e; exact hX))
theorem Keeps.of_grown {w w' : World} {X : Nat → Prop} {b : Nat} (hg : w.grownBy w' (some b)) (hX : ∀ j, X j → j < w.heap.size) (hb : ¬ X b) : Keeps X w w' :=
  ⟨hg.os, hg.tape, hg.output, hg.size, fun j hj => hg.block j (hX j hj) (fun e => hb (by cases e; exact hj))⟩
theorem Keeps.mono {w w' : World} {X Y : Nat → Prop} (h : Keeps X w w') (hXY : ∀ j, Y j → X j) : Keeps Y w w' := ⟨h.os, h.tape, h.output, h.size, fun j hj => h.block j (hXY j hj)⟩

open Classical in
/-- What a set of pairs holds. -/
noncomputable def setP (D : List Pr) (p : Pr) : Option Value := if p ∈ D then some (.bool true) else none
theorem setP_put {w : World} {m n : Nat} {b : Pr} {D : List Pr} {f : Pr → Option Value} (h : MapIs pairKind w m n f) (h1 : f b = some (.bool true)) (h2 : ∀ s, s ≠ b → f s = setP D s) : MapIs pairKind w m n (setP (D ++ [b])) := by
  have : f = setP (D ++ [b]) := by
    funext s
    by_cases h : s = b
    · subst h; rw [h1]; simp [setP]
    · rw [h2 s h]; simp [setP, h]
  rw [← this]; exact h
theorem phase_len (es : List Ed) (first : Bool) : ∀ (l acc : List Pr), (phase es first acc l).length ≤ acc.length + l.length
  | [], acc => Nat.le_refl _
  | p :: l, acc => by
    rw [phase_cons]
    have := phase_len es first l (if keepB es first acc p = true then acc ++ [p] else acc)
    split at this <;> simp_all <;> omega
theorem phase_mem (es : List Ed) (first : Bool) : ∀ (l acc : List Pr) (p : Pr), p ∈ phase es first acc l → p ∈ acc ∨ p ∈ l
  | [], acc, p, h => .inl h
  | q :: l, acc, p, h => by
    rw [phase_cons] at h
    rcases phase_mem es first l _ p h with e | e
    · split at e
      · rcases List.mem_append.1 e with e | e
        · exact .inl e
        · rw [List.mem_singleton.1 e]; exact .inr (.head _)
      · exact .inl e
    · exact .inr (.tail _ e)
def accL (es : List Ed) : Nat → List Pr
  | 0 => []
  | 1 => phase es true [] (prsL es)
  | _ => keptL es
theorem accL_len (es : List Ed) (i : Nat) (hi : i < 2) : (accL es i).length ≤ (prsL es).length := by
  rcases (show i = 0 ∨ i = 1 by omega) with rfl | rfl
  · exact Nat.zero_le _
  · exact Nat.le_trans (phase_len es true _ _) (by simp)
theorem accL_mem {es : List Ed} {i : Nat} (hi : i < 2) {p : Pr} (h : p ∈ accL es i) : p ∈ prsL es := by
  rcases (show i = 0 ∨ i = 1 by omega) with rfl | rfl
  · simp [accL] at h
  · rcases phase_mem es true _ _ p h with e | e
    · simp at e
    · exact e
def firstB (i : Nat) : Bool := decide (i = 0)
theorem accL_next (es : List Ed) (i : Nat) (hi : i < 2) : phase es (firstB i) (accL es i) (prsL es) = accL es (i + 1) := by
  rcases (show i = 0 ∨ i = 1 by omega) with rfl | rfl
  · rfl
  · rfl
theorem phase_take {es : List Ed} {first : Bool} {acc : List Pr} {k : Nat} (hk : k < (prsL es).length) :
    phase es first acc ((prsL es).take (k + 1)) = if keepB es first (phase es first acc ((prsL es).take k)) (prsL es)[k] = true then phase es first acc ((prsL es).take k) ++ [(prsL es)[k]] else phase es first acc ((prsL es).take k) := by
  rw [List.take_succ_eq_append_getElem hk, phase_app]

theorem setF_get (D : List Str) (x : Str) : (setF D x).getD (.bool false) = .bool (decide (x ∈ D)) := by
  by_cases h : x ∈ D <;> simp [setF, h]
/-- A call hands back a set of pairs of its own. -/
def SetPIs (S : List Pr) (w : World) (e : Ending) (w' : World) : Prop := ∃ b n, e = .returned (.map (some b)) ∧ MapIs pairKind w' b n (setP S) ∧ w.heap.size ≤ b ∧ Below w.heap.size w w'

set_option maxRecDepth 100000 in
set_option maxHeartbeats 4000000 in
theorem kept_any (An Ae : Option Addr) (nn cn ce : Nat) (es : List Ed) (w : World) (hr : Rd w w.heap.size 3 Ae es.length (edsC es)) (hok : OkE es) (hl : es.length ≤ 100000) :
    Calls Tryz.prog 64 #[gV An nn cn Ae es.length ce] w (SetPIs (keptL es) w) := by
  have Hr := Lib.hid hr
  have HO := Lib.hid hok.prs
  have hpl := prsL_len es
  clear hr hok
  have hmm : ∀ (t : TypeId) (w : World), (Instr.makeMap t none).run Tryz.prog w = .ok (.map (some w.heap.size)) (w.alloc (.map #[] 0)) := fun _ _ => rfl
  go_enter Tryz.func64, Tryz.ntmps64
  go_wp2_with fail
  refine (pairs_any An Ae nn cn ce es _ ?hr (by omega)).mono ?_
  case hr => exact (((Hr.out.alloc (Nat.le_refl _) _).alloc (by simp) _).alloc (by simp; omega) _).more (by simp; omega)
  rintro e w2 ⟨A, c, rfl, hown, hb2⟩
  have hb3 := hb2.alloc hb2.size (.cells #[.bool true, .bool false] 4)
  have hx := WaysX.empty (w := (w.alloc (.cells #[.slice An nn cn, .slice Ae es.length ce] 25)).alloc (.map #[] 0)) hb3
  have hmo : MapIs pairKind _ _ 0 _ := ((MapIs.made pairKind (w.alloc (.cells #[.slice An nn cn, .slice Ae es.length ce] 25))).alloc (.map #[] 0)).on hb3
  rw [show (fun _ => none : Pr → Option Value) = setP [] from by funext s; simp [setP]] at hmo
  simp only [World.size_alloc] at hx hmo
  have hz2 := hb2.size
  simp only [World.size_alloc] at hz2
  have hlo : ∀ g, (Value.slice A (prsL es).length c).ownBlock = some g → w.heap.size + 1 + 1 < g ∧ g < w2.heap.size := fun g hg => by
    have := hown.lt g hg
    simp only [World.size_alloc] at this
    exact ⟨by omega, this.2⟩
  have hBel : Below w.heap.size w (w2.alloc (.cells #[.bool true, .bool false] 4)) := (below_alloc (Nat.le_refl _) (below_alloc (Nat.le_refl _) (below_alloc (Nat.le_refl _) hb3)))
  have e00 : (w2.alloc (.cells #[.bool true, .bool false] 4)).cell? ⟨w.heap.size, 0, none⟩ = some (.slice An nn cn) := by rw [hb3.cell (p := ⟨w.heap.size, 0, none⟩) (by simp; omega)]; go_simp
  have e01 : (w2.alloc (.cells #[.bool true, .bool false] 4)).cell? ⟨w.heap.size, 1, none⟩ = some (.slice Ae es.length ce) := by rw [hb3.cell (p := ⟨w.heap.size, 1, none⟩) (by simp; omega)]; go_simp
  have e10 : (w2.alloc (.cells #[.bool true, .bool false] 4)).cell? ⟨w2.heap.size, 0, none⟩ = some (.bool true) := by go_simp
  have e11 : (w2.alloc (.cells #[.bool true, .bool false] 4)).cell? ⟨w2.heap.size, 1, none⟩ = some (.bool false) := by go_simp
  have hown3 := hown.alloc (.cells #[.bool true, .bool false] 4)
  have HX := Lib.hid hx
  have HM := Lib.hid hmo
  have HW := Lib.hid hown3
  have HLo := Lib.hid hlo
  have HB := Lib.hid hBel
  have HE := Lib.hid (And.intro e00 (And.intro e01 (And.intro e10 e11)))
  have Hr0 := Lib.hid (Hr.out.on (Nat.le_refl _) hBel)
  have hs0 : (w2.alloc (.cells #[.bool true, .bool false] 4)).heap.size = w2.heap.size + 1 := by simp
  have HS0 := Lib.hid hs0
  clear hx hmo hown hown3 hlo hb2 hb3 hBel e00 e01 e10 e11 hs0
  go_wp2_with fail
  go_loopw [16] (fun j wr => ∃ i : Nat, i ≤ 2 ∧ j = .int .i64 i ∧ WaysX wr (fun j => j < w2.heap.size + 1 ∧ j ≠ w.heap.size + 1 + 1) (w.heap.size + 1 + 1) (accL es i) ∧ MapIs pairKind wr (w.heap.size + 1) (accL es i).length (setP (accL es i)) ∧
    Keeps (fun j => j < w2.heap.size + 1 ∧ j ≠ w.heap.size + 1 + 1 ∧ j ≠ w.heap.size + 1) (w2.alloc (.cells #[.bool true, .bool false] 4)) wr) (fun j _ => 2 - (intOf j).toNat)
  case atStart => exact ⟨0, by omega, rfl, HX.out, HM.out, Keeps.refl _ _⟩
  case round =>
    obtain ⟨i, hi, rfl, hw, hm, hk⟩ := hrel
    have hz := hk.size
    rw [HS0.out] at hz
    by_cases hlt : i < 2
    · have hdi : decide ((i : Int) < 2) = true := by simp; omega
      have hfb : wr.cell? ⟨w2.heap.size, i, none⟩ = some (.bool (firstB i)) := by
        rw [World.cell?_of_block (a := ⟨w2.heap.size, i, none⟩) (hk.block w2.heap.size ⟨by omega, by omega, by omega⟩)]
        rcases (show i = 0 ∨ i = 1 by omega) with rfl | rfl
        · exact HE.out.2.2.1
        · exact HE.out.2.2.2
      have HW1 := Lib.hid hw
      have HM1 := Lib.hid hm
      have HK1 := Lib.hid hk
      have hal := accL_len es i hlt
      have HF := Lib.hid (show ∀ p, p ∈ accL es i → p ∈ prsL es from fun p => accL_mem hlt)
      clear hw hm hk
      generalize hfi : firstB i = first at hfb
      have HFi := Lib.hid hfi
      clear hfi
      go_wp2_with fail
      go_loopw [22] (fun j wr => ∃ k : Nat, k ≤ (prsL es).length ∧ j = .int .i64 k ∧ WaysX wr (fun j => j < w2.heap.size + 1 ∧ j ≠ w.heap.size + 1 + 1) (w.heap.size + 1 + 1) (phase es first (accL es i) ((prsL es).take k)) ∧ MapIs pairKind wr (w.heap.size + 1) (phase es first (accL es i) ((prsL es).take k)).length (setP (phase es first (accL es i) ((prsL es).take k))) ∧
        Keeps (fun j => j < w2.heap.size + 1 ∧ j ≠ w.heap.size + 1 + 1 ∧ j ≠ w.heap.size + 1) (w2.alloc (.cells #[.bool true, .bool false] 4)) wr) (fun j _ => (prsL es).length - (intOf j).toNat)
      case atStart => exact ⟨0, by omega, rfl, HW1.out, HM1.out, HK1.out⟩
      case round =>
        obtain ⟨k, hk, rfl, hw, hm, hkp⟩ := hrel
        have hz1 := hkp.size
        rw [HS0.out] at hz1
        have hlen : (phase es first (accL es i) ((prsL es).take k)).length ≤ 2 * (prsL es).length := by
          have := phase_len es first ((prsL es).take k) (accL es i)
          rw [List.length_take] at this
          omega
        have hmem : ∀ p, p ∈ phase es first (accL es i) ((prsL es).take k) → p ∈ prsL es := fun p hp => by
          rcases phase_mem es first _ _ p hp with e | e
          · exact HF.out p e
          · exact List.mem_of_mem_take e
        by_cases hlt2 : k < (prsL es).length
        · have hpt := @phase_take es first (accL es i) k hlt2
          have hown := hkp.own HW.out (fun g hg => by have := HLo.out g hg; exact ⟨by omega, by omega, by omega⟩)
          obtain ⟨bb, o, hA, hB1, hc0, hc1⟩ := (own_rd' hown).pair hlt2
          have hpok := HO.out _ (List.getElem_mem hlt2)
          have c00 : wr.cell? ⟨w.heap.size, 0, none⟩ = some (.slice An nn cn) := (World.cell?_of_block (a := ⟨w.heap.size, 0, none⟩) (hkp.block w.heap.size ⟨by omega, by omega, by omega⟩)).trans HE.out.1
          have c01 : wr.cell? ⟨w.heap.size, 1, none⟩ = some (.slice Ae es.length ce) := (World.cell?_of_block (a := ⟨w.heap.size, 1, none⟩) (hkp.block w.heap.size ⟨by omega, by omega, by omega⟩)).trans HE.out.2.1
          have Hr1 := Lib.hid (((hkp.rd Hr0.out (fun j hj => ⟨by omega, by omega, by omega⟩)).more (Nat.le_trans (by omega) hz1)))
          generalize hacc : phase es first (accL es i) ((prsL es).take k) = acc at hw hm hpt hlen hmem
          generalize hx : (prsL es)[k] = q at hc0 hc1 hpok hpt
          obtain ⟨x, y⟩ := q
          have HW2 := Lib.hid hw
          have HM2 := Lib.hid hm
          have HK2 := Lib.hid hkp
          have HPt := Lib.hid hpt
          have HMem := Lib.hid (show ∀ p, p ∈ acc → okS p.1 ∧ okS p.2 from fun p hp => HO.out p (hmem p hp))
          simp only at hc0 hc1 hpok
          have n1 : w.heap.size < wr.heap.size := by omega
          clear hw hm hkp hpt hmem hown hx hacc
          subst hA
          go_wp2_with fail
          first | (refine wp_named ?_; intro W hW) | (refine calls_named ?_; intro W hW)
          have BW : Below wr.heap.size wr W := by rw [hW]; exact (by repeat (first | exact Below.refl _ _ | assumption | refine Below.alloc ?_ (by simp <;> omega) _ | refine Below.setCell ?_ (by simp <;> omega) _ | refine Below.drew ?_))
          replace c00 : W.cell? ⟨w.heap.size, 0, none⟩ = some (.slice An nn cn) := cellAt c00 BW (by omega)
          replace c01 : W.cell? ⟨w.heap.size, 1, none⟩ = some (.slice Ae es.length ce) := cellAt c01 BW (by omega)
          replace n1 : w.heap.size < W.heap.size := ltAt n1 BW
          replace Hr1 := Lib.hid (Hr1.out.at BW)
          replace HW2 := Lib.hid (HW2.out.on BW)
          replace HM2 := Lib.hid (HM2.out.on BW)
          replace HK2 := Lib.hid (HK2.out.then (fun j hj => by rw [HS0.out]; exact hj.1) BW)
          have n2 : wr.heap.size < W.heap.size := by rw [hW]; simp <;> omega
          have c10 : W.cell? ⟨wr.heap.size, 0, none⟩ = some (sv x) := by rw [hW]; go_simp
          have c11 : W.cell? ⟨wr.heap.size, 1, none⟩ = some (sv y) := by rw [hW]; go_simp
          clear hW
          clear BW
          have hstay : ∀ (v : World), ¬ keepB es first acc (x, y) = true → WaysX v (fun j => j < w2.heap.size + 1 ∧ j ≠ w.heap.size + 1 + 1) (w.heap.size + 1 + 1) acc → MapIs pairKind v (w.heap.size + 1) acc.length (setP acc) → Keeps (fun j => j < w2.heap.size + 1 ∧ j ≠ w.heap.size + 1 + 1 ∧ j ≠ w.heap.size + 1) (w2.alloc (.cells #[.bool true, .bool false] 4)) v →
              ∃ k' : Nat, k' ≤ (prsL es).length ∧ Value.int .i64 ((k : Int) + 1) = .int .i64 k' ∧ WaysX v (fun j => j < w2.heap.size + 1 ∧ j ≠ w.heap.size + 1 + 1) (w.heap.size + 1 + 1) (phase es first (accL es i) ((prsL es).take k')) ∧ MapIs pairKind v (w.heap.size + 1) (phase es first (accL es i) ((prsL es).take k')).length (setP (phase es first (accL es i) ((prsL es).take k'))) ∧ Keeps (fun j => j < w2.heap.size + 1 ∧ j ≠ w.heap.size + 1 + 1 ∧ j ≠ w.heap.size + 1) (w2.alloc (.cells #[.bool true, .bool false] 4)) v := by
            intro v hk h1 h2 h3
            refine ⟨k + 1, by omega, by go_num, ?_⟩
            rw [HPt.out, if_neg hk]
            exact ⟨h1, h2, h3⟩
          have HSt := Lib.hid hstay
          clear hstay
          by_cases hn : needsB es (x, y) = first
          · have hn2 : (needsB es (x, y) == first) = true := by simpa using hn
            by_cases hxy : x = y
            · have hxy2 : (!x == y) = false := by simpa using hxy
              have hkb : ¬ keepB es first acc (x, y) = true := by rw [keepB_iff]; exact fun h => h.2.1 hxy
              have HKb := Lib.hid hkb
              have Hn := Lib.hid hn
              clear hkb hxy hn
              try go_wp2_with fail
              refine wp_region_held_drew (S := fun w' => Below W.heap.size W w') (by kernel_rfl) (Below.drew (Below.refl _ _)) (fun hHeld => ?_)
              refine take_yield (i := 0) (v := ?_) rfl (by kernel_rfl) (by kernel_rfl) (by kernel_rfl) (fun _ _ _ h => h) (by rfl) ?_ hHeld ?_
              rotate_left 1
              · (intro w' hSw; have hCell := fun (b o : Nat) (h : b < W.heap.size) => hSw.cell (p := ⟨b, o, none⟩) h; clear hSw; go_simp; try with_reducible rfl)
              (try simp only [Act.put, List.setIfInBounds_toArray, List.set_cons_zero, List.set_cons_succ])
              refine take_yield (i := 1) (v := ?_) rfl (by kernel_rfl) (by kernel_rfl) (by kernel_rfl) (fun _ _ _ h => h) (by rfl) ?_ hHeld ?_
              rotate_left 1
              · (intro w' hSw; have hCell := fun (b o : Nat) (h : b < W.heap.size) => hSw.cell (p := ⟨b, o, none⟩) h; clear hSw; go_simp; try with_reducible rfl)
              (try simp only [Act.put, List.setIfInBounds_toArray, List.set_cons_zero, List.set_cons_succ])
              refine take_yield (i := 3) (v := ?_) rfl (by kernel_rfl) (by kernel_rfl) (by kernel_rfl) (fun _ _ _ h => h) (by rfl) ?_ hHeld ?_
              rotate_left 1
              · (intro w' hSw; clear hSw; go_simp; try with_reducible rfl)
              (try simp only [Act.put, List.setIfInBounds_toArray, List.set_cons_zero, List.set_cons_succ])
              refine ready_one (i := 2) rfl (by kernel_rfl) (fun K hK => ?_)
              go_simp
              refine (needs_any An Ae nn cn ce es x y _ (Hr1.out.at hHeld) (by omega)).mono ?_
              rintro e v2 ⟨rfl, hb⟩
              refine hK.out _ _ ?_ (fun hHeld2 => ?_)
              · (try dsimp only); first | exact Below.trans hHeld (Below.mono hb hHeld.size) | exact hHeld | exact Below.drew hHeld | exact (by repeat (first | exact Below.refl _ _ | assumption | refine Below.alloc ?_ (by simp <;> omega) _ | refine Below.setCell ?_ (by simp <;> omega) _ | refine Below.drew ?_))
              clear hK K hHeld
              have hHeld := hHeld2
              clear hHeld2
              (try simp only [Act.put, List.setIfInBounds_toArray, List.set_cons_zero, List.set_cons_succ])
              refine take_yield (i := 4) (v := ?_) rfl (by kernel_rfl) (by kernel_rfl) (by kernel_rfl) (fun _ _ _ h => h) (by rfl) ?_ hHeld ?_
              rotate_left 1
              · (intro w' hSw; clear hSw; go_simp; try with_reducible rfl)
              (try simp only [Act.put, List.setIfInBounds_toArray, List.set_cons_zero, List.set_cons_succ])
              refine take_yield (i := 5) (v := ?_) rfl (by kernel_rfl) (by kernel_rfl) (by kernel_rfl) (fun _ _ _ h => h) (by rfl) ?_ hHeld ?_
              rotate_left 1
              · (intro w' hSw; clear hSw; go_simp; try with_reducible rfl)
              (try simp only [Act.put, List.setIfInBounds_toArray, List.set_cons_zero, List.set_cons_succ])
              refine take_yield (i := 6) (v := ?_) rfl (by kernel_rfl) (by kernel_rfl) (by kernel_rfl) (fun _ _ _ h => h) (by rfl) ?_ hHeld ?_
              rotate_left 1
              · (intro w' hSw; clear hSw; go_simp; try with_reducible rfl)
              (try simp only [Act.put, List.setIfInBounds_toArray, List.set_cons_zero, List.set_cons_succ])
              refine take_yield (i := 7) (v := ?_) rfl (by kernel_rfl) (by kernel_rfl) (by kernel_rfl) (fun _ _ _ h => h) (by rfl) ?_ hHeld ?_
              rotate_left 1
              · (intro w' hSw; have hCell := fun (b o : Nat) (h : b < W.heap.size) => hSw.cell (p := ⟨b, o, none⟩) h; clear hSw; go_simp; try with_reducible rfl)
              (try simp only [Act.put, List.setIfInBounds_toArray, List.set_cons_zero, List.set_cons_succ])
              refine take_yield (i := 8) (v := ?_) rfl (by kernel_rfl) (by kernel_rfl) (by kernel_rfl) (fun _ _ _ h => h) (by rfl) ?_ hHeld ?_
              rotate_left 1
              · (intro w' hSw; clear hSw; go_simp; try with_reducible rfl)
              (try simp only [Act.put, List.setIfInBounds_toArray, List.set_cons_zero, List.set_cons_succ])
              refine take_yield (i := 9) (v := ?_) rfl (by kernel_rfl) (by kernel_rfl) (by kernel_rfl) (fun _ _ _ h => h) (by rfl) ?_ hHeld ?_
              rotate_left 1
              · (intro w' hSw; have hCell := fun (b o : Nat) (h : b < W.heap.size) => hSw.cell (p := ⟨b, o, none⟩) h; clear hSw; go_simp; try with_reducible rfl)
              (try simp only [Act.put, List.setIfInBounds_toArray, List.set_cons_zero, List.set_cons_succ])
              refine take_yield (i := 10) (v := ?_) rfl (by kernel_rfl) (by kernel_rfl) (by kernel_rfl) (fun _ _ _ h => h) (by rfl) ?_ hHeld ?_
              rotate_left 1
              · (intro w' hSw; clear hSw; go_simp; try with_reducible rfl)
              (try simp only [Act.put, List.setIfInBounds_toArray, List.set_cons_zero, List.set_cons_succ])
              refine take_yield (i := 11) (v := ?_) rfl (by kernel_rfl) (by kernel_rfl) (by kernel_rfl) (fun _ _ _ h => h) (by rfl) ?_ hHeld ?_
              rotate_left 1
              · (intro w' hSw; clear hSw; go_simp; try with_reducible rfl)
              (try simp only [Act.put, List.setIfInBounds_toArray, List.set_cons_zero, List.set_cons_succ])
              refine take_yield (i := 12) (v := ?_) rfl (by kernel_rfl) (by kernel_rfl) (by kernel_rfl) (fun _ _ _ h => h) (by rfl) ?_ hHeld ?_
              rotate_left 1
              · (intro w' hSw; clear hSw; go_simp; try with_reducible rfl)
              (try simp only [Act.put, List.setIfInBounds_toArray, List.set_cons_zero, List.set_cons_succ])
              refine take_skip (i := 13) rfl (by kernel_rfl) (by kernel_rfl) (by kernel_rfl) (fun _ _ _ h => h) (by rfl) hHeld ?_
              (try simp only [Act.put, List.setIfInBounds_toArray, List.set_cons_zero, List.set_cons_succ])
              refine take_skip (i := 14) rfl (by kernel_rfl) (by kernel_rfl) (by kernel_rfl) (fun _ _ _ h => h) (by rfl) hHeld ?_
              (try simp only [Act.put, List.setIfInBounds_toArray, List.set_cons_zero, List.set_cons_succ])
              refine take_skip (i := 15) rfl (by kernel_rfl) (by kernel_rfl) (by kernel_rfl) (fun _ _ _ h => h) (by rfl) hHeld ?_
              (try simp only [Act.put, List.setIfInBounds_toArray, List.set_cons_zero, List.set_cons_succ])
              refine take_skip (i := 16) rfl (by kernel_rfl) (by kernel_rfl) (by kernel_rfl) (fun _ _ _ h => h) (by rfl) hHeld ?_
              (try simp only [Act.put, List.setIfInBounds_toArray, List.set_cons_zero, List.set_cons_succ])
              refine take_skip (i := 17) rfl (by kernel_rfl) (by kernel_rfl) (by kernel_rfl) (fun _ _ _ h => h) (by rfl) hHeld ?_
              (try simp only [Act.put, List.setIfInBounds_toArray, List.set_cons_zero, List.set_cons_succ])
              refine take_skip (i := 18) rfl (by kernel_rfl) (by kernel_rfl) (by kernel_rfl) (fun _ _ _ h => h) (by rfl) hHeld ?_
              (try simp only [Act.put, List.setIfInBounds_toArray, List.set_cons_zero, List.set_cons_succ])
              refine take_skip (i := 19) rfl (by kernel_rfl) (by kernel_rfl) (by kernel_rfl) (fun _ _ _ h => h) (by rfl) hHeld ?_
              (try simp only [Act.put, List.setIfInBounds_toArray, List.set_cons_zero, List.set_cons_succ])
              refine take_skip (i := 20) rfl (by kernel_rfl) (by kernel_rfl) (by kernel_rfl) (fun _ _ _ h => h) (by rfl) hHeld ?_
              (try simp only [Act.put, List.setIfInBounds_toArray, List.set_cons_zero, List.set_cons_succ])
              refine take_yield (i := 21) (v := ?_) rfl (by kernel_rfl) (by kernel_rfl) (by kernel_rfl) (fun _ _ _ h => h) (by rfl) ?_ hHeld ?_
              rotate_left 1
              · (intro w' hSw; clear hSw; go_simp; try with_reducible rfl)
              (try simp only [Act.put, List.setIfInBounds_toArray, List.set_cons_zero, List.set_cons_succ])
              refine wpAnyH_done (by kernel_rfl) ?_ _
              replace c00 : v2.cell? ⟨w.heap.size, 0, none⟩ = some (.slice An nn cn) := cellAt c00 hHeld (by omega)
              replace c01 : v2.cell? ⟨w.heap.size, 1, none⟩ = some (.slice Ae es.length ce) := cellAt c01 hHeld (by omega)
              replace c10 : v2.cell? ⟨wr.heap.size, 0, none⟩ = some (sv x) := cellAt c10 hHeld (by omega)
              replace c11 : v2.cell? ⟨wr.heap.size, 1, none⟩ = some (sv y) := cellAt c11 hHeld (by omega)
              replace n1 : w.heap.size < v2.heap.size := ltAt n1 hHeld
              replace Hr1 := Lib.hid (Hr1.out.at hHeld)
              replace HW2 := Lib.hid (HW2.out.on hHeld)
              replace HM2 := Lib.hid (HM2.out.on hHeld)
              replace HK2 := Lib.hid (HK2.out.then (fun j hj => by rw [HS0.out]; exact hj.1) hHeld)
              replace n2 : wr.heap.size < v2.heap.size := ltAt n2 hHeld
              go_wp2_with fail
              go_roundw
              case rel => exact HSt.out v2 HKb.out HW2.out HM2.out HK2.out
              case measure => simp [intOf]; omega
            · have hxy2 : (!x == y) = true := by simpa using hxy
              have Hn := Lib.hid (And.intro hn hxy)
              clear hn hxy
              try go_wp2_with fail
              refine wp_region_held_drew (S := fun w' => Below W.heap.size W w') (by kernel_rfl) (Below.drew (Below.refl _ _)) (fun hHeld => ?_)
              refine take_yield (i := 0) (v := ?_) rfl (by kernel_rfl) (by kernel_rfl) (by kernel_rfl) (fun _ _ _ h => h) (by rfl) ?_ hHeld ?_
              rotate_left 1
              · (intro w' hSw; have hCell := fun (b o : Nat) (h : b < W.heap.size) => hSw.cell (p := ⟨b, o, none⟩) h; clear hSw; go_simp; try with_reducible rfl)
              (try simp only [Act.put, List.setIfInBounds_toArray, List.set_cons_zero, List.set_cons_succ])
              refine take_yield (i := 1) (v := ?_) rfl (by kernel_rfl) (by kernel_rfl) (by kernel_rfl) (fun _ _ _ h => h) (by rfl) ?_ hHeld ?_
              rotate_left 1
              · (intro w' hSw; have hCell := fun (b o : Nat) (h : b < W.heap.size) => hSw.cell (p := ⟨b, o, none⟩) h; clear hSw; go_simp; try with_reducible rfl)
              (try simp only [Act.put, List.setIfInBounds_toArray, List.set_cons_zero, List.set_cons_succ])
              refine take_yield (i := 3) (v := ?_) rfl (by kernel_rfl) (by kernel_rfl) (by kernel_rfl) (fun _ _ _ h => h) (by rfl) ?_ hHeld ?_
              rotate_left 1
              · (intro w' hSw; clear hSw; go_simp; try with_reducible rfl)
              (try simp only [Act.put, List.setIfInBounds_toArray, List.set_cons_zero, List.set_cons_succ])
              refine ready_one (i := 2) rfl (by kernel_rfl) (fun K hK => ?_)
              go_simp
              refine (needs_any An Ae nn cn ce es x y _ (Hr1.out.at hHeld) (by omega)).mono ?_
              rintro e v2 ⟨rfl, hb⟩
              refine hK.out _ _ ?_ (fun hHeld2 => ?_)
              · (try dsimp only); first | exact Below.trans hHeld (Below.mono hb hHeld.size) | exact hHeld | exact Below.drew hHeld | exact (by repeat (first | exact Below.refl _ _ | assumption | refine Below.alloc ?_ (by simp <;> omega) _ | refine Below.setCell ?_ (by simp <;> omega) _ | refine Below.drew ?_))
              clear hK K hHeld
              have hHeld := hHeld2
              clear hHeld2
              (try simp only [Act.put, List.setIfInBounds_toArray, List.set_cons_zero, List.set_cons_succ])
              refine take_yield (i := 4) (v := ?_) rfl (by kernel_rfl) (by kernel_rfl) (by kernel_rfl) (fun _ _ _ h => h) (by rfl) ?_ hHeld ?_
              rotate_left 1
              · (intro w' hSw; clear hSw; go_simp; try with_reducible rfl)
              (try simp only [Act.put, List.setIfInBounds_toArray, List.set_cons_zero, List.set_cons_succ])
              refine take_yield (i := 5) (v := ?_) rfl (by kernel_rfl) (by kernel_rfl) (by kernel_rfl) (fun _ _ _ h => h) (by rfl) ?_ hHeld ?_
              rotate_left 1
              · (intro w' hSw; clear hSw; go_simp; try with_reducible rfl)
              (try simp only [Act.put, List.setIfInBounds_toArray, List.set_cons_zero, List.set_cons_succ])
              refine take_yield (i := 6) (v := ?_) rfl (by kernel_rfl) (by kernel_rfl) (by kernel_rfl) (fun _ _ _ h => h) (by rfl) ?_ hHeld ?_
              rotate_left 1
              · (intro w' hSw; clear hSw; go_simp; try with_reducible rfl)
              (try simp only [Act.put, List.setIfInBounds_toArray, List.set_cons_zero, List.set_cons_succ])
              refine take_yield (i := 7) (v := ?_) rfl (by kernel_rfl) (by kernel_rfl) (by kernel_rfl) (fun _ _ _ h => h) (by rfl) ?_ hHeld ?_
              rotate_left 1
              · (intro w' hSw; have hCell := fun (b o : Nat) (h : b < W.heap.size) => hSw.cell (p := ⟨b, o, none⟩) h; clear hSw; go_simp; try with_reducible rfl)
              (try simp only [Act.put, List.setIfInBounds_toArray, List.set_cons_zero, List.set_cons_succ])
              refine take_yield (i := 8) (v := ?_) rfl (by kernel_rfl) (by kernel_rfl) (by kernel_rfl) (fun _ _ _ h => h) (by rfl) ?_ hHeld ?_
              rotate_left 1
              · (intro w' hSw; clear hSw; go_simp; try with_reducible rfl)
              (try simp only [Act.put, List.setIfInBounds_toArray, List.set_cons_zero, List.set_cons_succ])
              refine take_yield (i := 9) (v := ?_) rfl (by kernel_rfl) (by kernel_rfl) (by kernel_rfl) (fun _ _ _ h => h) (by rfl) ?_ hHeld ?_
              rotate_left 1
              · (intro w' hSw; have hCell := fun (b o : Nat) (h : b < W.heap.size) => hSw.cell (p := ⟨b, o, none⟩) h; clear hSw; go_simp; try with_reducible rfl)
              (try simp only [Act.put, List.setIfInBounds_toArray, List.set_cons_zero, List.set_cons_succ])
              refine take_yield (i := 10) (v := ?_) rfl (by kernel_rfl) (by kernel_rfl) (by kernel_rfl) (fun _ _ _ h => h) (by rfl) ?_ hHeld ?_
              rotate_left 1
              · (intro w' hSw; clear hSw; go_simp; try with_reducible rfl)
              (try simp only [Act.put, List.setIfInBounds_toArray, List.set_cons_zero, List.set_cons_succ])
              refine take_yield (i := 11) (v := ?_) rfl (by kernel_rfl) (by kernel_rfl) (by kernel_rfl) (fun _ _ _ h => h) (by rfl) ?_ hHeld ?_
              rotate_left 1
              · (intro w' hSw; clear hSw; go_simp; try with_reducible rfl)
              (try simp only [Act.put, List.setIfInBounds_toArray, List.set_cons_zero, List.set_cons_succ])
              refine take_yield (i := 12) (v := ?_) rfl (by kernel_rfl) (by kernel_rfl) (by kernel_rfl) (fun _ _ _ h => h) (by rfl) ?_ hHeld ?_
              rotate_left 1
              · (intro w' hSw; clear hSw; go_simp; try with_reducible rfl)
              (try simp only [Act.put, List.setIfInBounds_toArray, List.set_cons_zero, List.set_cons_succ])
              refine take_yield (i := 13) (v := ?_) rfl (by kernel_rfl) (by kernel_rfl) (by kernel_rfl) (fun _ _ _ h => h) (by rfl) ?_ hHeld ?_
              rotate_left 1
              · (intro w' hSw; clear hSw; go_simp; try with_reducible rfl)
              (try simp only [Act.put, List.setIfInBounds_toArray, List.set_cons_zero, List.set_cons_succ])
              refine take_yield (i := 14) (v := ?_) rfl (by kernel_rfl) (by kernel_rfl) (by kernel_rfl) (fun _ _ _ h => h) (by rfl) ?_ hHeld ?_
              rotate_left 1
              · (intro w' hSw; clear hSw; go_simp; try with_reducible rfl)
              (try simp only [Act.put, List.setIfInBounds_toArray, List.set_cons_zero, List.set_cons_succ])
              refine take_yield (i := 15) (v := ?_) rfl (by kernel_rfl) (by kernel_rfl) (by kernel_rfl) (fun _ _ _ h => h) (by rfl) ?_ hHeld ?_
              rotate_left 1
              · (intro w' hSw; have hCell := fun (b o : Nat) (h : b < W.heap.size) => hSw.cell (p := ⟨b, o, none⟩) h; clear hSw; go_simp; try with_reducible rfl)
              (try simp only [Act.put, List.setIfInBounds_toArray, List.set_cons_zero, List.set_cons_succ])
              refine take_yield (i := 17) (v := ?_) rfl (by kernel_rfl) (by kernel_rfl) (by kernel_rfl) (fun _ _ _ h => h) (by rfl) ?_ hHeld ?_
              rotate_left 1
              · (intro w' hSw; clear hSw; go_simp; try with_reducible rfl)
              (try simp only [Act.put, List.setIfInBounds_toArray, List.set_cons_zero, List.set_cons_succ])
              refine take_yield (i := 18) (v := ?_) rfl (by kernel_rfl) (by kernel_rfl) (by kernel_rfl) (fun _ _ _ h => h) (by rfl) ?_ hHeld ?_
              rotate_left 1
              · (intro w' hSw; have hCell := fun (b o : Nat) (h : b < W.heap.size) => hSw.cell (p := ⟨b, o, none⟩) h; clear hSw; go_simp; try with_reducible rfl)
              (try simp only [Act.put, List.setIfInBounds_toArray, List.set_cons_zero, List.set_cons_succ])
              refine ready_one (i := 16) rfl (by kernel_rfl) (fun K hK => ?_)
              go_simp
              refine (behind_any 0 (w.heap.size + 1 + 1) acc y _ (HW2.out.on hHeld).is hpok.2 HMem.out (by omega)).mono ?_
              rintro e v3 ⟨b5, D, rfl, hm5, hD, hlo5, hle5, hb⟩
              have HM5 := Lib.hid hm5
              have HD := Lib.hid hD
              clear hm5 hD
              refine hK.out _ _ ?_ (fun hHeld2 => ?_)
              · (try dsimp only); first | exact Below.trans hHeld (Below.mono hb hHeld.size) | exact hHeld | exact Below.drew hHeld | exact (by repeat (first | exact Below.refl _ _ | assumption | refine Below.alloc ?_ (by simp <;> omega) _ | refine Below.setCell ?_ (by simp <;> omega) _ | refine Below.drew ?_))
              clear hK K hHeld
              have hHeld := hHeld2
              clear hHeld2
              (try simp only [Act.put, List.setIfInBounds_toArray, List.set_cons_zero, List.set_cons_succ])
              refine ready_one (i := 19) rfl (by kernel_rfl) (fun K hK => ?_)
              refine step_lookup_is _ (by rfl) (.tmp 42) (.tmp 44) 57 (by rfl) 4 Tryz.underlying57 (.bool false) (by rfl) b5 _ _ (by rfl) HM5.out x (by rfl) hpok.1 ?_
              rw [setF_get]
              refine hK.out _ _ ?_ (fun hHeld2 => ?_)
              · (try dsimp only); first | exact Below.trans hHeld (Below.mono hb hHeld.size) | exact hHeld | exact Below.drew hHeld | exact (by repeat (first | exact Below.refl _ _ | assumption | refine Below.alloc ?_ (by simp <;> omega) _ | refine Below.setCell ?_ (by simp <;> omega) _ | refine Below.drew ?_))
              clear hK K hHeld
              have hHeld := hHeld2
              clear hHeld2
              (try simp only [Act.put, List.setIfInBounds_toArray, List.set_cons_zero, List.set_cons_succ])
              refine take_yield (i := 20) (v := ?_) rfl (by kernel_rfl) (by kernel_rfl) (by kernel_rfl) (fun _ _ _ h => h) (by rfl) ?_ hHeld ?_
              rotate_left 1
              · (intro w' hSw; clear hSw; go_simp; try with_reducible rfl)
              (try simp only [Act.put, List.setIfInBounds_toArray, List.set_cons_zero, List.set_cons_succ])
              refine take_yield (i := 21) (v := ?_) rfl (by kernel_rfl) (by kernel_rfl) (by kernel_rfl) (fun _ _ _ h => h) (by rfl) ?_ hHeld ?_
              rotate_left 1
              · (intro w' hSw; clear hSw; go_simp; try with_reducible rfl)
              (try simp only [Act.put, List.setIfInBounds_toArray, List.set_cons_zero, List.set_cons_succ])
              refine wpAnyH_done (by kernel_rfl) ?_ _
              replace c00 : v3.cell? ⟨w.heap.size, 0, none⟩ = some (.slice An nn cn) := cellAt c00 hHeld (by omega)
              replace c01 : v3.cell? ⟨w.heap.size, 1, none⟩ = some (.slice Ae es.length ce) := cellAt c01 hHeld (by omega)
              replace c10 : v3.cell? ⟨wr.heap.size, 0, none⟩ = some (sv x) := cellAt c10 hHeld (by omega)
              replace c11 : v3.cell? ⟨wr.heap.size, 1, none⟩ = some (sv y) := cellAt c11 hHeld (by omega)
              replace n1 : w.heap.size < v3.heap.size := ltAt n1 hHeld
              replace Hr1 := Lib.hid (Hr1.out.at hHeld)
              replace HW2 := Lib.hid (HW2.out.on hHeld)
              replace HM2 := Lib.hid (HM2.out.on hHeld)
              replace HK2 := Lib.hid (HK2.out.then (fun j hj => by rw [HS0.out]; exact hj.1) hHeld)
              replace n2 : wr.heap.size < v3.heap.size := ltAt n2 hHeld
              cases hd0 : decide (x ∈ D)
              · have hkb : keepB es first acc (x, y) = true := by rw [keepB_iff]; exact ⟨Hn.out.1, Hn.out.2, fun h => by have := (HD.out x).2 (mem_reachL.2 h); simp [this] at hd0⟩
                have HKb := Lib.hid hkb
                have Hd0 := Lib.hid hd0
                clear hkb hd0
                have hmn : acc.length < maxLen := by unfold maxLen; omega
                go_wp2_with (first
                  | (at_mapUpdate; refine wpList_update_is _ (by rfl) (.tmp 48) (.tmp 49) (.const (.bool true)) 88 (by rfl) 4 Tryz.underlying88 (w.heap.size + 1) _ _ (by rfl) HM2.out hmn (x, y) (.bool true) (by rfl) (by rfl) hpok ?_; intro v4 hm4 hg4; have d10 : v4.cell? ⟨wr.heap.size, 0, none⟩ = some (sv x) := (World.cell?_of_block (a := ⟨wr.heap.size, 0, none⟩) (hg4.block wr.heap.size n2 (by simp; omega))).trans c10; have d11 : v4.cell? ⟨wr.heap.size, 1, none⟩ = some (sv y) := (World.cell?_of_block (a := ⟨wr.heap.size, 1, none⟩) (hg4.block wr.heap.size n2 (by simp; omega))).trans c11; have hz4 : v3.heap.size ≤ v4.heap.size := hg4.size; have HM4 := Lib.hid hm4; have HG4 := Lib.hid hg4; clear hm4 hg4)
                  | fail)
                have hz3 : wr.heap.size ≤ v3.heap.size := Nat.le_of_lt n2
                have HW4 := Lib.hid (HW2.out.kept HG4.out ⟨by omega, by omega⟩)
                have hXlt : ∀ j, (j < w2.heap.size + 1 ∧ j ≠ w.heap.size + 1 + 1) → j < v4.heap.size := fun j hj => by omega
                have HXl := Lib.hid hXlt
                clear hXlt
                refine (put_any (fun j => j < w2.heap.size + 1 ∧ j ≠ w.heap.size + 1 + 1) (w.heap.size + 1 + 1) acc x y v4 HW4.out HXl.out hpok.1 (by omega)).mono ?_
                rintro e v5 ⟨rfl, hw5, hk5⟩
                have HW5 := Lib.hid hw5
                have HK5 := Lib.hid hk5
                clear hw5 hk5
                go_wp2_with fail
                go_roundw
                case rel =>
                  refine ⟨k + 1, by omega, by go_num, ?_⟩
                  rw [HPt.out, if_pos HKb.out]
                  refine ⟨HW5.out, ?_, HK2.out.trans ((Keeps.of_grown HG4.out (fun j hj => by omega) (by omega)).trans (HK5.out.mono (fun j hj => ⟨hj.1, hj.2.1⟩)))⟩
                  rw [List.length_append]
                  exact HK5.out.map (setP_put HM4.out (by simp) (fun s hs => by simp [hs])) ⟨by omega, by omega⟩
                case measure => simp [intOf]; omega
              · have hkb : ¬ keepB es first acc (x, y) = true := by rw [keepB_iff]; exact fun h => h.2.2 (mem_reachL.1 ((HD.out x).1 (by simpa using hd0)))
                have HKb := Lib.hid hkb
                have Hd0 := Lib.hid hd0
                clear hkb hd0
                go_wp2_with fail
                go_roundw
                case rel => exact HSt.out v3 HKb.out HW2.out HM2.out HK2.out
                case measure => simp [intOf]; omega
          · have hn2 : (needsB es (x, y) == first) = false := by simpa using hn
            have hkb : ¬ keepB es first acc (x, y) = true := by rw [keepB_iff]; exact fun h => hn h.1
            have HKb := Lib.hid hkb
            have Hn := Lib.hid hn
            clear hkb hn
            try go_wp2_with fail
            refine wp_region_held_drew (S := fun w' => Below W.heap.size W w') (by kernel_rfl) (Below.drew (Below.refl _ _)) (fun hHeld => ?_)
            refine take_yield (i := 0) (v := ?_) rfl (by kernel_rfl) (by kernel_rfl) (by kernel_rfl) (fun _ _ _ h => h) (by rfl) ?_ hHeld ?_
            rotate_left 1
            · (intro w' hSw; have hCell := fun (b o : Nat) (h : b < W.heap.size) => hSw.cell (p := ⟨b, o, none⟩) h; clear hSw; go_simp; try with_reducible rfl)
            (try simp only [Act.put, List.setIfInBounds_toArray, List.set_cons_zero, List.set_cons_succ])
            refine take_yield (i := 1) (v := ?_) rfl (by kernel_rfl) (by kernel_rfl) (by kernel_rfl) (fun _ _ _ h => h) (by rfl) ?_ hHeld ?_
            rotate_left 1
            · (intro w' hSw; have hCell := fun (b o : Nat) (h : b < W.heap.size) => hSw.cell (p := ⟨b, o, none⟩) h; clear hSw; go_simp; try with_reducible rfl)
            (try simp only [Act.put, List.setIfInBounds_toArray, List.set_cons_zero, List.set_cons_succ])
            refine take_yield (i := 3) (v := ?_) rfl (by kernel_rfl) (by kernel_rfl) (by kernel_rfl) (fun _ _ _ h => h) (by rfl) ?_ hHeld ?_
            rotate_left 1
            · (intro w' hSw; clear hSw; go_simp; try with_reducible rfl)
            (try simp only [Act.put, List.setIfInBounds_toArray, List.set_cons_zero, List.set_cons_succ])
            refine ready_one (i := 2) rfl (by kernel_rfl) (fun K hK => ?_)
            go_simp
            refine (needs_any An Ae nn cn ce es x y _ (Hr1.out.at hHeld) (by omega)).mono ?_
            rintro e v2 ⟨rfl, hb⟩
            refine hK.out _ _ ?_ (fun hHeld2 => ?_)
            · (try dsimp only); first | exact Below.trans hHeld (Below.mono hb hHeld.size) | exact hHeld | exact Below.drew hHeld | exact (by repeat (first | exact Below.refl _ _ | assumption | refine Below.alloc ?_ (by simp <;> omega) _ | refine Below.setCell ?_ (by simp <;> omega) _ | refine Below.drew ?_))
            clear hK K hHeld
            have hHeld := hHeld2
            clear hHeld2
            (try simp only [Act.put, List.setIfInBounds_toArray, List.set_cons_zero, List.set_cons_succ])
            refine take_yield (i := 4) (v := ?_) rfl (by kernel_rfl) (by kernel_rfl) (by kernel_rfl) (fun _ _ _ h => h) (by rfl) ?_ hHeld ?_
            rotate_left 1
            · (intro w' hSw; clear hSw; go_simp; try with_reducible rfl)
            (try simp only [Act.put, List.setIfInBounds_toArray, List.set_cons_zero, List.set_cons_succ])
            refine take_yield (i := 5) (v := ?_) rfl (by kernel_rfl) (by kernel_rfl) (by kernel_rfl) (fun _ _ _ h => h) (by rfl) ?_ hHeld ?_
            rotate_left 1
            · (intro w' hSw; clear hSw; go_simp; try with_reducible rfl)
            (try simp only [Act.put, List.setIfInBounds_toArray, List.set_cons_zero, List.set_cons_succ])
            refine take_skip (i := 6) rfl (by kernel_rfl) (by kernel_rfl) (by kernel_rfl) (fun _ _ _ h => h) (by rfl) hHeld ?_
            (try simp only [Act.put, List.setIfInBounds_toArray, List.set_cons_zero, List.set_cons_succ])
            refine take_skip (i := 7) rfl (by kernel_rfl) (by kernel_rfl) (by kernel_rfl) (fun _ _ _ h => h) (by rfl) hHeld ?_
            (try simp only [Act.put, List.setIfInBounds_toArray, List.set_cons_zero, List.set_cons_succ])
            refine take_skip (i := 8) rfl (by kernel_rfl) (by kernel_rfl) (by kernel_rfl) (fun _ _ _ h => h) (by rfl) hHeld ?_
            (try simp only [Act.put, List.setIfInBounds_toArray, List.set_cons_zero, List.set_cons_succ])
            refine take_skip (i := 9) rfl (by kernel_rfl) (by kernel_rfl) (by kernel_rfl) (fun _ _ _ h => h) (by rfl) hHeld ?_
            (try simp only [Act.put, List.setIfInBounds_toArray, List.set_cons_zero, List.set_cons_succ])
            refine take_skip (i := 10) rfl (by kernel_rfl) (by kernel_rfl) (by kernel_rfl) (fun _ _ _ h => h) (by rfl) hHeld ?_
            (try simp only [Act.put, List.setIfInBounds_toArray, List.set_cons_zero, List.set_cons_succ])
            refine take_yield (i := 11) (v := ?_) rfl (by kernel_rfl) (by kernel_rfl) (by kernel_rfl) (fun _ _ _ h => h) (by rfl) ?_ hHeld ?_
            rotate_left 1
            · (intro w' hSw; clear hSw; go_simp; try with_reducible rfl)
            (try simp only [Act.put, List.setIfInBounds_toArray, List.set_cons_zero, List.set_cons_succ])
            refine take_yield (i := 12) (v := ?_) rfl (by kernel_rfl) (by kernel_rfl) (by kernel_rfl) (fun _ _ _ h => h) (by rfl) ?_ hHeld ?_
            rotate_left 1
            · (intro w' hSw; clear hSw; go_simp; try with_reducible rfl)
            (try simp only [Act.put, List.setIfInBounds_toArray, List.set_cons_zero, List.set_cons_succ])
            refine take_skip (i := 13) rfl (by kernel_rfl) (by kernel_rfl) (by kernel_rfl) (fun _ _ _ h => h) (by rfl) hHeld ?_
            (try simp only [Act.put, List.setIfInBounds_toArray, List.set_cons_zero, List.set_cons_succ])
            refine take_skip (i := 14) rfl (by kernel_rfl) (by kernel_rfl) (by kernel_rfl) (fun _ _ _ h => h) (by rfl) hHeld ?_
            (try simp only [Act.put, List.setIfInBounds_toArray, List.set_cons_zero, List.set_cons_succ])
            refine take_skip (i := 15) rfl (by kernel_rfl) (by kernel_rfl) (by kernel_rfl) (fun _ _ _ h => h) (by rfl) hHeld ?_
            (try simp only [Act.put, List.setIfInBounds_toArray, List.set_cons_zero, List.set_cons_succ])
            refine take_skip (i := 16) rfl (by kernel_rfl) (by kernel_rfl) (by kernel_rfl) (fun _ _ _ h => h) (by rfl) hHeld ?_
            (try simp only [Act.put, List.setIfInBounds_toArray, List.set_cons_zero, List.set_cons_succ])
            refine take_skip (i := 17) rfl (by kernel_rfl) (by kernel_rfl) (by kernel_rfl) (fun _ _ _ h => h) (by rfl) hHeld ?_
            (try simp only [Act.put, List.setIfInBounds_toArray, List.set_cons_zero, List.set_cons_succ])
            refine take_skip (i := 18) rfl (by kernel_rfl) (by kernel_rfl) (by kernel_rfl) (fun _ _ _ h => h) (by rfl) hHeld ?_
            (try simp only [Act.put, List.setIfInBounds_toArray, List.set_cons_zero, List.set_cons_succ])
            refine take_skip (i := 19) rfl (by kernel_rfl) (by kernel_rfl) (by kernel_rfl) (fun _ _ _ h => h) (by rfl) hHeld ?_
            (try simp only [Act.put, List.setIfInBounds_toArray, List.set_cons_zero, List.set_cons_succ])
            refine take_skip (i := 20) rfl (by kernel_rfl) (by kernel_rfl) (by kernel_rfl) (fun _ _ _ h => h) (by rfl) hHeld ?_
            (try simp only [Act.put, List.setIfInBounds_toArray, List.set_cons_zero, List.set_cons_succ])
            refine take_yield (i := 21) (v := ?_) rfl (by kernel_rfl) (by kernel_rfl) (by kernel_rfl) (fun _ _ _ h => h) (by rfl) ?_ hHeld ?_
            rotate_left 1
            · (intro w' hSw; clear hSw; go_simp; try with_reducible rfl)
            (try simp only [Act.put, List.setIfInBounds_toArray, List.set_cons_zero, List.set_cons_succ])
            refine wpAnyH_done (by kernel_rfl) ?_ _
            replace c00 : v2.cell? ⟨w.heap.size, 0, none⟩ = some (.slice An nn cn) := cellAt c00 hHeld (by omega)
            replace c01 : v2.cell? ⟨w.heap.size, 1, none⟩ = some (.slice Ae es.length ce) := cellAt c01 hHeld (by omega)
            replace c10 : v2.cell? ⟨wr.heap.size, 0, none⟩ = some (sv x) := cellAt c10 hHeld (by omega)
            replace c11 : v2.cell? ⟨wr.heap.size, 1, none⟩ = some (sv y) := cellAt c11 hHeld (by omega)
            replace n1 : w.heap.size < v2.heap.size := ltAt n1 hHeld
            replace Hr1 := Lib.hid (Hr1.out.at hHeld)
            replace HW2 := Lib.hid (HW2.out.on hHeld)
            replace HM2 := Lib.hid (HM2.out.on hHeld)
            replace HK2 := Lib.hid (HK2.out.then (fun j hj => by rw [HS0.out]; exact hj.1) hHeld)
            replace n2 : wr.heap.size < v2.heap.size := ltAt n2 hHeld
            go_wp2_with fail
            go_roundw
            case rel => exact HSt.out v2 HKb.out HW2.out HM2.out HK2.out
            case measure => simp [intOf]; omega
        · have hkn : k = (prsL es).length := by omega
          rw [List.take_of_length_le (by omega), ← HFi.out, accL_next es i hlt] at hw hm
          have HW2 := Lib.hid hw
          have HM2 := Lib.hid hm
          have HK2 := Lib.hid hkp
          clear hw hm hkp hmem hlen
          go_wp2_with fail
          go_roundw
          case rel => exact ⟨i + 1, by omega, by go_num, HW2.out, HM2.out, HK2.out⟩
          case measure => simp [intOf]; omega
    · have hi2 : i = 2 := by omega
      subst hi2
      have HM1 := Lib.hid hm
      have HK1 := Lib.hid hk
      clear hw hm hk
      go_wp2_with fail
      go_ret
      exact ⟨w.heap.size + 1, _, rfl, HM1.out, by omega, HB.out.trans (HK1.out.below (fun j hj => ⟨by omega, by omega, by omega⟩))⟩
end Od
end Go.Proofs.YtclaoffnfopekaaGreat
end

section
/- The rows of the program's table of types that appends ask for. -/
namespace Go.Proofs.YtclaoffnfopekaaGreat
open Go.RowKit
namespace Od
theorem inS : (Tryz.prog.info? 9).map (fun i => (i.zero, i.size, i.bytes)) = some (some (.string ⟨#[]⟩), 1, 16) := by kernel_rfl
theorem inE : (Tryz.prog.info? 34).map (fun i => (i.zero, i.size, i.bytes)) = some (some (.agg #[.string ⟨#[]⟩, .string ⟨#[]⟩, .int .i64 0]), 3, 40) := by kernel_rfl
theorem inN : (Tryz.prog.info? 43).map (fun i => (i.zero, i.size, i.bytes)) = some (some (.agg #[.string ⟨#[]⟩, .int .i64 0, .int .i64 0]), 3, 32) := by kernel_rfl
theorem inP2 : (Tryz.prog.info? 61).map (fun i => (i.zero, i.size, i.bytes)) = some (some (.agg #[.string ⟨#[]⟩, .string ⟨#[]⟩]), 2, 32) := by kernel_rfl
end Od
end Go.Proofs.YtclaoffnfopekaaGreat
end
