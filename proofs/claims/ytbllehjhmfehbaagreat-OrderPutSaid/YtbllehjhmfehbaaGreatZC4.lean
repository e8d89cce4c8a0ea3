/- My texts, joined for the claim: OSort GName Shelf2 NChars NKind NMay GEqE RSameP. -/
import Derived.Test.YtbllehjhmfehbaaGreatZC3
import Derived.Test.YtbllehjhmfehbaaGreatZC2
import Derived.Test.YtbllehjhmfehbaaGreatZC0
import Derived.Lib.IndexLaws
import Derived.Lib.LastIndexByte
import Derived.Lib.IndexAny
import Derived.Shelf.Small.Bits
import Derived.Shelf.Small.Strs
import Derived.Shelf.Small.Wraps
import Derived.Shelf.Strconv.Itoa0
import Derived.Shelf.Strings.Search1
import Derived.Shelf.Strings.Search2
import Derived.Shelf.Strings.Cut
import Derived.Shelf.LaysM
import Derived.Shelf.Strings.Shaped
import Derived.Shelf.Sort.Plain
import Derived.Shelf.Strings.LastIndex
import Derived.Shelf.Strings.LastIndexAll
import Derived.Shelf.Slices.Turned
import Derived.Ground.Names2Prog
import Derived.Shelf.Slices.Clone
import Derived.Shelf.Slices.CompactS
import Derived.Shelf.Slices.SearchI
import Derived.Shelf.Slices.Delete
import Derived.Shelf.Slices.Cells
import Derived.Shelf.Slices.In.SortNone
import Derived.Shelf.Slices.Empties
import Derived.Ground.SlgnProg
import Derived.Shelf.SlicesE.Delete
import Derived.Shelf.SlicesE.Clone
import Derived.Ground.PaProg
import Derived.Shelf.Path.Small
import Derived.Test.YtbllehjhmfehbaaGreatProg
import Derived.Test.YtbllehjhmfehbaaGreatRows
import Derived.Test.YtbllehjhmfehbaaGreatZC1
import Derived.Shelf.Abstract
import Derived.WalkKit

section
/- The walk of order.Sort. -/
namespace Go.Proofs.YtbllehjhmfehbaaGreat
open Go.RowKit Go.Sort

theorem ownBlock_len (A : Option Addr) (n c m d : Nat) : (Value.slice A n c).ownBlock = (Value.slice A m d).ownBlock := by cases A <;> rfl
theorem grownBy_setCell (w : World) (p : Addr) (u : Value) : w.grownBy (w.setCell p u) (some p.block) :=
  ⟨rfl, rfl, rfl, by simp [World.setCell], fun k _ hne => Below.heap_setCell _ _ _ _ (fun e => hne (by rw [e]))⟩
theorem cell_kept {w w' : World} {b o : Nat} {v : Value} {row : Option Nat} (c : w.cell? ⟨b, o, none⟩ = some v) (hg : w.grownBy w' row) (hb : b < w.heap.size) (hne : row ≠ some b) : w'.cell? ⟨b, o, none⟩ = some v :=
  (World.cell?_of_block (a := ⟨b, o, none⟩) (hg.block b hb (fun e => hne e.symm))).trans c
theorem fro_kept {w w' : World} {b o : Nat} {row : Option Nat} (c : w.frozen? ⟨b, o, none⟩ = false) (hg : w.grownBy w' row) (hb : b < w.heap.size) (hne : row ≠ some b) : w'.frozen? ⟨b, o, none⟩ = false :=
  (World.frozen?_of_block (a := ⟨b, o, none⟩) (hg.block b hb (fun e => hne e.symm))).trans c
namespace Od
set_option maxRecDepth 100000 in
set_option maxHeartbeats 1000000 in
theorem cloneS_own (A : Option Addr) (c : Nat) (ss : List Str) (w : World) (hr : Rd w w.heap.size 1 A ss.length (svs ss)) (hl : ss.length ≤ 1000000) :
    Calls Tryz.prog 113 #[.slice A ss.length c] w fun e w' => ∃ A' c', e = .returned (.slice A' ss.length c') ∧ w'.ownsRow w.heap.size 9 1 (.slice A' ss.length c') ss.length (svs ss) ∧ Below w.heap.size w w' := by
  cases A with
  | none =>
    have hn : ss = [] := by
      rcases Nat.eq_zero_or_pos ss.length with h | h
      · exact List.length_eq_zero_iff.1 h
      · obtain ⟨ad, h, _⟩ := hr.2 h; cases h
    subst hn
    refine (Tryz.slices_Clone_string_nil _ c w).mono ?_
    rintro e w' ⟨rfl, rfl⟩
    exact ⟨none, 0, rfl, World.ownsRow_nil _ _ _ _, Below.refl _ _⟩
  | some ad =>
    rcases Nat.eq_zero_or_pos ss.length with h | h
    · have hn := List.length_eq_zero_iff.1 h
      subst hn
      refine (Tryz.slices_Clone_string_zero ad c w).mono ?_
      rintro e w' ⟨v', rfl, ho, _, hb⟩
      obtain ⟨A', c', rfl, _⟩ := own_rd ho
      exact ⟨A', c', rfl, ho, hb⟩
    · obtain ⟨b, o, e, hb0, hc⟩ := hr.open h
      injection e with e
      subst e
      refine (Tryz.slices_Clone_string b o ss.length c (ss.map fun s => ⟨s.toArray⟩) w (by simp) (by omega) (fun j hj => ?_)).mono ?_
      · have hj' : j < ss.length := by simpa using hj
        rw [hc j (by omega)]
        simp [svs, hj']
      · rintro e w' ⟨v', rfl, ho, _, hb⟩
        have hx : (((ss.map fun s => (⟨s.toArray⟩ : ByteArray)).take ss.length).map Value.string) = svs ss := by
          rw [List.take_of_length_le (by simp)]; simp [svs]
        rw [hx] at ho
        obtain ⟨A', c', rfl, _⟩ := own_rd ho
        exact ⟨A', c', rfl, ho, hb⟩
/-- What the closures of Sort read. -/
structure SortSees (w : World) (pg : Nat) (An Ae : Option Addr) (nn cn ce : Nat) (es : List Ed) : Prop where
  g0 : w.cell? ⟨pg, 0, none⟩ = some (.slice An nn cn)
  g1 : w.cell? ⟨pg, 1, none⟩ = some (.slice Ae es.length ce)
  rd : Rd w w.heap.size 3 Ae es.length (edsC es)
theorem SortSees.at {w w' : World} {pg : Nat} {An Ae : Option Addr} {nn cn ce : Nat} {es : List Ed} (h : SortSees w pg An Ae nn cn ce es) (hb : Below w.heap.size w w') : SortSees w' pg An Ae nn cn ce es :=
  ⟨cellAt h.g0 hb (cell_blk h.g0), cellAt h.g1 hb (cell_blk h.g1), h.rd.at hb⟩
section
variable {pg : Nat} {An Ae : Option Addr} {nn cn ce : Nat} {es : List Ed}
set_option maxHeartbeats 1000000 in
theorem Sort11_any (a b : Str) (pb : Nat) (w : World) (h : SortSees w pg An Ae nn cn ce es) (hp : w.cell? ⟨pb, 0, none⟩ = some (sv b)) (hl : es.length ≤ 1000000) :
    Calls Tryz.prog 117 #[sv a, .pointer (some ⟨pg, 0, none⟩), .pointer (some ⟨pb, 0, none⟩)] w fun e w' => e = .returned (.bool (es.any (aheadB a b))) ∧ Below w.heap.size w w' := by
  have g0 := h.g0
  have g1 := h.g1
  have Hr := Lib.hid h.rd
  clear h
  go_enter Tryz.func117, Tryz.ntmps117
  go_wp2_with fail
  refine (Ahead_any An Ae nn cn ce es a b w Hr.out hl).mono ?_
  rintro e w2 ⟨rfl, hb⟩
  go_wp2_with fail
  go_ret
  exact ⟨rfl, hb⟩
theorem says_sort11 (b : Str) (pb : Nat) (w : World) (h : SortSees w pg An Ae nn cn ce es) (hp : w.cell? ⟨pb, 0, none⟩ = some (sv b)) (hl : es.length ≤ 1000000) :
    SaysS 117 #[.pointer (some ⟨pg, 0, none⟩), .pointer (some ⟨pb, 0, none⟩)] (fun a => es.any (aheadB a b)) w where
  enters := enters_of Tryz.func117 (by kernel_rfl) rfl
  says := fun W a hb => Sort11_any a b pb W (h.at hb) (cellAt hp hb (cell_blk hp)) hl
set_option maxHeartbeats 1000000 in
theorem Sort1_any (b : Str) (pl : Nat) (A : Option Addr) (c : Nat) (left : List Str) (w : World) (h : SortSees w pg An Ae nn cn ce es) (hp : w.cell? ⟨pl, 0, none⟩ = some (.slice A left.length c)) (hr : Rd w w.heap.size 1 A left.length (svs left)) (hl : es.length ≤ 1000000) (hll : left.length ≤ 1000000) :
    Calls Tryz.prog 115 #[sv b, .pointer (some ⟨pl, 0, none⟩), .pointer (some ⟨pg, 0, none⟩)] w fun e w' => e = .returned (.bool (!waitsB es left b)) ∧ Below w.heap.size w w' := by
  have Hs := Lib.hid h
  have Hr := Lib.hid hr
  have npl : pl < w.heap.size := cell_blk hp
  clear h hr
  go_enter Tryz.func115, Tryz.ntmps115
  go_wp2_with fail
  first | (refine wp_named ?_; intro W1 hW) | (refine calls_named ?_; intro W1 hW)
  have B1 : Below w.heap.size w W1 := by rw [hW]; exact (by repeat (first | exact Below.refl _ _ | assumption | refine Below.alloc ?_ (by simp <;> omega) _ | refine Below.setCell ?_ (by simp <;> omega) _ | refine Below.drew ?_))
  replace hp := cellAt hp B1 (by omega)
  replace Hs := Lib.hid (Hs.out.at B1)
  replace Hr := Lib.hid (Hr.out.at B1)
  replace npl : pl < W1.heap.size := ltAt npl B1
  have n1 : w.heap.size < W1.heap.size := by rw [hW]; simp <;> omega
  have c0 : W1.cell? ⟨w.heap.size, 0, none⟩ = some (sv b) := by rw [hW]; go_simp
  clear hW
  refine (ContainsFuncS A c left _ _ (fun a => es.any (aheadB a b)) W1 Hr.out hll (says_sort11 b w.heap.size W1 Hs.out c0 hl)).mono ?_
  rintro e w2 ⟨rfl, hb⟩
  go_wp2_with fail
  go_ret
  exact ⟨rfl, lift B1 hb⟩
theorem says_sort1 (pl : Nat) (A : Option Addr) (c : Nat) (left : List Str) (w : World) (h : SortSees w pg An Ae nn cn ce es) (hp : w.cell? ⟨pl, 0, none⟩ = some (.slice A left.length c)) (hr : Rd w w.heap.size 1 A left.length (svs left)) (hl : es.length ≤ 1000000) (hll : left.length ≤ 1000000) :
    SaysS 115 #[.pointer (some ⟨pl, 0, none⟩), .pointer (some ⟨pg, 0, none⟩)] (fun b => !waitsB es left b) w where
  enters := enters_of Tryz.func115 (by kernel_rfl) rfl
  says := fun W b hb => Sort1_any b pl A c left W (h.at hb) (cellAt hp hb (cell_blk hp)) (hr.at hb) hl hll
end
/-- What a sort hands back. -/
def SortIs (r : Option (List Str)) (w : World) (e : Ending) (w' : World) : Prop := ∃ A c, e = .returned (.tuple #[.slice A (r.getD []).length c, .bool r.isSome]) ∧ (r.getD []).length ≤ c ∧ Rd w' w'.heap.size 1 A (r.getD []).length (svs (r.getD [])) ∧ Below w.heap.size w w'
set_option maxRecDepth 100000 in
set_option maxHeartbeats 4000000 in
theorem Sort_any (An Ae : Option Addr) (nn cn ce : Nat) (es : List Ed) (A : Option Addr) (c : Nat) (units : List Str) (w : World) (hr : Rd w w.heap.size 3 Ae es.length (edsC es)) (hu : Rd w w.heap.size 1 A units.length (svs units)) (hl : es.length ≤ 1000000) (hul : units.length ≤ 100000) :
    Calls Tryz.prog 77 #[gV An nn cn Ae es.length ce, .slice A units.length c] w (SortIs (sortU es units) w) := by
  obtain ⟨i0, hi, hz0, hz1, hz2⟩ := info_parts inS
  have Hr := Lib.hid hr
  have Hu := Lib.hid hu
  clear hr hu
  go_enter Tryz.func77, Tryz.ntmps77
  go_wp2_with fail
  first | (refine wp_named ?_; intro W1 hW) | (refine calls_named ?_; intro W1 hW)
  have B1 : Below w.heap.size w W1 := by rw [hW]; exact (by repeat (first | exact Below.refl _ _ | assumption | refine Below.alloc ?_ (by simp <;> omega) _ | refine Below.setCell ?_ (by simp <;> omega) _ | refine Below.drew ?_))
  replace Hr := Lib.hid (Hr.out.at B1)
  replace Hu := Lib.hid (Hu.out.at B1)
  have n1 : w.heap.size < W1.heap.size := by rw [hW]; simp <;> omega
  have c0 : W1.cell? ⟨w.heap.size, 0, none⟩ = some (.slice An nn cn) := by rw [hW]; go_simp
  have c1 : W1.cell? ⟨w.heap.size, 1, none⟩ = some (.slice Ae es.length ce) := by rw [hW]; go_simp
  clear hW
  have HB1 := Lib.hid B1
  have HSee := Lib.hid (show SortSees W1 w.heap.size An Ae nn cn ce es from ⟨c0, c1, Hr.out⟩)
  clear B1 c0 c1
  refine (cloneS_own A c units W1 Hu.out (by omega)).mono ?_
  rintro e w2 ⟨A2, c2, rfl, ho2, hb⟩
  have HO := Lib.hid ho2
  have HB := Lib.hid hb
  have hz2' := hb.size
  have hoffl : ∀ g, (Value.slice A2 units.length c2).ownBlock = some g → g < w2.heap.size := fun g hg => (ho2.lt g hg).2
  clear ho2 hb
  go_wp2_with fail
  first | (refine wp_named ?_; intro W3 hW) | (refine calls_named ?_; intro W3 hW)
  have B3 : Below w2.heap.size w2 W3 := by rw [hW]; exact (by repeat (first | exact Below.refl _ _ | assumption | refine Below.alloc ?_ (by simp <;> omega) _ | refine Below.setCell ?_ (by simp <;> omega) _ | refine Below.drew ?_))
  replace HO := Lib.hid (own_on HO.out B3)
  replace HB := Lib.hid (HB.out.trans (B3.mono HB.out.size))
  have p3 : w2.heap.size < W3.heap.size := by rw [hW]; simp <;> omega
  have k3 : W3.cell? ⟨w2.heap.size, 0, none⟩ = some (.slice A2 units.length c2) := by rw [hW]; go_simp
  have f3 : W3.frozen? ⟨w2.heap.size, 0, none⟩ = false := by rw [hW]; go_simp
  clear hW
  have hoff : (Value.slice A2 units.length c2).ownBlock ≠ some w2.heap.size := fun h => Nat.lt_irrefl _ (hoffl _ h)
  have hz3 : W1.heap.size ≤ W3.heap.size := HB.out.size
  refine (sortS_own W1.heap.size c2 A2 units W3 HO.out (by omega)).mono ?_
  rintro e v1 ⟨rfl, h1, g1⟩
  have k4 := cell_kept k3 g1 p3 hoff
  have f4 := fro_kept f3 g1 p3 hoff
  have p4 : w2.heap.size < v1.heap.size := Nat.lt_of_lt_of_le p3 g1.size
  have HB4 := Lib.hid (HB.out.grown g1 hz3 (fun g hg => (HO.out.lt g hg).1))
  have HO4 := Lib.hid h1
  clear h1 g1 k3 f3
  go_wp2_with fail
  have hsl := sortS_len units
  refine (show Calls Tryz.prog 104 #[.slice A2 units.length c2] v1 _ from hsl ▸ compactS_own W1.heap.size c2 A2 (sortS units) v1 (by rw [hsl]; exact HO4.out) (by omega)).mono ?_
  rintro e v2 ⟨rfl, h2, g2⟩
  have hL : Lib.compact (sortS units) = canon ltS units := onceS_canon units
  rw [hL] at h2 ⊢
  have hll := canon_len (lt := ltS) units
  have k5 := cell_kept k4 g2 p4 hoff
  have f5 := fro_kept f4 g2 p4 hoff
  have p5 : w2.heap.size < v2.heap.size := Nat.lt_of_lt_of_le p4 g2.size
  have hz4 : W1.heap.size ≤ v1.heap.size := HB4.out.size
  have HB5 := Lib.hid (HB4.out.grown g2 hz4 (fun g hg => (HO4.out.lt g hg).1))
  have HO5 := Lib.hid h2
  have HT := Lib.hid (show sortGo es (canon ltS units).length (canon ltS units) [] = sortU es units from rfl)
  clear h2 g2 k4 f4 hL hsl
  generalize canon ltS units = L at *
  generalize sortU es units = T at *
  go_wp2_with fail
  go_loopw [7] (fun v wr => ∃ (left out : List Str) (B : Option Addr) (d : Nat), wr.cell? ⟨w2.heap.size, 0, none⟩ = some (.slice B left.length d) ∧ wr.frozen? ⟨w2.heap.size, 0, none⟩ = false ∧ wr.ownsRow W1.heap.size 9 1 (.slice B left.length d) left.length (svs left) ∧
    wr.ownsRow W1.heap.size 9 1 v out.length (svs out) ∧ Sep (.slice B left.length d) v ∧ (Value.slice B left.length d).ownBlock ≠ some w2.heap.size ∧ v.ownBlock ≠ some w2.heap.size ∧ sortGo es left.length left out = T ∧ left.length + out.length ≤ units.length ∧ Below W1.heap.size W1 wr ∧ w2.heap.size < wr.heap.size)
    (fun _ wr => match wr.cell? ⟨w2.heap.size, 0, none⟩ with | some (.slice _ n _) => n | _ => 0)
  case atStart =>
    rw [ownBlock_len A2 _ _ L.length c2] at hoff
    refine ⟨L, [], A2, c2, ?_, ?_, HO5.out.kept (grownBy_setCell _ _ _) (by cases hv : (Value.slice A2 L.length c2).ownBlock with | none => exact .inl rfl | some g => exact .inr (fun e => hoff (by rw [← hv] at e; exact e))), World.ownsRow_nil _ _ _ _, .inr (.inl rfl), hoff, by simp [Value.ownBlock], HT.out, by simpa using hll, HB5.out.setCell hz2' _, by simpa using p5⟩
    · exact World.cell?_setCell_same _ _ _ k5
    · simpa using f5
  case round =>
    obtain ⟨left, out, B, d, kc, kf, hol, hoo, hsep, hofl, hofo, hgo, hlen, hb, hpl⟩ := hrel
    obtain ⟨A7, c7, hv7, _⟩ := own_rd hoo
    subst hv7
    have hcap := own_cap hol
    have HOl := Lib.hid hol
    have HOo := Lib.hid hoo
    have HS := Lib.hid hsep
    have HOf := Lib.hid (And.intro hofl hofo)
    have HGo := Lib.hid hgo
    have HBr := Lib.hid hb
    have hzr : W1.heap.size ≤ wr.heap.size := hb.size
    clear hol hoo hsep hofl hofo hgo hb
    by_cases h0 : left.length = 0
    · have hnil := List.length_eq_zero_iff.1 h0
      subst hnil
      have hgt : decide ((0 : Int) < ((([] : List Str).length : Nat) : Int)) = false := rfl
      have HR := Lib.hid (show T = some out by rw [← HGo.out, sortGo_nil])
      go_wp2_with fail
      go_ret2
      rw [HR.out]
      exact ⟨A7, c7, rfl, (own_cap HOo.out).1, own_rd' HOo.out, lift HB1.out HBr.out⟩
    · have hpos : 0 < left.length := by omega
      have hgt : decide ((0 : Int) < (left.length : Int)) = true := by simp; omega
      have HSr := Lib.hid (HSee.out.at HBr.out)
      have HRl := Lib.hid (own_rd' HOl.out)
      go_wp2_with fail
      refine (IndexFuncS B d left _ _ (fun b => !waitsB es left b) wr HRl.out (by omega) (says_sort1 w2.heap.size B d left wr HSr.out kc HRl.out hl (by omega))).mono ?_
      rintro e v3 ⟨r, rfl, hcase, hb⟩
      have kc3 := cellAt kc hb hpl
      have kf3 := froAt kf hb hpl
      have hp3 := ltAt hpl hb
      have HO3 := Lib.hid (own_on HOl.out hb)
      have HQ3 := Lib.hid (own_on HOo.out hb)
      have HB3 := Lib.hid (HBr.out.trans (hb.mono HBr.out.size))
      have hz3r : W1.heap.size ≤ v3.heap.size := Nat.le_trans hzr hb.size
      have KC := Lib.hid kc
      clear hb kc kf
      rcases hcase with ⟨rfl, hnone⟩ | ⟨k, hk, rfl, _, hyes, hno⟩
      · have HR := Lib.hid (show T = none by
          rw [← HGo.out]
          refine sortGo_none hpos fun j hj => ?_
          have := List.find?_eq_none.1 hnone left[j] (List.getElem_mem hj)
          simpa using this)
        clear hnone
        go_wp2_with fail
        go_ret2
        rw [HR.out]
        exact ⟨none, 0, rfl, Nat.le_refl _, Rd.none_, lift HB1.out HB3.out⟩
      · have hrest : sortGo es (left.eraseIdx k).length (left.eraseIdx k) (out ++ [left[k]]) = T := by
          rw [← HGo.out]
          exact (sortGo_some hk (fun j hj hjk => by have := hno j hjk; simpa using this) (by simpa using hyes)).symm
        have HRe := Lib.hid hrest
        have hel : (left.eraseIdx k).length = left.length - 1 := by rw [List.length_eraseIdx, if_pos hk]
        obtain ⟨bb, oo, hB, hBlt, hx0⟩ := (own_rd' HO3.out).str hk
        generalize left[k] = x at hx0 HRe
        have k1 : (0 : Int) ≤ (k : Int) := by omega
        have k2 : (k : Int) < (left.length : Int) := by omega
        have h763 : out.length + 1 ≤ maxLen := by unfold maxLen; omega
        have h7by : (out.length + 1) * 16 ≤ 140737488355328 := by omega
        have hneg : decide ((k : Int) < 0) = false := by simp
        subst hB
        have HHel := Lib.hid hel
        clear hrest hyes hno hel
        go_wp2_with (first | (at_builtin; refine wpList_pushm W1 v3 (by rfl) (.tmp 23) (.tmp 28) 26 (by rfl) W1.heap.size 9 i0 _ 1 16 Tryz.underlying26 hi hz0 hz1 hz2 rfl (by decide) _ _ _ (by rfl) HQ3.out [sv x] v3.heap.size rfl (by rfl) rfl (one_sv x) h763 h7by hz3r HB3.out ?_; intro A8 c8 w4 hown4 hbel4 hg4 hat4; have kc4 := cell_kept kc3 hg4 hp3 HOf.out.2; have kf4 := fro_kept kf3 hg4 hp3 HOf.out.2; have hp4 : w2.heap.size < w4.heap.size := Nat.lt_of_lt_of_le hp3 hg4.size; have HO4l := Lib.hid (HS.out.symm.kept HO3.out hg4); have HS4 := Lib.hid (HS.out.symm.push HO3.out hat4); have HOw := Lib.hid hown4; have HB4b := Lib.hid hbel4; have HAt := Lib.hid hat4; clear hown4 hbel4 hg4 hat4 kc3 kf3) | fail)
        have hof8 : (Value.slice A8 (out.length + 1) c8).ownBlock ≠ some w2.heap.size := fun h => by
          rcases HAt.out with e | e
          · exact HOf.out.2 (e ▸ h)
          · rw [e] at h; injection h with h; omega
        have HOf8 := Lib.hid hof8
        have hz4 : W1.heap.size ≤ w4.heap.size := HB4b.out.size
        clear hof8
        refine (deleteS_own W1.heap.size d k _ left w4 HO4l.out hk (by omega)).mono ?_
        rintro e w5 ⟨rfl, h5, g5⟩
        have kc5 := cell_kept kc4 g5 hp4 HOf.out.1
        have kf5 := fro_kept kf4 g5 hp4 HOf.out.1
        have hp5 : w2.heap.size < w5.heap.size := Nat.lt_of_lt_of_le hp4 g5.size
        have HO5l := Lib.hid h5
        have HO5o := Lib.hid (HS4.out.symm.kept HOw.out g5)
        have HB5b := Lib.hid (HB4b.out.grown g5 hz4 (fun g hg => (HO4l.out.lt g hg).1))
        clear h5 g5 kc4 kf4
        generalize hLe : left.eraseIdx k = le at *
        have HLe := Lib.hid hLe
        clear hLe
        go_wp2_with fail
        go_roundw
        case rel =>
          have hol' := HOf.out.1
          rw [ownBlock_len _ _ _ le.length d] at hol'
          refine ⟨le, out ++ [x], _, d, World.cell?_setCell_same _ _ _ kc5, by simpa using kf5, HO5l.out.kept (grownBy_setCell _ _ _) ?_, ?_, ?_, hol', ?_, ?_, ?_, HB5b.out.setCell hz2' _, by simpa using hp5⟩
          · exact .inr hol'
          · have h8 := HO5o.out.kept (grownBy_setCell w5 ⟨w2.heap.size, 0, none⟩ (.slice (some ⟨bb, oo, none⟩) le.length d)) (.inr HOf8.out)
            rw [List.length_append]
            simpa [svs] using h8
          · have h9 := HS4.out.symm
            unfold Sep at h9 ⊢
            rw [ownBlock_len _ le.length d left.length d]
            exact h9
          · exact HOf8.out
          · exact HRe.out
          · have := HHel.out
            rw [List.length_append]; simp; omega
        case measure =>
          have := HHel.out
          rw [KC.out, World.cell?_setCell_same _ _ _ kc5]
          simp; omega
end Od
end Go.Proofs.YtbllehjhmfehbaaGreat
end

section
/- Names of units as texts: what package name says of them. No program. -/
namespace Go.Proofs.YtbllehjhmfehbaaGreat
open Go.RowKit
namespace Od
/-- Up to the last point, and behind it. -/
def nameCut (s : Str) : Str × Str := if Lib.lastIndexByte ⟨s.toArray⟩ 46 < 0 then ([], []) else (s.take (Lib.lastIndexByte ⟨s.toArray⟩ 46).toNat, s.drop ((Lib.lastIndexByte ⟨s.toArray⟩ 46).toNat + 1))
/-- Up to the first at, and behind it. -/
def atCut (s : Str) : Str × Str := if 0 ≤ Lib.indexByte s 64 then (s.take (Lib.indexByte s 64).toNat, s.drop ((Lib.indexByte s 64).toNat + 1)) else (s, [])
def moreS : Str := [58, 45, 95, 46, 92]
def letterB (c : Int) : Bool := (decide (97 ≤ c) && decide (c ≤ 122)) || (decide (65 ≤ c) && decide (c ≤ 90))
def digitB (c : Int) : Bool := decide (48 ≤ c) && decide (c ≤ 57)
def inB (t : Str) (c : Int) : Bool := decide (0 ≤ Lib.indexByte t c.toNat.toUInt8)
def okB (c : Int) : Bool := letterB c || (digitB c || inB moreS c)
def allB (p : Int → Bool) (s : Str) : Bool := s.all (fun c => p (c.toNat : Int))
def sufS (k : Int) : Str := if k = 1 then [115, 101, 114, 118, 105, 99, 101] else if k = 2 then [115, 111, 99, 107, 101, 116] else if k = 3 then [116, 105, 109, 101, 114] else if k = 4 then [116, 97, 114, 103, 101, 116] else []
/-- The kind of a suffix. -/
def sufK (t : Str) : Int := if sufS 1 = t then 1 else if sufS 2 = t then 2 else if sufS 3 = t then 3 else if sufS 4 = t then 4 else 0
def badName (s : Str) : Bool := decide (60 < (s.length : Int)) || ((atCut (nameCut s).1).1 == ([] : Str) || (!allB okB (atCut (nameCut s).1).1 || !allB okB (atCut (nameCut s).1).2))
/-- A name's kind. -/
def kindS (s : Str) : Int := if badName s then 0 else sufK (nameCut s).2
theorem atCut_le (s : Str) : (atCut s).1.length ≤ s.length ∧ (atCut s).2.length ≤ s.length := by
  unfold atCut; split <;> simp
  omega
theorem nameCut_le (s : Str) : (nameCut s).1.length ≤ s.length ∧ (nameCut s).2.length ≤ s.length := by
  unfold nameCut; split <;> simp
  omega
end Od
end Go.Proofs.YtbllehjhmfehbaaGreat
end

section
/-
  DERIVED: THE SHELF's CONTRACTS AT THIS DUMP, IN PLAIN WORDS (tools/lay-plain.mjs out of 'TryzShelf.lean', which tools/lay-shelf.mjs wrote): THE SAME DECLARATIONS UNDER THE SAME NAMES: 'import', 'namespace', 'open', 'def', 'theorem' AND NOTHING ELSE: no command of the shelf's: FOR A HAND-IN. Each laying: the table of numbers ('.._ren') and one theorem, a field a fact of the dump's own or the kernel's comparison; each contract: ONE APPLICATION.
-/
namespace Go.Proofs.YtbllehjhmfehbaaGreat
open Go.Shelf
def Tryz.lays217_ren : Go.Shelf.Ren := ⟨fun | 217 => 236 | 266 => 243 | n => n, fun | 9 => 9 | 5 => 5 | 3 => 3 | n => n, fun | n => n⟩
theorem Tryz.lays217 : Go.Proofs.Lays.n217 Tryz.prog Tryz.lays217_ren := {
  mixed := by kernel_rfl
  f217 := Tryz.func236.trans (congrArg some (by kernel_rfl))
  f266 := Tryz.func243.trans (congrArg some (by kernel_rfl))
  t3 := Tryz.underlying3
  a3 := Tryz.isAgg3
  z3 := Tryz.sizeOf3
  v3 := Tryz.zeroValue3
  t5 := Tryz.underlying5
  a5 := Tryz.isAgg5
  z5 := Tryz.sizeOf5
  v5 := Tryz.zeroValue5
  t9 := Tryz.underlying9
  a9 := Tryz.isAgg9
  z9 := Tryz.sizeOf9
  v9 := Tryz.zeroValue9 }
open Go.RowKit Go.Lib in
/-- internal/stringslite.IndexByte (what strings.IndexByte calls): IT RETURNS 'Lib.indexByte s c'; the world is as it was. (LAID: no walk: one application.) -/
theorem Tryz.stringslite_IndexByte (s : ByteArray) (c : Int) (w : World) :
    Calls Tryz.prog 236 #[.string s, .int .u8 c] w fun e w' => e = .returned (.int .i64 (Lib.indexByte s.data.toList c.toNat.toUInt8)) ∧ w' = w := Any.stringslite_IndexByte Tryz.lays217 s c w
end Go.Proofs.YtbllehjhmfehbaaGreat
end

section
/- The walks of package chars that names ask: kinds of bytes. -/
namespace Go.Proofs.YtbllehjhmfehbaaGreat
open Go.RowKit

namespace Od
set_option maxHeartbeats 1000000 in
theorem Letter_any (c : Int) (w : World) : Calls Tryz.prog 190 #[.int .u8 c] w fun e w' => e = .returned (.bool (letterB c)) ∧ w = w' := by
  by_cases h1 : (97 : Int) ≤ c
  · have d1 : decide ((97 : Int) ≤ c) = true := by simpa using h1
    have e3 : decide ((65 : Int) ≤ c) = true := by simp; omega
    by_cases h2 : c ≤ (122 : Int)
    · have d2 : decide (c ≤ (122 : Int)) = true := by simpa using h2
      go_enter Tryz.func190, Tryz.ntmps190
      go_wp2
      go_ret
      exact ⟨ret_bool (by simp [letterB, d1, d2]), rfl⟩
    · have d2 : decide (c ≤ (122 : Int)) = false := by simpa using h2
      have d4 : decide (c ≤ (90 : Int)) = false := by simp; omega
      go_enter Tryz.func190, Tryz.ntmps190
      go_wp2
      go_ret
      exact ⟨ret_bool (by simp [letterB, d1, d2, e3, d4]), rfl⟩
  · have d1 : decide ((97 : Int) ≤ c) = false := by simpa using h1
    by_cases h3 : (65 : Int) ≤ c
    · have d3 : decide ((65 : Int) ≤ c) = true := by simpa using h3
      go_enter Tryz.func190, Tryz.ntmps190
      go_wp2
      go_ret
      exact ⟨ret_bool (by simp [letterB, d1, d3]), rfl⟩
    · have d3 : decide ((65 : Int) ≤ c) = false := by simpa using h3
      go_enter Tryz.func190, Tryz.ntmps190
      go_wp2
      go_ret
      exact ⟨ret_bool (by simp [letterB, d1, d3]), rfl⟩
set_option maxHeartbeats 1000000 in
theorem Digit_any (c : Int) (w : World) : Calls Tryz.prog 191 #[.int .u8 c] w fun e w' => e = .returned (.bool (digitB c)) ∧ w = w' := by
  by_cases h1 : (48 : Int) ≤ c
  · have d1 : decide ((48 : Int) ≤ c) = true := by simpa using h1
    go_enter Tryz.func191, Tryz.ntmps191
    go_wp2
    go_ret
    exact ⟨ret_bool (by simp [digitB, d1]), rfl⟩
  · have d1 : decide ((48 : Int) ≤ c) = false := by simpa using h1
    go_enter Tryz.func191, Tryz.ntmps191
    go_wp2
    go_ret
    exact ⟨ret_bool (by simp [digitB, d1]), rfl⟩
set_option maxHeartbeats 1000000 in
theorem In1_any (c : Int) (p : Nat) (t : Str) (w : World) (hp : w.cell? ⟨p, 0, none⟩ = some (sv t)) : Calls Tryz.prog 220 #[.int .u8 c, .pointer (some ⟨p, 0, none⟩)] w fun e w' => e = .returned (.bool (inB t c)) ∧ w = w' := by
  go_enter Tryz.func220, Tryz.ntmps220
  go_wp2_with fail
  refine (Tryz.strings_IndexByte _ c w).mono ?_
  rintro e w1 ⟨rfl, rfl⟩
  go_wp2_with fail
  go_ret
  exact ⟨ret_bool (by simp [inB]), rfl⟩
set_option maxHeartbeats 1000000 in
theorem In_any (t : Str) (w : World) : Calls Tryz.prog 192 #[sv t] w fun e w' => e = .returned (.func (.func 220) #[] #[.pointer (some ⟨w.heap.size, 0, none⟩)]) ∧ w' = w.alloc (.cells #[sv t] 9) := by
  go_enter Tryz.func192, Tryz.ntmps192
  go_wp2_with fail
  go_ret
  exact ⟨rfl, rfl⟩

/-- A function value that says of a byte whether p, whatever has been made since. -/
structure SaysB (g : Nat) (caps : Array Value) (p : Int → Bool) (w : World) : Prop where
  enters : ∀ (args : Array Value) (W : World), (callFunc g args).run Tryz.prog W = .ok (.enter g args) W
  says : ∀ (W : World) (c : Int), Below w.heap.size w W → Calls Tryz.prog g (#[.int .u8 c] ++ caps) W fun e w' => e = .returned (.bool (p c)) ∧ Below W.heap.size W w'
theorem says_letter (w : World) : SaysB 190 #[] letterB w where
  enters := enters_of Tryz.func190 (by kernel_rfl) rfl
  says := fun W c _ => (Letter_any c W).mono fun e w' ⟨h1, h2⟩ => ⟨h1, h2 ▸ Below.refl _ _⟩
theorem says_digit (w : World) : SaysB 191 #[] digitB w where
  enters := enters_of Tryz.func191 (by kernel_rfl) rfl
  says := fun W c _ => (Digit_any c W).mono fun e w' ⟨h1, h2⟩ => ⟨h1, h2 ▸ Below.refl _ _⟩
theorem says_in (p : Nat) (t : Str) (w : World) (hp : w.cell? ⟨p, 0, none⟩ = some (sv t)) : SaysB 220 #[.pointer (some ⟨p, 0, none⟩)] (inB t) w where
  enters := enters_of Tryz.func220 (by kernel_rfl) rfl
  says := fun W c h => (In1_any c p t W ((h.cell (p := ⟨p, 0, none⟩) (cell_blk hp)).trans hp)).mono fun e w' ⟨h1, h2⟩ => ⟨h1, h2 ▸ Below.refl _ _⟩

set_option maxRecDepth 100000 in
set_option maxHeartbeats 4000000 in
theorem All_any (s : Str) (g : Nat) (caps : Array Value) (p : Int → Bool) (w : World) (hl : s.length ≤ maxLen) (hp : SaysB g caps p w) :
    Calls Tryz.prog 188 #[sv s, .func (.func g) #[] caps] w fun e w' => e = .returned (.bool (allB p s)) ∧ Below w.heap.size w w' := by
  unfold maxLen at hl
  have Hp := Lib.hid hp
  have eg := hp.enters
  clear hp
  go_enter Tryz.func188, Tryz.ntmps188
  go_wp2_with fail
  go_loopw [8] (fun i wr => ∃ k : Nat, k ≤ s.length ∧ i = .int .i64 k ∧ Hid (allB p (s.take k) = true) ∧ Below w.heap.size w wr) (fun i _ => s.length - (intOf i).toNat)
  case atStart => exact ⟨0, Nat.zero_le _, rfl, by simp [Hid, allB], Below.refl _ _⟩
  case round =>
    obtain ⟨k, hk, rfl, hall, hb⟩ := hrel
    have HB := Lib.hid hb
    clear hb
    by_cases hlt : k < s.length
    · have hcall := Hp.out.says wr (s[k].toNat : Int) HB.out
      have h1 : allB p (s.take (k + 1)) = (allB p (s.take k) && p (s[k].toNat : Int)) := by
        unfold allB; rw [List.take_succ_eq_append_getElem hlt, List.all_append]; simp
      have h2 : p (s[k].toNat : Int) = false → allB p s = false := fun h => by
        unfold allB; rw [List.all_eq_false]; exact ⟨s[k], List.getElem_mem hlt, by simp [h]⟩
      have Hcall := Lib.hid hcall
      have H1 := Lib.hid h1
      have H2 := Lib.hid h2
      clear hcall h1 h2
      go_wp2_with fail
      refine Hcall.out.mono ?_
      rintro e w2 ⟨rfl, hb2⟩
      have HB2 := Lib.hid (HB.out.trans (hb2.mono HB.out.size))
      clear hb2
      cases hpc : p (s[k].toNat : Int)
      · have H3 := Lib.hid (H2.out hpc)
        go_wp2_with fail
        go_ret
        exact ⟨ret_bool H3.out.symm, HB2.out⟩
      · have H3 := Lib.hid hpc
        go_wp2_with fail
        go_roundw
        case rel => exact ⟨k + 1, by omega, by go_num, by show _ = true; rw [H1.out, hall.out, H3.out]; rfl, HB2.out⟩
        case measure => simp [intOf]; omega
    · have hkn : k = s.length := by omega
      subst hkn
      go_wp2_with fail
      go_ret
      have h := hall.out
      rw [List.take_length] at h
      exact ⟨ret_bool h.symm, HB.out⟩
end Od
end Go.Proofs.YtbllehjhmfehbaaGreat
end

section
/- The walks of package name: a name's kind. -/
namespace Go.Proofs.YtbllehjhmfehbaaGreat
open Go.RowKit

namespace Od
def okK (c : Int) : Nat → Bool
  | 0 => false
  | 1 => letterB c
  | 2 => letterB c || digitB c
  | _ => okB c
set_option maxRecDepth 100000 in
set_option maxHeartbeats 4000000 in
theorem Any1_any (c : Int) (pl b pi : Nat) (w : World) (h0 : w.cell? ⟨pl, 0, none⟩ = some (.slice (some ⟨b, 0, none⟩) 3 3)) (hf0 : w.cell? ⟨b, 0, none⟩ = some (.func (.func 190) #[] #[])) (hf1 : w.cell? ⟨b, 1, none⟩ = some (.func (.func 191) #[] #[]))
    (hf2 : w.cell? ⟨b, 2, none⟩ = some (.func (.func 220) #[] #[.pointer (some ⟨pi, 0, none⟩)])) (hpi : w.cell? ⟨pi, 0, none⟩ = some (sv moreS)) :
    Calls Tryz.prog 219 #[.int .u8 c, .pointer (some ⟨pl, 0, none⟩)] w fun e w' => e = .returned (.bool (okB c)) ∧ Below w.heap.size w w' := by
  have hb0 : b < w.heap.size := cell_blk hf0
  have hpl : pl < w.heap.size := cell_blk h0
  have hstep : ∀ k : Nat, k < 3 → ∃ (g : Nat) (caps : Array Value) (p : Int → Bool), w.cell? ⟨b, k, none⟩ = some (.func (.func g) #[] caps) ∧ SaysB g caps p w ∧ okK c (k + 1) = (okK c k || p c) := by
    intro k hk
    rcases (show k = 0 ∨ k = 1 ∨ k = 2 by omega) with rfl | rfl | rfl
    · exact ⟨_, _, _, hf0, says_letter w, rfl⟩
    · exact ⟨_, _, _, hf1, says_digit w, rfl⟩
    · exact ⟨_, _, _, hf2, says_in pi moreS w hpi, by simp [okK, okB, Bool.or_assoc]⟩
  have HSt := Lib.hid hstep
  clear hstep hf0 hf1 hf2 hpi
  go_enter Tryz.func219, Tryz.ntmps219
  go_wp2_with fail
  go_loopw [8] (fun i wr => ∃ k : Nat, k ≤ 3 ∧ i = .int .i64 k ∧ Hid (okK c k = false) ∧ Below w.heap.size w wr) (fun i _ => 3 - (intOf i).toNat)
  case atStart => exact ⟨0, by omega, rfl, rfl, Below.refl _ _⟩
  case round =>
    obtain ⟨k, hk, rfl, hall, hb⟩ := hrel
    have HB := Lib.hid hb
    clear hb
    by_cases hlt : k < 3
    · have hdk : decide ((k : Int) < 3) = true := by simp; omega
      obtain ⟨g, caps, p, hc, hs, ho⟩ := HSt.out k hlt
      have hcr := cellAt hc HB.out hb0
      have Hs := Lib.hid hs
      have Ho := Lib.hid ho
      have eg := hs.enters
      clear hc hs ho
      go_wp2_with fail
      refine (Hs.out.says wr c HB.out).mono ?_
      rintro e w2 ⟨rfl, hb2⟩
      have HB2 := Lib.hid (HB.out.trans (hb2.mono HB.out.size))
      clear hb2
      cases hp : p c
      · have HP := Lib.hid hp
        go_wp2_with fail
        go_roundw
        case rel => exact ⟨k + 1, by omega, by go_num, by show _ = false; rw [Ho.out, hall.out, HP.out]; rfl, HB2.out⟩
        case measure => simp [intOf]; omega
      · have HP := Lib.hid hp
        go_wp2_with fail
        go_ret
        refine ⟨ret_bool ?_, HB2.out⟩
        have h1 : okK c (k + 1) = true := by rw [Ho.out, HP.out, Bool.or_true]
        rcases (show k = 0 ∨ k = 1 ∨ k = 2 by omega) with rfl | rfl | rfl
        · simp only [okK] at h1; simp [okB, h1]
        · simp only [okK] at h1; unfold okB; rw [← Bool.or_assoc, h1]; rfl
        · exact h1.symm
    · have hk3 : k = 3 := by omega
      have hdk : decide ((k : Int) < 3) = false := by simp; omega
      have h3 := hall.out
      rw [hk3] at h3
      have H3 := Lib.hid h3
      clear hk3 h3
      go_wp2_with fail
      go_ret
      exact ⟨ret_bool H3.out.symm, HB.out⟩

set_option maxRecDepth 100000 in
set_option maxHeartbeats 4000000 in
theorem Anyc_any (A : Option Addr) (w : World) : Calls Tryz.prog 189 #[.slice A 3 3] w fun e w' => e = .returned (.func (.func 219) #[] #[.pointer (some ⟨w.heap.size, 0, none⟩)]) ∧ w' = w.alloc (.cells #[.slice A 3 3] 251) := by
  go_enter Tryz.func189, Tryz.ntmps189
  go_wp2_with fail
  go_ret
  exact ⟨rfl, rfl⟩
theorem says_any (pl b pi : Nat) (w : World) (h0 : w.cell? ⟨pl, 0, none⟩ = some (.slice (some ⟨b, 0, none⟩) 3 3)) (hf0 : w.cell? ⟨b, 0, none⟩ = some (.func (.func 190) #[] #[])) (hf1 : w.cell? ⟨b, 1, none⟩ = some (.func (.func 191) #[] #[]))
    (hf2 : w.cell? ⟨b, 2, none⟩ = some (.func (.func 220) #[] #[.pointer (some ⟨pi, 0, none⟩)])) (hpi : w.cell? ⟨pi, 0, none⟩ = some (sv moreS)) : SaysB 219 #[.pointer (some ⟨pl, 0, none⟩)] okB w where
  enters := enters_of Tryz.func219 (by kernel_rfl) rfl
  says := fun W c h => Any1_any c pl b pi W (cellAt h0 h (cell_blk h0)) (cellAt hf0 h (cell_blk hf0)) (cellAt hf1 h (cell_blk hf0)) (cellAt hf2 h (cell_blk hf0)) (cellAt hpi h (cell_blk hpi))
set_option maxRecDepth 100000 in
set_option maxHeartbeats 4000000 in
theorem plain_any (s : Str) (w : World) (hl : s.length ≤ 140737488355328) : Calls Tryz.prog 142 #[sv s] w fun e w' => e = .returned (.bool (allB okB s)) ∧ Below w.heap.size w w' := by
  have hm : s.length ≤ maxLen := by unfold maxLen; omega
  go_enter Tryz.func142, Tryz.ntmps142
  go_wp2_with fail
  refine (In_any moreS w).mono ?_
  rintro e w1 ⟨rfl, rfl⟩
  go_wp2_with fail
  refine (Anyc_any _ _).mono ?_
  rintro e w2 ⟨rfl, rfl⟩
  go_wp2_with fail
  refine (All_any s _ _ okB _ hm (says_any _ (w.heap.size + 1) w.heap.size _ (by go_simp) (by go_simp) (by go_simp) (by go_simp) (by go_simp))).mono ?_
  rintro e w3 ⟨rfl, hb⟩
  go_wp2_with fail
  go_ret
  exact ⟨rfl, lift (by repeat (first | exact Below.refl _ _ | assumption | refine Below.alloc ?_ (by simp <;> omega) _ | refine Below.setCell ?_ (by simp <;> omega) _ | refine Below.drew ?_)) hb⟩

theorem Suffix_any (k : Int) (w : World) : Calls Tryz.prog 143 #[.int .i64 k] w fun e w' => e = .returned (sv (sufS k)) ∧ w' = w := by
  by_cases h1 : k = 1
  · subst h1
    go_enter Tryz.func143, Tryz.ntmps143
    go_wp2
    go_ret
    exact ⟨rfl, rfl⟩
  by_cases h2 : k = 2
  · subst h2
    go_enter Tryz.func143, Tryz.ntmps143
    go_wp2
    go_ret
    exact ⟨rfl, rfl⟩
  by_cases h3 : k = 3
  · subst h3
    go_enter Tryz.func143, Tryz.ntmps143
    go_wp2
    go_ret
    exact ⟨rfl, rfl⟩
  by_cases h4 : k = 4
  · subst h4
    go_enter Tryz.func143, Tryz.ntmps143
    go_wp2
    go_ret
    exact ⟨rfl, rfl⟩
  · have b1 : (k == 1) = false := by simpa using h1
    have b2 : (k == 2) = false := by simpa using h2
    have b3 : (k == 3) = false := by simpa using h3
    have b4 : (k == 4) = false := by simpa using h4
    have e : sufS k = [] := by simp [sufS, h1, h2, h3, h4]
    have E := Lib.hid e
    clear h1 h2 h3 h4 e
    go_enter Tryz.func143, Tryz.ntmps143
    go_wp2
    go_ret
    exact ⟨by rw [E.out]; rfl, rfl⟩
theorem extract_str (s : Str) (a b : Nat) : (ByteArray.extract ⟨s.toArray⟩ a b) = ⟨((s.take b).drop a).toArray⟩ := by
  apply ByteArray.ext
  apply Array.ext'
  rw [Lib.extract_data]
  simp [List.drop_take]
theorem lastdot_any (s : Str) (w : World) (hl : s.length ≤ 140737488355328) : Calls Tryz.prog 186 #[sv s, .string ⟨#[46]⟩] w fun e w' => e = .returned (.int .i64 (Lib.lastIndexByte ⟨s.toArray⟩ 46)) ∧ w' = w :=
  Tryz.strings_LastIndex_one ⟨s.toArray⟩ ⟨#[46]⟩ rfl (by simp [ByteArray.size]; omega) w
set_option maxRecDepth 100000 in
set_option maxHeartbeats 4000000 in
theorem cutname_any (s : Str) (w : World) (hl : s.length ≤ 140737488355328) : Calls Tryz.prog 140 #[sv s] w fun e w' => e = .returned (.tuple #[sv (nameCut s).1, sv (nameCut s).2]) ∧ Below w.heap.size w w' := by
  have hsp := Lib.lastIndexByte_spec ⟨s.toArray⟩ 46
  unfold nameCut
  generalize hv : Lib.lastIndexByte ⟨s.toArray⟩ 46 = v at *
  rcases hsp with ⟨rfl, _⟩ | ⟨i, hi, rfl, _, _⟩
  · have HV := Lib.hid hv
    clear hv
    go_enter Tryz.func140, Tryz.ntmps140
    go_wp2_with fail
    refine (lastdot_any s w hl).mono ?_
    rintro e w1 ⟨rfl, rfl⟩
    rw [HV.out]
    go_wp2_with fail
    go_ret2
    exact ⟨rfl, Below.refl _ _⟩
  · have HV := Lib.hid hv
    have hi' : i < s.length := by simpa [ByteArray.size] using hi
    clear hv hi
    have k1 : ¬ ((i : Int) < 0) := by omega
    have k2 : (0 : Int) ≤ (i : Int) := by omega
    have k3 : (i : Int) ≤ (s.length : Int) := by omega
    have k4 : (0 : Int) ≤ (i : Int) + 1 := by omega
    have k5 : (i : Int) + 1 ≤ (s.length : Int) := by omega
    have k6 : IntKind.i64.wrap ((i : Int) + 1) = (i : Int) + 1 := IntWalk.i64_in _ (by omega)
    have k7 : ((i : Int) + 1).toNat = i + 1 := by omega
    rw [if_neg k1]
    go_enter Tryz.func140, Tryz.ntmps140
    go_wp2_with fail
    refine (lastdot_any s w hl).mono ?_
    rintro e w1 ⟨rfl, rfl⟩
    rw [HV.out]
    go_wp2_with fail
    try go_wp2_with fail
    refine wp_region_held_drew (S := fun w' => Below w1.heap.size w1 w') (by kernel_rfl) (Below.drew (Below.refl _ _)) (fun hHeld => ?_)
    refine tY (i := 0) (v := ?_) rfl ?_ hHeld ?_; rotate_left 1; focus (intro w' hSw; clear hSw; go_simp; try with_reducible rfl)
    (try simp only [Act.put, zn1, zn2, zn3])
    refine tY (i := 1) (v := ?_) rfl ?_ hHeld ?_; rotate_left 1; focus (intro w' hSw; clear hSw; go_simp; try with_reducible rfl)
    (try simp only [Act.put, zn1, zn2, zn3])
    refine tY (i := 2) (v := ?_) rfl ?_ hHeld ?_; rotate_left 1; focus (intro w' hSw; clear hSw; go_simp; try with_reducible rfl)
    (try simp only [Act.put, zn1, zn2, zn3])
    refine tY (i := 3) (v := ?_) rfl ?_ hHeld ?_; rotate_left 1; focus (intro w' hSw; clear hSw; go_simp; try with_reducible rfl)
    (try simp only [Act.put, zn1, zn2, zn3])
    refine tY (i := 4) (v := ?_) rfl ?_ hHeld ?_; rotate_left 1; focus (intro w' hSw; clear hSw; go_simp; try with_reducible rfl)
    (try simp only [Act.put, zn1, zn2, zn3])
    refine tY (i := 5) (v := ?_) rfl ?_ hHeld ?_; rotate_left 1; focus (intro w' hSw; clear hSw; go_simp; try with_reducible rfl)
    (try simp only [Act.put, zn1, zn2, zn3])
    refine tY (i := 6) (v := ?_) rfl ?_ hHeld ?_; rotate_left 1; focus (intro w' hSw; clear hSw; go_simp; try with_reducible rfl)
    (try simp only [Act.put, zn1, zn2, zn3])
    refine tY (i := 7) (v := ?_) rfl ?_ hHeld ?_; rotate_left 1; focus (intro w' hSw; clear hSw; go_simp; try with_reducible rfl)
    (try simp only [Act.put, zn1, zn2, zn3])
    refine tY (i := 8) (v := ?_) rfl ?_ hHeld ?_; rotate_left 1; focus (intro w' hSw; clear hSw; go_simp; try with_reducible rfl)
    (try simp only [Act.put, zn1, zn2, zn3])
    refine wpAnyH_done (by kernel_rfl) ?_ _
    go_wp2_with fail
    go_ret2
    refine ⟨?_, hHeld⟩
    show Ending.returned (.tuple #[.string (ByteArray.extract ⟨s.toArray⟩ 0 i), .string (ByteArray.extract ⟨s.toArray⟩ (i + 1) s.length)]) = _
    rw [extract_str, extract_str]
    simp
set_option maxHeartbeats 1000000 in
theorem Index_at (s : Str) (w : World) : Calls Tryz.prog 218 #[sv s, .string ⟨#[64]⟩] w fun e w' => e = .returned (.int .i64 (Lib.indexByte s 64)) ∧ w = w' := by
  cases hse : (([64] : Str) == s)
  · have Hse := Lib.hid hse
    go_enter Tryz.func218, Tryz.ntmps218
    go_wp2_with fail
    refine (Tryz.stringslite_IndexByte ⟨s.toArray⟩ 64 w).mono ?_
    rintro e w1 ⟨rfl, rfl⟩
    go_wp2_with fail
    go_ret
    exact ⟨rfl, rfl⟩
  · have hs : ([64] : Str) = s := by simpa using hse
    have h0 : Lib.indexByte s 64 = 0 := by rw [← hs]; rfl
    have H0 := Lib.hid h0
    clear hs h0
    go_enter Tryz.func218, Tryz.ntmps218
    go_wp2_with fail
    go_ret
    exact ⟨ret_int H0.out.symm, rfl⟩
def cutV (s : Str) : Value := .tuple #[sv (atCut s).1, sv (atCut s).2, .bool (decide (0 ≤ Lib.indexByte s 64))]
set_option maxRecDepth 100000 in
set_option maxHeartbeats 4000000 in
theorem Cutl_at (s : Str) (w : World) (hl : s.length ≤ 140737488355328) : Calls Tryz.prog 187 #[sv s, .string ⟨#[64]⟩] w fun e w' => e = .returned (cutV s) ∧ Below w.heap.size w w' := by
  have hge := Lib.indexByte_ge s 64
  have hcv : cutV s = .tuple #[sv (if 0 ≤ Lib.indexByte s 64 then (s.take (Lib.indexByte s 64).toNat, s.drop ((Lib.indexByte s 64).toNat + 1)) else (s, [])).1, sv (if 0 ≤ Lib.indexByte s 64 then (s.take (Lib.indexByte s 64).toNat, s.drop ((Lib.indexByte s 64).toNat + 1)) else (s, [])).2, .bool (decide (0 ≤ Lib.indexByte s 64))] := rfl
  generalize hv : Lib.indexByte s 64 = v at *
  by_cases h0 : 0 ≤ v
  · obtain ⟨i, rfl⟩ : ∃ i : Nat, v = i := ⟨v.toNat, by omega⟩
    have hsp := (Lib.indexByte_some hv).1
    have hi : i < s.length := by
      rcases Nat.lt_or_ge i s.length with h | h
      · exact h
      · rw [List.getElem?_eq_none h] at hsp; cases hsp
    have HV := Lib.hid hv
    have k2 : (0 : Int) ≤ (i : Int) := by omega
    have k3 : (i : Int) ≤ (s.length : Int) := by omega
    have k4 : (0 : Int) ≤ (i : Int) + 1 := by omega
    have k5 : (i : Int) + 1 ≤ (s.length : Int) := by omega
    have k6 : IntKind.i64.wrap ((i : Int) + 1) = (i : Int) + 1 := IntWalk.i64_in _ (by omega)
    have k7 : ((i : Int) + 1).toNat = i + 1 := by omega
    have k8 : decide ((0 : Int) ≤ (i : Int)) = true := by simp
    rw [if_pos h0, k8, Int.toNat_natCast] at hcv
    have HCV := Lib.hid hcv
    clear hv hge hsp h0 hcv
    go_enter Tryz.func187, Tryz.ntmps187
    go_wp2_with fail
    refine (Index_at s w).mono ?_
    rintro e w1 ⟨rfl, rfl⟩
    rw [HV.out]
    go_wp2_with fail
    try go_wp2_with fail
    refine wp_region_held_drew (S := fun w' => Below w.heap.size w w') (by kernel_rfl) (Below.drew (Below.refl _ _)) (fun hHeld => ?_)
    refine tY (i := 0) (v := ?_) rfl ?_ hHeld ?_; rotate_left 1; focus (intro w' hSw; clear hSw; go_simp; try with_reducible rfl)
    (try simp only [Act.put, zn1, zn2, zn3])
    refine tY (i := 1) (v := ?_) rfl ?_ hHeld ?_; rotate_left 1; focus (intro w' hSw; clear hSw; go_simp; try with_reducible rfl)
    (try simp only [Act.put, zn1, zn2, zn3])
    refine tY (i := 2) (v := ?_) rfl ?_ hHeld ?_; rotate_left 1; focus (intro w' hSw; clear hSw; go_simp; try with_reducible rfl)
    (try simp only [Act.put, zn1, zn2, zn3])
    refine tY (i := 3) (v := ?_) rfl ?_ hHeld ?_; rotate_left 1; focus (intro w' hSw; clear hSw; go_simp; try with_reducible rfl)
    (try simp only [Act.put, zn1, zn2, zn3])
    refine tY (i := 4) (v := ?_) rfl ?_ hHeld ?_; rotate_left 1; focus (intro w' hSw; clear hSw; go_simp; try with_reducible rfl)
    (try simp only [Act.put, zn1, zn2, zn3])
    refine tY (i := 5) (v := ?_) rfl ?_ hHeld ?_; rotate_left 1; focus (intro w' hSw; clear hSw; go_simp; try with_reducible rfl)
    (try simp only [Act.put, zn1, zn2, zn3])
    refine tY (i := 6) (v := ?_) rfl ?_ hHeld ?_; rotate_left 1; focus (intro w' hSw; clear hSw; go_simp; try with_reducible rfl)
    (try simp only [Act.put, zn1, zn2, zn3])
    refine tY (i := 7) (v := ?_) rfl ?_ hHeld ?_; rotate_left 1; focus (intro w' hSw; clear hSw; go_simp; try with_reducible rfl)
    (try simp only [Act.put, zn1, zn2, zn3])
    refine tY (i := 8) (v := ?_) rfl ?_ hHeld ?_; rotate_left 1; focus (intro w' hSw; clear hSw; go_simp; try with_reducible rfl)
    (try simp only [Act.put, zn1, zn2, zn3])
    refine tY (i := 9) (v := ?_) rfl ?_ hHeld ?_; rotate_left 1; focus (intro w' hSw; clear hSw; go_simp; try with_reducible rfl)
    (try simp only [Act.put, zn1, zn2, zn3])
    refine tY (i := 10) (v := ?_) rfl ?_ hHeld ?_; rotate_left 1; focus (intro w' hSw; clear hSw; go_simp; try with_reducible rfl)
    (try simp only [Act.put, zn1, zn2, zn3])
    refine tY (i := 11) (v := ?_) rfl ?_ hHeld ?_; rotate_left 1; focus (intro w' hSw; clear hSw; go_simp; try with_reducible rfl)
    (try simp only [Act.put, zn1, zn2, zn3])
    refine wpAnyH_done (by kernel_rfl) ?_ _
    go_wp2_with fail
    go_ret3
    refine ⟨?_, hHeld⟩
    rw [HCV.out]
    show Ending.returned (.tuple #[.string (ByteArray.extract ⟨s.toArray⟩ 0 i), .string (ByteArray.extract ⟨s.toArray⟩ (i + 1) s.length), .bool true]) = _
    rw [extract_str, extract_str]
    simp
  · have HV := Lib.hid hv
    have k8 : decide ((0 : Int) ≤ v) = false := by simpa using h0
    rw [if_neg h0, k8] at hcv
    have HCV := Lib.hid hcv
    clear hv hge h0 hcv
    go_enter Tryz.func187, Tryz.ntmps187
    go_wp2_with fail
    refine (Index_at s w).mono ?_
    rintro e w1 ⟨rfl, rfl⟩
    rw [HV.out]
    go_wp2_with fail
    go_ret3
    exact ⟨by rw [HCV.out]; rfl, Below.refl _ _⟩
set_option maxHeartbeats 1000000 in
theorem Cut_at (s : Str) (w : World) (hl : s.length ≤ 140737488355328) : Calls Tryz.prog 141 #[sv s, .string ⟨#[64]⟩] w fun e w' => e = .returned (cutV s) ∧ Below w.heap.size w w' := by
  go_enter Tryz.func141, Tryz.ntmps141
  go_wp2_with fail
  refine (Cutl_at s w hl).mono ?_
  rintro e w1 ⟨rfl, hb⟩
  have hcv : cutV s = .tuple #[sv (atCut s).1, sv (atCut s).2, .bool (decide (0 ≤ Lib.indexByte s 64))] := rfl
  have HCV := Lib.hid hcv
  rw [hcv]
  clear hcv
  go_wp2_with fail
  go_ret3
  exact ⟨HCV.out ▸ rfl, hb⟩
theorem sufK_at {t : Str} {k : Nat} (h1 : 1 ≤ k) (h2 : k ≤ 4) (ha : ∀ j : Nat, 1 ≤ j → j < k → sufS j ≠ t) (h : sufS k = t) : sufK t = k := by
  unfold sufK
  rcases (show k = 1 ∨ k = 2 ∨ k = 3 ∨ k = 4 by omega) with rfl | rfl | rfl | rfl
  · rw [if_pos (show sufS 1 = t from h)]; rfl
  · rw [if_neg (show sufS 1 ≠ t from ha 1 (by omega) (by omega)), if_pos (show sufS 2 = t from h)]; rfl
  · rw [if_neg (show sufS 1 ≠ t from ha 1 (by omega) (by omega)), if_neg (show sufS 2 ≠ t from ha 2 (by omega) (by omega)), if_pos (show sufS 3 = t from h)]; rfl
  · rw [if_neg (show sufS 1 ≠ t from ha 1 (by omega) (by omega)), if_neg (show sufS 2 ≠ t from ha 2 (by omega) (by omega)), if_neg (show sufS 3 ≠ t from ha 3 (by omega) (by omega)), if_pos (show sufS 4 = t from h)]; rfl
theorem sufK_none {t : Str} (ha : ∀ j : Nat, 1 ≤ j → j < 5 → sufS j ≠ t) : sufK t = 0 := by
  unfold sufK
  rw [if_neg (show sufS 1 ≠ t from ha 1 (by omega) (by omega)), if_neg (show sufS 2 ≠ t from ha 2 (by omega) (by omega)), if_neg (show sufS 3 ≠ t from ha 3 (by omega) (by omega)), if_neg (show sufS 4 ≠ t from ha 4 (by omega) (by omega))]
set_option maxRecDepth 100000 in
set_option maxHeartbeats 4000000 in
theorem Kind_any (s : Str) (w : World) (hl : s.length ≤ 140737488355328) : Calls Tryz.prog 103 #[sv s] w fun e w' => e = .returned (.int .i64 (kindS s)) ∧ Below w.heap.size w w' := by
  have hcl := nameCut_le s
  have hal := atCut_le (nameCut s).1
  have hbad : badName s = (decide (60 < (s.length : Int)) || ((atCut (nameCut s).1).1 == ([] : Str) || (!allB okB (atCut (nameCut s).1).1 || !allB okB (atCut (nameCut s).1).2))) := rfl
  have hkind : kindS s = if badName s then 0 else sufK (nameCut s).2 := rfl
  have hcv : cutV (nameCut s).1 = .tuple #[sv (atCut (nameCut s).1).1, sv (atCut (nameCut s).1).2, .bool (decide (0 ≤ Lib.indexByte (nameCut s).1 64))] := rfl
  rw [hbad] at hkind
  have HK := Lib.hid hkind
  have HCV := Lib.hid hcv
  clear hbad hkind hcv
  have hlh : (nameCut s).1.length ≤ 140737488355328 := by omega
  have hlp : (atCut (nameCut s).1).1.length ≤ 140737488355328 := by omega
  have hli : (atCut (nameCut s).1).2.length ≤ 140737488355328 := by omega
  go_enter Tryz.func103, Tryz.ntmps103
  go_wp2_with fail
  refine (cutname_any s w hl).mono ?_
  rintro e w1 ⟨rfl, hb1⟩
  have HB1 := Lib.hid hb1
  clear hb1
  go_wp2_with fail
  refine (Cut_at (nameCut s).1 w1 hlh).mono ?_
  rintro e w2 ⟨rfl, hb2⟩
  have HB2 := Lib.hid (lift HB1.out hb2)
  clear hb2
  rw [HCV.out]
  generalize hpre : (atCut (nameCut s).1).1 = pre at *
  generalize hins : (atCut (nameCut s).1).2 = ins at *
  generalize hsuf : (nameCut s).2 = suf at *
  have HX := Lib.hid (And.intro hpre (And.intro hins hsuf))
  clear hpre hins hsuf hcl hal
  by_cases h60 : (60 : Int) < (s.length : Int)
  · have d60 : decide ((60 : Int) < (s.length : Int)) = true := by simpa using h60
    have D60 := Lib.hid d60
    go_wp2_with fail
    go_ret
    exact ⟨ret_int (by rw [HK.out]; simp [D60.out]), HB2.out⟩
  · have d60 : decide ((60 : Int) < (s.length : Int)) = false := by simpa using h60
    have D60 := Lib.hid d60
    cases hp0 : (pre == ([] : Str))
    · have HP0 := Lib.hid hp0
      go_wp2_with fail
      refine (plain_any pre w2 hlp).mono ?_
      rintro e w3 ⟨rfl, hb3⟩
      have HB3 := Lib.hid (lift HB2.out hb3)
      clear hb3
      cases hq1 : allB okB pre
      · have HQ1 := Lib.hid hq1
        go_wp2_with fail
        go_ret
        exact ⟨ret_int (by rw [HK.out]; simp [HQ1.out]), HB3.out⟩
      · have HQ1 := Lib.hid hq1
        go_wp2_with fail
        refine (plain_any ins w3 hli).mono ?_
        rintro e w4 ⟨rfl, hb4⟩
        have HB4 := Lib.hid (lift HB3.out hb4)
        clear hb4
        cases hq2 : allB okB ins
        · have HQ2 := Lib.hid hq2
          go_wp2_with fail
          go_ret
          exact ⟨ret_int (by rw [HK.out]; simp [HQ2.out]), HB4.out⟩
        · have HQ2 := Lib.hid hq2
          go_wp2_with fail
          go_loopw [8] (fun i wr => ∃ k : Nat, 1 ≤ k ∧ k ≤ 5 ∧ i = .int .i64 k ∧ Hid (∀ j : Nat, 1 ≤ j → j < k → sufS j ≠ suf) ∧ Below w.heap.size w wr) (fun i _ => 5 - (intOf i).toNat)
          case atStart => exact ⟨1, by omega, by omega, rfl, fun j h1 h2 => by omega, HB4.out⟩
          case round =>
            obtain ⟨k, hk1, hk5, rfl, hall, hb⟩ := hrel
            have HB := Lib.hid hb
            clear hb
            by_cases hlt : k ≤ 4
            · have dk : decide ((k : Int) ≤ 4) = true := by simp; omega
              go_wp2_with fail
              refine (Suffix_any k wr).mono ?_
              rintro e w5 ⟨rfl, rfl⟩
              cases hs : (sufS k == suf)
              · have Hs := Lib.hid hs
                go_wp2_with fail
                go_roundw
                case rel =>
                  refine ⟨k + 1, by omega, by omega, by go_num, fun j h1 h2 => ?_, HB.out⟩
                  by_cases e : j = k
                  · subst e; have := Hs.out; simpa using this
                  · exact hall.out j h1 (by omega)
                case measure => simp [intOf]; omega
              · have Hs := Lib.hid (sufK_at hk1 hlt hall.out (by simpa using hs))
                go_wp2_with fail
                go_ret
                exact ⟨ret_int (by rw [HK.out]; simp [D60.out, HP0.out, HQ1.out, HQ2.out, Hs.out]), HB.out⟩
            · have dk : decide ((k : Int) ≤ 4) = false := by simp; omega
              have Hs := Lib.hid (sufK_none fun j h1 h2 => hall.out j h1 (by omega))
              go_wp2_with fail
              go_ret
              exact ⟨ret_int (by rw [HK.out]; simp [D60.out, HP0.out, HQ1.out, HQ2.out, Hs.out]), HB.out⟩
    · have HP0 := Lib.hid hp0
      go_wp2_with fail
      go_ret
      exact ⟨ret_int (by rw [HK.out]; simp [HP0.out]), HB2.out⟩
set_option maxHeartbeats 1000000 in
theorem May_any (s : Str) (w : World) (hl : s.length ≤ 140737488355328) : Calls Tryz.prog 102 #[sv s] w fun e w' => e = .returned (.bool (kindS s != 0)) ∧ Below w.heap.size w w' := by
  go_enter Tryz.func102, Tryz.ntmps102
  go_wp2_with fail
  refine (Kind_any s w hl).mono ?_
  rintro e w1 ⟨rfl, hb⟩
  go_wp2_with fail
  go_ret
  exact ⟨rfl, hb⟩
end Od
end Go.Proofs.YtbllehjhmfehbaaGreat
end

section
/- The walks of graph.mayNode and graph.May. -/
namespace Go.Proofs.YtbllehjhmfehbaaGreat
open Go.RowKit

namespace Od
def mayN (n : Nd) : Bool := kindS n.1 != 0 && ((n.2.1 == kindS n.1) && (decide (1 ≤ n.2.2) && decide (n.2.2 ≤ 4)))
set_option maxRecDepth 100000 in
set_option maxHeartbeats 4000000 in
theorem mayNode_any (s : Str) (k r : Int) (w : World) (hl : s.length ≤ 140737488355328) : Calls Tryz.prog 61 #[.agg #[sv s, .int .i64 k, .int .i64 r]] w fun e w' => e = .returned (.bool (mayN (s, k, r))) ∧ Below w.heap.size w w' := by
  have hm : mayN (s, k, r) = (kindS s != 0 && ((k == kindS s) && (decide (1 ≤ r) && decide (r ≤ 4)))) := rfl
  have HM := Lib.hid hm
  clear hm
  go_enter Tryz.func61, Tryz.ntmps61
  go_wp2_with fail
  first | (refine wp_named ?_; intro W1 hW) | (refine calls_named ?_; intro W1 hW)
  have B1 : Below w.heap.size w W1 := by rw [hW]; exact (by repeat (first | exact Below.refl _ _ | assumption | refine Below.alloc ?_ (by simp <;> omega) _ | refine Below.setCell ?_ (by simp <;> omega) _ | refine Below.drew ?_))
  have n1 : w.heap.size < W1.heap.size := by rw [hW]; simp <;> omega
  have c0 : W1.cell? ⟨w.heap.size, 0, none⟩ = some (sv s) := by rw [hW]; go_simp
  have c1 : W1.cell? ⟨w.heap.size, 1, none⟩ = some (.int .i64 k) := by rw [hW]; go_simp
  have c2 : W1.cell? ⟨w.heap.size, 2, none⟩ = some (.int .i64 r) := by rw [hW]; go_simp
  clear hW
  have HB := Lib.hid B1
  clear B1
  cases h1 : (kindS s != 0)
  · have H1 := Lib.hid h1
    try go_wp2_with fail
    refine wp_region_held_drew (S := fun w' => Below W1.heap.size W1 w') (by kernel_rfl) (Below.drew (Below.refl _ _)) (fun hHeld => ?_)
    refine tY (i := 0) (v := ?_) rfl ?_ hHeld ?_; rotate_left 1; focus (intro w' hSw; clear hSw; go_simp; try with_reducible rfl)
    (try simp only [Act.put, zn1, zn2, zn3])
    refine tY (i := 1) (v := ?_) rfl ?_ hHeld ?_; rotate_left 1; focus (intro w' hSw; have hCell := fun (b o : Nat) (h : b < W1.heap.size) => hSw.cell (p := ⟨b, o, none⟩) h; clear hSw; go_simp; try with_reducible rfl)
    (try simp only [Act.put, zn1, zn2, zn3])
    refine ready_one (i := 2) rfl (by kernel_rfl) (fun K hK => ?_)
    go_simp
    refine (May_any s _ hl).mono ?_
    rintro e v2 ⟨rfl, hb⟩
    refine hK.out _ _ ?_ (fun hHeld2 => ?_)
    · (try dsimp only); first | exact Below.trans hHeld (Below.mono hb hHeld.size) | exact hHeld | exact Below.drew hHeld | exact (by repeat (first | exact Below.refl _ _ | assumption | refine Below.alloc ?_ (by simp <;> omega) _ | refine Below.setCell ?_ (by simp <;> omega) _ | refine Below.drew ?_))
    clear hK K hHeld; have hHeld := hHeld2; clear hHeld2; (try simp only [Act.put, zn1, zn2, zn3])
    refine tY (i := 3) (v := ?_) rfl ?_ hHeld ?_; rotate_left 1; focus (intro w' hSw; clear hSw; go_simp; try with_reducible rfl)
    (try simp only [Act.put, zn1, zn2, zn3])
    refine tS (i := 4) rfl hHeld ?_; (try simp only [Act.put, zn1, zn2, zn3])
    refine tS (i := 5) rfl hHeld ?_; (try simp only [Act.put, zn1, zn2, zn3])
    refine tS (i := 6) rfl hHeld ?_; (try simp only [Act.put, zn1, zn2, zn3])
    refine tS (i := 7) rfl hHeld ?_; (try simp only [Act.put, zn1, zn2, zn3])
    refine tS (i := 8) rfl hHeld ?_; (try simp only [Act.put, zn1, zn2, zn3])
    refine tS (i := 9) rfl hHeld ?_; (try simp only [Act.put, zn1, zn2, zn3])
    refine tY (i := 10) (v := ?_) rfl ?_ hHeld ?_; rotate_left 1; focus (intro w' hSw; clear hSw; go_simp; try with_reducible rfl)
    (try simp only [Act.put, zn1, zn2, zn3])
    refine tY (i := 11) (v := ?_) rfl ?_ hHeld ?_; rotate_left 1; focus (intro w' hSw; clear hSw; go_simp; try with_reducible rfl)
    (try simp only [Act.put, zn1, zn2, zn3])
    refine tS (i := 12) rfl hHeld ?_; (try simp only [Act.put, zn1, zn2, zn3])
    refine tS (i := 13) rfl hHeld ?_; (try simp only [Act.put, zn1, zn2, zn3])
    refine tS (i := 14) rfl hHeld ?_; (try simp only [Act.put, zn1, zn2, zn3])
    refine tY (i := 15) (v := ?_) rfl ?_ hHeld ?_; rotate_left 1; focus (intro w' hSw; clear hSw; go_simp; try with_reducible rfl)
    (try simp only [Act.put, zn1, zn2, zn3])
    refine tY (i := 16) (v := ?_) rfl ?_ hHeld ?_; rotate_left 1; focus (intro w' hSw; clear hSw; go_simp; try with_reducible rfl)
    (try simp only [Act.put, zn1, zn2, zn3])
    refine tS (i := 17) rfl hHeld ?_; (try simp only [Act.put, zn1, zn2, zn3])
    refine tS (i := 18) rfl hHeld ?_; (try simp only [Act.put, zn1, zn2, zn3])
    refine tS (i := 19) rfl hHeld ?_; (try simp only [Act.put, zn1, zn2, zn3])
    refine tY (i := 20) (v := ?_) rfl ?_ hHeld ?_; rotate_left 1; focus (intro w' hSw; clear hSw; go_simp; try with_reducible rfl)
    (try simp only [Act.put, zn1, zn2, zn3])
    refine tY (i := 21) (v := ?_) rfl ?_ hHeld ?_; rotate_left 1; focus (intro w' hSw; clear hSw; go_simp; try with_reducible rfl)
    (try simp only [Act.put, zn1, zn2, zn3])
    refine wpAnyH_done (by kernel_rfl) ?_ _
    go_wp2_with fail
    go_ret
    exact ⟨ret_bool (by rw [HM.out]; simp [H1.out]), lift HB.out hHeld⟩
  · have H1 := Lib.hid h1
    cases h2 : (k == kindS s)
    · have H2 := Lib.hid h2
      try go_wp2_with fail
      refine wp_region_held_drew (S := fun w' => Below W1.heap.size W1 w') (by kernel_rfl) (Below.drew (Below.refl _ _)) (fun hHeld => ?_)
      refine tY (i := 0) (v := ?_) rfl ?_ hHeld ?_; rotate_left 1; focus (intro w' hSw; clear hSw; go_simp; try with_reducible rfl)
      (try simp only [Act.put, zn1, zn2, zn3])
      refine tY (i := 1) (v := ?_) rfl ?_ hHeld ?_; rotate_left 1; focus (intro w' hSw; have hCell := fun (b o : Nat) (h : b < W1.heap.size) => hSw.cell (p := ⟨b, o, none⟩) h; clear hSw; go_simp; try with_reducible rfl)
      (try simp only [Act.put, zn1, zn2, zn3])
      refine ready_one (i := 2) rfl (by kernel_rfl) (fun K hK => ?_)
      go_simp
      refine (May_any s _ hl).mono ?_
      rintro e v2 ⟨rfl, hb⟩
      refine hK.out _ _ ?_ (fun hHeld2 => ?_)
      · (try dsimp only); first | exact Below.trans hHeld (Below.mono hb hHeld.size) | exact hHeld | exact Below.drew hHeld | exact (by repeat (first | exact Below.refl _ _ | assumption | refine Below.alloc ?_ (by simp <;> omega) _ | refine Below.setCell ?_ (by simp <;> omega) _ | refine Below.drew ?_))
      clear hK K hHeld; have hHeld := hHeld2; clear hHeld2; (try simp only [Act.put, zn1, zn2, zn3])
      refine tY (i := 3) (v := ?_) rfl ?_ hHeld ?_; rotate_left 1; focus (intro w' hSw; clear hSw; go_simp; try with_reducible rfl)
      (try simp only [Act.put, zn1, zn2, zn3])
      refine tY (i := 4) (v := ?_) rfl ?_ hHeld ?_; rotate_left 1; focus (intro w' hSw; clear hSw; go_simp; try with_reducible rfl)
      (try simp only [Act.put, zn1, zn2, zn3])
      refine tY (i := 5) (v := ?_) rfl ?_ hHeld ?_; rotate_left 1; focus (intro w' hSw; have hCell := fun (b o : Nat) (h : b < W1.heap.size) => hSw.cell (p := ⟨b, o, none⟩) h; clear hSw; go_simp; try with_reducible rfl)
      (try simp only [Act.put, zn1, zn2, zn3])
      refine tY (i := 6) (v := ?_) rfl ?_ hHeld ?_; rotate_left 1; focus (intro w' hSw; clear hSw; go_simp; try with_reducible rfl)
      (try simp only [Act.put, zn1, zn2, zn3])
      refine tY (i := 7) (v := ?_) rfl ?_ hHeld ?_; rotate_left 1; focus (intro w' hSw; have hCell := fun (b o : Nat) (h : b < W1.heap.size) => hSw.cell (p := ⟨b, o, none⟩) h; clear hSw; go_simp; try with_reducible rfl)
      (try simp only [Act.put, zn1, zn2, zn3])
      refine ready_one (i := 8) rfl (by kernel_rfl) (fun K hK => ?_)
      go_simp
      refine (Kind_any s _ hl).mono ?_
      rintro e v3 ⟨rfl, hb⟩
      refine hK.out _ _ ?_ (fun hHeld2 => ?_)
      · (try dsimp only); first | exact Below.trans hHeld (Below.mono hb hHeld.size) | exact hHeld | exact Below.drew hHeld | exact (by repeat (first | exact Below.refl _ _ | assumption | refine Below.alloc ?_ (by simp <;> omega) _ | refine Below.setCell ?_ (by simp <;> omega) _ | refine Below.drew ?_))
      clear hK K hHeld; have hHeld := hHeld2; clear hHeld2; (try simp only [Act.put, zn1, zn2, zn3])
      refine tY (i := 9) (v := ?_) rfl ?_ hHeld ?_; rotate_left 1; focus (intro w' hSw; clear hSw; go_simp; try with_reducible rfl)
      (try simp only [Act.put, zn1, zn2, zn3])
      refine tY (i := 10) (v := ?_) rfl ?_ hHeld ?_; rotate_left 1; focus (intro w' hSw; clear hSw; go_simp; try with_reducible rfl)
      (try simp only [Act.put, zn1, zn2, zn3])
      refine tY (i := 11) (v := ?_) rfl ?_ hHeld ?_; rotate_left 1; focus (intro w' hSw; clear hSw; go_simp; try with_reducible rfl)
      (try simp only [Act.put, zn1, zn2, zn3])
      refine tS (i := 12) rfl hHeld ?_; (try simp only [Act.put, zn1, zn2, zn3])
      refine tS (i := 13) rfl hHeld ?_; (try simp only [Act.put, zn1, zn2, zn3])
      refine tS (i := 14) rfl hHeld ?_; (try simp only [Act.put, zn1, zn2, zn3])
      refine tY (i := 15) (v := ?_) rfl ?_ hHeld ?_; rotate_left 1; focus (intro w' hSw; clear hSw; go_simp; try with_reducible rfl)
      (try simp only [Act.put, zn1, zn2, zn3])
      refine tY (i := 16) (v := ?_) rfl ?_ hHeld ?_; rotate_left 1; focus (intro w' hSw; clear hSw; go_simp; try with_reducible rfl)
      (try simp only [Act.put, zn1, zn2, zn3])
      refine tS (i := 17) rfl hHeld ?_; (try simp only [Act.put, zn1, zn2, zn3])
      refine tS (i := 18) rfl hHeld ?_; (try simp only [Act.put, zn1, zn2, zn3])
      refine tS (i := 19) rfl hHeld ?_; (try simp only [Act.put, zn1, zn2, zn3])
      refine tY (i := 20) (v := ?_) rfl ?_ hHeld ?_; rotate_left 1; focus (intro w' hSw; clear hSw; go_simp; try with_reducible rfl)
      (try simp only [Act.put, zn1, zn2, zn3])
      refine tY (i := 21) (v := ?_) rfl ?_ hHeld ?_; rotate_left 1; focus (intro w' hSw; clear hSw; go_simp; try with_reducible rfl)
      (try simp only [Act.put, zn1, zn2, zn3])
      refine wpAnyH_done (by kernel_rfl) ?_ _
      go_wp2_with fail
      go_ret
      exact ⟨ret_bool (by rw [HM.out]; simp [H1.out, H2.out]), lift HB.out hHeld⟩
    · have H2 := Lib.hid h2
      cases h3 : decide (1 ≤ r)
      · have H3 := Lib.hid h3
        try go_wp2_with fail
        refine wp_region_held_drew (S := fun w' => Below W1.heap.size W1 w') (by kernel_rfl) (Below.drew (Below.refl _ _)) (fun hHeld => ?_)
        refine tY (i := 0) (v := ?_) rfl ?_ hHeld ?_; rotate_left 1; focus (intro w' hSw; clear hSw; go_simp; try with_reducible rfl)
        (try simp only [Act.put, zn1, zn2, zn3])
        refine tY (i := 1) (v := ?_) rfl ?_ hHeld ?_; rotate_left 1; focus (intro w' hSw; have hCell := fun (b o : Nat) (h : b < W1.heap.size) => hSw.cell (p := ⟨b, o, none⟩) h; clear hSw; go_simp; try with_reducible rfl)
        (try simp only [Act.put, zn1, zn2, zn3])
        refine ready_one (i := 2) rfl (by kernel_rfl) (fun K hK => ?_)
        go_simp
        refine (May_any s _ hl).mono ?_
        rintro e v2 ⟨rfl, hb⟩
        refine hK.out _ _ ?_ (fun hHeld2 => ?_)
        · (try dsimp only); first | exact Below.trans hHeld (Below.mono hb hHeld.size) | exact hHeld | exact Below.drew hHeld | exact (by repeat (first | exact Below.refl _ _ | assumption | refine Below.alloc ?_ (by simp <;> omega) _ | refine Below.setCell ?_ (by simp <;> omega) _ | refine Below.drew ?_))
        clear hK K hHeld; have hHeld := hHeld2; clear hHeld2; (try simp only [Act.put, zn1, zn2, zn3])
        refine tY (i := 3) (v := ?_) rfl ?_ hHeld ?_; rotate_left 1; focus (intro w' hSw; clear hSw; go_simp; try with_reducible rfl)
        (try simp only [Act.put, zn1, zn2, zn3])
        refine tY (i := 4) (v := ?_) rfl ?_ hHeld ?_; rotate_left 1; focus (intro w' hSw; clear hSw; go_simp; try with_reducible rfl)
        (try simp only [Act.put, zn1, zn2, zn3])
        refine tY (i := 5) (v := ?_) rfl ?_ hHeld ?_; rotate_left 1; focus (intro w' hSw; have hCell := fun (b o : Nat) (h : b < W1.heap.size) => hSw.cell (p := ⟨b, o, none⟩) h; clear hSw; go_simp; try with_reducible rfl)
        (try simp only [Act.put, zn1, zn2, zn3])
        refine tY (i := 6) (v := ?_) rfl ?_ hHeld ?_; rotate_left 1; focus (intro w' hSw; clear hSw; go_simp; try with_reducible rfl)
        (try simp only [Act.put, zn1, zn2, zn3])
        refine tY (i := 7) (v := ?_) rfl ?_ hHeld ?_; rotate_left 1; focus (intro w' hSw; have hCell := fun (b o : Nat) (h : b < W1.heap.size) => hSw.cell (p := ⟨b, o, none⟩) h; clear hSw; go_simp; try with_reducible rfl)
        (try simp only [Act.put, zn1, zn2, zn3])
        refine ready_one (i := 8) rfl (by kernel_rfl) (fun K hK => ?_)
        go_simp
        refine (Kind_any s _ hl).mono ?_
        rintro e v3 ⟨rfl, hb⟩
        refine hK.out _ _ ?_ (fun hHeld2 => ?_)
        · (try dsimp only); first | exact Below.trans hHeld (Below.mono hb hHeld.size) | exact hHeld | exact Below.drew hHeld | exact (by repeat (first | exact Below.refl _ _ | assumption | refine Below.alloc ?_ (by simp <;> omega) _ | refine Below.setCell ?_ (by simp <;> omega) _ | refine Below.drew ?_))
        clear hK K hHeld; have hHeld := hHeld2; clear hHeld2; (try simp only [Act.put, zn1, zn2, zn3])
        refine tY (i := 9) (v := ?_) rfl ?_ hHeld ?_; rotate_left 1; focus (intro w' hSw; clear hSw; go_simp; try with_reducible rfl)
        (try simp only [Act.put, zn1, zn2, zn3])
        refine tY (i := 10) (v := ?_) rfl ?_ hHeld ?_; rotate_left 1; focus (intro w' hSw; clear hSw; go_simp; try with_reducible rfl)
        (try simp only [Act.put, zn1, zn2, zn3])
        refine tY (i := 11) (v := ?_) rfl ?_ hHeld ?_; rotate_left 1; focus (intro w' hSw; clear hSw; go_simp; try with_reducible rfl)
        (try simp only [Act.put, zn1, zn2, zn3])
        refine tY (i := 12) (v := ?_) rfl ?_ hHeld ?_; rotate_left 1; focus (intro w' hSw; clear hSw; go_simp; try with_reducible rfl)
        (try simp only [Act.put, zn1, zn2, zn3])
        refine tY (i := 13) (v := ?_) rfl ?_ hHeld ?_; rotate_left 1; focus (intro w' hSw; have hCell := fun (b o : Nat) (h : b < W1.heap.size) => hSw.cell (p := ⟨b, o, none⟩) h; clear hSw; go_simp; try with_reducible rfl)
        (try simp only [Act.put, zn1, zn2, zn3])
        refine tY (i := 14) (v := ?_) rfl ?_ hHeld ?_; rotate_left 1; focus (intro w' hSw; clear hSw; go_simp; try with_reducible rfl)
        (try simp only [Act.put, zn1, zn2, zn3])
        refine tY (i := 15) (v := ?_) rfl ?_ hHeld ?_; rotate_left 1; focus (intro w' hSw; clear hSw; go_simp; try with_reducible rfl)
        (try simp only [Act.put, zn1, zn2, zn3])
        refine tY (i := 16) (v := ?_) rfl ?_ hHeld ?_; rotate_left 1; focus (intro w' hSw; clear hSw; go_simp; try with_reducible rfl)
        (try simp only [Act.put, zn1, zn2, zn3])
        refine tS (i := 17) rfl hHeld ?_; (try simp only [Act.put, zn1, zn2, zn3])
        refine tS (i := 18) rfl hHeld ?_; (try simp only [Act.put, zn1, zn2, zn3])
        refine tS (i := 19) rfl hHeld ?_; (try simp only [Act.put, zn1, zn2, zn3])
        refine tY (i := 20) (v := ?_) rfl ?_ hHeld ?_; rotate_left 1; focus (intro w' hSw; clear hSw; go_simp; try with_reducible rfl)
        (try simp only [Act.put, zn1, zn2, zn3])
        refine tY (i := 21) (v := ?_) rfl ?_ hHeld ?_; rotate_left 1; focus (intro w' hSw; clear hSw; go_simp; try with_reducible rfl)
        (try simp only [Act.put, zn1, zn2, zn3])
        refine wpAnyH_done (by kernel_rfl) ?_ _
        go_wp2_with fail
        go_ret
        exact ⟨ret_bool (by rw [HM.out]; simp [H1.out, H2.out, H3.out]), lift HB.out hHeld⟩
      · have H3 := Lib.hid h3
        try go_wp2_with fail
        refine wp_region_held_drew (S := fun w' => Below W1.heap.size W1 w') (by kernel_rfl) (Below.drew (Below.refl _ _)) (fun hHeld => ?_)
        refine tY (i := 0) (v := ?_) rfl ?_ hHeld ?_; rotate_left 1; focus (intro w' hSw; clear hSw; go_simp; try with_reducible rfl)
        (try simp only [Act.put, zn1, zn2, zn3])
        refine tY (i := 1) (v := ?_) rfl ?_ hHeld ?_; rotate_left 1; focus (intro w' hSw; have hCell := fun (b o : Nat) (h : b < W1.heap.size) => hSw.cell (p := ⟨b, o, none⟩) h; clear hSw; go_simp; try with_reducible rfl)
        (try simp only [Act.put, zn1, zn2, zn3])
        refine ready_one (i := 2) rfl (by kernel_rfl) (fun K hK => ?_)
        go_simp
        refine (May_any s _ hl).mono ?_
        rintro e v2 ⟨rfl, hb⟩
        refine hK.out _ _ ?_ (fun hHeld2 => ?_)
        · (try dsimp only); first | exact Below.trans hHeld (Below.mono hb hHeld.size) | exact hHeld | exact Below.drew hHeld | exact (by repeat (first | exact Below.refl _ _ | assumption | refine Below.alloc ?_ (by simp <;> omega) _ | refine Below.setCell ?_ (by simp <;> omega) _ | refine Below.drew ?_))
        clear hK K hHeld; have hHeld := hHeld2; clear hHeld2; (try simp only [Act.put, zn1, zn2, zn3])
        refine tY (i := 3) (v := ?_) rfl ?_ hHeld ?_; rotate_left 1; focus (intro w' hSw; clear hSw; go_simp; try with_reducible rfl)
        (try simp only [Act.put, zn1, zn2, zn3])
        refine tY (i := 4) (v := ?_) rfl ?_ hHeld ?_; rotate_left 1; focus (intro w' hSw; clear hSw; go_simp; try with_reducible rfl)
        (try simp only [Act.put, zn1, zn2, zn3])
        refine tY (i := 5) (v := ?_) rfl ?_ hHeld ?_; rotate_left 1; focus (intro w' hSw; have hCell := fun (b o : Nat) (h : b < W1.heap.size) => hSw.cell (p := ⟨b, o, none⟩) h; clear hSw; go_simp; try with_reducible rfl)
        (try simp only [Act.put, zn1, zn2, zn3])
        refine tY (i := 6) (v := ?_) rfl ?_ hHeld ?_; rotate_left 1; focus (intro w' hSw; clear hSw; go_simp; try with_reducible rfl)
        (try simp only [Act.put, zn1, zn2, zn3])
        refine tY (i := 7) (v := ?_) rfl ?_ hHeld ?_; rotate_left 1; focus (intro w' hSw; have hCell := fun (b o : Nat) (h : b < W1.heap.size) => hSw.cell (p := ⟨b, o, none⟩) h; clear hSw; go_simp; try with_reducible rfl)
        (try simp only [Act.put, zn1, zn2, zn3])
        refine ready_one (i := 8) rfl (by kernel_rfl) (fun K hK => ?_)
        go_simp
        refine (Kind_any s _ hl).mono ?_
        rintro e v3 ⟨rfl, hb⟩
        refine hK.out _ _ ?_ (fun hHeld2 => ?_)
        · (try dsimp only); first | exact Below.trans hHeld (Below.mono hb hHeld.size) | exact hHeld | exact Below.drew hHeld | exact (by repeat (first | exact Below.refl _ _ | assumption | refine Below.alloc ?_ (by simp <;> omega) _ | refine Below.setCell ?_ (by simp <;> omega) _ | refine Below.drew ?_))
        clear hK K hHeld; have hHeld := hHeld2; clear hHeld2; (try simp only [Act.put, zn1, zn2, zn3])
        refine tY (i := 9) (v := ?_) rfl ?_ hHeld ?_; rotate_left 1; focus (intro w' hSw; clear hSw; go_simp; try with_reducible rfl)
        (try simp only [Act.put, zn1, zn2, zn3])
        refine tY (i := 10) (v := ?_) rfl ?_ hHeld ?_; rotate_left 1; focus (intro w' hSw; clear hSw; go_simp; try with_reducible rfl)
        (try simp only [Act.put, zn1, zn2, zn3])
        refine tY (i := 11) (v := ?_) rfl ?_ hHeld ?_; rotate_left 1; focus (intro w' hSw; clear hSw; go_simp; try with_reducible rfl)
        (try simp only [Act.put, zn1, zn2, zn3])
        refine tY (i := 12) (v := ?_) rfl ?_ hHeld ?_; rotate_left 1; focus (intro w' hSw; clear hSw; go_simp; try with_reducible rfl)
        (try simp only [Act.put, zn1, zn2, zn3])
        refine tY (i := 13) (v := ?_) rfl ?_ hHeld ?_; rotate_left 1; focus (intro w' hSw; have hCell := fun (b o : Nat) (h : b < W1.heap.size) => hSw.cell (p := ⟨b, o, none⟩) h; clear hSw; go_simp; try with_reducible rfl)
        (try simp only [Act.put, zn1, zn2, zn3])
        refine tY (i := 14) (v := ?_) rfl ?_ hHeld ?_; rotate_left 1; focus (intro w' hSw; clear hSw; go_simp; try with_reducible rfl)
        (try simp only [Act.put, zn1, zn2, zn3])
        refine tY (i := 15) (v := ?_) rfl ?_ hHeld ?_; rotate_left 1; focus (intro w' hSw; clear hSw; go_simp; try with_reducible rfl)
        (try simp only [Act.put, zn1, zn2, zn3])
        refine tY (i := 16) (v := ?_) rfl ?_ hHeld ?_; rotate_left 1; focus (intro w' hSw; clear hSw; go_simp; try with_reducible rfl)
        (try simp only [Act.put, zn1, zn2, zn3])
        refine tY (i := 17) (v := ?_) rfl ?_ hHeld ?_; rotate_left 1; focus (intro w' hSw; clear hSw; go_simp; try with_reducible rfl)
        (try simp only [Act.put, zn1, zn2, zn3])
        refine tY (i := 18) (v := ?_) rfl ?_ hHeld ?_; rotate_left 1; focus (intro w' hSw; have hCell := fun (b o : Nat) (h : b < W1.heap.size) => hSw.cell (p := ⟨b, o, none⟩) h; clear hSw; go_simp; try with_reducible rfl)
        (try simp only [Act.put, zn1, zn2, zn3])
        refine tY (i := 19) (v := ?_) rfl ?_ hHeld ?_; rotate_left 1; focus (intro w' hSw; clear hSw; go_simp; try with_reducible rfl)
        (try simp only [Act.put, zn1, zn2, zn3])
        refine tY (i := 20) (v := ?_) rfl ?_ hHeld ?_; rotate_left 1; focus (intro w' hSw; clear hSw; go_simp; try with_reducible rfl)
        (try simp only [Act.put, zn1, zn2, zn3])
        refine tY (i := 21) (v := ?_) rfl ?_ hHeld ?_; rotate_left 1; focus (intro w' hSw; clear hSw; go_simp; try with_reducible rfl)
        (try simp only [Act.put, zn1, zn2, zn3])
        refine wpAnyH_done (by kernel_rfl) ?_ _
        go_wp2_with fail
        go_ret
        exact ⟨ret_bool (by rw [HM.out]; simp [H1.out, H2.out, H3.out]), lift HB.out hHeld⟩
/-- May an edge stand in a graph with these nodes? -/
def edgeOk (ns : List Nd) (e : Ed) : Bool := (nodeOf ns e.1).isSome && ((nodeOf ns e.2.1).isSome && (!(e.1 == e.2.1) && (((nodeOf ns e.1).getD ([], 0, 0)).2.2 == 1 && (!decide (e.2.2 < 1) && !decide (10 < e.2.2)))))
def mayG (ns : List Nd) (es : List Ed) : Bool := !decide ((64 : Int) < (ns.length : Int)) && (risesB nodeCmp ns && (risesB edgeCmp es && (ns.all mayN && es.all (edgeOk ns))))
def OkNs (ns : List Nd) : Prop := ∀ n ∈ ns, n.1.length ≤ 140737488355328
theorem all_take_succ {α : Type} {p : α → Bool} {l : List α} {k : Nat} (hk : k < l.length) : (l.take (k + 1)).all p = ((l.take k).all p && p l[k]) := by
  rw [List.take_succ_eq_append_getElem hk, List.all_append]; simp
theorem all_false_at {α : Type} {p : α → Bool} {l : List α} {k : Nat} (hk : k < l.length) (h : p l[k] = false) : l.all p = false := by
  rw [List.all_eq_false]; exact ⟨l[k], List.getElem_mem hk, by simp [h]⟩
set_option maxRecDepth 100000 in
set_option maxHeartbeats 8000000 in
theorem MayG_any (An Ae : Option Addr) (cn ce : Nat) (ns : List Nd) (es : List Ed) (w : World) (hn : Rd w w.heap.size 3 An ns.length (ndsC ns)) (hr : Rd w w.heap.size 3 Ae es.length (edsC es)) (hln : ns.length ≤ 1000000) (hl : es.length ≤ 1000000) (hok : OkNs ns) :
    Calls Tryz.prog 23 #[gV An ns.length cn Ae es.length ce] w fun e w' => e = .returned (.bool (mayG ns es)) ∧ Below w.heap.size w w' := by
  have Hn := Lib.hid hn
  have Hr := Lib.hid hr
  have HO := Lib.hid hok
  have HM := Lib.hid (show mayG ns es = (!decide ((64 : Int) < (ns.length : Int)) && (risesB nodeCmp ns && (risesB edgeCmp es && (ns.all mayN && es.all (edgeOk ns))))) from rfl)
  clear hn hr hok
  by_cases h64 : (64 : Int) < (ns.length : Int)
  · have h1 : decide ((64 : Int) < (ns.length : Int)) = true := by simpa using h64
    have H1 := Lib.hid h1
    go_enter Tryz.func23, Tryz.ntmps23
    go_wp2_with fail
    go_ret
    exact ⟨ret_bool (by rw [HM.out, H1.out]; rfl), (by repeat (first | exact Below.refl _ _ | assumption | refine Below.alloc ?_ (by simp <;> omega) _ | refine Below.setCell ?_ (by simp <;> omega) _ | refine Below.drew ?_))⟩
  · have h1 : decide ((64 : Int) < (ns.length : Int)) = false := by simpa using h64
    have H1 := Lib.hid h1
    go_enter Tryz.func23, Tryz.ntmps23
    go_wp2_with fail
    first | (refine wp_named ?_; intro W1 hW) | (refine calls_named ?_; intro W1 hW)
    have B1 : Below w.heap.size w W1 := by rw [hW]; exact (by repeat (first | exact Below.refl _ _ | assumption | refine Below.alloc ?_ (by simp <;> omega) _ | refine Below.setCell ?_ (by simp <;> omega) _ | refine Below.drew ?_))
    replace Hr := Lib.hid (Hr.out.at B1)
    replace Hn := Lib.hid (Hn.out.at B1)
    have n1 : w.heap.size < W1.heap.size := by rw [hW]; simp <;> omega
    have c0 : W1.cell? ⟨w.heap.size, 0, none⟩ = some (.slice An ns.length cn) := by rw [hW]; go_simp
    have c1 : W1.cell? ⟨w.heap.size, 1, none⟩ = some (.slice Ae es.length ce) := by rw [hW]; go_simp
    clear hW
    have HB := Lib.hid B1
    clear B1
    go_wp2_with fail
    refine (risesN_any _ cn ns W1 Hn.out hln).mono ?_
    rintro e v1 ⟨rfl, hb⟩
    replace c0 := cellAt c0 hb (by omega)
    replace c1 := cellAt c1 hb (by omega)
    replace Hr := Lib.hid (Hr.out.at hb)
    replace Hn := Lib.hid (Hn.out.at hb)
    replace n1 : w.heap.size < v1.heap.size := ltAt n1 hb
    replace HB := Lib.hid (lift HB.out hb)
    clear hb
    cases h2 : risesB nodeCmp ns
    · have H2 := Lib.hid h2
      go_wp2_with fail
      go_ret
      exact ⟨ret_bool (by rw [HM.out, H1.out, H2.out]; simp), HB.out⟩
    · have H2 := Lib.hid h2
      go_wp2_with fail
      refine (risesE_any _ ce es v1 Hr.out hl).mono ?_
      rintro e v2 ⟨rfl, hb⟩
      replace c0 := cellAt c0 hb (by omega)
      replace c1 := cellAt c1 hb (by omega)
      replace Hr := Lib.hid (Hr.out.at hb)
      replace Hn := Lib.hid (Hn.out.at hb)
      replace n1 : w.heap.size < v2.heap.size := ltAt n1 hb
      replace HB := Lib.hid (lift HB.out hb)
      clear hb
      cases h3 : risesB edgeCmp es
      · have H3 := Lib.hid h3
        go_wp2_with fail
        go_ret
        exact ⟨ret_bool (by rw [HM.out, H1.out, H2.out, H3.out]; simp), HB.out⟩
      · have H3 := Lib.hid h3
        go_wp2_with fail
        go_loopw [30] (fun i wr => ∃ k : Nat, k ≤ ns.length ∧ i = .int .i64 k ∧ Hid ((ns.take k).all mayN = true) ∧ Below v2.heap.size v2 wr) (fun i _ => ns.length - (intOf i).toNat)
        case atStart => exact ⟨0, Nat.zero_le _, rfl, by simp [Hid], Below.refl _ _⟩
        case round =>
          obtain ⟨k, hk, rfl, hall, hb⟩ := hrel
          replace c0 := cellAt c0 hb (by omega)
          replace c1 := cellAt c1 hb (by omega)
          replace Hr := Lib.hid (Hr.out.at hb)
          replace Hn := Lib.hid (Hn.out.at hb)
          replace n1 : w.heap.size < wr.heap.size := ltAt n1 hb
          replace HB := Lib.hid (lift HB.out hb)
          have Hb := Lib.hid hb
          clear hb
          by_cases hlt : k < ns.length
          · obtain ⟨b, o, rfl, hB, x0, x1, x2⟩ := Hn.out.node hlt
            have hat := @all_take_succ Nd mayN ns k hlt
            have haf := @all_false_at Nd mayN ns k hlt
            have hlen := HO.out _ (List.getElem_mem hlt)
            generalize ns[k] = p at x0 x1 x2 hat haf hlen
            obtain ⟨s, u, r⟩ := p
            have HA := Lib.hid (And.intro hat haf)
            simp only at x0 x1 x2 hlen
            clear hat haf
            go_wp2_with fail
            first | (refine wp_named ?_; intro W2 hW) | (refine calls_named ?_; intro W2 hW)
            have B2 : Below wr.heap.size wr W2 := by rw [hW]; exact (by repeat (first | exact Below.refl _ _ | assumption | refine Below.alloc ?_ (by simp <;> omega) _ | refine Below.setCell ?_ (by simp <;> omega) _ | refine Below.drew ?_))
            replace c0 := cellAt c0 B2 (by omega)
            replace c1 := cellAt c1 B2 (by omega)
            replace Hr := Lib.hid (Hr.out.at B2)
            replace Hn := Lib.hid (Hn.out.at B2)
            replace n1 : w.heap.size < W2.heap.size := ltAt n1 B2
            replace HB := Lib.hid (lift HB.out B2)
            replace hB := ltAt hB B2
            replace Hb := Lib.hid (lift Hb.out B2)
            clear hW
            refine (mayNode_any s u r W2 hlen).mono ?_
            rintro e v3 ⟨rfl, hb⟩
            replace c0 := cellAt c0 hb (by omega)
            replace c1 := cellAt c1 hb (by omega)
            replace Hr := Lib.hid (Hr.out.at hb)
            replace Hn := Lib.hid (Hn.out.at hb)
            replace n1 : w.heap.size < v3.heap.size := ltAt n1 hb
            replace HB := Lib.hid (lift HB.out hb)
            replace hB := ltAt hB hb
            replace Hb := Lib.hid (lift Hb.out hb)
            clear hb B2
            cases hp : mayN (s, u, r)
            · have HP := Lib.hid (HA.out.2 hp)
              go_wp2_with fail
              go_ret
              exact ⟨ret_bool (by rw [HM.out, H1.out, H2.out, H3.out, HP.out]; simp), HB.out⟩
            · have HP := Lib.hid hp
              go_wp2_with fail
              go_roundw
              case rel => exact ⟨k + 1, by omega, by go_num, by show _ = true; rw [HA.out.1, hall.out, HP.out]; rfl, Hb.out⟩
              case measure => simp [intOf]; omega
          · have hkn : k = ns.length := by omega
            have h4 := hall.out
            rw [hkn, List.take_length] at h4
            have H4 := Lib.hid h4
            obtain ⟨w4, rfl⟩ : ∃ wo : World, wo = wr := ⟨_, rfl⟩
            clear hkn h4 Hb
            go_wp2_with fail
            go_loopw [41] (fun i wr => ∃ k : Nat, k ≤ es.length ∧ i = .int .i64 k ∧ Hid ((es.take k).all (edgeOk ns) = true) ∧ Below w4.heap.size w4 wr) (fun i _ => es.length - (intOf i).toNat)
            case atStart => exact ⟨0, Nat.zero_le _, rfl, by simp [Hid], Below.refl _ _⟩
            case round =>
              obtain ⟨k2, hk2, rfl, hall2, hb⟩ := hrel
              replace c0 := cellAt c0 hb (by omega)
              replace c1 := cellAt c1 hb (by omega)
              replace Hr := Lib.hid (Hr.out.at hb)
              replace Hn := Lib.hid (Hn.out.at hb)
              replace n1 : w.heap.size < wr.heap.size := ltAt n1 hb
              replace HB := Lib.hid (lift HB.out hb)
              have Hb := Lib.hid hb
              clear hb
              by_cases hlt2 : k2 < es.length
              · obtain ⟨b, o, rfl, hB, x0, x1, x2⟩ := Hr.out.edge hlt2
                have hat := @all_take_succ Ed (edgeOk ns) es k2 hlt2
                have haf := @all_false_at Ed (edgeOk ns) es k2 hlt2
                generalize es[k2] = p at x0 x1 x2 hat haf
                obtain ⟨s, d, r⟩ := p
                have HA := Lib.hid (And.intro hat haf)
                simp only at x0 x1 x2
                have hek : edgeOk ns (s, d, r) = ((nodeOf ns s).isSome && ((nodeOf ns d).isSome && (!(s == d) && (((nodeOf ns s).getD ([], 0, 0)).2.2 == 1 && (!decide (r < 1) && !decide (10 < r)))))) := rfl
                have HE := Lib.hid hek
                clear hat haf hek
                go_wp2_with fail
                first | (refine wp_named ?_; intro W2 hW) | (refine calls_named ?_; intro W2 hW)
                have B2 : Below wr.heap.size wr W2 := by rw [hW]; exact (by repeat (first | exact Below.refl _ _ | assumption | refine Below.alloc ?_ (by simp <;> omega) _ | refine Below.setCell ?_ (by simp <;> omega) _ | refine Below.drew ?_))
                replace c0 := cellAt c0 B2 (by omega)
                replace c1 := cellAt c1 B2 (by omega)
                replace Hr := Lib.hid (Hr.out.at B2)
                replace Hn := Lib.hid (Hn.out.at B2)
                replace n1 : w.heap.size < W2.heap.size := ltAt n1 B2
                replace HB := Lib.hid (lift HB.out B2)
                replace Hb := Lib.hid (lift Hb.out B2)
                have m1 : wr.heap.size < W2.heap.size := by rw [hW]; simp <;> omega
                have e0 : W2.cell? ⟨wr.heap.size, 0, none⟩ = some (sv s) := by rw [hW]; go_simp
                have e1 : W2.cell? ⟨wr.heap.size, 1, none⟩ = some (sv d) := by rw [hW]; go_simp
                have e2 : W2.cell? ⟨wr.heap.size, 2, none⟩ = some (.int .i64 r) := by rw [hW]; go_simp
                clear hW
                clear B2
                refine (Node_any _ _ es.length cn ce ns s W2 Hn.out hln).mono ?_
                rintro e v3 ⟨rfl, hb⟩
                replace c0 := cellAt c0 hb (by omega)
                replace c1 := cellAt c1 hb (by omega)
                replace e0 := cellAt e0 hb (by omega)
                replace e1 := cellAt e1 hb (by omega)
                replace e2 := cellAt e2 hb (by omega)
                replace Hr := Lib.hid (Hr.out.at hb)
                replace Hn := Lib.hid (Hn.out.at hb)
                replace n1 : w.heap.size < v3.heap.size := ltAt n1 hb
                replace HB := Lib.hid (lift HB.out hb)
                replace Hb := Lib.hid (lift Hb.out hb)
                replace m1 : wr.heap.size < v3.heap.size := ltAt m1 hb
                clear hb
                unfold nodeV
                generalize ho1 : nodeOf ns s = o1 at *
                generalize hn1 : o1.getD ([], 0, 0) = nd1
                obtain ⟨nm, kd, st⟩ := nd1
                have HN1 := Lib.hid (And.intro ho1 hn1)
                clear ho1 hn1
                go_wp2_with fail
                first | (refine wp_named ?_; intro W4 hW) | (refine calls_named ?_; intro W4 hW)
                have B4 : Below v3.heap.size v3 W4 := by rw [hW]; exact (by repeat (first | exact Below.refl _ _ | assumption | refine Below.alloc ?_ (by simp <;> omega) _ | refine Below.setCell ?_ (by simp <;> omega) _ | refine Below.drew ?_))
                replace c0 := cellAt c0 B4 (by omega)
                replace c1 := cellAt c1 B4 (by omega)
                replace e0 := cellAt e0 B4 (by omega)
                replace e1 := cellAt e1 B4 (by omega)
                replace e2 := cellAt e2 B4 (by omega)
                replace Hr := Lib.hid (Hr.out.at B4)
                replace Hn := Lib.hid (Hn.out.at B4)
                replace n1 : w.heap.size < W4.heap.size := ltAt n1 B4
                replace HB := Lib.hid (lift HB.out B4)
                replace Hb := Lib.hid (lift Hb.out B4)
                replace m1 : wr.heap.size < W4.heap.size := ltAt m1 B4
                have m4 : v3.heap.size < W4.heap.size := by rw [hW]; simp <;> omega
                have f0 : W4.cell? ⟨v3.heap.size, 0, none⟩ = some (sv nm) := by rw [hW]; go_simp
                have f1 : W4.cell? ⟨v3.heap.size, 1, none⟩ = some (.int .i64 kd) := by rw [hW]; go_simp
                have f2 : W4.cell? ⟨v3.heap.size, 2, none⟩ = some (.int .i64 st) := by rw [hW]; go_simp
                clear hW
                clear B4
                refine (Node_any _ _ es.length cn ce ns d W4 Hn.out hln).mono ?_
                rintro e v5 ⟨rfl, hb⟩
                replace c0 := cellAt c0 hb (by omega)
                replace c1 := cellAt c1 hb (by omega)
                replace e0 := cellAt e0 hb (by omega)
                replace e1 := cellAt e1 hb (by omega)
                replace e2 := cellAt e2 hb (by omega)
                replace f0 := cellAt f0 hb (by omega)
                replace f1 := cellAt f1 hb (by omega)
                replace f2 := cellAt f2 hb (by omega)
                replace Hr := Lib.hid (Hr.out.at hb)
                replace Hn := Lib.hid (Hn.out.at hb)
                replace n1 : w.heap.size < v5.heap.size := ltAt n1 hb
                replace HB := Lib.hid (lift HB.out hb)
                replace Hb := Lib.hid (lift Hb.out hb)
                replace m1 : wr.heap.size < v5.heap.size := ltAt m1 hb
                replace m4 : v3.heap.size < v5.heap.size := ltAt m4 hb
                clear hb
                unfold nodeV
                generalize ho2 : nodeOf ns d = o2 at *
                have HN2 := Lib.hid ho2
                clear ho2
                cases k1 : o1.isSome
                · have K1 := Lib.hid k1
                  have hno : edgeOk ns (s, d, r) = false := by rw [HE.out, K1.out]; simp
                  have HNo := Lib.hid (HA.out.2 hno)
                  clear hno
                  go_wp2_with fail
                  go_ret
                  exact ⟨ret_bool (by rw [HM.out, H1.out, H2.out, H3.out, H4.out, HNo.out]; rfl), HB.out.alloc HB.out.size _⟩
                · have K1 := Lib.hid k1
                  cases k2' : o2.isSome
                  · have K2 := Lib.hid k2'
                    have hno : edgeOk ns (s, d, r) = false := by rw [HE.out, K2.out]; simp
                    have HNo := Lib.hid (HA.out.2 hno)
                    clear hno
                    go_wp2_with fail
                    go_ret
                    exact ⟨ret_bool (by rw [HM.out, H1.out, H2.out, H3.out, H4.out, HNo.out]; rfl), HB.out.alloc HB.out.size _⟩
                  · have K2 := Lib.hid k2'
                    cases k3 : (s == d)
                    · have K3 := Lib.hid k3
                      cases k4 : (st == 1)
                      · have K4 := Lib.hid k4
                        have k4' : (st != 1) = true := by rw [bne, k4]; rfl
                        have hno : edgeOk ns (s, d, r) = false := by rw [HE.out, HN1.out.2, K4.out]; simp
                        have HNo := Lib.hid (HA.out.2 hno)
                        clear hno
                        go_wp2_with fail
                        go_ret
                        exact ⟨ret_bool (by rw [HM.out, H1.out, H2.out, H3.out, H4.out, HNo.out]; rfl), HB.out.alloc HB.out.size _⟩
                      · have K4 := Lib.hid k4
                        have k4' : (st != 1) = false := by rw [bne, k4]; rfl
                        cases k5 : decide (r < 1)
                        · have K5 := Lib.hid k5
                          cases k6 : decide (10 < r)
                          · have K6 := Lib.hid k6
                            have hyes : edgeOk ns (s, d, r) = true := by rw [HE.out, HN1.out.2, K1.out, K2.out, K3.out, K4.out, K5.out, K6.out]; rfl
                            have HY := Lib.hid hyes
                            clear hyes
                            go_wp2_with fail
                            go_roundw
                            case rel => exact ⟨k2 + 1, by omega, by go_num, by show _ = true; rw [HA.out.1, hall2.out, HY.out]; rfl, Hb.out.alloc Hb.out.size _⟩
                            case measure => simp [intOf]; omega
                          · have K6 := Lib.hid k6
                            have p6 : (10 : Int) < r := by simpa using k6
                            have hno : edgeOk ns (s, d, r) = false := by rw [HE.out, K6.out]; simp
                            have HNo := Lib.hid (HA.out.2 hno)
                            clear hno
                            go_wp2_with fail
                            go_ret
                            exact ⟨ret_bool (by rw [HM.out, H1.out, H2.out, H3.out, H4.out, HNo.out]; rfl), HB.out.alloc HB.out.size _⟩
                        · have K5 := Lib.hid k5
                          have p5 : r < (1 : Int) := by simpa using k5
                          have hno : edgeOk ns (s, d, r) = false := by rw [HE.out, K5.out]; simp
                          have HNo := Lib.hid (HA.out.2 hno)
                          clear hno
                          go_wp2_with fail
                          go_ret
                          exact ⟨ret_bool (by rw [HM.out, H1.out, H2.out, H3.out, H4.out, HNo.out]; rfl), HB.out.alloc HB.out.size _⟩
                    · have K3 := Lib.hid k3
                      have hno : edgeOk ns (s, d, r) = false := by rw [HE.out, K3.out]; simp
                      have HNo := Lib.hid (HA.out.2 hno)
                      clear hno
                      go_wp2_with fail
                      go_ret
                      exact ⟨ret_bool (by rw [HM.out, H1.out, H2.out, H3.out, H4.out, HNo.out]; rfl), HB.out.alloc HB.out.size _⟩
              · have hkn2 : k2 = es.length := by omega
                have h5 := hall2.out
                rw [hkn2, List.take_length] at h5
                have H5 := Lib.hid h5
                clear hkn2 h5
                go_wp2_with fail
                go_ret
                exact ⟨ret_bool (by rw [HM.out, H1.out, H2.out, H3.out, H4.out, H5.out]; rfl), HB.out⟩
end Od
end Go.Proofs.YtbllehjhmfehbaaGreat
end

section
/- '==' of two edges, as one answer. -/
namespace Go.Proofs.YtbllehjhmfehbaaGreat
open Go.RowKit
namespace Od
def edEq (a b : Ed) : Bool := a == b
theorem edEq_iff {a b : Ed} : edEq a b = (a == b) := rfl
set_option maxRecDepth 100000 in
theorem ed_eq (s d s' d' : Str) (r r' : Int) (w : World) : (Op.equalIn 10000 45 (.agg #[sv s, sv d, .int .i64 r]) (.agg #[sv s', sv d', .int .i64 r'])).run Tryz.prog w = .ok (edEq (s, d, r) (s', d', r')) w := by
  show (Op.equalIn (9999 + 1) _ _ _).run _ w = _
  go_simp
  unfold edEq
  by_cases h1 : s = s' <;> by_cases h2 : d = d' <;> by_cases h3 : r = r' <;> simp [h1, h2, h3]
theorem ed_eql (s d s' d' : Str) (r r' : Int) (w : World) : (binOp .eql 45 (.agg #[sv s, sv d, .int .i64 r]) (.agg #[sv s', sv d', .int .i64 r'])).run Tryz.prog w = .ok (.bool (edEq (s, d, r) (s', d', r'))) w := by
  rw [run_eql_struct, ed_eq]; rfl
theorem ed_neq (s d s' d' : Str) (r r' : Int) (w : World) : (binOp .neq 45 (.agg #[sv s, sv d, .int .i64 r]) (.agg #[sv s', sv d', .int .i64 r'])).run Tryz.prog w = .ok (.bool (!edEq (s, d, r) (s', d', r'))) w := by
  rw [run_neq_struct, ed_eq]; rfl
end Od
end Go.Proofs.YtbllehjhmfehbaaGreat
end

section
/- The walk of matinsref15.Same. -/
namespace Go.Proofs.YtbllehjhmfehbaaGreat
open Go.RowKit Go.Sort

namespace Od
def ndEq (a b : Nd) : Bool := a == b
set_option maxRecDepth 100000 in
theorem nd_eq (s s' : Str) (k k' r r' : Int) (w : World) : (Op.equalIn 10000 39 (.agg #[sv s, .int .i64 k, .int .i64 r]) (.agg #[sv s', .int .i64 k', .int .i64 r'])).run Tryz.prog w = .ok (ndEq (s, k, r) (s', k', r')) w := by
  show (Op.equalIn (9999 + 1) _ _ _).run _ w = _
  go_simp
  unfold ndEq
  by_cases h1 : s = s' <;> by_cases h2 : k = k' <;> by_cases h3 : r = r' <;> simp [h1, h2, h3]
theorem nd_neq (s s' : Str) (k k' r r' : Int) (w : World) : (binOp .neq 39 (.agg #[sv s, .int .i64 k, .int .i64 r]) (.agg #[sv s', .int .i64 k', .int .i64 r'])).run Tryz.prog w = .ok (.bool (!ndEq (s, k, r) (s', k', r'))) w := by
  rw [run_neq_struct, nd_eq]; rfl

theorem take_eq_succ {α : Type} {xs ys : List α} {k : Nat} (h : xs.take k = ys.take k) (h1 : k < xs.length) (h2 : k < ys.length) (he : xs[k] = ys[k]) : xs.take (k + 1) = ys.take (k + 1) := by
  rw [List.take_succ_eq_append_getElem h1, List.take_succ_eq_append_getElem h2, h, he]
def sameG (ns ns' : List Nd) (es es' : List Ed) : Bool := decide (ns = ns') && decide (es = es')
set_option maxRecDepth 100000 in
set_option maxHeartbeats 4000000 in
theorem Same15_any (An Ae Bn Be : Option Addr) (cn ce dn de : Nat) (ns ns' : List Nd) (es es' : List Ed) (w : World) (hn : Rd w w.heap.size 3 An ns.length (ndsC ns)) (hr : Rd w w.heap.size 3 Ae es.length (edsC es)) (hn' : Rd w w.heap.size 3 Bn ns'.length (ndsC ns')) (hr' : Rd w w.heap.size 3 Be es'.length (edsC es')) (hl : ns.length ≤ 1000000 ∧ es.length ≤ 1000000 ∧ ns'.length ≤ 1000000 ∧ es'.length ≤ 1000000) :
    Calls Tryz.prog 39 #[gV An ns.length cn Ae es.length ce, gV Bn ns'.length dn Be es'.length de] w fun e w' => e = .returned (.bool (sameG ns ns' es es')) ∧ Below w.heap.size w w' := by
  obtain ⟨hl1, hl2, hl3, hl4⟩ := hl
  have Hn := Lib.hid hn
  have Hr := Lib.hid hr
  have Hn' := Lib.hid hn'
  have Hr' := Lib.hid hr'
  have hq1 := ed_neq
  have hq2 := nd_neq
  clear hr hn hr' hn'
  by_cases e1 : ns.length = ns'.length
  · by_cases e2 : es.length = es'.length
    · have b1 : ((ns.length : Int) != (ns'.length : Int)) = false := by simp [e1]
      have b2 : ((es.length : Int) != (es'.length : Int)) = false := by simp [e2]
      have E1 := Lib.hid e1
      have E2 := Lib.hid e2
      clear e1 e2
      go_enter Tryz.func39, Tryz.ntmps39
      go_wp2_with fail
      first | (refine wp_named ?_; intro W1 hW) | (refine calls_named ?_; intro W1 hW)
      have B1 : Below w.heap.size w W1 := by rw [hW]; exact (by repeat (first | exact Below.refl _ _ | assumption | refine Below.alloc ?_ (by simp <;> omega) _ | refine Below.setCell ?_ (by simp <;> omega) _ | refine Below.drew ?_))
      replace Hr := Lib.hid (Hr.out.at B1)
      replace Hn := Lib.hid (Hn.out.at B1)
      replace Hr' := Lib.hid (Hr'.out.at B1)
      replace Hn' := Lib.hid (Hn'.out.at B1)
      have n1 : w.heap.size < W1.heap.size := by rw [hW]; simp <;> omega
      have n2 : (w.heap.size + 1) < W1.heap.size := by rw [hW]; simp <;> omega
      have c10 : W1.cell? ⟨w.heap.size, 0, none⟩ = some (.slice An ns.length cn) := by rw [hW]; go_simp
      have c11 : W1.cell? ⟨w.heap.size, 1, none⟩ = some (.slice Ae es.length ce) := by rw [hW]; go_simp
      have c20 : W1.cell? ⟨w.heap.size + 1, 0, none⟩ = some (.slice Bn ns'.length dn) := by rw [hW]; go_simp
      have c21 : W1.cell? ⟨w.heap.size + 1, 1, none⟩ = some (.slice Be es'.length de) := by rw [hW]; go_simp
      clear hW
      have HB := Lib.hid B1
      clear B1
      go_loopw [26] (fun i wr => ∃ k : Nat, k ≤ ns.length ∧ i = .int .i64 k ∧ Hid (ns.take k = ns'.take k) ∧ Below W1.heap.size W1 wr) (fun i _ => ns.length - (intOf i).toNat)
      case atStart => exact ⟨0, Nat.zero_le _, rfl, by simp [Hid], Below.refl _ _⟩
      case round =>
        obtain ⟨k, hk, rfl, hall, hb⟩ := hrel
        replace c10 := cellAt c10 hb (by omega)
        replace c11 := cellAt c11 hb (by omega)
        replace c20 := cellAt c20 hb (by omega)
        replace c21 := cellAt c21 hb (by omega)
        replace Hr := Lib.hid (Hr.out.at hb)
        replace Hn := Lib.hid (Hn.out.at hb)
        replace Hr' := Lib.hid (Hr'.out.at hb)
        replace Hn' := Lib.hid (Hn'.out.at hb)
        replace n1 : w.heap.size < wr.heap.size := ltAt n1 hb
        replace n2 : (w.heap.size + 1) < wr.heap.size := ltAt n2 hb
        replace HB := Lib.hid (lift HB.out hb)
        by_cases hlt : k < ns.length
        · have hlt' : k < ns'.length := by rw [← E1.out]; exact hlt
          obtain ⟨b, o, hA, hB, x0, x1, x2⟩ := Hn.out.node hlt
          obtain ⟨b', o', hA', hB', y0, y1, y2⟩ := Hn'.out.node hlt'
          have htk := @take_eq_succ Nd ns ns' k hall.out hlt hlt'
          have hne : ns[k] ≠ ns'[k] → ns ≠ ns' := fun h e => h (by simp [e])
          generalize ns[k] = p at x0 x1 x2 htk hne
          generalize ns'[k] = q at y0 y1 y2 htk hne
          obtain ⟨s, u, r⟩ := p
          obtain ⟨s', u', r'⟩ := q
          have HT := Lib.hid (And.intro htk hne)
          simp only at x0 x1 x2 y0 y1 y2
          have k1 : (0 : Int) ≤ (k : Int) := by omega
          have k2 : (k : Int) < (ns.length : Int) := by omega
          have k3 : (k : Int) < (ns'.length : Int) := by omega
          subst hA
          subst hA'
          clear htk hne
          have Hb := Lib.hid hb
          clear hb
          go_wp2_with fail
          try go_wp2_with fail
          refine wp_region_held_drew (S := fun w' => Below wr.heap.size wr w') (by kernel_rfl) (Below.drew (Below.refl _ _)) (fun hHeld => ?_)
          refine tY (i := 0) (v := ?_) rfl ?_ hHeld ?_; rotate_left 1; focus (intro w' hSw; clear hSw; go_simp; try with_reducible rfl)
          (try simp only [Act.put, zn1, zn2, zn3])
          refine tY (i := 1) (v := ?_) rfl ?_ hHeld ?_; rotate_left 1; focus (intro w' hSw; have hCell := fun (b o : Nat) (h : b < wr.heap.size) => hSw.cell (p := ⟨b, o, none⟩) h; clear hSw; go_simp; try with_reducible rfl)
          (try simp only [Act.put, zn1, zn2, zn3])
          refine tY (i := 2) (v := ?_) rfl ?_ hHeld ?_; rotate_left 1; focus (intro w' hSw; clear hSw; go_simp; try with_reducible rfl)
          (try simp only [Act.put, zn1, zn2, zn3])
          refine tY (i := 3) (v := ?_) rfl ?_ hHeld ?_; rotate_left 1; focus (intro w' hSw; clear hSw; go_simp; try with_reducible rfl)
          (try simp only [Act.put, zn1, zn2, zn3])
          refine tY (i := 4) (v := ?_) rfl ?_ hHeld ?_; rotate_left 1; focus (intro w' hSw; have hCell := fun (b o : Nat) (h : b < wr.heap.size) => hSw.cell (p := ⟨b, o, none⟩) h; clear hSw; go_simp; try with_reducible rfl)
          (try simp only [Act.put, zn1, zn2, zn3])
          refine tY (i := 5) (v := ?_) rfl ?_ hHeld ?_; rotate_left 1; focus (intro w' hSw; clear hSw; go_simp; try with_reducible rfl)
          (try simp only [Act.put, zn1, zn2, zn3])
          refine tY (i := 6) (v := ?_) rfl ?_ hHeld ?_; rotate_left 1; focus (intro w' hSw; have hCell := fun (b o : Nat) (h : b < wr.heap.size) => hSw.cell (p := ⟨b, o, none⟩) h; clear hSw; go_simp; try with_reducible rfl)
          (try simp only [Act.put, zn1, zn2, zn3])
          refine tY (i := 7) (v := ?_) rfl ?_ hHeld ?_; rotate_left 1; focus (intro w' hSw; clear hSw; go_simp; try with_reducible rfl)
          (try simp only [Act.put, zn1, zn2, zn3])
          refine tY (i := 8) (v := ?_) rfl ?_ hHeld ?_; rotate_left 1; focus (intro w' hSw; clear hSw; go_simp; try with_reducible rfl)
          (try simp only [Act.put, zn1, zn2, zn3])
          refine tY (i := 9) (v := ?_) rfl ?_ hHeld ?_; rotate_left 1; focus (intro w' hSw; have hCell := fun (b o : Nat) (h : b < wr.heap.size) => hSw.cell (p := ⟨b, o, none⟩) h; clear hSw; go_simp; try with_reducible rfl)
          (try simp only [Act.put, zn1, zn2, zn3])
          refine tY (i := 10) (v := ?_) rfl ?_ hHeld ?_; rotate_left 1; focus (intro w' hSw; clear hSw; go_simp; try with_reducible rfl)
          (try simp only [Act.put, zn1, zn2, zn3])
          refine wpAnyH_done (by kernel_rfl) ?_ _
          cases he : ndEq (s, u, r) (s', u', r')
          · have HE := Lib.hid (HT.out.2 (by simpa [ndEq] using he))
            go_wp2_with fail
            go_ret
            exact ⟨ret_bool (by unfold sameG; rw [decide_eq_false HE.out]; rfl), lift HB.out hHeld⟩
          · have HE := Lib.hid (HT.out.1 (by simpa [ndEq] using he))
            go_wp2_with fail
            go_roundw
            case rel => exact ⟨k + 1, by omega, by go_num, HE.out, lift Hb.out hHeld⟩
            case measure => simp [intOf]; omega
        · have hkn : k = ns.length := by omega
          have hns : ns = ns' := by
            have h := hall.out
            rw [hkn, List.take_length, E1.out, List.take_length] at h
            exact h
          have HNS := Lib.hid hns
          obtain ⟨w2, rfl⟩ : ∃ wo : World, wo = wr := ⟨_, rfl⟩
          clear hkn hns hb
          go_wp2_with fail
          go_loopw [44] (fun i wr => ∃ k : Nat, k ≤ es.length ∧ i = .int .i64 k ∧ Hid (es.take k = es'.take k) ∧ Below w2.heap.size w2 wr) (fun i _ => es.length - (intOf i).toNat)
          case atStart => exact ⟨0, Nat.zero_le _, rfl, by simp [Hid], Below.refl _ _⟩
          case round =>
            obtain ⟨k2, hk2, rfl, hall2, hb⟩ := hrel
            replace c10 := cellAt c10 hb (by omega)
            replace c11 := cellAt c11 hb (by omega)
            replace c20 := cellAt c20 hb (by omega)
            replace c21 := cellAt c21 hb (by omega)
            replace Hr := Lib.hid (Hr.out.at hb)
            replace Hn := Lib.hid (Hn.out.at hb)
            replace Hr' := Lib.hid (Hr'.out.at hb)
            replace Hn' := Lib.hid (Hn'.out.at hb)
            replace n1 : w.heap.size < wr.heap.size := ltAt n1 hb
            replace n2 : (w.heap.size + 1) < wr.heap.size := ltAt n2 hb
            replace HB := Lib.hid (lift HB.out hb)
            by_cases hlt2 : k2 < es.length
            · have hlt2' : k2 < es'.length := by rw [← E2.out]; exact hlt2
              obtain ⟨b, o, hA, hB, x0, x1, x2⟩ := Hr.out.edge hlt2
              obtain ⟨b', o', hA', hB', y0, y1, y2⟩ := Hr'.out.edge hlt2'
              have htk := @take_eq_succ Ed es es' k2 hall2.out hlt2 hlt2'
              have hne : es[k2] ≠ es'[k2] → es ≠ es' := fun h e => h (by simp [e])
              generalize es[k2] = p at x0 x1 x2 htk hne
              generalize es'[k2] = q at y0 y1 y2 htk hne
              obtain ⟨s, u, r⟩ := p
              obtain ⟨s', u', r'⟩ := q
              have HT := Lib.hid (And.intro htk hne)
              simp only at x0 x1 x2 y0 y1 y2
              have k1 : (0 : Int) ≤ (k2 : Int) := by omega
              have k3 : (k2 : Int) < (es.length : Int) := by omega
              have k4 : (k2 : Int) < (es'.length : Int) := by omega
              subst hA
              subst hA'
              clear htk hne
              have Hb := Lib.hid hb
              clear hb
              go_wp2_with fail
              try go_wp2_with fail
              refine wp_region_held_drew (S := fun w' => Below wr.heap.size wr w') (by kernel_rfl) (Below.drew (Below.refl _ _)) (fun hHeld => ?_)
              refine tY (i := 0) (v := ?_) rfl ?_ hHeld ?_; rotate_left 1; focus (intro w' hSw; clear hSw; go_simp; try with_reducible rfl)
              (try simp only [Act.put, zn1, zn2, zn3])
              refine tY (i := 1) (v := ?_) rfl ?_ hHeld ?_; rotate_left 1; focus (intro w' hSw; have hCell := fun (b o : Nat) (h : b < wr.heap.size) => hSw.cell (p := ⟨b, o, none⟩) h; clear hSw; go_simp; try with_reducible rfl)
              (try simp only [Act.put, zn1, zn2, zn3])
              refine tY (i := 2) (v := ?_) rfl ?_ hHeld ?_; rotate_left 1; focus (intro w' hSw; clear hSw; go_simp; try with_reducible rfl)
              (try simp only [Act.put, zn1, zn2, zn3])
              refine tY (i := 3) (v := ?_) rfl ?_ hHeld ?_; rotate_left 1; focus (intro w' hSw; clear hSw; go_simp; try with_reducible rfl)
              (try simp only [Act.put, zn1, zn2, zn3])
              refine tY (i := 4) (v := ?_) rfl ?_ hHeld ?_; rotate_left 1; focus (intro w' hSw; have hCell := fun (b o : Nat) (h : b < wr.heap.size) => hSw.cell (p := ⟨b, o, none⟩) h; clear hSw; go_simp; try with_reducible rfl)
              (try simp only [Act.put, zn1, zn2, zn3])
              refine tY (i := 5) (v := ?_) rfl ?_ hHeld ?_; rotate_left 1; focus (intro w' hSw; clear hSw; go_simp; try with_reducible rfl)
              (try simp only [Act.put, zn1, zn2, zn3])
              refine tY (i := 6) (v := ?_) rfl ?_ hHeld ?_; rotate_left 1; focus (intro w' hSw; have hCell := fun (b o : Nat) (h : b < wr.heap.size) => hSw.cell (p := ⟨b, o, none⟩) h; clear hSw; go_simp; try with_reducible rfl)
              (try simp only [Act.put, zn1, zn2, zn3])
              refine tY (i := 7) (v := ?_) rfl ?_ hHeld ?_; rotate_left 1; focus (intro w' hSw; clear hSw; go_simp; try with_reducible rfl)
              (try simp only [Act.put, zn1, zn2, zn3])
              refine tY (i := 8) (v := ?_) rfl ?_ hHeld ?_; rotate_left 1; focus (intro w' hSw; clear hSw; go_simp; try with_reducible rfl)
              (try simp only [Act.put, zn1, zn2, zn3])
              refine tY (i := 9) (v := ?_) rfl ?_ hHeld ?_; rotate_left 1; focus (intro w' hSw; have hCell := fun (b o : Nat) (h : b < wr.heap.size) => hSw.cell (p := ⟨b, o, none⟩) h; clear hSw; go_simp; try with_reducible rfl)
              (try simp only [Act.put, zn1, zn2, zn3])
              refine tY (i := 10) (v := ?_) rfl ?_ hHeld ?_; rotate_left 1; focus (intro w' hSw; clear hSw; go_simp; try with_reducible rfl)
              (try simp only [Act.put, zn1, zn2, zn3])
              refine wpAnyH_done (by kernel_rfl) ?_ _
              cases he : edEq (s, u, r) (s', u', r')
              · have HE := Lib.hid (HT.out.2 (by simpa [edEq] using he))
                go_wp2_with fail
                go_ret
                exact ⟨ret_bool (by unfold sameG; rw [decide_eq_false HE.out, Bool.and_false]), lift HB.out hHeld⟩
              · have HE := Lib.hid (HT.out.1 (by simpa [edEq] using he))
                go_wp2_with fail
                go_roundw
                case rel => exact ⟨k2 + 1, by omega, by go_num, HE.out, lift Hb.out hHeld⟩
                case measure => simp [intOf]; omega
            · have hes : es = es' := by
                have hkn : k2 = es.length := by omega
                have h := hall2.out
                rw [hkn, List.take_length, E2.out, List.take_length] at h
                exact h
              have HES := Lib.hid hes
              clear hes hb
              go_wp2_with fail
              go_ret
              exact ⟨ret_bool (by unfold sameG; rw [decide_eq_true HNS.out, decide_eq_true HES.out]; rfl), HB.out⟩
    · have b1 : ((ns.length : Int) != (ns'.length : Int)) = false := by simp [e1]
      have b2 : ((es.length : Int) != (es'.length : Int)) = true := by simp; omega
      have E1 := Lib.hid e1
      have E2 := Lib.hid (show es ≠ es' from fun h => e2 (by rw [h]))
      clear e1 e2
      go_enter Tryz.func39, Tryz.ntmps39
      go_wp2_with fail
      go_ret
      exact ⟨ret_bool (by unfold sameG; rw [decide_eq_false E2.out, Bool.and_false]), (by repeat (first | exact Below.refl _ _ | assumption | refine Below.alloc ?_ (by simp <;> omega) _ | refine Below.setCell ?_ (by simp <;> omega) _ | refine Below.drew ?_))⟩
  · have b1 : ((ns.length : Int) != (ns'.length : Int)) = true := by simp; omega
    have E1 := Lib.hid (show ns ≠ ns' from fun h => e1 (by rw [h]))
    clear e1
    go_enter Tryz.func39, Tryz.ntmps39
    go_wp2_with fail
    go_ret
    exact ⟨ret_bool (by unfold sameG; rw [decide_eq_false E1.out]; rfl), (by repeat (first | exact Below.refl _ _ | assumption | refine Below.alloc ?_ (by simp <;> omega) _ | refine Below.setCell ?_ (by simp <;> omega) _ | refine Below.drew ?_))⟩
end Od
end Go.Proofs.YtbllehjhmfehbaaGreat
end
