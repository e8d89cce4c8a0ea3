/- My texts, joined for the claim: QMay15R. -/
import Derived.Test.YtbllehjhmfehbaaGreatZU1
import Derived.Test.YtbllehjhmfehbaaGreatZU9
import Derived.Test.YtbllehjhmfehbaaGreatZU14

section
/- The walk of matinsref15.May. (bel2) (short) -/
namespace Go.Proofs.YtbllehjhmfehbaaGreat
open Go.RowKit
set_option linter.unusedSimpArgs false

namespace Od
theorem nodeCmp_lt {a b : Nd} : nodeCmp a b < 0 ↔ ltS a.1 b.1 = true := cmpS_lt
theorem mayG_n {ns : List Nd} {es : List Ed} {k : Nat} (hk : k < ns.length) (h : mayN ns[k] = false) : mayG ns es = false := by
 cases hm : mayG ns es
 ·rfl
 ·have := List.all_eq_true.1 (mayG_iff.1 hm).2.2.2.1 _ (List.getElem_mem hk); rw [h] at this; cases this
theorem mayG_nup {ns : List Nd} {es : List Ed} {k : Nat} (hk : k + 1 < ns.length) (h : ltS ns[k].1 ns[k + 1].1 = false) : mayG ns es = false := by
 cases hm : mayG ns es
 ·rfl
 ·have := nodeCmp_lt.1 ((risesB_iff _ _).1 (mayG_iff.1 hm).2.1 k hk); rw [h] at this; cases this
theorem mayG_e {ns : List Nd} {es : List Ed} {k : Nat} (hk : k < es.length) (h : edgeOk ns es[k] = false) : mayG ns es = false := by
 cases hm : mayG ns es
 ·rfl
 ·have := (mayG_iff.1 hm).2.2.2.2 _ (List.getElem_mem hk); rw [h] at this; cases this
theorem mayG_eup {ns : List Nd} {es : List Ed} {k : Nat} (hk : k + 1 < es.length) (h : ltE es[k] es[k + 1] = false) : mayG ns es = false := by
 cases hm : mayG ns es
 ·rfl
 ·have := List.pairwise_iff_getElem.1 (mayG_iff.1 hm).2.2.1 k (k + 1) (by omega) hk (by omega); rw [h] at this; cases this
def UpN (ns : List Nd) (k : Nat) : Prop := (∀ i (h : i < ns.length), i < k → mayN ns[i] = true) ∧ ∀ i (h : i + 1 < ns.length), i + 1 < k → ltS ns[i].1 ns[i + 1].1 = true
def UpE (ns : List Nd) (es : List Ed) (k : Nat) : Prop := (∀ i (h : i < es.length), i < k → edgeOk ns es[i] = true) ∧ ∀ i (h : i + 1 < es.length), i + 1 < k → ltE es[i] es[i + 1] = true
theorem UpN.step {ns : List Nd} {k : Nat} (h : UpN ns k) (hk : k < ns.length) (hj : mayN ns[k] = true) (hl : ∀ j (e : k = j + 1), ltS (ns[j]'(by omega)).1 ns[k].1 = true) : UpN ns (k + 1) := by
 refine ⟨fun i h1 h2 => ?_, fun i h1 h2 => ?_⟩
 ·by_cases hi : i < k
  ·exact h.1 i h1 hi
  ·obtain rfl : i = k := by omega
   exact hj
 ·by_cases hi : i + 1 < k
  ·exact h.2 i h1 hi
  ·obtain rfl : k = i + 1 := by omega
   exact hl i rfl
theorem UpE.step {ns : List Nd} {es : List Ed} {k : Nat} (h : UpE ns es k) (hk : k < es.length) (hj : edgeOk ns es[k] = true) (hl : ∀ j (e : k = j + 1), ltE (es[j]'(by omega)) es[k] = true) : UpE ns es (k + 1) := by
 refine ⟨fun i h1 h2 => ?_, fun i h1 h2 => ?_⟩
 ·by_cases hi : i < k
  ·exact h.1 i h1 hi
  ·obtain rfl : i = k := by omega
   exact hj
 ·by_cases hi : i + 1 < k
  ·exact h.2 i h1 hi
  ·obtain rfl : k = i + 1 := by omega
   exact hl i rfl
theorem mayG_end {ns : List Nd} {es : List Ed} (h64 : ns.length ≤ 64) (h1 : UpN ns ns.length) (h2 : UpE ns es es.length) : mayG ns es = true := by
 refine mayG_iff.2 ⟨h64, (risesB_iff _ _).2 fun i hi => nodeCmp_lt.2 (h1.2 i hi hi), risesE_iff.1 ((risesB_iff _ _).2 fun i hi => edgeCmp_lt.2 (h2.2 i hi hi)), List.all_eq_true.2 fun n hn => ?_, fun e he => ?_⟩
 ·obtain ⟨i, hi, rfl⟩ := List.mem_iff_getElem.1 hn
  exact h1.1 i hi hi
 ·obtain ⟨i, hi, rfl⟩ := List.mem_iff_getElem.1 he
  exact h2.1 i hi hi
set_option maxRecDepth 100000 in
set_option maxHeartbeats 32000000 in
theorem May15_any (An Ae : Option Addr) (cn ce : Nat) (ns : List Nd) (es : List Ed) (w : World) (hn : Rd w w.heap.size 3 An ns.length (ndsC ns)) (hr : Rd w w.heap.size 3 Ae es.length (edsC es)) (hl : es.length ≤ 1000000) (hok : OkNs ns) :
  Calls Tryz.prog 22 #[gV An ns.length cn Ae es.length ce] w fun e w' => e = .returned (.bool (mayG ns es)) ∧ Below w.heap.size w w' := by
 have Hn := Lib.hid hn
 have Hr := Lib.hid hr
 have HO := Lib.hid hok
 have hfd := field_kind
 clear hn hr hok
 by_cases h64 : (64 : Int) < (ns.length : Int)
 ·have d64 : decide ((64 : Int) < (ns.length : Int)) = true := by simpa using h64
  have Hm := Lib.hid (show mayG ns es = false by unfold mayG; rw [d64]; rfl)
  go_enter Tryz.func22, Tryz.ntmps22
  go_wp2_with fail
  go_ret
  exact ⟨ret_bool (by rw [Hm.out]), bq2⟩
 ·have d64 : decide ((64 : Int) < (ns.length : Int)) = false := by simpa using h64
  go_enter Tryz.func22, Tryz.ntmps22
  go_wp2_with fail
  first | (refine wp_named ?_; intro W1 hW) | (refine calls_named ?_; intro W1 hW)
  have B1 : Below w.heap.size w W1 := by rw [hW]; exact bq2
  replace Hr := Lib.hid (Hr.out.at B1)
  replace Hn := Lib.hid (Hn.out.at B1)
  have n1 : w.heap.size < W1.heap.size := by rw [hW]; simp <;> omega
  have c0 : W1.cell? ⟨w.heap.size, 0, none⟩ = some (.slice An ns.length cn) := by rw [hW]; go_simp
  have c1 : W1.cell? ⟨w.heap.size, 1, none⟩ = some (.slice Ae es.length ce) := by rw [hW]; go_simp
  clear hW
  have HB := Lib.hid B1
  clear B1
  go_wp2_with fail
  go_loopw [18] (fun i wr => ∃ k : Nat, k ≤ ns.length ∧ i = .int .i64 k ∧ Hid (UpN ns k) ∧ Below W1.heap.size W1 wr) (fun i _ => ns.length - (intOf i).toNat)
  case atStart => exact ⟨0, Nat.zero_le _, rfl, ⟨fun _ _ h => absurd h (by omega), fun _ _ h => absurd h (by omega)⟩, Below.refl _ _⟩
  case round =>
   obtain ⟨k, hk, rfl, hall, hb⟩ := hrel
   have HU := Lib.hid hall.out
   clear hall
   have Hb := Lib.hid hb
   replace c0 := cellAt c0 hb (by omega)
   replace c1 := cellAt c1 hb (by omega)
   replace Hr := Lib.hid (Hr.out.at hb)
   replace Hn := Lib.hid (Hn.out.at hb)
   replace n1 : w.heap.size < wr.heap.size := ltAt n1 hb
   replace HB := Lib.hid (lift HB.out hb)
   clear hb
   by_cases hlt : k < ns.length
   ·obtain ⟨b, o, rfl, hB, x0, x1, x2⟩ := Hn.out.node hlt
    have hlen := HO.out _ (List.getElem_mem hlt)
    generalize hx : ns[k] = x at x0 x1 x2 hlen
    obtain ⟨s, t, r⟩ := x
    have Hx := Lib.hid hx
    clear hx
    simp only at x0 x1 x2 hlen
    have k1 : (0 : Int) ≤ (k : Int) := by omega
    have k2 : (k : Int) < (ns.length : Int) := by omega
    by_cases hkt : kindS s = t
    ·have hkb : (kindS s != t) = false := by simp [hkt]
     by_cases ht0 : t = 0
     ·have htb : (t == 0) = true := by simpa using ht0
      have Hm := Lib.hid (mayG_n (es := es) hlt (by rw [Hx.out]; show (kindS s != 0 && ((t == kindS s) && (decide (1 ≤ r) && decide (r ≤ 4)))) = false; (simp [hkt, ht0])))
      go_wp2_with fail
      first | (refine wp_named ?_; intro W2 hW) | (refine calls_named ?_; intro W2 hW)
      have B2 : Below wr.heap.size wr W2 := by rw [hW]; exact bq2
      replace c0 := cellAt c0 B2 (by omega)
      replace c1 := cellAt c1 B2 (by omega)
      replace Hr := Lib.hid (Hr.out.at B2)
      replace Hn := Lib.hid (Hn.out.at B2)
      replace n1 : w.heap.size < W2.heap.size := ltAt n1 B2
      replace HB := Lib.hid (lift HB.out B2)
      replace Hb := Lib.hid (lift Hb.out B2)
      replace hB := ltAt hB B2
      have m1 : wr.heap.size < W2.heap.size := by rw [hW]; simp <;> omega
      have e0 : W2.cell? ⟨wr.heap.size, 0, none⟩ = some (sv s) := by rw [hW]; go_simp
      have e1 : W2.cell? ⟨wr.heap.size, 1, none⟩ = some (.int .i64 t) := by rw [hW]; go_simp
      have e2 : W2.cell? ⟨wr.heap.size, 2, none⟩ = some (.int .i64 r) := by rw [hW]; go_simp
      clear hW
      clear B2
      try go_wp2_with fail
      refine wp_region_held_drew (S := fun w' => Below W2.heap.size W2 w') (by kernel_rfl) (Below.drew (Below.refl _ _)) (fun hHeld => ?_)
      refine tV 0 ?_ ?zq ?_; (case zq => rintro _ -; go_simp; try with_reducible rfl); try simp only [Act.put, zn1, zn2, zn3]
      refine tV 1 ?_ ?zq ?_; (case zq => intro w' hSw; have hCell := fun (b o : Nat) (h : b < W2.heap.size) => hSw.cell (p := ⟨b, o, none⟩) h; clear hSw; go_simp; try with_reducible rfl); try simp only [Act.put, zn1, zn2, zn3]
      refine tV 4 ?_ ?zq ?_; (case zq => rintro _ -; go_simp; try with_reducible rfl); try simp only [Act.put, zn1, zn2, zn3]
      refine tV 5 ?_ ?zq ?_; (case zq => intro w' hSw; have hCell := fun (b o : Nat) (h : b < W2.heap.size) => hSw.cell (p := ⟨b, o, none⟩) h; clear hSw; go_simp; try with_reducible rfl); try simp only [Act.put, zn1, zn2, zn3]
      refine ready_one (i := 2) rfl (by kernel_rfl) (fun K hK => ?_)
      go_simp
      refine (OfK_any s _ hlen).mono ?_
      rintro e v3 ⟨zp, zi, za, rfl, hb⟩
      refine hK.out _ _ ?_ (fun hHeld2 => ?_)
      ·(try dsimp only); first | exact Below.trans hHeld (Below.mono hb hHeld.size) | exact hHeld | exact Below.drew hHeld | exact bq2
      clear hK K hHeld; have hHeld := hHeld2; clear hHeld2; (try simp only [Act.put, zn1, zn2, zn3])
      refine tV 3 ?_ ?zq ?_; (case zq => rintro _ -; go_simp; try with_reducible rfl); try simp only [Act.put, zn1, zn2, zn3]
      refine tV 6 ?_ ?zq ?_; (case zq => rintro _ -; go_simp; try with_reducible rfl); try simp only [Act.put, zn1, zn2, zn3]
      refine tV 7 ?_ ?zq ?_; (case zq => rintro _ -; go_simp; try with_reducible rfl); try simp only [Act.put, zn1, zn2, zn3]
      refine tV 8 ?_ ?zq ?_; (case zq => rintro _ -; go_simp; try with_reducible rfl); try simp only [Act.put, zn1, zn2, zn3]
      refine tV 9 ?_ ?zq ?_; (case zq => intro w' hSw; have hCell := fun (b o : Nat) (h : b < W2.heap.size) => hSw.cell (p := ⟨b, o, none⟩) h; clear hSw; go_simp; try with_reducible rfl); try simp only [Act.put, zn1, zn2, zn3]
      refine tV 10 ?_ ?zq ?_; (case zq => rintro _ -; go_simp; try with_reducible rfl); try simp only [Act.put, zn1, zn2, zn3]
      refine tV 11 ?_ ?zq ?_; (case zq => rintro _ -; go_simp; try with_reducible rfl); try simp only [Act.put, zn1, zn2, zn3]
      refine tV 12 ?_ ?zq ?_; (case zq => rintro _ -; go_simp; try with_reducible rfl); try simp only [Act.put, zn1, zn2, zn3]
      refine tU 13 ?_; (try simp only [Act.put, zn1, zn2, zn3])
      refine tU 14 ?_; (try simp only [Act.put, zn1, zn2, zn3])
      refine tU 15 ?_; (try simp only [Act.put, zn1, zn2, zn3])
      refine tV 16 ?_ ?zq ?_; (case zq => rintro _ -; go_simp; try with_reducible rfl); try simp only [Act.put, zn1, zn2, zn3]
      refine tV 17 ?_ ?zq ?_; (case zq => rintro _ -; go_simp; try with_reducible rfl); try simp only [Act.put, zn1, zn2, zn3]
      refine tU 18 ?_; (try simp only [Act.put, zn1, zn2, zn3])
      refine tU 19 ?_; (try simp only [Act.put, zn1, zn2, zn3])
      refine tU 20 ?_; (try simp only [Act.put, zn1, zn2, zn3])
      refine tV 21 ?_ ?zq ?_; (case zq => rintro _ -; go_simp; try with_reducible rfl); try simp only [Act.put, zn1, zn2, zn3]
      refine tV 22 ?_ ?zq ?_; (case zq => rintro _ -; go_simp; try with_reducible rfl); try simp only [Act.put, zn1, zn2, zn3]
      refine tU 23 ?_; (try simp only [Act.put, zn1, zn2, zn3])
      refine tU 24 ?_; (try simp only [Act.put, zn1, zn2, zn3])
      refine tU 25 ?_; (try simp only [Act.put, zn1, zn2, zn3])
      refine tU 26 ?_; (try simp only [Act.put, zn1, zn2, zn3])
      refine tU 27 ?_; (try simp only [Act.put, zn1, zn2, zn3])
      refine tU 28 ?_; (try simp only [Act.put, zn1, zn2, zn3])
      refine tU 29 ?_; (try simp only [Act.put, zn1, zn2, zn3])
      refine tU 30 ?_; (try simp only [Act.put, zn1, zn2, zn3])
      refine tU 31 ?_; (try simp only [Act.put, zn1, zn2, zn3])
      refine tU 32 ?_; (try simp only [Act.put, zn1, zn2, zn3])
      refine tU 33 ?_; (try simp only [Act.put, zn1, zn2, zn3])
      refine tU 34 ?_; (try simp only [Act.put, zn1, zn2, zn3])
      refine tU 35 ?_; (try simp only [Act.put, zn1, zn2, zn3])
      refine tU 36 ?_; (try simp only [Act.put, zn1, zn2, zn3])
      refine tV 37 ?_ ?zq ?_; (case zq => rintro _ -; go_simp; try with_reducible rfl); try simp only [Act.put, zn1, zn2, zn3]
      refine wpAnyH_done (by kernel_rfl) ?_ _
      go_wp2_with fail
      go_ret
      exact ⟨ret_bool (by rw [Hm.out]), lift HB.out hHeld⟩
     ·have htb : (t == 0) = false := by simpa using ht0
      by_cases r1 : r < 1
      ·have rb1 : decide (r < 1) = true := by rw [decide_eq_true_eq]; exact r1
       have Hm := Lib.hid (mayG_n (es := es) hlt (by rw [Hx.out]; show (kindS s != 0 && ((t == kindS s) && (decide (1 ≤ r) && decide (r ≤ 4)))) = false; (simp; omega)))
       go_wp2_with fail
       first | (refine wp_named ?_; intro W2 hW) | (refine calls_named ?_; intro W2 hW)
       have B2 : Below wr.heap.size wr W2 := by rw [hW]; exact bq2
       replace c0 := cellAt c0 B2 (by omega)
       replace c1 := cellAt c1 B2 (by omega)
       replace Hr := Lib.hid (Hr.out.at B2)
       replace Hn := Lib.hid (Hn.out.at B2)
       replace n1 : w.heap.size < W2.heap.size := ltAt n1 B2
       replace HB := Lib.hid (lift HB.out B2)
       replace Hb := Lib.hid (lift Hb.out B2)
       replace hB := ltAt hB B2
       have m1 : wr.heap.size < W2.heap.size := by rw [hW]; simp <;> omega
       have e0 : W2.cell? ⟨wr.heap.size, 0, none⟩ = some (sv s) := by rw [hW]; go_simp
       have e1 : W2.cell? ⟨wr.heap.size, 1, none⟩ = some (.int .i64 t) := by rw [hW]; go_simp
       have e2 : W2.cell? ⟨wr.heap.size, 2, none⟩ = some (.int .i64 r) := by rw [hW]; go_simp
       clear hW
       clear B2
       try go_wp2_with fail
       refine wp_region_held_drew (S := fun w' => Below W2.heap.size W2 w') (by kernel_rfl) (Below.drew (Below.refl _ _)) (fun hHeld => ?_)
       refine tV 0 ?_ ?zq ?_; (case zq => rintro _ -; go_simp; try with_reducible rfl); try simp only [Act.put, zn1, zn2, zn3]
       refine tV 1 ?_ ?zq ?_; (case zq => intro w' hSw; have hCell := fun (b o : Nat) (h : b < W2.heap.size) => hSw.cell (p := ⟨b, o, none⟩) h; clear hSw; go_simp; try with_reducible rfl); try simp only [Act.put, zn1, zn2, zn3]
       refine tV 4 ?_ ?zq ?_; (case zq => rintro _ -; go_simp; try with_reducible rfl); try simp only [Act.put, zn1, zn2, zn3]
       refine tV 5 ?_ ?zq ?_; (case zq => intro w' hSw; have hCell := fun (b o : Nat) (h : b < W2.heap.size) => hSw.cell (p := ⟨b, o, none⟩) h; clear hSw; go_simp; try with_reducible rfl); try simp only [Act.put, zn1, zn2, zn3]
       refine ready_one (i := 2) rfl (by kernel_rfl) (fun K hK => ?_)
       go_simp
       refine (OfK_any s _ hlen).mono ?_
       rintro e v3 ⟨zp, zi, za, rfl, hb⟩
       refine hK.out _ _ ?_ (fun hHeld2 => ?_)
       ·(try dsimp only); first | exact Below.trans hHeld (Below.mono hb hHeld.size) | exact hHeld | exact Below.drew hHeld | exact bq2
       clear hK K hHeld; have hHeld := hHeld2; clear hHeld2; (try simp only [Act.put, zn1, zn2, zn3])
       refine tV 3 ?_ ?zq ?_; (case zq => rintro _ -; go_simp; try with_reducible rfl); try simp only [Act.put, zn1, zn2, zn3]
       refine tV 6 ?_ ?zq ?_; (case zq => rintro _ -; go_simp; try with_reducible rfl); try simp only [Act.put, zn1, zn2, zn3]
       refine tV 7 ?_ ?zq ?_; (case zq => rintro _ -; go_simp; try with_reducible rfl); try simp only [Act.put, zn1, zn2, zn3]
       refine tV 8 ?_ ?zq ?_; (case zq => rintro _ -; go_simp; try with_reducible rfl); try simp only [Act.put, zn1, zn2, zn3]
       refine tV 9 ?_ ?zq ?_; (case zq => intro w' hSw; have hCell := fun (b o : Nat) (h : b < W2.heap.size) => hSw.cell (p := ⟨b, o, none⟩) h; clear hSw; go_simp; try with_reducible rfl); try simp only [Act.put, zn1, zn2, zn3]
       refine tV 10 ?_ ?zq ?_; (case zq => rintro _ -; go_simp; try with_reducible rfl); try simp only [Act.put, zn1, zn2, zn3]
       refine tV 11 ?_ ?zq ?_; (case zq => rintro _ -; go_simp; try with_reducible rfl); try simp only [Act.put, zn1, zn2, zn3]
       refine tV 12 ?_ ?zq ?_; (case zq => rintro _ -; go_simp; try with_reducible rfl); try simp only [Act.put, zn1, zn2, zn3]
       refine tV 13 ?_ ?zq ?_; (case zq => rintro _ -; go_simp; try with_reducible rfl); try simp only [Act.put, zn1, zn2, zn3]
       refine tV 14 ?_ ?zq ?_; (case zq => intro w' hSw; have hCell := fun (b o : Nat) (h : b < W2.heap.size) => hSw.cell (p := ⟨b, o, none⟩) h; clear hSw; go_simp; try with_reducible rfl); try simp only [Act.put, zn1, zn2, zn3]
       refine tV 15 ?_ ?zq ?_; (case zq => rintro _ -; go_simp; try with_reducible rfl); try simp only [Act.put, zn1, zn2, zn3]
       refine tV 16 ?_ ?zq ?_; (case zq => rintro _ -; go_simp; try with_reducible rfl); try simp only [Act.put, zn1, zn2, zn3]
       refine tV 17 ?_ ?zq ?_; (case zq => rintro _ -; go_simp; try with_reducible rfl); try simp only [Act.put, zn1, zn2, zn3]
       refine tU 18 ?_; (try simp only [Act.put, zn1, zn2, zn3])
       refine tU 19 ?_; (try simp only [Act.put, zn1, zn2, zn3])
       refine tU 20 ?_; (try simp only [Act.put, zn1, zn2, zn3])
       refine tV 21 ?_ ?zq ?_; (case zq => rintro _ -; go_simp; try with_reducible rfl); try simp only [Act.put, zn1, zn2, zn3]
       refine tV 22 ?_ ?zq ?_; (case zq => rintro _ -; go_simp; try with_reducible rfl); try simp only [Act.put, zn1, zn2, zn3]
       refine tU 23 ?_; (try simp only [Act.put, zn1, zn2, zn3])
       refine tU 24 ?_; (try simp only [Act.put, zn1, zn2, zn3])
       refine tU 25 ?_; (try simp only [Act.put, zn1, zn2, zn3])
       refine tU 26 ?_; (try simp only [Act.put, zn1, zn2, zn3])
       refine tU 27 ?_; (try simp only [Act.put, zn1, zn2, zn3])
       refine tU 28 ?_; (try simp only [Act.put, zn1, zn2, zn3])
       refine tU 29 ?_; (try simp only [Act.put, zn1, zn2, zn3])
       refine tU 30 ?_; (try simp only [Act.put, zn1, zn2, zn3])
       refine tU 31 ?_; (try simp only [Act.put, zn1, zn2, zn3])
       refine tU 32 ?_; (try simp only [Act.put, zn1, zn2, zn3])
       refine tU 33 ?_; (try simp only [Act.put, zn1, zn2, zn3])
       refine tU 34 ?_; (try simp only [Act.put, zn1, zn2, zn3])
       refine tU 35 ?_; (try simp only [Act.put, zn1, zn2, zn3])
       refine tU 36 ?_; (try simp only [Act.put, zn1, zn2, zn3])
       refine tV 37 ?_ ?zq ?_; (case zq => rintro _ -; go_simp; try with_reducible rfl); try simp only [Act.put, zn1, zn2, zn3]
       refine wpAnyH_done (by kernel_rfl) ?_ _
       go_wp2_with fail
       go_ret
       exact ⟨ret_bool (by rw [Hm.out]), lift HB.out hHeld⟩
      ·have rb1 : decide (r < 1) = false := by rw [decide_eq_false_iff_not]; exact r1
       by_cases r4 : 4 < r
       ·have rb4 : decide (4 < r) = true := by rw [decide_eq_true_eq]; exact r4
        have Hm := Lib.hid (mayG_n (es := es) hlt (by rw [Hx.out]; show (kindS s != 0 && ((t == kindS s) && (decide (1 ≤ r) && decide (r ≤ 4)))) = false; (simp; omega)))
        go_wp2_with fail
        first | (refine wp_named ?_; intro W2 hW) | (refine calls_named ?_; intro W2 hW)
        have B2 : Below wr.heap.size wr W2 := by rw [hW]; exact bq2
        replace c0 := cellAt c0 B2 (by omega)
        replace c1 := cellAt c1 B2 (by omega)
        replace Hr := Lib.hid (Hr.out.at B2)
        replace Hn := Lib.hid (Hn.out.at B2)
        replace n1 : w.heap.size < W2.heap.size := ltAt n1 B2
        replace HB := Lib.hid (lift HB.out B2)
        replace Hb := Lib.hid (lift Hb.out B2)
        replace hB := ltAt hB B2
        have m1 : wr.heap.size < W2.heap.size := by rw [hW]; simp <;> omega
        have e0 : W2.cell? ⟨wr.heap.size, 0, none⟩ = some (sv s) := by rw [hW]; go_simp
        have e1 : W2.cell? ⟨wr.heap.size, 1, none⟩ = some (.int .i64 t) := by rw [hW]; go_simp
        have e2 : W2.cell? ⟨wr.heap.size, 2, none⟩ = some (.int .i64 r) := by rw [hW]; go_simp
        clear hW
        clear B2
        try go_wp2_with fail
        refine wp_region_held_drew (S := fun w' => Below W2.heap.size W2 w') (by kernel_rfl) (Below.drew (Below.refl _ _)) (fun hHeld => ?_)
        refine tV 0 ?_ ?zq ?_; (case zq => rintro _ -; go_simp; try with_reducible rfl); try simp only [Act.put, zn1, zn2, zn3]
        refine tV 1 ?_ ?zq ?_; (case zq => intro w' hSw; have hCell := fun (b o : Nat) (h : b < W2.heap.size) => hSw.cell (p := ⟨b, o, none⟩) h; clear hSw; go_simp; try with_reducible rfl); try simp only [Act.put, zn1, zn2, zn3]
        refine tV 4 ?_ ?zq ?_; (case zq => rintro _ -; go_simp; try with_reducible rfl); try simp only [Act.put, zn1, zn2, zn3]
        refine tV 5 ?_ ?zq ?_; (case zq => intro w' hSw; have hCell := fun (b o : Nat) (h : b < W2.heap.size) => hSw.cell (p := ⟨b, o, none⟩) h; clear hSw; go_simp; try with_reducible rfl); try simp only [Act.put, zn1, zn2, zn3]
        refine ready_one (i := 2) rfl (by kernel_rfl) (fun K hK => ?_)
        go_simp
        refine (OfK_any s _ hlen).mono ?_
        rintro e v3 ⟨zp, zi, za, rfl, hb⟩
        refine hK.out _ _ ?_ (fun hHeld2 => ?_)
        ·(try dsimp only); first | exact Below.trans hHeld (Below.mono hb hHeld.size) | exact hHeld | exact Below.drew hHeld | exact bq2
        clear hK K hHeld; have hHeld := hHeld2; clear hHeld2; (try simp only [Act.put, zn1, zn2, zn3])
        refine tV 3 ?_ ?zq ?_; (case zq => rintro _ -; go_simp; try with_reducible rfl); try simp only [Act.put, zn1, zn2, zn3]
        refine tV 6 ?_ ?zq ?_; (case zq => rintro _ -; go_simp; try with_reducible rfl); try simp only [Act.put, zn1, zn2, zn3]
        refine tV 7 ?_ ?zq ?_; (case zq => rintro _ -; go_simp; try with_reducible rfl); try simp only [Act.put, zn1, zn2, zn3]
        refine tV 8 ?_ ?zq ?_; (case zq => rintro _ -; go_simp; try with_reducible rfl); try simp only [Act.put, zn1, zn2, zn3]
        refine tV 9 ?_ ?zq ?_; (case zq => intro w' hSw; have hCell := fun (b o : Nat) (h : b < W2.heap.size) => hSw.cell (p := ⟨b, o, none⟩) h; clear hSw; go_simp; try with_reducible rfl); try simp only [Act.put, zn1, zn2, zn3]
        refine tV 10 ?_ ?zq ?_; (case zq => rintro _ -; go_simp; try with_reducible rfl); try simp only [Act.put, zn1, zn2, zn3]
        refine tV 11 ?_ ?zq ?_; (case zq => rintro _ -; go_simp; try with_reducible rfl); try simp only [Act.put, zn1, zn2, zn3]
        refine tV 12 ?_ ?zq ?_; (case zq => rintro _ -; go_simp; try with_reducible rfl); try simp only [Act.put, zn1, zn2, zn3]
        refine tV 13 ?_ ?zq ?_; (case zq => rintro _ -; go_simp; try with_reducible rfl); try simp only [Act.put, zn1, zn2, zn3]
        refine tV 14 ?_ ?zq ?_; (case zq => intro w' hSw; have hCell := fun (b o : Nat) (h : b < W2.heap.size) => hSw.cell (p := ⟨b, o, none⟩) h; clear hSw; go_simp; try with_reducible rfl); try simp only [Act.put, zn1, zn2, zn3]
        refine tV 15 ?_ ?zq ?_; (case zq => rintro _ -; go_simp; try with_reducible rfl); try simp only [Act.put, zn1, zn2, zn3]
        refine tV 16 ?_ ?zq ?_; (case zq => rintro _ -; go_simp; try with_reducible rfl); try simp only [Act.put, zn1, zn2, zn3]
        refine tV 17 ?_ ?zq ?_; (case zq => rintro _ -; go_simp; try with_reducible rfl); try simp only [Act.put, zn1, zn2, zn3]
        refine tV 18 ?_ ?zq ?_; (case zq => rintro _ -; go_simp; try with_reducible rfl); try simp only [Act.put, zn1, zn2, zn3]
        refine tV 19 ?_ ?zq ?_; (case zq => intro w' hSw; have hCell := fun (b o : Nat) (h : b < W2.heap.size) => hSw.cell (p := ⟨b, o, none⟩) h; clear hSw; go_simp; try with_reducible rfl); try simp only [Act.put, zn1, zn2, zn3]
        refine tV 20 ?_ ?zq ?_; (case zq => rintro _ -; go_simp; try with_reducible rfl); try simp only [Act.put, zn1, zn2, zn3]
        refine tV 21 ?_ ?zq ?_; (case zq => rintro _ -; go_simp; try with_reducible rfl); try simp only [Act.put, zn1, zn2, zn3]
        refine tV 22 ?_ ?zq ?_; (case zq => rintro _ -; go_simp; try with_reducible rfl); try simp only [Act.put, zn1, zn2, zn3]
        refine tU 23 ?_; (try simp only [Act.put, zn1, zn2, zn3])
        refine tU 24 ?_; (try simp only [Act.put, zn1, zn2, zn3])
        refine tU 25 ?_; (try simp only [Act.put, zn1, zn2, zn3])
        refine tU 26 ?_; (try simp only [Act.put, zn1, zn2, zn3])
        refine tU 27 ?_; (try simp only [Act.put, zn1, zn2, zn3])
        refine tU 28 ?_; (try simp only [Act.put, zn1, zn2, zn3])
        refine tU 29 ?_; (try simp only [Act.put, zn1, zn2, zn3])
        refine tU 30 ?_; (try simp only [Act.put, zn1, zn2, zn3])
        refine tU 31 ?_; (try simp only [Act.put, zn1, zn2, zn3])
        refine tU 32 ?_; (try simp only [Act.put, zn1, zn2, zn3])
        refine tU 33 ?_; (try simp only [Act.put, zn1, zn2, zn3])
        refine tU 34 ?_; (try simp only [Act.put, zn1, zn2, zn3])
        refine tU 35 ?_; (try simp only [Act.put, zn1, zn2, zn3])
        refine tU 36 ?_; (try simp only [Act.put, zn1, zn2, zn3])
        refine tV 37 ?_ ?zq ?_; (case zq => rintro _ -; go_simp; try with_reducible rfl); try simp only [Act.put, zn1, zn2, zn3]
        refine wpAnyH_done (by kernel_rfl) ?_ _
        go_wp2_with fail
        go_ret
        exact ⟨ret_bool (by rw [Hm.out]), lift HB.out hHeld⟩
       ·have rb4 : decide (4 < r) = false := by rw [decide_eq_false_iff_not]; exact r4
        have hgood : mayN (s, t, r) = true := by
         show (kindS s != 0 && ((t == kindS s) && (decide (1 ≤ r) && decide (r ≤ 4)))) = true
         simp [hkt, ht0]; omega
        have HGd := Lib.hid hgood
        clear hgood
        by_cases hk0 : k = 0
        ·have k3 : decide (0 < k) = false := by rw [decide_eq_false_iff_not]; omega
         have HK0 := Lib.hid hk0
         clear hk0
         go_wp2_with fail
         first | (refine wp_named ?_; intro W2 hW) | (refine calls_named ?_; intro W2 hW)
         have B2 : Below wr.heap.size wr W2 := by rw [hW]; exact bq2
         replace c0 := cellAt c0 B2 (by omega)
         replace c1 := cellAt c1 B2 (by omega)
         replace Hr := Lib.hid (Hr.out.at B2)
         replace Hn := Lib.hid (Hn.out.at B2)
         replace n1 : w.heap.size < W2.heap.size := ltAt n1 B2
         replace HB := Lib.hid (lift HB.out B2)
         replace Hb := Lib.hid (lift Hb.out B2)
         replace hB := ltAt hB B2
         have m1 : wr.heap.size < W2.heap.size := by rw [hW]; simp <;> omega
         have e0 : W2.cell? ⟨wr.heap.size, 0, none⟩ = some (sv s) := by rw [hW]; go_simp
         have e1 : W2.cell? ⟨wr.heap.size, 1, none⟩ = some (.int .i64 t) := by rw [hW]; go_simp
         have e2 : W2.cell? ⟨wr.heap.size, 2, none⟩ = some (.int .i64 r) := by rw [hW]; go_simp
         clear hW
         clear B2
         try go_wp2_with fail
         refine wp_region_held_drew (S := fun w' => Below W2.heap.size W2 w') (by kernel_rfl) (Below.drew (Below.refl _ _)) (fun hHeld => ?_)
         refine tV 0 ?_ ?zq ?_; (case zq => rintro _ -; go_simp; try with_reducible rfl); try simp only [Act.put, zn1, zn2, zn3]
         refine tV 1 ?_ ?zq ?_; (case zq => intro w' hSw; have hCell := fun (b o : Nat) (h : b < W2.heap.size) => hSw.cell (p := ⟨b, o, none⟩) h; clear hSw; go_simp; try with_reducible rfl); try simp only [Act.put, zn1, zn2, zn3]
         refine tV 4 ?_ ?zq ?_; (case zq => rintro _ -; go_simp; try with_reducible rfl); try simp only [Act.put, zn1, zn2, zn3]
         refine tV 5 ?_ ?zq ?_; (case zq => intro w' hSw; have hCell := fun (b o : Nat) (h : b < W2.heap.size) => hSw.cell (p := ⟨b, o, none⟩) h; clear hSw; go_simp; try with_reducible rfl); try simp only [Act.put, zn1, zn2, zn3]
         refine ready_one (i := 2) rfl (by kernel_rfl) (fun K hK => ?_)
         go_simp
         refine (OfK_any s _ hlen).mono ?_
         rintro e v3 ⟨zp, zi, za, rfl, hb⟩
         refine hK.out _ _ ?_ (fun hHeld2 => ?_)
         ·(try dsimp only); first | exact Below.trans hHeld (Below.mono hb hHeld.size) | exact hHeld | exact Below.drew hHeld | exact bq2
         clear hK K hHeld; have hHeld := hHeld2; clear hHeld2; (try simp only [Act.put, zn1, zn2, zn3])
         refine tV 3 ?_ ?zq ?_; (case zq => rintro _ -; go_simp; try with_reducible rfl); try simp only [Act.put, zn1, zn2, zn3]
         refine tV 6 ?_ ?zq ?_; (case zq => rintro _ -; go_simp; try with_reducible rfl); try simp only [Act.put, zn1, zn2, zn3]
         refine tV 7 ?_ ?zq ?_; (case zq => rintro _ -; go_simp; try with_reducible rfl); try simp only [Act.put, zn1, zn2, zn3]
         refine tV 8 ?_ ?zq ?_; (case zq => rintro _ -; go_simp; try with_reducible rfl); try simp only [Act.put, zn1, zn2, zn3]
         refine tV 9 ?_ ?zq ?_; (case zq => intro w' hSw; have hCell := fun (b o : Nat) (h : b < W2.heap.size) => hSw.cell (p := ⟨b, o, none⟩) h; clear hSw; go_simp; try with_reducible rfl); try simp only [Act.put, zn1, zn2, zn3]
         refine tV 10 ?_ ?zq ?_; (case zq => rintro _ -; go_simp; try with_reducible rfl); try simp only [Act.put, zn1, zn2, zn3]
         refine tV 11 ?_ ?zq ?_; (case zq => rintro _ -; go_simp; try with_reducible rfl); try simp only [Act.put, zn1, zn2, zn3]
         refine tV 12 ?_ ?zq ?_; (case zq => rintro _ -; go_simp; try with_reducible rfl); try simp only [Act.put, zn1, zn2, zn3]
         refine tV 13 ?_ ?zq ?_; (case zq => rintro _ -; go_simp; try with_reducible rfl); try simp only [Act.put, zn1, zn2, zn3]
         refine tV 14 ?_ ?zq ?_; (case zq => intro w' hSw; have hCell := fun (b o : Nat) (h : b < W2.heap.size) => hSw.cell (p := ⟨b, o, none⟩) h; clear hSw; go_simp; try with_reducible rfl); try simp only [Act.put, zn1, zn2, zn3]
         refine tV 15 ?_ ?zq ?_; (case zq => rintro _ -; go_simp; try with_reducible rfl); try simp only [Act.put, zn1, zn2, zn3]
         refine tV 16 ?_ ?zq ?_; (case zq => rintro _ -; go_simp; try with_reducible rfl); try simp only [Act.put, zn1, zn2, zn3]
         refine tV 17 ?_ ?zq ?_; (case zq => rintro _ -; go_simp; try with_reducible rfl); try simp only [Act.put, zn1, zn2, zn3]
         refine tV 18 ?_ ?zq ?_; (case zq => rintro _ -; go_simp; try with_reducible rfl); try simp only [Act.put, zn1, zn2, zn3]
         refine tV 19 ?_ ?zq ?_; (case zq => intro w' hSw; have hCell := fun (b o : Nat) (h : b < W2.heap.size) => hSw.cell (p := ⟨b, o, none⟩) h; clear hSw; go_simp; try with_reducible rfl); try simp only [Act.put, zn1, zn2, zn3]
         refine tV 20 ?_ ?zq ?_; (case zq => rintro _ -; go_simp; try with_reducible rfl); try simp only [Act.put, zn1, zn2, zn3]
         refine tV 21 ?_ ?zq ?_; (case zq => rintro _ -; go_simp; try with_reducible rfl); try simp only [Act.put, zn1, zn2, zn3]
         refine tV 22 ?_ ?zq ?_; (case zq => rintro _ -; go_simp; try with_reducible rfl); try simp only [Act.put, zn1, zn2, zn3]
         refine tV 23 ?_ ?zq ?_; (case zq => rintro _ -; go_simp; try with_reducible rfl); try simp only [Act.put, zn1, zn2, zn3]
         refine tV 24 ?_ ?zq ?_; (case zq => rintro _ -; go_simp; try with_reducible rfl); try simp only [Act.put, zn1, zn2, zn3]
         refine tV 25 ?_ ?zq ?_; (case zq => rintro _ -; go_simp; try with_reducible rfl); try simp only [Act.put, zn1, zn2, zn3]
         refine tU 26 ?_; (try simp only [Act.put, zn1, zn2, zn3])
         refine tU 27 ?_; (try simp only [Act.put, zn1, zn2, zn3])
         refine tU 28 ?_; (try simp only [Act.put, zn1, zn2, zn3])
         refine tU 29 ?_; (try simp only [Act.put, zn1, zn2, zn3])
         refine tU 30 ?_; (try simp only [Act.put, zn1, zn2, zn3])
         refine tU 31 ?_; (try simp only [Act.put, zn1, zn2, zn3])
         refine tU 32 ?_; (try simp only [Act.put, zn1, zn2, zn3])
         refine tU 33 ?_; (try simp only [Act.put, zn1, zn2, zn3])
         refine tU 34 ?_; (try simp only [Act.put, zn1, zn2, zn3])
         refine tU 35 ?_; (try simp only [Act.put, zn1, zn2, zn3])
         refine tV 36 ?_ ?zq ?_; (case zq => rintro _ -; go_simp; try with_reducible rfl); try simp only [Act.put, zn1, zn2, zn3]
         refine tV 37 ?_ ?zq ?_; (case zq => rintro _ -; go_simp; try with_reducible rfl); try simp only [Act.put, zn1, zn2, zn3]
         refine wpAnyH_done (by kernel_rfl) ?_ _
         replace c0 := cellAt c0 hHeld (by omega)
         replace c1 := cellAt c1 hHeld (by omega)
         replace e0 := cellAt e0 hHeld (by omega)
         replace e1 := cellAt e1 hHeld (by omega)
         replace e2 := cellAt e2 hHeld (by omega)
         replace Hr := Lib.hid (Hr.out.at hHeld)
         replace Hn := Lib.hid (Hn.out.at hHeld)
         replace n1 : w.heap.size < v3.heap.size := ltAt n1 hHeld
         replace HB := Lib.hid (lift HB.out hHeld)
         replace Hb := Lib.hid (lift Hb.out hHeld)
         replace hB := ltAt hB hHeld
         replace m1 : wr.heap.size < v3.heap.size := ltAt m1 hHeld
         clear hHeld
         go_wp2_with fail
         go_roundw
         case rel => exact ⟨k + 1, by omega, by go_num, HU.out.step hlt (by rw [Hx.out]; exact HGd.out) (fun j e => absurd (HK0.out.symm.trans e) (by simp)), Hb.out⟩
         case measure => simp [intOf]; omega
        ·obtain ⟨j, rfl⟩ : ∃ j, k = j + 1 := ⟨k - 1, by omega⟩
         obtain ⟨b', o', he, _, y0, y1, y2⟩ := Hn.out.node (i := j) (by omega)
         injection he with he
         injection he with he1 he2
         subst he1 he2
         clear y1 y2
         generalize hy : ns[j] = y at y0
         obtain ⟨s', t', r'⟩ := y
         have Hy := Lib.hid hy
         clear hy
         simp only at y0
         have k3 : (j : Int) < (ns.length : Int) := by omega
         have k4 : IntKind.i64.wrap (j : Int) = j := IntWalk.i64_in _ (by omega)
         have k5 : IntKind.i64.wrap ((j : Int) + 1) = (j : Int) + 1 := IntWalk.i64_in _ (by omega)
         have k6 : ((j : Int) + 1).toNat = j + 1 := by omega
         have k7 : (0 : Int) ≤ (j : Int) + 1 := by omega
         have k8 : IntKind.i64.wrap ((j : Int) + 1 - 1) = j := by rw [show (j : Int) + 1 - 1 = j from by omega]; exact k4
         have k9 : decide ((0 : Int) < (j : Int) + 1) = true := by rw [decide_eq_true_eq]; omega
         have k10 : (0 : Int) ≤ (j : Int) := by omega
         cases h1 : Op.bytesLess s' s
         ·have Hm := Lib.hid (mayG_nup (es := es) (k := j) hlt (by rw [Hx.out, Hy.out]; exact h1))
          go_wp2_with fail
          first | (refine wp_named ?_; intro W2 hW) | (refine calls_named ?_; intro W2 hW)
          have B2 : Below wr.heap.size wr W2 := by rw [hW]; exact bq2
          replace c0 := cellAt c0 B2 (by omega)
          replace c1 := cellAt c1 B2 (by omega)
          replace y0 := cellAt y0 B2 (by omega)
          replace Hr := Lib.hid (Hr.out.at B2)
          replace Hn := Lib.hid (Hn.out.at B2)
          replace n1 : w.heap.size < W2.heap.size := ltAt n1 B2
          replace HB := Lib.hid (lift HB.out B2)
          replace Hb := Lib.hid (lift Hb.out B2)
          replace hB := ltAt hB B2
          have m1 : wr.heap.size < W2.heap.size := by rw [hW]; simp <;> omega
          have e0 : W2.cell? ⟨wr.heap.size, 0, none⟩ = some (sv s) := by rw [hW]; go_simp
          have e1 : W2.cell? ⟨wr.heap.size, 1, none⟩ = some (.int .i64 t) := by rw [hW]; go_simp
          have e2 : W2.cell? ⟨wr.heap.size, 2, none⟩ = some (.int .i64 r) := by rw [hW]; go_simp
          clear hW
          clear B2
          try go_wp2_with fail
          refine wp_region_held_drew (S := fun w' => Below W2.heap.size W2 w') (by kernel_rfl) (Below.drew (Below.refl _ _)) (fun hHeld => ?_)
          refine tV 0 ?_ ?zq ?_; (case zq => rintro _ -; go_simp; try with_reducible rfl); try simp only [Act.put, zn1, zn2, zn3]
          refine tV 1 ?_ ?zq ?_; (case zq => intro w' hSw; have hCell := fun (b o : Nat) (h : b < W2.heap.size) => hSw.cell (p := ⟨b, o, none⟩) h; clear hSw; go_simp; try with_reducible rfl); try simp only [Act.put, zn1, zn2, zn3]
          refine tV 4 ?_ ?zq ?_; (case zq => rintro _ -; go_simp; try with_reducible rfl); try simp only [Act.put, zn1, zn2, zn3]
          refine tV 5 ?_ ?zq ?_; (case zq => intro w' hSw; have hCell := fun (b o : Nat) (h : b < W2.heap.size) => hSw.cell (p := ⟨b, o, none⟩) h; clear hSw; go_simp; try with_reducible rfl); try simp only [Act.put, zn1, zn2, zn3]
          refine ready_one (i := 2) rfl (by kernel_rfl) (fun K hK => ?_)
          go_simp
          refine (OfK_any s _ hlen).mono ?_
          rintro e v3 ⟨zp, zi, za, rfl, hb⟩
          refine hK.out _ _ ?_ (fun hHeld2 => ?_)
          ·(try dsimp only); first | exact Below.trans hHeld (Below.mono hb hHeld.size) | exact hHeld | exact Below.drew hHeld | exact bq2
          clear hK K hHeld; have hHeld := hHeld2; clear hHeld2; (try simp only [Act.put, zn1, zn2, zn3])
          refine tV 3 ?_ ?zq ?_; (case zq => rintro _ -; go_simp; try with_reducible rfl); try simp only [Act.put, zn1, zn2, zn3]
          refine tV 6 ?_ ?zq ?_; (case zq => rintro _ -; go_simp; try with_reducible rfl); try simp only [Act.put, zn1, zn2, zn3]
          refine tV 7 ?_ ?zq ?_; (case zq => rintro _ -; go_simp; try with_reducible rfl); try simp only [Act.put, zn1, zn2, zn3]
          refine tV 8 ?_ ?zq ?_; (case zq => rintro _ -; go_simp; try with_reducible rfl); try simp only [Act.put, zn1, zn2, zn3]
          refine tV 9 ?_ ?zq ?_; (case zq => intro w' hSw; have hCell := fun (b o : Nat) (h : b < W2.heap.size) => hSw.cell (p := ⟨b, o, none⟩) h; clear hSw; go_simp; try with_reducible rfl); try simp only [Act.put, zn1, zn2, zn3]
          refine tV 10 ?_ ?zq ?_; (case zq => rintro _ -; go_simp; try with_reducible rfl); try simp only [Act.put, zn1, zn2, zn3]
          refine tV 11 ?_ ?zq ?_; (case zq => rintro _ -; go_simp; try with_reducible rfl); try simp only [Act.put, zn1, zn2, zn3]
          refine tV 12 ?_ ?zq ?_; (case zq => rintro _ -; go_simp; try with_reducible rfl); try simp only [Act.put, zn1, zn2, zn3]
          refine tV 13 ?_ ?zq ?_; (case zq => rintro _ -; go_simp; try with_reducible rfl); try simp only [Act.put, zn1, zn2, zn3]
          refine tV 14 ?_ ?zq ?_; (case zq => intro w' hSw; have hCell := fun (b o : Nat) (h : b < W2.heap.size) => hSw.cell (p := ⟨b, o, none⟩) h; clear hSw; go_simp; try with_reducible rfl); try simp only [Act.put, zn1, zn2, zn3]
          refine tV 15 ?_ ?zq ?_; (case zq => rintro _ -; go_simp; try with_reducible rfl); try simp only [Act.put, zn1, zn2, zn3]
          refine tV 16 ?_ ?zq ?_; (case zq => rintro _ -; go_simp; try with_reducible rfl); try simp only [Act.put, zn1, zn2, zn3]
          refine tV 17 ?_ ?zq ?_; (case zq => rintro _ -; go_simp; try with_reducible rfl); try simp only [Act.put, zn1, zn2, zn3]
          refine tV 18 ?_ ?zq ?_; (case zq => rintro _ -; go_simp; try with_reducible rfl); try simp only [Act.put, zn1, zn2, zn3]
          refine tV 19 ?_ ?zq ?_; (case zq => intro w' hSw; have hCell := fun (b o : Nat) (h : b < W2.heap.size) => hSw.cell (p := ⟨b, o, none⟩) h; clear hSw; go_simp; try with_reducible rfl); try simp only [Act.put, zn1, zn2, zn3]
          refine tV 20 ?_ ?zq ?_; (case zq => rintro _ -; go_simp; try with_reducible rfl); try simp only [Act.put, zn1, zn2, zn3]
          refine tV 21 ?_ ?zq ?_; (case zq => rintro _ -; go_simp; try with_reducible rfl); try simp only [Act.put, zn1, zn2, zn3]
          refine tV 22 ?_ ?zq ?_; (case zq => rintro _ -; go_simp; try with_reducible rfl); try simp only [Act.put, zn1, zn2, zn3]
          refine tV 23 ?_ ?zq ?_; (case zq => rintro _ -; go_simp; try with_reducible rfl); try simp only [Act.put, zn1, zn2, zn3]
          refine tV 24 ?_ ?zq ?_; (case zq => rintro _ -; go_simp; try with_reducible rfl); try simp only [Act.put, zn1, zn2, zn3]
          refine tV 25 ?_ ?zq ?_; (case zq => rintro _ -; go_simp; try with_reducible rfl); try simp only [Act.put, zn1, zn2, zn3]
          refine tV 26 ?_ ?zq ?_; (case zq => rintro _ -; go_simp; try with_reducible rfl); try simp only [Act.put, zn1, zn2, zn3]
          refine tV 27 ?_ ?zq ?_; (case zq => intro w' hSw; have hCell := fun (b o : Nat) (h : b < W2.heap.size) => hSw.cell (p := ⟨b, o, none⟩) h; clear hSw; go_simp; try with_reducible rfl); try simp only [Act.put, zn1, zn2, zn3]
          refine tV 28 ?_ ?zq ?_; (case zq => rintro _ -; go_simp; try with_reducible rfl); try simp only [Act.put, zn1, zn2, zn3]
          refine tV 29 ?_ ?zq ?_; (case zq => rintro _ -; go_simp; try with_reducible rfl); try simp only [Act.put, zn1, zn2, zn3]
          refine tV 30 ?_ ?zq ?_; (case zq => rintro _ -; go_simp; try with_reducible rfl); try simp only [Act.put, zn1, zn2, zn3]
          refine tV 31 ?_ ?zq ?_; (case zq => rintro _ -; go_simp; try with_reducible rfl); try simp only [Act.put, zn1, zn2, zn3]
          refine tV 32 ?_ ?zq ?_; (case zq => intro w' hSw; have hCell := fun (b o : Nat) (h : b < W2.heap.size) => hSw.cell (p := ⟨b, o, none⟩) h; clear hSw; go_simp; try with_reducible rfl); try simp only [Act.put, zn1, zn2, zn3]
          refine tV 33 ?_ ?zq ?_; (case zq => rintro _ -; go_simp; try with_reducible rfl); try simp only [Act.put, zn1, zn2, zn3]
          refine tV 34 ?_ ?zq ?_; (case zq => intro w' hSw; have hCell := fun (b o : Nat) (h : b < W2.heap.size) => hSw.cell (p := ⟨b, o, none⟩) h; clear hSw; go_simp; try with_reducible rfl); try simp only [Act.put, zn1, zn2, zn3]
          refine tV 35 ?_ ?zq ?_; (case zq => rintro _ -; go_simp; try with_reducible rfl); try simp only [Act.put, zn1, zn2, zn3]
          refine tV 36 ?_ ?zq ?_; (case zq => rintro _ -; go_simp; try with_reducible rfl); try simp only [Act.put, zn1, zn2, zn3]
          refine tV 37 ?_ ?zq ?_; (case zq => rintro _ -; go_simp; try with_reducible rfl); try simp only [Act.put, zn1, zn2, zn3]
          refine wpAnyH_done (by kernel_rfl) ?_ _
          go_wp2_with fail
          go_ret
          exact ⟨ret_bool (by rw [Hm.out]), lift HB.out hHeld⟩
         ·have HL : Hid (∀ i (e : j + 1 = i + 1), ltS (ns[i]'(by omega)).1 ns[j + 1].1 = true) := Lib.hid (fun i e => by
           obtain rfl : i = j := by omega
           rw [Hx.out, Hy.out]; exact h1)
          go_wp2_with fail
          first | (refine wp_named ?_; intro W2 hW) | (refine calls_named ?_; intro W2 hW)
          have B2 : Below wr.heap.size wr W2 := by rw [hW]; exact bq2
          replace c0 := cellAt c0 B2 (by omega)
          replace c1 := cellAt c1 B2 (by omega)
          replace y0 := cellAt y0 B2 (by omega)
          replace Hr := Lib.hid (Hr.out.at B2)
          replace Hn := Lib.hid (Hn.out.at B2)
          replace n1 : w.heap.size < W2.heap.size := ltAt n1 B2
          replace HB := Lib.hid (lift HB.out B2)
          replace Hb := Lib.hid (lift Hb.out B2)
          replace hB := ltAt hB B2
          have m1 : wr.heap.size < W2.heap.size := by rw [hW]; simp <;> omega
          have e0 : W2.cell? ⟨wr.heap.size, 0, none⟩ = some (sv s) := by rw [hW]; go_simp
          have e1 : W2.cell? ⟨wr.heap.size, 1, none⟩ = some (.int .i64 t) := by rw [hW]; go_simp
          have e2 : W2.cell? ⟨wr.heap.size, 2, none⟩ = some (.int .i64 r) := by rw [hW]; go_simp
          clear hW
          clear B2
          try go_wp2_with fail
          refine wp_region_held_drew (S := fun w' => Below W2.heap.size W2 w') (by kernel_rfl) (Below.drew (Below.refl _ _)) (fun hHeld => ?_)
          refine tV 0 ?_ ?zq ?_; (case zq => rintro _ -; go_simp; try with_reducible rfl); try simp only [Act.put, zn1, zn2, zn3]
          refine tV 1 ?_ ?zq ?_; (case zq => intro w' hSw; have hCell := fun (b o : Nat) (h : b < W2.heap.size) => hSw.cell (p := ⟨b, o, none⟩) h; clear hSw; go_simp; try with_reducible rfl); try simp only [Act.put, zn1, zn2, zn3]
          refine tV 4 ?_ ?zq ?_; (case zq => rintro _ -; go_simp; try with_reducible rfl); try simp only [Act.put, zn1, zn2, zn3]
          refine tV 5 ?_ ?zq ?_; (case zq => intro w' hSw; have hCell := fun (b o : Nat) (h : b < W2.heap.size) => hSw.cell (p := ⟨b, o, none⟩) h; clear hSw; go_simp; try with_reducible rfl); try simp only [Act.put, zn1, zn2, zn3]
          refine ready_one (i := 2) rfl (by kernel_rfl) (fun K hK => ?_)
          go_simp
          refine (OfK_any s _ hlen).mono ?_
          rintro e v3 ⟨zp, zi, za, rfl, hb⟩
          refine hK.out _ _ ?_ (fun hHeld2 => ?_)
          ·(try dsimp only); first | exact Below.trans hHeld (Below.mono hb hHeld.size) | exact hHeld | exact Below.drew hHeld | exact bq2
          clear hK K hHeld; have hHeld := hHeld2; clear hHeld2; (try simp only [Act.put, zn1, zn2, zn3])
          refine tV 3 ?_ ?zq ?_; (case zq => rintro _ -; go_simp; try with_reducible rfl); try simp only [Act.put, zn1, zn2, zn3]
          refine tV 6 ?_ ?zq ?_; (case zq => rintro _ -; go_simp; try with_reducible rfl); try simp only [Act.put, zn1, zn2, zn3]
          refine tV 7 ?_ ?zq ?_; (case zq => rintro _ -; go_simp; try with_reducible rfl); try simp only [Act.put, zn1, zn2, zn3]
          refine tV 8 ?_ ?zq ?_; (case zq => rintro _ -; go_simp; try with_reducible rfl); try simp only [Act.put, zn1, zn2, zn3]
          refine tV 9 ?_ ?zq ?_; (case zq => intro w' hSw; have hCell := fun (b o : Nat) (h : b < W2.heap.size) => hSw.cell (p := ⟨b, o, none⟩) h; clear hSw; go_simp; try with_reducible rfl); try simp only [Act.put, zn1, zn2, zn3]
          refine tV 10 ?_ ?zq ?_; (case zq => rintro _ -; go_simp; try with_reducible rfl); try simp only [Act.put, zn1, zn2, zn3]
          refine tV 11 ?_ ?zq ?_; (case zq => rintro _ -; go_simp; try with_reducible rfl); try simp only [Act.put, zn1, zn2, zn3]
          refine tV 12 ?_ ?zq ?_; (case zq => rintro _ -; go_simp; try with_reducible rfl); try simp only [Act.put, zn1, zn2, zn3]
          refine tV 13 ?_ ?zq ?_; (case zq => rintro _ -; go_simp; try with_reducible rfl); try simp only [Act.put, zn1, zn2, zn3]
          refine tV 14 ?_ ?zq ?_; (case zq => intro w' hSw; have hCell := fun (b o : Nat) (h : b < W2.heap.size) => hSw.cell (p := ⟨b, o, none⟩) h; clear hSw; go_simp; try with_reducible rfl); try simp only [Act.put, zn1, zn2, zn3]
          refine tV 15 ?_ ?zq ?_; (case zq => rintro _ -; go_simp; try with_reducible rfl); try simp only [Act.put, zn1, zn2, zn3]
          refine tV 16 ?_ ?zq ?_; (case zq => rintro _ -; go_simp; try with_reducible rfl); try simp only [Act.put, zn1, zn2, zn3]
          refine tV 17 ?_ ?zq ?_; (case zq => rintro _ -; go_simp; try with_reducible rfl); try simp only [Act.put, zn1, zn2, zn3]
          refine tV 18 ?_ ?zq ?_; (case zq => rintro _ -; go_simp; try with_reducible rfl); try simp only [Act.put, zn1, zn2, zn3]
          refine tV 19 ?_ ?zq ?_; (case zq => intro w' hSw; have hCell := fun (b o : Nat) (h : b < W2.heap.size) => hSw.cell (p := ⟨b, o, none⟩) h; clear hSw; go_simp; try with_reducible rfl); try simp only [Act.put, zn1, zn2, zn3]
          refine tV 20 ?_ ?zq ?_; (case zq => rintro _ -; go_simp; try with_reducible rfl); try simp only [Act.put, zn1, zn2, zn3]
          refine tV 21 ?_ ?zq ?_; (case zq => rintro _ -; go_simp; try with_reducible rfl); try simp only [Act.put, zn1, zn2, zn3]
          refine tV 22 ?_ ?zq ?_; (case zq => rintro _ -; go_simp; try with_reducible rfl); try simp only [Act.put, zn1, zn2, zn3]
          refine tV 23 ?_ ?zq ?_; (case zq => rintro _ -; go_simp; try with_reducible rfl); try simp only [Act.put, zn1, zn2, zn3]
          refine tV 24 ?_ ?zq ?_; (case zq => rintro _ -; go_simp; try with_reducible rfl); try simp only [Act.put, zn1, zn2, zn3]
          refine tV 25 ?_ ?zq ?_; (case zq => rintro _ -; go_simp; try with_reducible rfl); try simp only [Act.put, zn1, zn2, zn3]
          refine tV 26 ?_ ?zq ?_; (case zq => rintro _ -; go_simp; try with_reducible rfl); try simp only [Act.put, zn1, zn2, zn3]
          refine tV 27 ?_ ?zq ?_; (case zq => intro w' hSw; have hCell := fun (b o : Nat) (h : b < W2.heap.size) => hSw.cell (p := ⟨b, o, none⟩) h; clear hSw; go_simp; try with_reducible rfl); try simp only [Act.put, zn1, zn2, zn3]
          refine tV 28 ?_ ?zq ?_; (case zq => rintro _ -; go_simp; try with_reducible rfl); try simp only [Act.put, zn1, zn2, zn3]
          refine tV 29 ?_ ?zq ?_; (case zq => rintro _ -; go_simp; try with_reducible rfl); try simp only [Act.put, zn1, zn2, zn3]
          refine tV 30 ?_ ?zq ?_; (case zq => rintro _ -; go_simp; try with_reducible rfl); try simp only [Act.put, zn1, zn2, zn3]
          refine tV 31 ?_ ?zq ?_; (case zq => rintro _ -; go_simp; try with_reducible rfl); try simp only [Act.put, zn1, zn2, zn3]
          refine tV 32 ?_ ?zq ?_; (case zq => intro w' hSw; have hCell := fun (b o : Nat) (h : b < W2.heap.size) => hSw.cell (p := ⟨b, o, none⟩) h; clear hSw; go_simp; try with_reducible rfl); try simp only [Act.put, zn1, zn2, zn3]
          refine tV 33 ?_ ?zq ?_; (case zq => rintro _ -; go_simp; try with_reducible rfl); try simp only [Act.put, zn1, zn2, zn3]
          refine tV 34 ?_ ?zq ?_; (case zq => intro w' hSw; have hCell := fun (b o : Nat) (h : b < W2.heap.size) => hSw.cell (p := ⟨b, o, none⟩) h; clear hSw; go_simp; try with_reducible rfl); try simp only [Act.put, zn1, zn2, zn3]
          refine tV 35 ?_ ?zq ?_; (case zq => rintro _ -; go_simp; try with_reducible rfl); try simp only [Act.put, zn1, zn2, zn3]
          refine tV 36 ?_ ?zq ?_; (case zq => rintro _ -; go_simp; try with_reducible rfl); try simp only [Act.put, zn1, zn2, zn3]
          refine tV 37 ?_ ?zq ?_; (case zq => rintro _ -; go_simp; try with_reducible rfl); try simp only [Act.put, zn1, zn2, zn3]
          refine wpAnyH_done (by kernel_rfl) ?_ _
          replace c0 := cellAt c0 hHeld (by omega)
          replace c1 := cellAt c1 hHeld (by omega)
          replace y0 := cellAt y0 hHeld (by omega)
          replace e0 := cellAt e0 hHeld (by omega)
          replace e1 := cellAt e1 hHeld (by omega)
          replace e2 := cellAt e2 hHeld (by omega)
          replace Hr := Lib.hid (Hr.out.at hHeld)
          replace Hn := Lib.hid (Hn.out.at hHeld)
          replace n1 : w.heap.size < v3.heap.size := ltAt n1 hHeld
          replace HB := Lib.hid (lift HB.out hHeld)
          replace Hb := Lib.hid (lift Hb.out hHeld)
          replace hB := ltAt hB hHeld
          replace m1 : wr.heap.size < v3.heap.size := ltAt m1 hHeld
          clear hHeld
          go_wp2_with fail
          go_roundw
          case rel => exact ⟨j + 1 + 1, by omega, by go_num, HU.out.step hlt (by rw [Hx.out]; exact HGd.out) HL.out, Hb.out⟩
          case measure => simp [intOf]; omega
    ·have hkb : (kindS s != t) = true := by simp [hkt]
     have Hm := Lib.hid (mayG_n (es := es) hlt (by rw [Hx.out]; show (kindS s != 0 && ((t == kindS s) && (decide (1 ≤ r) && decide (r ≤ 4)))) = false; (simp; omega)))
     go_wp2_with fail
     first | (refine wp_named ?_; intro W2 hW) | (refine calls_named ?_; intro W2 hW)
     have B2 : Below wr.heap.size wr W2 := by rw [hW]; exact bq2
     replace c0 := cellAt c0 B2 (by omega)
     replace c1 := cellAt c1 B2 (by omega)
     replace Hr := Lib.hid (Hr.out.at B2)
     replace Hn := Lib.hid (Hn.out.at B2)
     replace n1 : w.heap.size < W2.heap.size := ltAt n1 B2
     replace HB := Lib.hid (lift HB.out B2)
     replace Hb := Lib.hid (lift Hb.out B2)
     replace hB := ltAt hB B2
     have m1 : wr.heap.size < W2.heap.size := by rw [hW]; simp <;> omega
     have e0 : W2.cell? ⟨wr.heap.size, 0, none⟩ = some (sv s) := by rw [hW]; go_simp
     have e1 : W2.cell? ⟨wr.heap.size, 1, none⟩ = some (.int .i64 t) := by rw [hW]; go_simp
     have e2 : W2.cell? ⟨wr.heap.size, 2, none⟩ = some (.int .i64 r) := by rw [hW]; go_simp
     clear hW
     clear B2
     try go_wp2_with fail
     refine wp_region_held_drew (S := fun w' => Below W2.heap.size W2 w') (by kernel_rfl) (Below.drew (Below.refl _ _)) (fun hHeld => ?_)
     refine tV 0 ?_ ?zq ?_; (case zq => rintro _ -; go_simp; try with_reducible rfl); try simp only [Act.put, zn1, zn2, zn3]
     refine tV 1 ?_ ?zq ?_; (case zq => intro w' hSw; have hCell := fun (b o : Nat) (h : b < W2.heap.size) => hSw.cell (p := ⟨b, o, none⟩) h; clear hSw; go_simp; try with_reducible rfl); try simp only [Act.put, zn1, zn2, zn3]
     refine tV 4 ?_ ?zq ?_; (case zq => rintro _ -; go_simp; try with_reducible rfl); try simp only [Act.put, zn1, zn2, zn3]
     refine tV 5 ?_ ?zq ?_; (case zq => intro w' hSw; have hCell := fun (b o : Nat) (h : b < W2.heap.size) => hSw.cell (p := ⟨b, o, none⟩) h; clear hSw; go_simp; try with_reducible rfl); try simp only [Act.put, zn1, zn2, zn3]
     refine ready_one (i := 2) rfl (by kernel_rfl) (fun K hK => ?_)
     go_simp
     refine (OfK_any s _ hlen).mono ?_
     rintro e v3 ⟨zp, zi, za, rfl, hb⟩
     refine hK.out _ _ ?_ (fun hHeld2 => ?_)
     ·(try dsimp only); first | exact Below.trans hHeld (Below.mono hb hHeld.size) | exact hHeld | exact Below.drew hHeld | exact bq2
     clear hK K hHeld; have hHeld := hHeld2; clear hHeld2; (try simp only [Act.put, zn1, zn2, zn3])
     refine tV 3 ?_ ?zq ?_; (case zq => rintro _ -; go_simp; try with_reducible rfl); try simp only [Act.put, zn1, zn2, zn3]
     refine tV 6 ?_ ?zq ?_; (case zq => rintro _ -; go_simp; try with_reducible rfl); try simp only [Act.put, zn1, zn2, zn3]
     refine tV 7 ?_ ?zq ?_; (case zq => rintro _ -; go_simp; try with_reducible rfl); try simp only [Act.put, zn1, zn2, zn3]
     refine tU 8 ?_; (try simp only [Act.put, zn1, zn2, zn3])
     refine tU 9 ?_; (try simp only [Act.put, zn1, zn2, zn3])
     refine tU 10 ?_; (try simp only [Act.put, zn1, zn2, zn3])
     refine tV 11 ?_ ?zq ?_; (case zq => rintro _ -; go_simp; try with_reducible rfl); try simp only [Act.put, zn1, zn2, zn3]
     refine tV 12 ?_ ?zq ?_; (case zq => rintro _ -; go_simp; try with_reducible rfl); try simp only [Act.put, zn1, zn2, zn3]
     refine tU 13 ?_; (try simp only [Act.put, zn1, zn2, zn3])
     refine tU 14 ?_; (try simp only [Act.put, zn1, zn2, zn3])
     refine tU 15 ?_; (try simp only [Act.put, zn1, zn2, zn3])
     refine tV 16 ?_ ?zq ?_; (case zq => rintro _ -; go_simp; try with_reducible rfl); try simp only [Act.put, zn1, zn2, zn3]
     refine tV 17 ?_ ?zq ?_; (case zq => rintro _ -; go_simp; try with_reducible rfl); try simp only [Act.put, zn1, zn2, zn3]
     refine tU 18 ?_; (try simp only [Act.put, zn1, zn2, zn3])
     refine tU 19 ?_; (try simp only [Act.put, zn1, zn2, zn3])
     refine tU 20 ?_; (try simp only [Act.put, zn1, zn2, zn3])
     refine tV 21 ?_ ?zq ?_; (case zq => rintro _ -; go_simp; try with_reducible rfl); try simp only [Act.put, zn1, zn2, zn3]
     refine tV 22 ?_ ?zq ?_; (case zq => rintro _ -; go_simp; try with_reducible rfl); try simp only [Act.put, zn1, zn2, zn3]
     refine tU 23 ?_; (try simp only [Act.put, zn1, zn2, zn3])
     refine tU 24 ?_; (try simp only [Act.put, zn1, zn2, zn3])
     refine tU 25 ?_; (try simp only [Act.put, zn1, zn2, zn3])
     refine tU 26 ?_; (try simp only [Act.put, zn1, zn2, zn3])
     refine tU 27 ?_; (try simp only [Act.put, zn1, zn2, zn3])
     refine tU 28 ?_; (try simp only [Act.put, zn1, zn2, zn3])
     refine tU 29 ?_; (try simp only [Act.put, zn1, zn2, zn3])
     refine tU 30 ?_; (try simp only [Act.put, zn1, zn2, zn3])
     refine tU 31 ?_; (try simp only [Act.put, zn1, zn2, zn3])
     refine tU 32 ?_; (try simp only [Act.put, zn1, zn2, zn3])
     refine tU 33 ?_; (try simp only [Act.put, zn1, zn2, zn3])
     refine tU 34 ?_; (try simp only [Act.put, zn1, zn2, zn3])
     refine tU 35 ?_; (try simp only [Act.put, zn1, zn2, zn3])
     refine tU 36 ?_; (try simp only [Act.put, zn1, zn2, zn3])
     refine tV 37 ?_ ?zq ?_; (case zq => rintro _ -; go_simp; try with_reducible rfl); try simp only [Act.put, zn1, zn2, zn3]
     refine wpAnyH_done (by kernel_rfl) ?_ _
     go_wp2_with fail
     go_ret
     exact ⟨ret_bool (by rw [Hm.out]), lift HB.out hHeld⟩
   ·have hkn : k = ns.length := by omega
    subst hkn
    obtain ⟨w9, rfl⟩ : ∃ wo : World, wo = wr := ⟨_, rfl⟩
    go_wp2_with fail
    go_loopw [65] (fun i wr => ∃ k : Nat, k ≤ es.length ∧ i = .int .i64 k ∧ Hid (UpE ns es k) ∧ Below w9.heap.size w9 wr) (fun i _ => es.length - (intOf i).toNat)
    case atStart => exact ⟨0, Nat.zero_le _, rfl, ⟨fun _ _ h => absurd h (by omega), fun _ _ h => absurd h (by omega)⟩, Below.refl _ _⟩
    case round =>
     obtain ⟨k, hk, rfl, hall, hb⟩ := hrel
     have HE := Lib.hid hall.out
     clear hall
     have Hb9 := Lib.hid hb
     replace c0 := cellAt c0 hb (by omega)
     replace c1 := cellAt c1 hb (by omega)
     replace Hr := Lib.hid (Hr.out.at hb)
     replace Hn := Lib.hid (Hn.out.at hb)
     replace n1 : w.heap.size < wr.heap.size := ltAt n1 hb
     replace HB := Lib.hid (lift HB.out hb)
     clear hb
     by_cases hlt : k < es.length
     ·obtain ⟨b, o, rfl, hB, x0, x1, x2⟩ := Hr.out.edge hlt
      generalize hx : es[k] = x at x0 x1 x2
      obtain ⟨s, d, r⟩ := x
      have Hx := Lib.hid hx
      clear hx
      simp only at x0 x1 x2
      have k1 : (0 : Int) ≤ (k : Int) := by omega
      have k2 : (k : Int) < (es.length : Int) := by omega
      have hek : edgeOk ns (s, d, r) = ((nodeOf ns s).isSome && ((nodeOf ns d).isSome && (!(s == d) && (((nodeOf ns s).getD ([], 0, 0)).2.2 == 1 && (!decide (r < 1) && !decide (10 < r)))))) := rfl
      have HEK := Lib.hid hek
      clear hek
      by_cases hs0 : (nodeOf ns s).isSome = true
      ·by_cases hd0 : (nodeOf ns d).isSome = true
       ·go_wp2_with fail
        first | (refine wp_named ?_; intro W2 hW) | (refine calls_named ?_; intro W2 hW)
        have B2 : Below wr.heap.size wr W2 := by rw [hW]; exact bq2
        replace c0 := cellAt c0 B2 (by omega)
        replace c1 := cellAt c1 B2 (by omega)
        replace x0 := cellAt x0 B2 (by omega)
        replace x1 := cellAt x1 B2 (by omega)
        replace x2 := cellAt x2 B2 (by omega)
        replace Hr := Lib.hid (Hr.out.at B2)
        replace Hn := Lib.hid (Hn.out.at B2)
        replace n1 : w.heap.size < W2.heap.size := ltAt n1 B2
        replace HB := Lib.hid (lift HB.out B2)
        replace Hb9 := Lib.hid (lift Hb9.out B2)
        replace hB : b < W2.heap.size := ltAt hB B2
        have m1 : wr.heap.size < W2.heap.size := by rw [hW]; simp <;> omega
        have e0 : W2.cell? ⟨wr.heap.size, 0, none⟩ = some (sv s) := by rw [hW]; go_simp
        have e1 : W2.cell? ⟨wr.heap.size, 1, none⟩ = some (sv d) := by rw [hW]; go_simp
        have e2 : W2.cell? ⟨wr.heap.size, 2, none⟩ = some (.int .i64 r) := by rw [hW]; go_simp
        clear hW
        clear B2
        refine (Node15_any An (some ⟨b, o, none⟩) es.length cn ce ns s W2 Hn.out (by omega)).mono ?_
        rintro e v3 ⟨rfl, hb⟩
        replace c0 := cellAt c0 hb (by omega)
        replace c1 := cellAt c1 hb (by omega)
        replace x0 := cellAt x0 hb (by omega)
        replace x1 := cellAt x1 hb (by omega)
        replace x2 := cellAt x2 hb (by omega)
        replace e0 := cellAt e0 hb (by omega)
        replace e1 := cellAt e1 hb (by omega)
        replace e2 := cellAt e2 hb (by omega)
        replace Hr := Lib.hid (Hr.out.at hb)
        replace Hn := Lib.hid (Hn.out.at hb)
        replace n1 : w.heap.size < v3.heap.size := ltAt n1 hb
        replace HB := Lib.hid (lift HB.out hb)
        replace Hb9 := Lib.hid (lift Hb9.out hb)
        replace hB : b < v3.heap.size := ltAt hB hb
        replace m1 : wr.heap.size < v3.heap.size := ltAt m1 hb
        clear hb
        have HEq := Lib.hid HEK.out
        obtain ⟨on, hon⟩ : ∃ on, nodeOf ns s = on := ⟨_, rfl⟩
        obtain ⟨od, hod⟩ : ∃ od, nodeOf ns d = od := ⟨_, rfl⟩
        rw [hon]
        have HV := Lib.hid (show edgeOk ns (s, d, r) = (on.isSome && (od.isSome && (!(s == d) && ((on.getD ([], 0, 0)).2.2 == 1 && (!decide (r < 1) && !decide (10 < r)))))) by rw [HEq.out, hon, hod])
        have HON := Lib.hid hon
        have HOD := Lib.hid hod
        clear hon hod HEq
        unfold nodeV
        generalize hgs : on.getD ([], 0, 0) = gs at *
        obtain ⟨gn, gk, gt⟩ := gs
        have HGS := Lib.hid hgs
        clear hgs
        go_wp2_with fail
        first | (refine wp_named ?_; intro W4 hW) | (refine calls_named ?_; intro W4 hW)
        have B4 : Below v3.heap.size v3 W4 := by rw [hW]; exact bq2
        replace c0 := cellAt c0 B4 (by omega)
        replace c1 := cellAt c1 B4 (by omega)
        replace x0 := cellAt x0 B4 (by omega)
        replace x1 := cellAt x1 B4 (by omega)
        replace x2 := cellAt x2 B4 (by omega)
        replace e0 := cellAt e0 B4 (by omega)
        replace e1 := cellAt e1 B4 (by omega)
        replace e2 := cellAt e2 B4 (by omega)
        replace Hr := Lib.hid (Hr.out.at B4)
        replace Hn := Lib.hid (Hn.out.at B4)
        replace n1 : w.heap.size < W4.heap.size := ltAt n1 B4
        replace HB := Lib.hid (lift HB.out B4)
        replace Hb9 := Lib.hid (lift Hb9.out B4)
        replace hB : b < W4.heap.size := ltAt hB B4
        replace m1 : wr.heap.size < W4.heap.size := ltAt m1 B4
        have m2 : v3.heap.size < W4.heap.size := by rw [hW]; simp <;> omega
        have a0 : W4.cell? ⟨v3.heap.size, 0, none⟩ = some (sv gn) := by rw [hW]; go_simp
        have a1 : W4.cell? ⟨v3.heap.size, 1, none⟩ = some (.int .i64 gk) := by rw [hW]; go_simp
        have a2 : W4.cell? ⟨v3.heap.size, 2, none⟩ = some (.int .i64 gt) := by rw [hW]; go_simp
        clear hW
        clear B4
        refine (Node15_any An (some ⟨b, o, none⟩) es.length cn ce ns d W4 Hn.out (by omega)).mono ?_
        rintro e v5 ⟨rfl, hb⟩
        replace c0 := cellAt c0 hb (by omega)
        replace c1 := cellAt c1 hb (by omega)
        replace x0 := cellAt x0 hb (by omega)
        replace x1 := cellAt x1 hb (by omega)
        replace x2 := cellAt x2 hb (by omega)
        replace e0 := cellAt e0 hb (by omega)
        replace e1 := cellAt e1 hb (by omega)
        replace e2 := cellAt e2 hb (by omega)
        replace a0 := cellAt a0 hb (by omega)
        replace a1 := cellAt a1 hb (by omega)
        replace a2 := cellAt a2 hb (by omega)
        replace Hr := Lib.hid (Hr.out.at hb)
        replace Hn := Lib.hid (Hn.out.at hb)
        replace n1 : w.heap.size < v5.heap.size := ltAt n1 hb
        replace HB := Lib.hid (lift HB.out hb)
        replace Hb9 := Lib.hid (lift Hb9.out hb)
        replace hB : b < v5.heap.size := ltAt hB hb
        replace m1 : wr.heap.size < v5.heap.size := ltAt m1 hb
        replace m2 : v3.heap.size < v5.heap.size := ltAt m2 hb
        clear hb
        rw [HOD.out]
        unfold nodeV
        generalize od.getD ([], 0, 0) = gd at *
        obtain ⟨dn, dk, dt⟩ := gd
        have hv1 : on.isSome = true := by rw [← HON.out]; exact hs0
        have hv2 : od.isSome = true := by rw [← HOD.out]; exact hd0
        rw [hv1, hv2] at HV
        have HV2 := Lib.hid (show edgeOk ns (s, d, r) = (!(s == d) && (gt == 1 && (!decide (r < 1) && !decide (10 < r)))) by rw [HV.out]; simp)
        clear HV
        have HV := HV2
        clear hs0 hd0
        cases hg : (gt == 1)
        ·have hgn : (gt != 1) = true := by simp [bne, hg]
         have Hm := Lib.hid (mayG_e (ns := ns) hlt (by rw [Hx.out, HV.out, hg]; simp))
         go_wp2_with fail
         first | (refine wp_named ?_; intro W6 hW) | (refine calls_named ?_; intro W6 hW)
         have B6 : Below v5.heap.size v5 W6 := by rw [hW]; exact bq2
         replace c0 := cellAt c0 B6 (by omega)
         replace c1 := cellAt c1 B6 (by omega)
         replace x0 := cellAt x0 B6 (by omega)
         replace x1 := cellAt x1 B6 (by omega)
         replace x2 := cellAt x2 B6 (by omega)
         replace e0 := cellAt e0 B6 (by omega)
         replace e1 := cellAt e1 B6 (by omega)
         replace e2 := cellAt e2 B6 (by omega)
         replace a0 := cellAt a0 B6 (by omega)
         replace a1 := cellAt a1 B6 (by omega)
         replace a2 := cellAt a2 B6 (by omega)
         replace Hr := Lib.hid (Hr.out.at B6)
         replace Hn := Lib.hid (Hn.out.at B6)
         replace n1 : w.heap.size < W6.heap.size := ltAt n1 B6
         replace HB := Lib.hid (lift HB.out B6)
         replace Hb9 := Lib.hid (lift Hb9.out B6)
         replace hB : b < W6.heap.size := ltAt hB B6
         replace m1 : wr.heap.size < W6.heap.size := ltAt m1 B6
         replace m2 : v3.heap.size < W6.heap.size := ltAt m2 B6
         clear hW
         clear B6
         try go_wp2_with fail
         refine wp_region_held_drew (S := fun w' => Below W6.heap.size W6 w') (by kernel_rfl) (Below.drew (Below.refl _ _)) (fun hHeld => ?_)
         refine tV 0 ?_ ?zq ?_; (case zq => rintro _ -; go_simp; try with_reducible rfl); try simp only [Act.put, zn1, zn2, zn3]
         refine tV 1 ?_ ?zq ?_; (case zq => rintro _ -; go_simp; try with_reducible rfl); try simp only [Act.put, zn1, zn2, zn3]
         refine tV 2 ?_ ?zq ?_; (case zq => rintro _ -; go_simp; try with_reducible rfl); try simp only [Act.put, zn1, zn2, zn3]
         refine tV 3 ?_ ?zq ?_; (case zq => rintro _ -; go_simp; try with_reducible rfl); try simp only [Act.put, zn1, zn2, zn3]
         refine tV 4 ?_ ?zq ?_; (case zq => rintro _ -; go_simp; try with_reducible rfl); try simp only [Act.put, zn1, zn2, zn3]
         refine tV 5 ?_ ?zq ?_; (case zq => rintro _ -; go_simp; try with_reducible rfl); try simp only [Act.put, zn1, zn2, zn3]
         refine tV 6 ?_ ?zq ?_; (case zq => rintro _ -; go_simp; try with_reducible rfl); try simp only [Act.put, zn1, zn2, zn3]
         refine tV 7 ?_ ?zq ?_; (case zq => rintro _ -; go_simp; try with_reducible rfl); try simp only [Act.put, zn1, zn2, zn3]
         refine tV 8 ?_ ?zq ?_; (case zq => intro w' hSw; have hCell := fun (b o : Nat) (h : b < W6.heap.size) => hSw.cell (p := ⟨b, o, none⟩) h; clear hSw; go_simp; try with_reducible rfl); try simp only [Act.put, zn1, zn2, zn3]
         refine tV 9 ?_ ?zq ?_; (case zq => rintro _ -; go_simp; try with_reducible rfl); try simp only [Act.put, zn1, zn2, zn3]
         refine tV 10 ?_ ?zq ?_; (case zq => rintro _ -; go_simp; try with_reducible rfl); try simp only [Act.put, zn1, zn2, zn3]
         refine tV 11 ?_ ?zq ?_; (case zq => rintro _ -; go_simp; try with_reducible rfl); try simp only [Act.put, zn1, zn2, zn3]
         refine tU 12 ?_; (try simp only [Act.put, zn1, zn2, zn3])
         refine tU 13 ?_; (try simp only [Act.put, zn1, zn2, zn3])
         refine tU 14 ?_; (try simp only [Act.put, zn1, zn2, zn3])
         refine tU 15 ?_; (try simp only [Act.put, zn1, zn2, zn3])
         refine tU 16 ?_; (try simp only [Act.put, zn1, zn2, zn3])
         refine tV 17 ?_ ?zq ?_; (case zq => rintro _ -; go_simp; try with_reducible rfl); try simp only [Act.put, zn1, zn2, zn3]
         refine tV 18 ?_ ?zq ?_; (case zq => rintro _ -; go_simp; try with_reducible rfl); try simp only [Act.put, zn1, zn2, zn3]
         refine tU 19 ?_; (try simp only [Act.put, zn1, zn2, zn3])
         refine tU 20 ?_; (try simp only [Act.put, zn1, zn2, zn3])
         refine tU 21 ?_; (try simp only [Act.put, zn1, zn2, zn3])
         refine tV 22 ?_ ?zq ?_; (case zq => rintro _ -; go_simp; try with_reducible rfl); try simp only [Act.put, zn1, zn2, zn3]
         refine tV 23 ?_ ?zq ?_; (case zq => rintro _ -; go_simp; try with_reducible rfl); try simp only [Act.put, zn1, zn2, zn3]
         refine tU 24 ?_; (try simp only [Act.put, zn1, zn2, zn3])
         refine tU 25 ?_; (try simp only [Act.put, zn1, zn2, zn3])
         refine tU 26 ?_; (try simp only [Act.put, zn1, zn2, zn3])
         refine tV 27 ?_ ?zq ?_; (case zq => rintro _ -; go_simp; try with_reducible rfl); try simp only [Act.put, zn1, zn2, zn3]
         refine tV 28 ?_ ?zq ?_; (case zq => rintro _ -; go_simp; try with_reducible rfl); try simp only [Act.put, zn1, zn2, zn3]
         refine tU 29 ?_; (try simp only [Act.put, zn1, zn2, zn3])
         refine tU 30 ?_; (try simp only [Act.put, zn1, zn2, zn3])
         refine tU 31 ?_; (try simp only [Act.put, zn1, zn2, zn3])
         refine tU 32 ?_; (try simp only [Act.put, zn1, zn2, zn3])
         refine tU 33 ?_; (try simp only [Act.put, zn1, zn2, zn3])
         refine tU 34 ?_; (try simp only [Act.put, zn1, zn2, zn3])
         refine tU 35 ?_; (try simp only [Act.put, zn1, zn2, zn3])
         refine tU 36 ?_; (try simp only [Act.put, zn1, zn2, zn3])
         refine tU 37 ?_; (try simp only [Act.put, zn1, zn2, zn3])
         refine tU 38 ?_; (try simp only [Act.put, zn1, zn2, zn3])
         refine tU 39 ?_; (try simp only [Act.put, zn1, zn2, zn3])
         refine tU 40 ?_; (try simp only [Act.put, zn1, zn2, zn3])
         refine tU 41 ?_; (try simp only [Act.put, zn1, zn2, zn3])
         refine tV 42 ?_ ?zq ?_; (case zq => rintro _ -; go_simp; try with_reducible rfl); try simp only [Act.put, zn1, zn2, zn3]
         refine wpAnyH_done (by kernel_rfl) ?_ _
         go_wp2_with fail
         go_ret
         exact ⟨ret_bool (by rw [Hm.out]), HB.out.trans (hHeld.mono HB.out.size)⟩
        ·have hgn : (gt != 1) = false := by simp [bne, hg]
         cases hsd : (s == d)
         ·by_cases r1 : r < 1
          ·have rb1 : decide (r < 1) = true := by rw [decide_eq_true_eq]; exact r1
           have Hm := Lib.hid (mayG_e (ns := ns) hlt (by rw [Hx.out, HV.out, rb1]; simp))
           go_wp2_with fail
           first | (refine wp_named ?_; intro W6 hW) | (refine calls_named ?_; intro W6 hW)
           have B6 : Below v5.heap.size v5 W6 := by rw [hW]; exact bq2
           replace c0 := cellAt c0 B6 (by omega)
           replace c1 := cellAt c1 B6 (by omega)
           replace x0 := cellAt x0 B6 (by omega)
           replace x1 := cellAt x1 B6 (by omega)
           replace x2 := cellAt x2 B6 (by omega)
           replace e0 := cellAt e0 B6 (by omega)
           replace e1 := cellAt e1 B6 (by omega)
           replace e2 := cellAt e2 B6 (by omega)
           replace a0 := cellAt a0 B6 (by omega)
           replace a1 := cellAt a1 B6 (by omega)
           replace a2 := cellAt a2 B6 (by omega)
           replace Hr := Lib.hid (Hr.out.at B6)
           replace Hn := Lib.hid (Hn.out.at B6)
           replace n1 : w.heap.size < W6.heap.size := ltAt n1 B6
           replace HB := Lib.hid (lift HB.out B6)
           replace Hb9 := Lib.hid (lift Hb9.out B6)
           replace hB : b < W6.heap.size := ltAt hB B6
           replace m1 : wr.heap.size < W6.heap.size := ltAt m1 B6
           replace m2 : v3.heap.size < W6.heap.size := ltAt m2 B6
           clear hW
           clear B6
           try go_wp2_with fail
           refine wp_region_held_drew (S := fun w' => Below W6.heap.size W6 w') (by kernel_rfl) (Below.drew (Below.refl _ _)) (fun hHeld => ?_)
           refine tV 0 ?_ ?zq ?_; (case zq => rintro _ -; go_simp; try with_reducible rfl); try simp only [Act.put, zn1, zn2, zn3]
           refine tV 1 ?_ ?zq ?_; (case zq => rintro _ -; go_simp; try with_reducible rfl); try simp only [Act.put, zn1, zn2, zn3]
           refine tV 2 ?_ ?zq ?_; (case zq => rintro _ -; go_simp; try with_reducible rfl); try simp only [Act.put, zn1, zn2, zn3]
           refine tV 3 ?_ ?zq ?_; (case zq => rintro _ -; go_simp; try with_reducible rfl); try simp only [Act.put, zn1, zn2, zn3]
           refine tV 4 ?_ ?zq ?_; (case zq => rintro _ -; go_simp; try with_reducible rfl); try simp only [Act.put, zn1, zn2, zn3]
           refine tV 5 ?_ ?zq ?_; (case zq => rintro _ -; go_simp; try with_reducible rfl); try simp only [Act.put, zn1, zn2, zn3]
           refine tV 6 ?_ ?zq ?_; (case zq => rintro _ -; go_simp; try with_reducible rfl); try simp only [Act.put, zn1, zn2, zn3]
           refine tV 7 ?_ ?zq ?_; (case zq => rintro _ -; go_simp; try with_reducible rfl); try simp only [Act.put, zn1, zn2, zn3]
           refine tV 8 ?_ ?zq ?_; (case zq => intro w' hSw; have hCell := fun (b o : Nat) (h : b < W6.heap.size) => hSw.cell (p := ⟨b, o, none⟩) h; clear hSw; go_simp; try with_reducible rfl); try simp only [Act.put, zn1, zn2, zn3]
           refine tV 9 ?_ ?zq ?_; (case zq => rintro _ -; go_simp; try with_reducible rfl); try simp only [Act.put, zn1, zn2, zn3]
           refine tV 10 ?_ ?zq ?_; (case zq => rintro _ -; go_simp; try with_reducible rfl); try simp only [Act.put, zn1, zn2, zn3]
           refine tV 11 ?_ ?zq ?_; (case zq => rintro _ -; go_simp; try with_reducible rfl); try simp only [Act.put, zn1, zn2, zn3]
           refine tV 12 ?_ ?zq ?_; (case zq => rintro _ -; go_simp; try with_reducible rfl); try simp only [Act.put, zn1, zn2, zn3]
           refine tV 13 ?_ ?zq ?_; (case zq => intro w' hSw; have hCell := fun (b o : Nat) (h : b < W6.heap.size) => hSw.cell (p := ⟨b, o, none⟩) h; clear hSw; go_simp; try with_reducible rfl); try simp only [Act.put, zn1, zn2, zn3]
           refine tV 14 ?_ ?zq ?_; (case zq => rintro _ -; go_simp; try with_reducible rfl); try simp only [Act.put, zn1, zn2, zn3]
           refine tV 15 ?_ ?zq ?_; (case zq => intro w' hSw; have hCell := fun (b o : Nat) (h : b < W6.heap.size) => hSw.cell (p := ⟨b, o, none⟩) h; clear hSw; go_simp; try with_reducible rfl); try simp only [Act.put, zn1, zn2, zn3]
           refine tV 16 ?_ ?zq ?_; (case zq => rintro _ -; go_simp; try with_reducible rfl); try simp only [Act.put, zn1, zn2, zn3]
           refine tV 17 ?_ ?zq ?_; (case zq => rintro _ -; go_simp; try with_reducible rfl); try simp only [Act.put, zn1, zn2, zn3]
           refine tV 18 ?_ ?zq ?_; (case zq => rintro _ -; go_simp; try with_reducible rfl); try simp only [Act.put, zn1, zn2, zn3]
           refine tV 19 ?_ ?zq ?_; (case zq => rintro _ -; go_simp; try with_reducible rfl); try simp only [Act.put, zn1, zn2, zn3]
           refine tV 20 ?_ ?zq ?_; (case zq => intro w' hSw; have hCell := fun (b o : Nat) (h : b < W6.heap.size) => hSw.cell (p := ⟨b, o, none⟩) h; clear hSw; go_simp; try with_reducible rfl); try simp only [Act.put, zn1, zn2, zn3]
           refine tV 21 ?_ ?zq ?_; (case zq => rintro _ -; go_simp; try with_reducible rfl); try simp only [Act.put, zn1, zn2, zn3]
           refine tV 22 ?_ ?zq ?_; (case zq => rintro _ -; go_simp; try with_reducible rfl); try simp only [Act.put, zn1, zn2, zn3]
           refine tV 23 ?_ ?zq ?_; (case zq => rintro _ -; go_simp; try with_reducible rfl); try simp only [Act.put, zn1, zn2, zn3]
           refine tU 24 ?_; (try simp only [Act.put, zn1, zn2, zn3])
           refine tU 25 ?_; (try simp only [Act.put, zn1, zn2, zn3])
           refine tU 26 ?_; (try simp only [Act.put, zn1, zn2, zn3])
           refine tV 27 ?_ ?zq ?_; (case zq => rintro _ -; go_simp; try with_reducible rfl); try simp only [Act.put, zn1, zn2, zn3]
           refine tV 28 ?_ ?zq ?_; (case zq => rintro _ -; go_simp; try with_reducible rfl); try simp only [Act.put, zn1, zn2, zn3]
           refine tU 29 ?_; (try simp only [Act.put, zn1, zn2, zn3])
           refine tU 30 ?_; (try simp only [Act.put, zn1, zn2, zn3])
           refine tU 31 ?_; (try simp only [Act.put, zn1, zn2, zn3])
           refine tU 32 ?_; (try simp only [Act.put, zn1, zn2, zn3])
           refine tU 33 ?_; (try simp only [Act.put, zn1, zn2, zn3])
           refine tU 34 ?_; (try simp only [Act.put, zn1, zn2, zn3])
           refine tU 35 ?_; (try simp only [Act.put, zn1, zn2, zn3])
           refine tU 36 ?_; (try simp only [Act.put, zn1, zn2, zn3])
           refine tU 37 ?_; (try simp only [Act.put, zn1, zn2, zn3])
           refine tU 38 ?_; (try simp only [Act.put, zn1, zn2, zn3])
           refine tU 39 ?_; (try simp only [Act.put, zn1, zn2, zn3])
           refine tU 40 ?_; (try simp only [Act.put, zn1, zn2, zn3])
           refine tU 41 ?_; (try simp only [Act.put, zn1, zn2, zn3])
           refine tV 42 ?_ ?zq ?_; (case zq => rintro _ -; go_simp; try with_reducible rfl); try simp only [Act.put, zn1, zn2, zn3]
           refine wpAnyH_done (by kernel_rfl) ?_ _
           go_wp2_with fail
           go_ret
           exact ⟨ret_bool (by rw [Hm.out]), HB.out.trans (hHeld.mono HB.out.size)⟩
          ·have rb1 : decide (r < 1) = false := by rw [decide_eq_false_iff_not]; exact r1
           by_cases r10 : 10 < r
           ·have rb4 : decide (10 < r) = true := by rw [decide_eq_true_eq]; exact r10
            have Hm := Lib.hid (mayG_e (ns := ns) hlt (by rw [Hx.out, HV.out, rb4]; simp))
            go_wp2_with fail
            first | (refine wp_named ?_; intro W6 hW) | (refine calls_named ?_; intro W6 hW)
            have B6 : Below v5.heap.size v5 W6 := by rw [hW]; exact bq2
            replace c0 := cellAt c0 B6 (by omega)
            replace c1 := cellAt c1 B6 (by omega)
            replace x0 := cellAt x0 B6 (by omega)
            replace x1 := cellAt x1 B6 (by omega)
            replace x2 := cellAt x2 B6 (by omega)
            replace e0 := cellAt e0 B6 (by omega)
            replace e1 := cellAt e1 B6 (by omega)
            replace e2 := cellAt e2 B6 (by omega)
            replace a0 := cellAt a0 B6 (by omega)
            replace a1 := cellAt a1 B6 (by omega)
            replace a2 := cellAt a2 B6 (by omega)
            replace Hr := Lib.hid (Hr.out.at B6)
            replace Hn := Lib.hid (Hn.out.at B6)
            replace n1 : w.heap.size < W6.heap.size := ltAt n1 B6
            replace HB := Lib.hid (lift HB.out B6)
            replace Hb9 := Lib.hid (lift Hb9.out B6)
            replace hB : b < W6.heap.size := ltAt hB B6
            replace m1 : wr.heap.size < W6.heap.size := ltAt m1 B6
            replace m2 : v3.heap.size < W6.heap.size := ltAt m2 B6
            clear hW
            clear B6
            try go_wp2_with fail
            refine wp_region_held_drew (S := fun w' => Below W6.heap.size W6 w') (by kernel_rfl) (Below.drew (Below.refl _ _)) (fun hHeld => ?_)
            refine tV 0 ?_ ?zq ?_; (case zq => rintro _ -; go_simp; try with_reducible rfl); try simp only [Act.put, zn1, zn2, zn3]
            refine tV 1 ?_ ?zq ?_; (case zq => rintro _ -; go_simp; try with_reducible rfl); try simp only [Act.put, zn1, zn2, zn3]
            refine tV 2 ?_ ?zq ?_; (case zq => rintro _ -; go_simp; try with_reducible rfl); try simp only [Act.put, zn1, zn2, zn3]
            refine tV 3 ?_ ?zq ?_; (case zq => rintro _ -; go_simp; try with_reducible rfl); try simp only [Act.put, zn1, zn2, zn3]
            refine tV 4 ?_ ?zq ?_; (case zq => rintro _ -; go_simp; try with_reducible rfl); try simp only [Act.put, zn1, zn2, zn3]
            refine tV 5 ?_ ?zq ?_; (case zq => rintro _ -; go_simp; try with_reducible rfl); try simp only [Act.put, zn1, zn2, zn3]
            refine tV 6 ?_ ?zq ?_; (case zq => rintro _ -; go_simp; try with_reducible rfl); try simp only [Act.put, zn1, zn2, zn3]
            refine tV 7 ?_ ?zq ?_; (case zq => rintro _ -; go_simp; try with_reducible rfl); try simp only [Act.put, zn1, zn2, zn3]
            refine tV 8 ?_ ?zq ?_; (case zq => intro w' hSw; have hCell := fun (b o : Nat) (h : b < W6.heap.size) => hSw.cell (p := ⟨b, o, none⟩) h; clear hSw; go_simp; try with_reducible rfl); try simp only [Act.put, zn1, zn2, zn3]
            refine tV 9 ?_ ?zq ?_; (case zq => rintro _ -; go_simp; try with_reducible rfl); try simp only [Act.put, zn1, zn2, zn3]
            refine tV 10 ?_ ?zq ?_; (case zq => rintro _ -; go_simp; try with_reducible rfl); try simp only [Act.put, zn1, zn2, zn3]
            refine tV 11 ?_ ?zq ?_; (case zq => rintro _ -; go_simp; try with_reducible rfl); try simp only [Act.put, zn1, zn2, zn3]
            refine tV 12 ?_ ?zq ?_; (case zq => rintro _ -; go_simp; try with_reducible rfl); try simp only [Act.put, zn1, zn2, zn3]
            refine tV 13 ?_ ?zq ?_; (case zq => intro w' hSw; have hCell := fun (b o : Nat) (h : b < W6.heap.size) => hSw.cell (p := ⟨b, o, none⟩) h; clear hSw; go_simp; try with_reducible rfl); try simp only [Act.put, zn1, zn2, zn3]
            refine tV 14 ?_ ?zq ?_; (case zq => rintro _ -; go_simp; try with_reducible rfl); try simp only [Act.put, zn1, zn2, zn3]
            refine tV 15 ?_ ?zq ?_; (case zq => intro w' hSw; have hCell := fun (b o : Nat) (h : b < W6.heap.size) => hSw.cell (p := ⟨b, o, none⟩) h; clear hSw; go_simp; try with_reducible rfl); try simp only [Act.put, zn1, zn2, zn3]
            refine tV 16 ?_ ?zq ?_; (case zq => rintro _ -; go_simp; try with_reducible rfl); try simp only [Act.put, zn1, zn2, zn3]
            refine tV 17 ?_ ?zq ?_; (case zq => rintro _ -; go_simp; try with_reducible rfl); try simp only [Act.put, zn1, zn2, zn3]
            refine tV 18 ?_ ?zq ?_; (case zq => rintro _ -; go_simp; try with_reducible rfl); try simp only [Act.put, zn1, zn2, zn3]
            refine tV 19 ?_ ?zq ?_; (case zq => rintro _ -; go_simp; try with_reducible rfl); try simp only [Act.put, zn1, zn2, zn3]
            refine tV 20 ?_ ?zq ?_; (case zq => intro w' hSw; have hCell := fun (b o : Nat) (h : b < W6.heap.size) => hSw.cell (p := ⟨b, o, none⟩) h; clear hSw; go_simp; try with_reducible rfl); try simp only [Act.put, zn1, zn2, zn3]
            refine tV 21 ?_ ?zq ?_; (case zq => rintro _ -; go_simp; try with_reducible rfl); try simp only [Act.put, zn1, zn2, zn3]
            refine tV 22 ?_ ?zq ?_; (case zq => rintro _ -; go_simp; try with_reducible rfl); try simp only [Act.put, zn1, zn2, zn3]
            refine tV 23 ?_ ?zq ?_; (case zq => rintro _ -; go_simp; try with_reducible rfl); try simp only [Act.put, zn1, zn2, zn3]
            refine tV 24 ?_ ?zq ?_; (case zq => rintro _ -; go_simp; try with_reducible rfl); try simp only [Act.put, zn1, zn2, zn3]
            refine tV 25 ?_ ?zq ?_; (case zq => intro w' hSw; have hCell := fun (b o : Nat) (h : b < W6.heap.size) => hSw.cell (p := ⟨b, o, none⟩) h; clear hSw; go_simp; try with_reducible rfl); try simp only [Act.put, zn1, zn2, zn3]
            refine tV 26 ?_ ?zq ?_; (case zq => rintro _ -; go_simp; try with_reducible rfl); try simp only [Act.put, zn1, zn2, zn3]
            refine tV 27 ?_ ?zq ?_; (case zq => rintro _ -; go_simp; try with_reducible rfl); try simp only [Act.put, zn1, zn2, zn3]
            refine tV 28 ?_ ?zq ?_; (case zq => rintro _ -; go_simp; try with_reducible rfl); try simp only [Act.put, zn1, zn2, zn3]
            refine tU 29 ?_; (try simp only [Act.put, zn1, zn2, zn3])
            refine tU 30 ?_; (try simp only [Act.put, zn1, zn2, zn3])
            refine tU 31 ?_; (try simp only [Act.put, zn1, zn2, zn3])
            refine tU 32 ?_; (try simp only [Act.put, zn1, zn2, zn3])
            refine tU 33 ?_; (try simp only [Act.put, zn1, zn2, zn3])
            refine tU 34 ?_; (try simp only [Act.put, zn1, zn2, zn3])
            refine tU 35 ?_; (try simp only [Act.put, zn1, zn2, zn3])
            refine tU 36 ?_; (try simp only [Act.put, zn1, zn2, zn3])
            refine tU 37 ?_; (try simp only [Act.put, zn1, zn2, zn3])
            refine tU 38 ?_; (try simp only [Act.put, zn1, zn2, zn3])
            refine tU 39 ?_; (try simp only [Act.put, zn1, zn2, zn3])
            refine tU 40 ?_; (try simp only [Act.put, zn1, zn2, zn3])
            refine tU 41 ?_; (try simp only [Act.put, zn1, zn2, zn3])
            refine tV 42 ?_ ?zq ?_; (case zq => rintro _ -; go_simp; try with_reducible rfl); try simp only [Act.put, zn1, zn2, zn3]
            refine wpAnyH_done (by kernel_rfl) ?_ _
            go_wp2_with fail
            go_ret
            exact ⟨ret_bool (by rw [Hm.out]), HB.out.trans (hHeld.mono HB.out.size)⟩
           ·have rb4 : decide (10 < r) = false := by rw [decide_eq_false_iff_not]; exact r10
            have HGd := Lib.hid (show edgeOk ns (s, d, r) = true by rw [HV.out, hg, hsd, rb1, rb4]; rfl)
            by_cases hk0 : k = 0
            ·have k3 : decide (0 < k) = false := by rw [decide_eq_false_iff_not]; omega
             have HK0 := Lib.hid hk0
             clear hk0
             go_wp2_with fail
             first | (refine wp_named ?_; intro W6 hW) | (refine calls_named ?_; intro W6 hW)
             have B6 : Below v5.heap.size v5 W6 := by rw [hW]; exact bq2
             replace c0 := cellAt c0 B6 (by omega)
             replace c1 := cellAt c1 B6 (by omega)
             replace x0 := cellAt x0 B6 (by omega)
             replace x1 := cellAt x1 B6 (by omega)
             replace x2 := cellAt x2 B6 (by omega)
             replace e0 := cellAt e0 B6 (by omega)
             replace e1 := cellAt e1 B6 (by omega)
             replace e2 := cellAt e2 B6 (by omega)
             replace a0 := cellAt a0 B6 (by omega)
             replace a1 := cellAt a1 B6 (by omega)
             replace a2 := cellAt a2 B6 (by omega)
             replace Hr := Lib.hid (Hr.out.at B6)
             replace Hn := Lib.hid (Hn.out.at B6)
             replace n1 : w.heap.size < W6.heap.size := ltAt n1 B6
             replace HB := Lib.hid (lift HB.out B6)
             replace Hb9 := Lib.hid (lift Hb9.out B6)
             replace hB : b < W6.heap.size := ltAt hB B6
             replace m1 : wr.heap.size < W6.heap.size := ltAt m1 B6
             replace m2 : v3.heap.size < W6.heap.size := ltAt m2 B6
             clear hW
             clear B6
             try go_wp2_with fail
             refine wp_region_held_drew (S := fun w' => Below W6.heap.size W6 w') (by kernel_rfl) (Below.drew (Below.refl _ _)) (fun hHeld => ?_)
             refine tV 0 ?_ ?zq ?_; (case zq => rintro _ -; go_simp; try with_reducible rfl); try simp only [Act.put, zn1, zn2, zn3]
             refine tV 1 ?_ ?zq ?_; (case zq => rintro _ -; go_simp; try with_reducible rfl); try simp only [Act.put, zn1, zn2, zn3]
             refine tV 2 ?_ ?zq ?_; (case zq => rintro _ -; go_simp; try with_reducible rfl); try simp only [Act.put, zn1, zn2, zn3]
             refine tV 3 ?_ ?zq ?_; (case zq => rintro _ -; go_simp; try with_reducible rfl); try simp only [Act.put, zn1, zn2, zn3]
             refine tV 4 ?_ ?zq ?_; (case zq => rintro _ -; go_simp; try with_reducible rfl); try simp only [Act.put, zn1, zn2, zn3]
             refine tV 5 ?_ ?zq ?_; (case zq => rintro _ -; go_simp; try with_reducible rfl); try simp only [Act.put, zn1, zn2, zn3]
             refine tV 6 ?_ ?zq ?_; (case zq => rintro _ -; go_simp; try with_reducible rfl); try simp only [Act.put, zn1, zn2, zn3]
             refine tV 7 ?_ ?zq ?_; (case zq => rintro _ -; go_simp; try with_reducible rfl); try simp only [Act.put, zn1, zn2, zn3]
             refine tV 8 ?_ ?zq ?_; (case zq => intro w' hSw; have hCell := fun (b o : Nat) (h : b < W6.heap.size) => hSw.cell (p := ⟨b, o, none⟩) h; clear hSw; go_simp; try with_reducible rfl); try simp only [Act.put, zn1, zn2, zn3]
             refine tV 9 ?_ ?zq ?_; (case zq => rintro _ -; go_simp; try with_reducible rfl); try simp only [Act.put, zn1, zn2, zn3]
             refine tV 10 ?_ ?zq ?_; (case zq => rintro _ -; go_simp; try with_reducible rfl); try simp only [Act.put, zn1, zn2, zn3]
             refine tV 11 ?_ ?zq ?_; (case zq => rintro _ -; go_simp; try with_reducible rfl); try simp only [Act.put, zn1, zn2, zn3]
             refine tV 12 ?_ ?zq ?_; (case zq => rintro _ -; go_simp; try with_reducible rfl); try simp only [Act.put, zn1, zn2, zn3]
             refine tV 13 ?_ ?zq ?_; (case zq => intro w' hSw; have hCell := fun (b o : Nat) (h : b < W6.heap.size) => hSw.cell (p := ⟨b, o, none⟩) h; clear hSw; go_simp; try with_reducible rfl); try simp only [Act.put, zn1, zn2, zn3]
             refine tV 14 ?_ ?zq ?_; (case zq => rintro _ -; go_simp; try with_reducible rfl); try simp only [Act.put, zn1, zn2, zn3]
             refine tV 15 ?_ ?zq ?_; (case zq => intro w' hSw; have hCell := fun (b o : Nat) (h : b < W6.heap.size) => hSw.cell (p := ⟨b, o, none⟩) h; clear hSw; go_simp; try with_reducible rfl); try simp only [Act.put, zn1, zn2, zn3]
             refine tV 16 ?_ ?zq ?_; (case zq => rintro _ -; go_simp; try with_reducible rfl); try simp only [Act.put, zn1, zn2, zn3]
             refine tV 17 ?_ ?zq ?_; (case zq => rintro _ -; go_simp; try with_reducible rfl); try simp only [Act.put, zn1, zn2, zn3]
             refine tV 18 ?_ ?zq ?_; (case zq => rintro _ -; go_simp; try with_reducible rfl); try simp only [Act.put, zn1, zn2, zn3]
             refine tV 19 ?_ ?zq ?_; (case zq => rintro _ -; go_simp; try with_reducible rfl); try simp only [Act.put, zn1, zn2, zn3]
             refine tV 20 ?_ ?zq ?_; (case zq => intro w' hSw; have hCell := fun (b o : Nat) (h : b < W6.heap.size) => hSw.cell (p := ⟨b, o, none⟩) h; clear hSw; go_simp; try with_reducible rfl); try simp only [Act.put, zn1, zn2, zn3]
             refine tV 21 ?_ ?zq ?_; (case zq => rintro _ -; go_simp; try with_reducible rfl); try simp only [Act.put, zn1, zn2, zn3]
             refine tV 22 ?_ ?zq ?_; (case zq => rintro _ -; go_simp; try with_reducible rfl); try simp only [Act.put, zn1, zn2, zn3]
             refine tV 23 ?_ ?zq ?_; (case zq => rintro _ -; go_simp; try with_reducible rfl); try simp only [Act.put, zn1, zn2, zn3]
             refine tV 24 ?_ ?zq ?_; (case zq => rintro _ -; go_simp; try with_reducible rfl); try simp only [Act.put, zn1, zn2, zn3]
             refine tV 25 ?_ ?zq ?_; (case zq => intro w' hSw; have hCell := fun (b o : Nat) (h : b < W6.heap.size) => hSw.cell (p := ⟨b, o, none⟩) h; clear hSw; go_simp; try with_reducible rfl); try simp only [Act.put, zn1, zn2, zn3]
             refine tV 26 ?_ ?zq ?_; (case zq => rintro _ -; go_simp; try with_reducible rfl); try simp only [Act.put, zn1, zn2, zn3]
             refine tV 27 ?_ ?zq ?_; (case zq => rintro _ -; go_simp; try with_reducible rfl); try simp only [Act.put, zn1, zn2, zn3]
             refine tV 28 ?_ ?zq ?_; (case zq => rintro _ -; go_simp; try with_reducible rfl); try simp only [Act.put, zn1, zn2, zn3]
             refine tV 29 ?_ ?zq ?_; (case zq => rintro _ -; go_simp; try with_reducible rfl); try simp only [Act.put, zn1, zn2, zn3]
             refine tV 30 ?_ ?zq ?_; (case zq => rintro _ -; go_simp; try with_reducible rfl); try simp only [Act.put, zn1, zn2, zn3]
             refine tV 31 ?_ ?zq ?_; (case zq => rintro _ -; go_simp; try with_reducible rfl); try simp only [Act.put, zn1, zn2, zn3]
             refine tU 32 ?_; (try simp only [Act.put, zn1, zn2, zn3])
             refine tU 33 ?_; (try simp only [Act.put, zn1, zn2, zn3])
             refine tU 34 ?_; (try simp only [Act.put, zn1, zn2, zn3])
             refine tU 35 ?_; (try simp only [Act.put, zn1, zn2, zn3])
             refine tU 36 ?_; (try simp only [Act.put, zn1, zn2, zn3])
             refine tU 37 ?_; (try simp only [Act.put, zn1, zn2, zn3])
             refine tU 38 ?_; (try simp only [Act.put, zn1, zn2, zn3])
             refine tU 39 ?_; (try simp only [Act.put, zn1, zn2, zn3])
             refine tU 40 ?_; (try simp only [Act.put, zn1, zn2, zn3])
             refine tV 41 ?_ ?zq ?_; (case zq => rintro _ -; go_simp; try with_reducible rfl); try simp only [Act.put, zn1, zn2, zn3]
             refine tV 42 ?_ ?zq ?_; (case zq => rintro _ -; go_simp; try with_reducible rfl); try simp only [Act.put, zn1, zn2, zn3]
             refine wpAnyH_done (by kernel_rfl) ?_ _
             replace c0 := cellAt c0 hHeld (by omega)
             replace c1 := cellAt c1 hHeld (by omega)
             replace x0 := cellAt x0 hHeld (by omega)
             replace x1 := cellAt x1 hHeld (by omega)
             replace x2 := cellAt x2 hHeld (by omega)
             replace e0 := cellAt e0 hHeld (by omega)
             replace e1 := cellAt e1 hHeld (by omega)
             replace e2 := cellAt e2 hHeld (by omega)
             replace a0 := cellAt a0 hHeld (by omega)
             replace a1 := cellAt a1 hHeld (by omega)
             replace a2 := cellAt a2 hHeld (by omega)
             replace Hr := Lib.hid (Hr.out.at hHeld)
             replace Hn := Lib.hid (Hn.out.at hHeld)
             replace n1 : w.heap.size < (W6.drew).heap.size := ltAt n1 hHeld
             replace HB := Lib.hid (lift HB.out hHeld)
             replace Hb9 := Lib.hid (lift Hb9.out hHeld)
             replace hB : b < (W6.drew).heap.size := ltAt hB hHeld
             replace m1 : wr.heap.size < (W6.drew).heap.size := ltAt m1 hHeld
             replace m2 : v3.heap.size < (W6.drew).heap.size := ltAt m2 hHeld
             go_wp2_with fail
             go_roundw
             case rel => exact ⟨k + 1, by omega, by go_num, HE.out.step hlt (by rw [Hx.out]; exact HGd.out) (fun j e => absurd (HK0.out.symm.trans e) (by simp)), Hb9.out⟩
             case measure => simp [intOf]; omega
            ·obtain ⟨j, rfl⟩ : ∃ j, k = j + 1 := ⟨k - 1, by omega⟩
             obtain ⟨b', o', he, _, y0, y1, y2⟩ := Hr.out.edge (i := j) (by omega)
             injection he with he
             injection he with he1 he2
             subst he1 he2
             generalize hy : es[j] = y at y0 y1 y2
             obtain ⟨s', d', r'⟩ := y
             have Hy := Lib.hid hy
             clear hy
             simp only at y0 y1 y2
             have k3 : (j : Int) < (es.length : Int) := by omega
             have k4 : IntKind.i64.wrap (j : Int) = j := IntWalk.i64_in _ (by omega)
             have k5 : IntKind.i64.wrap ((j : Int) + 1) = (j : Int) + 1 := IntWalk.i64_in _ (by omega)
             have k6 : ((j : Int) + 1).toNat = j + 1 := by omega
             have k7 : (0 : Int) ≤ (j : Int) + 1 := by omega
             have k8 : IntKind.i64.wrap ((j : Int) + 1 - 1) = j := by rw [show (j : Int) + 1 - 1 = j from by omega]; exact k4
             have k9 : decide ((0 : Int) < (j : Int) + 1) = true := by rw [decide_eq_true_eq]; omega
             have k10 : (0 : Int) ≤ (j : Int) := by omega
             go_wp2_with fail
             first | (refine wp_named ?_; intro W6 hW) | (refine calls_named ?_; intro W6 hW)
             have B6 : Below v5.heap.size v5 W6 := by rw [hW]; exact bq2
             replace c0 := cellAt c0 B6 (by omega)
             replace c1 := cellAt c1 B6 (by omega)
             replace x0 := cellAt x0 B6 (by omega)
             replace x1 := cellAt x1 B6 (by omega)
             replace x2 := cellAt x2 B6 (by omega)
             replace e0 := cellAt e0 B6 (by omega)
             replace e1 := cellAt e1 B6 (by omega)
             replace e2 := cellAt e2 B6 (by omega)
             replace a0 := cellAt a0 B6 (by omega)
             replace a1 := cellAt a1 B6 (by omega)
             replace a2 := cellAt a2 B6 (by omega)
             replace y0 := cellAt y0 B6 (by omega)
             replace y1 := cellAt y1 B6 (by omega)
             replace y2 := cellAt y2 B6 (by omega)
             replace Hr := Lib.hid (Hr.out.at B6)
             replace Hn := Lib.hid (Hn.out.at B6)
             replace n1 : w.heap.size < W6.heap.size := ltAt n1 B6
             replace HB := Lib.hid (lift HB.out B6)
             replace Hb9 := Lib.hid (lift Hb9.out B6)
             replace hB : b < W6.heap.size := ltAt hB B6
             replace m1 : wr.heap.size < W6.heap.size := ltAt m1 B6
             replace m2 : v3.heap.size < W6.heap.size := ltAt m2 B6
             clear hW
             clear B6
             try go_wp2_with fail
             refine wp_region_held_drew (S := fun w' => Below W6.heap.size W6 w') (by kernel_rfl) (Below.drew (Below.refl _ _)) (fun hHeld => ?_)
             refine tV 0 ?_ ?zq ?_; (case zq => rintro _ -; go_simp; try with_reducible rfl); try simp only [Act.put, zn1, zn2, zn3]
             refine tV 1 ?_ ?zq ?_; (case zq => rintro _ -; go_simp; try with_reducible rfl); try simp only [Act.put, zn1, zn2, zn3]
             refine tV 2 ?_ ?zq ?_; (case zq => rintro _ -; go_simp; try with_reducible rfl); try simp only [Act.put, zn1, zn2, zn3]
             refine tV 3 ?_ ?zq ?_; (case zq => rintro _ -; go_simp; try with_reducible rfl); try simp only [Act.put, zn1, zn2, zn3]
             refine tV 4 ?_ ?zq ?_; (case zq => rintro _ -; go_simp; try with_reducible rfl); try simp only [Act.put, zn1, zn2, zn3]
             refine tV 5 ?_ ?zq ?_; (case zq => rintro _ -; go_simp; try with_reducible rfl); try simp only [Act.put, zn1, zn2, zn3]
             refine tV 6 ?_ ?zq ?_; (case zq => rintro _ -; go_simp; try with_reducible rfl); try simp only [Act.put, zn1, zn2, zn3]
             refine tV 7 ?_ ?zq ?_; (case zq => rintro _ -; go_simp; try with_reducible rfl); try simp only [Act.put, zn1, zn2, zn3]
             refine tV 8 ?_ ?zq ?_; (case zq => intro w' hSw; have hCell := fun (b o : Nat) (h : b < W6.heap.size) => hSw.cell (p := ⟨b, o, none⟩) h; clear hSw; go_simp; try with_reducible rfl); try simp only [Act.put, zn1, zn2, zn3]
             refine tV 9 ?_ ?zq ?_; (case zq => rintro _ -; go_simp; try with_reducible rfl); try simp only [Act.put, zn1, zn2, zn3]
             refine tV 10 ?_ ?zq ?_; (case zq => rintro _ -; go_simp; try with_reducible rfl); try simp only [Act.put, zn1, zn2, zn3]
             refine tV 11 ?_ ?zq ?_; (case zq => rintro _ -; go_simp; try with_reducible rfl); try simp only [Act.put, zn1, zn2, zn3]
             refine tV 12 ?_ ?zq ?_; (case zq => rintro _ -; go_simp; try with_reducible rfl); try simp only [Act.put, zn1, zn2, zn3]
             refine tV 13 ?_ ?zq ?_; (case zq => intro w' hSw; have hCell := fun (b o : Nat) (h : b < W6.heap.size) => hSw.cell (p := ⟨b, o, none⟩) h; clear hSw; go_simp; try with_reducible rfl); try simp only [Act.put, zn1, zn2, zn3]
             refine tV 14 ?_ ?zq ?_; (case zq => rintro _ -; go_simp; try with_reducible rfl); try simp only [Act.put, zn1, zn2, zn3]
             refine tV 15 ?_ ?zq ?_; (case zq => intro w' hSw; have hCell := fun (b o : Nat) (h : b < W6.heap.size) => hSw.cell (p := ⟨b, o, none⟩) h; clear hSw; go_simp; try with_reducible rfl); try simp only [Act.put, zn1, zn2, zn3]
             refine tV 16 ?_ ?zq ?_; (case zq => rintro _ -; go_simp; try with_reducible rfl); try simp only [Act.put, zn1, zn2, zn3]
             refine tV 17 ?_ ?zq ?_; (case zq => rintro _ -; go_simp; try with_reducible rfl); try simp only [Act.put, zn1, zn2, zn3]
             refine tV 18 ?_ ?zq ?_; (case zq => rintro _ -; go_simp; try with_reducible rfl); try simp only [Act.put, zn1, zn2, zn3]
             refine tV 19 ?_ ?zq ?_; (case zq => rintro _ -; go_simp; try with_reducible rfl); try simp only [Act.put, zn1, zn2, zn3]
             refine tV 20 ?_ ?zq ?_; (case zq => intro w' hSw; have hCell := fun (b o : Nat) (h : b < W6.heap.size) => hSw.cell (p := ⟨b, o, none⟩) h; clear hSw; go_simp; try with_reducible rfl); try simp only [Act.put, zn1, zn2, zn3]
             refine tV 21 ?_ ?zq ?_; (case zq => rintro _ -; go_simp; try with_reducible rfl); try simp only [Act.put, zn1, zn2, zn3]
             refine tV 22 ?_ ?zq ?_; (case zq => rintro _ -; go_simp; try with_reducible rfl); try simp only [Act.put, zn1, zn2, zn3]
             refine tV 23 ?_ ?zq ?_; (case zq => rintro _ -; go_simp; try with_reducible rfl); try simp only [Act.put, zn1, zn2, zn3]
             refine tV 24 ?_ ?zq ?_; (case zq => rintro _ -; go_simp; try with_reducible rfl); try simp only [Act.put, zn1, zn2, zn3]
             refine tV 25 ?_ ?zq ?_; (case zq => intro w' hSw; have hCell := fun (b o : Nat) (h : b < W6.heap.size) => hSw.cell (p := ⟨b, o, none⟩) h; clear hSw; go_simp; try with_reducible rfl); try simp only [Act.put, zn1, zn2, zn3]
             refine tV 26 ?_ ?zq ?_; (case zq => rintro _ -; go_simp; try with_reducible rfl); try simp only [Act.put, zn1, zn2, zn3]
             refine tV 27 ?_ ?zq ?_; (case zq => rintro _ -; go_simp; try with_reducible rfl); try simp only [Act.put, zn1, zn2, zn3]
             refine tV 28 ?_ ?zq ?_; (case zq => rintro _ -; go_simp; try with_reducible rfl); try simp only [Act.put, zn1, zn2, zn3]
             refine tV 29 ?_ ?zq ?_; (case zq => rintro _ -; go_simp; try with_reducible rfl); try simp only [Act.put, zn1, zn2, zn3]
             refine tV 30 ?_ ?zq ?_; (case zq => rintro _ -; go_simp; try with_reducible rfl); try simp only [Act.put, zn1, zn2, zn3]
             refine tV 31 ?_ ?zq ?_; (case zq => rintro _ -; go_simp; try with_reducible rfl); try simp only [Act.put, zn1, zn2, zn3]
             refine tV 32 ?_ ?zq ?_; (case zq => rintro _ -; go_simp; try with_reducible rfl); try simp only [Act.put, zn1, zn2, zn3]
             refine tV 33 ?_ ?zq ?_; (case zq => intro w' hSw; have hCell := fun (b o : Nat) (h : b < W6.heap.size) => hSw.cell (p := ⟨b, o, none⟩) h; clear hSw; go_simp; try with_reducible rfl); try simp only [Act.put, zn1, zn2, zn3]
             refine tV 34 ?_ ?zq ?_; (case zq => rintro _ -; go_simp; try with_reducible rfl); try simp only [Act.put, zn1, zn2, zn3]
             refine tV 35 ?_ ?zq ?_; (case zq => rintro _ -; go_simp; try with_reducible rfl); try simp only [Act.put, zn1, zn2, zn3]
             refine tV 36 ?_ ?zq ?_; (case zq => rintro _ -; go_simp; try with_reducible rfl); try simp only [Act.put, zn1, zn2, zn3]
             refine tV 37 ?_ ?zq ?_; (case zq => intro w' hSw; have hCell := fun (b o : Nat) (h : b < W6.heap.size) => hSw.cell (p := ⟨b, o, none⟩) h; clear hSw; go_simp; try with_reducible rfl); try simp only [Act.put, zn1, zn2, zn3]
             refine tV 38 ?_ ?zq ?_; (case zq => intro w' hSw; have hCell := fun (b o : Nat) (h : b < W6.heap.size) => hSw.cell (p := ⟨b, o, none⟩) h; clear hSw; go_simp; try with_reducible rfl); try simp only [Act.put, zn1, zn2, zn3]
             refine ready_one (i := 39) rfl (by kernel_rfl) (fun K hK => ?_)
             go_simp
             refine (less15_any s' d' s d r' r _).mono ?_
             rintro e v7 ⟨rfl, hb⟩
             refine hK.out _ _ ?_ (fun hHeld2 => ?_)
             ·(try dsimp only); first | exact Below.trans hHeld (Below.mono hb hHeld.size) | exact hHeld | exact Below.drew hHeld | exact bq2
             clear hK K hHeld; have hHeld := hHeld2; clear hHeld2; (try simp only [Act.put, zn1, zn2, zn3])
             refine tV 40 ?_ ?zq ?_; (case zq => rintro _ -; go_simp; try with_reducible rfl); try simp only [Act.put, zn1, zn2, zn3]
             refine tV 41 ?_ ?zq ?_; (case zq => rintro _ -; go_simp; try with_reducible rfl); try simp only [Act.put, zn1, zn2, zn3]
             refine tV 42 ?_ ?zq ?_; (case zq => rintro _ -; go_simp; try with_reducible rfl); try simp only [Act.put, zn1, zn2, zn3]
             refine wpAnyH_done (by kernel_rfl) ?_ _
             replace c0 := cellAt c0 hHeld (by omega)
             replace c1 := cellAt c1 hHeld (by omega)
             replace x0 := cellAt x0 hHeld (by omega)
             replace x1 := cellAt x1 hHeld (by omega)
             replace x2 := cellAt x2 hHeld (by omega)
             replace e0 := cellAt e0 hHeld (by omega)
             replace e1 := cellAt e1 hHeld (by omega)
             replace e2 := cellAt e2 hHeld (by omega)
             replace a0 := cellAt a0 hHeld (by omega)
             replace a1 := cellAt a1 hHeld (by omega)
             replace a2 := cellAt a2 hHeld (by omega)
             replace y0 := cellAt y0 hHeld (by omega)
             replace y1 := cellAt y1 hHeld (by omega)
             replace y2 := cellAt y2 hHeld (by omega)
             replace Hr := Lib.hid (Hr.out.at hHeld)
             replace Hn := Lib.hid (Hn.out.at hHeld)
             replace n1 : w.heap.size < v7.heap.size := ltAt n1 hHeld
             replace HB := Lib.hid (lift HB.out hHeld)
             replace Hb9 := Lib.hid (lift Hb9.out hHeld)
             replace hB : b < v7.heap.size := ltAt hB hHeld
             replace m1 : wr.heap.size < v7.heap.size := ltAt m1 hHeld
             replace m2 : v3.heap.size < v7.heap.size := ltAt m2 hHeld
             clear hHeld
             cases hlt' : ltE (s', d', r') (s, d, r)
             ·have Hm := Lib.hid (mayG_eup (ns := ns) (k := j) hlt (by rw [Hx.out, Hy.out]; exact hlt'))
              go_wp2_with fail
              go_ret
              exact ⟨ret_bool (by rw [Hm.out]), HB.out⟩
             ·have HL : Hid (∀ i (e : j + 1 = i + 1), ltE (es[i]'(by omega)) es[j + 1] = true) := Lib.hid (fun i e => by
               obtain rfl : i = j := by omega
               rw [Hx.out, Hy.out]; exact hlt')
              go_wp2_with fail
              go_roundw
              case rel => exact ⟨j + 1 + 1, by omega, by go_num, HE.out.step hlt (by rw [Hx.out]; exact HGd.out) HL.out, Hb9.out⟩
              case measure => simp [intOf]; omega
         ·have Hm := Lib.hid (mayG_e (ns := ns) hlt (by rw [Hx.out, HV.out, hsd]; simp))
          go_wp2_with fail
          first | (refine wp_named ?_; intro W6 hW) | (refine calls_named ?_; intro W6 hW)
          have B6 : Below v5.heap.size v5 W6 := by rw [hW]; exact bq2
          replace c0 := cellAt c0 B6 (by omega)
          replace c1 := cellAt c1 B6 (by omega)
          replace x0 := cellAt x0 B6 (by omega)
          replace x1 := cellAt x1 B6 (by omega)
          replace x2 := cellAt x2 B6 (by omega)
          replace e0 := cellAt e0 B6 (by omega)
          replace e1 := cellAt e1 B6 (by omega)
          replace e2 := cellAt e2 B6 (by omega)
          replace a0 := cellAt a0 B6 (by omega)
          replace a1 := cellAt a1 B6 (by omega)
          replace a2 := cellAt a2 B6 (by omega)
          replace Hr := Lib.hid (Hr.out.at B6)
          replace Hn := Lib.hid (Hn.out.at B6)
          replace n1 : w.heap.size < W6.heap.size := ltAt n1 B6
          replace HB := Lib.hid (lift HB.out B6)
          replace Hb9 := Lib.hid (lift Hb9.out B6)
          replace hB : b < W6.heap.size := ltAt hB B6
          replace m1 : wr.heap.size < W6.heap.size := ltAt m1 B6
          replace m2 : v3.heap.size < W6.heap.size := ltAt m2 B6
          clear hW
          clear B6
          try go_wp2_with fail
          refine wp_region_held_drew (S := fun w' => Below W6.heap.size W6 w') (by kernel_rfl) (Below.drew (Below.refl _ _)) (fun hHeld => ?_)
          refine tV 0 ?_ ?zq ?_; (case zq => rintro _ -; go_simp; try with_reducible rfl); try simp only [Act.put, zn1, zn2, zn3]
          refine tV 1 ?_ ?zq ?_; (case zq => rintro _ -; go_simp; try with_reducible rfl); try simp only [Act.put, zn1, zn2, zn3]
          refine tV 2 ?_ ?zq ?_; (case zq => rintro _ -; go_simp; try with_reducible rfl); try simp only [Act.put, zn1, zn2, zn3]
          refine tV 3 ?_ ?zq ?_; (case zq => rintro _ -; go_simp; try with_reducible rfl); try simp only [Act.put, zn1, zn2, zn3]
          refine tV 4 ?_ ?zq ?_; (case zq => rintro _ -; go_simp; try with_reducible rfl); try simp only [Act.put, zn1, zn2, zn3]
          refine tV 5 ?_ ?zq ?_; (case zq => rintro _ -; go_simp; try with_reducible rfl); try simp only [Act.put, zn1, zn2, zn3]
          refine tV 6 ?_ ?zq ?_; (case zq => rintro _ -; go_simp; try with_reducible rfl); try simp only [Act.put, zn1, zn2, zn3]
          refine tV 7 ?_ ?zq ?_; (case zq => rintro _ -; go_simp; try with_reducible rfl); try simp only [Act.put, zn1, zn2, zn3]
          refine tV 8 ?_ ?zq ?_; (case zq => intro w' hSw; have hCell := fun (b o : Nat) (h : b < W6.heap.size) => hSw.cell (p := ⟨b, o, none⟩) h; clear hSw; go_simp; try with_reducible rfl); try simp only [Act.put, zn1, zn2, zn3]
          refine tV 9 ?_ ?zq ?_; (case zq => rintro _ -; go_simp; try with_reducible rfl); try simp only [Act.put, zn1, zn2, zn3]
          refine tV 10 ?_ ?zq ?_; (case zq => rintro _ -; go_simp; try with_reducible rfl); try simp only [Act.put, zn1, zn2, zn3]
          refine tV 11 ?_ ?zq ?_; (case zq => rintro _ -; go_simp; try with_reducible rfl); try simp only [Act.put, zn1, zn2, zn3]
          refine tV 12 ?_ ?zq ?_; (case zq => rintro _ -; go_simp; try with_reducible rfl); try simp only [Act.put, zn1, zn2, zn3]
          refine tV 13 ?_ ?zq ?_; (case zq => intro w' hSw; have hCell := fun (b o : Nat) (h : b < W6.heap.size) => hSw.cell (p := ⟨b, o, none⟩) h; clear hSw; go_simp; try with_reducible rfl); try simp only [Act.put, zn1, zn2, zn3]
          refine tV 14 ?_ ?zq ?_; (case zq => rintro _ -; go_simp; try with_reducible rfl); try simp only [Act.put, zn1, zn2, zn3]
          refine tV 15 ?_ ?zq ?_; (case zq => intro w' hSw; have hCell := fun (b o : Nat) (h : b < W6.heap.size) => hSw.cell (p := ⟨b, o, none⟩) h; clear hSw; go_simp; try with_reducible rfl); try simp only [Act.put, zn1, zn2, zn3]
          refine tV 16 ?_ ?zq ?_; (case zq => rintro _ -; go_simp; try with_reducible rfl); try simp only [Act.put, zn1, zn2, zn3]
          refine tV 17 ?_ ?zq ?_; (case zq => rintro _ -; go_simp; try with_reducible rfl); try simp only [Act.put, zn1, zn2, zn3]
          refine tV 18 ?_ ?zq ?_; (case zq => rintro _ -; go_simp; try with_reducible rfl); try simp only [Act.put, zn1, zn2, zn3]
          refine tU 19 ?_; (try simp only [Act.put, zn1, zn2, zn3])
          refine tU 20 ?_; (try simp only [Act.put, zn1, zn2, zn3])
          refine tU 21 ?_; (try simp only [Act.put, zn1, zn2, zn3])
          refine tV 22 ?_ ?zq ?_; (case zq => rintro _ -; go_simp; try with_reducible rfl); try simp only [Act.put, zn1, zn2, zn3]
          refine tV 23 ?_ ?zq ?_; (case zq => rintro _ -; go_simp; try with_reducible rfl); try simp only [Act.put, zn1, zn2, zn3]
          refine tU 24 ?_; (try simp only [Act.put, zn1, zn2, zn3])
          refine tU 25 ?_; (try simp only [Act.put, zn1, zn2, zn3])
          refine tU 26 ?_; (try simp only [Act.put, zn1, zn2, zn3])
          refine tV 27 ?_ ?zq ?_; (case zq => rintro _ -; go_simp; try with_reducible rfl); try simp only [Act.put, zn1, zn2, zn3]
          refine tV 28 ?_ ?zq ?_; (case zq => rintro _ -; go_simp; try with_reducible rfl); try simp only [Act.put, zn1, zn2, zn3]
          refine tU 29 ?_; (try simp only [Act.put, zn1, zn2, zn3])
          refine tU 30 ?_; (try simp only [Act.put, zn1, zn2, zn3])
          refine tU 31 ?_; (try simp only [Act.put, zn1, zn2, zn3])
          refine tU 32 ?_; (try simp only [Act.put, zn1, zn2, zn3])
          refine tU 33 ?_; (try simp only [Act.put, zn1, zn2, zn3])
          refine tU 34 ?_; (try simp only [Act.put, zn1, zn2, zn3])
          refine tU 35 ?_; (try simp only [Act.put, zn1, zn2, zn3])
          refine tU 36 ?_; (try simp only [Act.put, zn1, zn2, zn3])
          refine tU 37 ?_; (try simp only [Act.put, zn1, zn2, zn3])
          refine tU 38 ?_; (try simp only [Act.put, zn1, zn2, zn3])
          refine tU 39 ?_; (try simp only [Act.put, zn1, zn2, zn3])
          refine tU 40 ?_; (try simp only [Act.put, zn1, zn2, zn3])
          refine tU 41 ?_; (try simp only [Act.put, zn1, zn2, zn3])
          refine tV 42 ?_ ?zq ?_; (case zq => rintro _ -; go_simp; try with_reducible rfl); try simp only [Act.put, zn1, zn2, zn3]
          refine wpAnyH_done (by kernel_rfl) ?_ _
          go_wp2_with fail
          go_ret
          exact ⟨ret_bool (by rw [Hm.out]), HB.out.trans (hHeld.mono HB.out.size)⟩
       ·go_wp2_with fail
        first | (refine wp_named ?_; intro W2 hW) | (refine calls_named ?_; intro W2 hW)
        have B2 : Below wr.heap.size wr W2 := by rw [hW]; exact bq2
        replace c0 := cellAt c0 B2 (by omega)
        replace c1 := cellAt c1 B2 (by omega)
        replace x0 := cellAt x0 B2 (by omega)
        replace x1 := cellAt x1 B2 (by omega)
        replace x2 := cellAt x2 B2 (by omega)
        replace Hr := Lib.hid (Hr.out.at B2)
        replace Hn := Lib.hid (Hn.out.at B2)
        replace n1 : w.heap.size < W2.heap.size := ltAt n1 B2
        replace HB := Lib.hid (lift HB.out B2)
        replace Hb9 := Lib.hid (lift Hb9.out B2)
        replace hB : b < W2.heap.size := ltAt hB B2
        have m1 : wr.heap.size < W2.heap.size := by rw [hW]; simp <;> omega
        have e0 : W2.cell? ⟨wr.heap.size, 0, none⟩ = some (sv s) := by rw [hW]; go_simp
        have e1 : W2.cell? ⟨wr.heap.size, 1, none⟩ = some (sv d) := by rw [hW]; go_simp
        have e2 : W2.cell? ⟨wr.heap.size, 2, none⟩ = some (.int .i64 r) := by rw [hW]; go_simp
        clear hW
        clear B2
        refine (Node15_any An (some ⟨b, o, none⟩) es.length cn ce ns s W2 Hn.out (by omega)).mono ?_
        rintro e v3 ⟨rfl, hb⟩
        replace c0 := cellAt c0 hb (by omega)
        replace c1 := cellAt c1 hb (by omega)
        replace x0 := cellAt x0 hb (by omega)
        replace x1 := cellAt x1 hb (by omega)
        replace x2 := cellAt x2 hb (by omega)
        replace e0 := cellAt e0 hb (by omega)
        replace e1 := cellAt e1 hb (by omega)
        replace e2 := cellAt e2 hb (by omega)
        replace Hr := Lib.hid (Hr.out.at hb)
        replace Hn := Lib.hid (Hn.out.at hb)
        replace n1 : w.heap.size < v3.heap.size := ltAt n1 hb
        replace HB := Lib.hid (lift HB.out hb)
        replace Hb9 := Lib.hid (lift Hb9.out hb)
        replace hB : b < v3.heap.size := ltAt hB hb
        replace m1 : wr.heap.size < v3.heap.size := ltAt m1 hb
        clear hb
        have HEq := Lib.hid HEK.out
        obtain ⟨on, hon⟩ : ∃ on, nodeOf ns s = on := ⟨_, rfl⟩
        obtain ⟨od, hod⟩ : ∃ od, nodeOf ns d = od := ⟨_, rfl⟩
        rw [hon]
        have HV := Lib.hid (show edgeOk ns (s, d, r) = (on.isSome && (od.isSome && (!(s == d) && ((on.getD ([], 0, 0)).2.2 == 1 && (!decide (r < 1) && !decide (10 < r)))))) by rw [HEq.out, hon, hod])
        have HON := Lib.hid hon
        have HOD := Lib.hid hod
        clear hon hod HEq
        unfold nodeV
        generalize hgs : on.getD ([], 0, 0) = gs at *
        obtain ⟨gn, gk, gt⟩ := gs
        have HGS := Lib.hid hgs
        clear hgs
        go_wp2_with fail
        first | (refine wp_named ?_; intro W4 hW) | (refine calls_named ?_; intro W4 hW)
        have B4 : Below v3.heap.size v3 W4 := by rw [hW]; exact bq2
        replace c0 := cellAt c0 B4 (by omega)
        replace c1 := cellAt c1 B4 (by omega)
        replace x0 := cellAt x0 B4 (by omega)
        replace x1 := cellAt x1 B4 (by omega)
        replace x2 := cellAt x2 B4 (by omega)
        replace e0 := cellAt e0 B4 (by omega)
        replace e1 := cellAt e1 B4 (by omega)
        replace e2 := cellAt e2 B4 (by omega)
        replace Hr := Lib.hid (Hr.out.at B4)
        replace Hn := Lib.hid (Hn.out.at B4)
        replace n1 : w.heap.size < W4.heap.size := ltAt n1 B4
        replace HB := Lib.hid (lift HB.out B4)
        replace Hb9 := Lib.hid (lift Hb9.out B4)
        replace hB : b < W4.heap.size := ltAt hB B4
        replace m1 : wr.heap.size < W4.heap.size := ltAt m1 B4
        have m2 : v3.heap.size < W4.heap.size := by rw [hW]; simp <;> omega
        have a0 : W4.cell? ⟨v3.heap.size, 0, none⟩ = some (sv gn) := by rw [hW]; go_simp
        have a1 : W4.cell? ⟨v3.heap.size, 1, none⟩ = some (.int .i64 gk) := by rw [hW]; go_simp
        have a2 : W4.cell? ⟨v3.heap.size, 2, none⟩ = some (.int .i64 gt) := by rw [hW]; go_simp
        clear hW
        clear B4
        refine (Node15_any An (some ⟨b, o, none⟩) es.length cn ce ns d W4 Hn.out (by omega)).mono ?_
        rintro e v5 ⟨rfl, hb⟩
        replace c0 := cellAt c0 hb (by omega)
        replace c1 := cellAt c1 hb (by omega)
        replace x0 := cellAt x0 hb (by omega)
        replace x1 := cellAt x1 hb (by omega)
        replace x2 := cellAt x2 hb (by omega)
        replace e0 := cellAt e0 hb (by omega)
        replace e1 := cellAt e1 hb (by omega)
        replace e2 := cellAt e2 hb (by omega)
        replace a0 := cellAt a0 hb (by omega)
        replace a1 := cellAt a1 hb (by omega)
        replace a2 := cellAt a2 hb (by omega)
        replace Hr := Lib.hid (Hr.out.at hb)
        replace Hn := Lib.hid (Hn.out.at hb)
        replace n1 : w.heap.size < v5.heap.size := ltAt n1 hb
        replace HB := Lib.hid (lift HB.out hb)
        replace Hb9 := Lib.hid (lift Hb9.out hb)
        replace hB : b < v5.heap.size := ltAt hB hb
        replace m1 : wr.heap.size < v5.heap.size := ltAt m1 hb
        replace m2 : v3.heap.size < v5.heap.size := ltAt m2 hb
        clear hb
        rw [HOD.out]
        unfold nodeV
        generalize od.getD ([], 0, 0) = gd at *
        obtain ⟨dn, dk, dt⟩ := gd
        have hv1 : on.isSome = true := by rw [← HON.out]; exact hs0
        have hv2 : od.isSome = false := by rw [← HOD.out]; simpa using hd0
        clear hs0 hd0
        have Hm := Lib.hid (mayG_e (ns := ns) hlt (by rw [Hx.out, HV.out, hv2]; simp))
        go_wp2_with fail
        first | (refine wp_named ?_; intro W6 hW) | (refine calls_named ?_; intro W6 hW)
        have B6 : Below v5.heap.size v5 W6 := by rw [hW]; exact bq2
        replace c0 := cellAt c0 B6 (by omega)
        replace c1 := cellAt c1 B6 (by omega)
        replace x0 := cellAt x0 B6 (by omega)
        replace x1 := cellAt x1 B6 (by omega)
        replace x2 := cellAt x2 B6 (by omega)
        replace e0 := cellAt e0 B6 (by omega)
        replace e1 := cellAt e1 B6 (by omega)
        replace e2 := cellAt e2 B6 (by omega)
        replace a0 := cellAt a0 B6 (by omega)
        replace a1 := cellAt a1 B6 (by omega)
        replace a2 := cellAt a2 B6 (by omega)
        replace Hr := Lib.hid (Hr.out.at B6)
        replace Hn := Lib.hid (Hn.out.at B6)
        replace n1 : w.heap.size < W6.heap.size := ltAt n1 B6
        replace HB := Lib.hid (lift HB.out B6)
        replace Hb9 := Lib.hid (lift Hb9.out B6)
        replace hB : b < W6.heap.size := ltAt hB B6
        replace m1 : wr.heap.size < W6.heap.size := ltAt m1 B6
        replace m2 : v3.heap.size < W6.heap.size := ltAt m2 B6
        clear hW
        clear B6
        try go_wp2_with fail
        refine wp_region_held_drew (S := fun w' => Below W6.heap.size W6 w') (by kernel_rfl) (Below.drew (Below.refl _ _)) (fun hHeld => ?_)
        refine tV 0 ?_ ?zq ?_; (case zq => rintro _ -; go_simp; try with_reducible rfl); try simp only [Act.put, zn1, zn2, zn3]
        refine tV 1 ?_ ?zq ?_; (case zq => rintro _ -; go_simp; try with_reducible rfl); try simp only [Act.put, zn1, zn2, zn3]
        refine tV 2 ?_ ?zq ?_; (case zq => rintro _ -; go_simp; try with_reducible rfl); try simp only [Act.put, zn1, zn2, zn3]
        refine tV 3 ?_ ?zq ?_; (case zq => rintro _ -; go_simp; try with_reducible rfl); try simp only [Act.put, zn1, zn2, zn3]
        refine tV 4 ?_ ?zq ?_; (case zq => rintro _ -; go_simp; try with_reducible rfl); try simp only [Act.put, zn1, zn2, zn3]
        refine tV 5 ?_ ?zq ?_; (case zq => rintro _ -; go_simp; try with_reducible rfl); try simp only [Act.put, zn1, zn2, zn3]
        refine tV 6 ?_ ?zq ?_; (case zq => rintro _ -; go_simp; try with_reducible rfl); try simp only [Act.put, zn1, zn2, zn3]
        refine tU 7 ?_; (try simp only [Act.put, zn1, zn2, zn3])
        refine tU 8 ?_; (try simp only [Act.put, zn1, zn2, zn3])
        refine tU 9 ?_; (try simp only [Act.put, zn1, zn2, zn3])
        refine tV 10 ?_ ?zq ?_; (case zq => rintro _ -; go_simp; try with_reducible rfl); try simp only [Act.put, zn1, zn2, zn3]
        refine tV 11 ?_ ?zq ?_; (case zq => rintro _ -; go_simp; try with_reducible rfl); try simp only [Act.put, zn1, zn2, zn3]
        refine tU 12 ?_; (try simp only [Act.put, zn1, zn2, zn3])
        refine tU 13 ?_; (try simp only [Act.put, zn1, zn2, zn3])
        refine tU 14 ?_; (try simp only [Act.put, zn1, zn2, zn3])
        refine tU 15 ?_; (try simp only [Act.put, zn1, zn2, zn3])
        refine tU 16 ?_; (try simp only [Act.put, zn1, zn2, zn3])
        refine tV 17 ?_ ?zq ?_; (case zq => rintro _ -; go_simp; try with_reducible rfl); try simp only [Act.put, zn1, zn2, zn3]
        refine tV 18 ?_ ?zq ?_; (case zq => rintro _ -; go_simp; try with_reducible rfl); try simp only [Act.put, zn1, zn2, zn3]
        refine tU 19 ?_; (try simp only [Act.put, zn1, zn2, zn3])
        refine tU 20 ?_; (try simp only [Act.put, zn1, zn2, zn3])
        refine tU 21 ?_; (try simp only [Act.put, zn1, zn2, zn3])
        refine tV 22 ?_ ?zq ?_; (case zq => rintro _ -; go_simp; try with_reducible rfl); try simp only [Act.put, zn1, zn2, zn3]
        refine tV 23 ?_ ?zq ?_; (case zq => rintro _ -; go_simp; try with_reducible rfl); try simp only [Act.put, zn1, zn2, zn3]
        refine tU 24 ?_; (try simp only [Act.put, zn1, zn2, zn3])
        refine tU 25 ?_; (try simp only [Act.put, zn1, zn2, zn3])
        refine tU 26 ?_; (try simp only [Act.put, zn1, zn2, zn3])
        refine tV 27 ?_ ?zq ?_; (case zq => rintro _ -; go_simp; try with_reducible rfl); try simp only [Act.put, zn1, zn2, zn3]
        refine tV 28 ?_ ?zq ?_; (case zq => rintro _ -; go_simp; try with_reducible rfl); try simp only [Act.put, zn1, zn2, zn3]
        refine tU 29 ?_; (try simp only [Act.put, zn1, zn2, zn3])
        refine tU 30 ?_; (try simp only [Act.put, zn1, zn2, zn3])
        refine tU 31 ?_; (try simp only [Act.put, zn1, zn2, zn3])
        refine tU 32 ?_; (try simp only [Act.put, zn1, zn2, zn3])
        refine tU 33 ?_; (try simp only [Act.put, zn1, zn2, zn3])
        refine tU 34 ?_; (try simp only [Act.put, zn1, zn2, zn3])
        refine tU 35 ?_; (try simp only [Act.put, zn1, zn2, zn3])
        refine tU 36 ?_; (try simp only [Act.put, zn1, zn2, zn3])
        refine tU 37 ?_; (try simp only [Act.put, zn1, zn2, zn3])
        refine tU 38 ?_; (try simp only [Act.put, zn1, zn2, zn3])
        refine tU 39 ?_; (try simp only [Act.put, zn1, zn2, zn3])
        refine tU 40 ?_; (try simp only [Act.put, zn1, zn2, zn3])
        refine tU 41 ?_; (try simp only [Act.put, zn1, zn2, zn3])
        refine tV 42 ?_ ?zq ?_; (case zq => rintro _ -; go_simp; try with_reducible rfl); try simp only [Act.put, zn1, zn2, zn3]
        refine wpAnyH_done (by kernel_rfl) ?_ _
        go_wp2_with fail
        go_ret
        exact ⟨ret_bool (by rw [Hm.out]), HB.out.trans (hHeld.mono HB.out.size)⟩
      ·have hs1 : (nodeOf ns s).isSome = false := by simpa using hs0
       go_wp2_with fail
       first | (refine wp_named ?_; intro W2 hW) | (refine calls_named ?_; intro W2 hW)
       have B2 : Below wr.heap.size wr W2 := by rw [hW]; exact bq2
       replace c0 := cellAt c0 B2 (by omega)
       replace c1 := cellAt c1 B2 (by omega)
       replace x0 := cellAt x0 B2 (by omega)
       replace x1 := cellAt x1 B2 (by omega)
       replace x2 := cellAt x2 B2 (by omega)
       replace Hr := Lib.hid (Hr.out.at B2)
       replace Hn := Lib.hid (Hn.out.at B2)
       replace n1 : w.heap.size < W2.heap.size := ltAt n1 B2
       replace HB := Lib.hid (lift HB.out B2)
       replace Hb9 := Lib.hid (lift Hb9.out B2)
       replace hB : b < W2.heap.size := ltAt hB B2
       have m1 : wr.heap.size < W2.heap.size := by rw [hW]; simp <;> omega
       have e0 : W2.cell? ⟨wr.heap.size, 0, none⟩ = some (sv s) := by rw [hW]; go_simp
       have e1 : W2.cell? ⟨wr.heap.size, 1, none⟩ = some (sv d) := by rw [hW]; go_simp
       have e2 : W2.cell? ⟨wr.heap.size, 2, none⟩ = some (.int .i64 r) := by rw [hW]; go_simp
       clear hW
       clear B2
       refine (Node15_any An (some ⟨b, o, none⟩) es.length cn ce ns s W2 Hn.out (by omega)).mono ?_
       rintro e v3 ⟨rfl, hb⟩
       replace c0 := cellAt c0 hb (by omega)
       replace c1 := cellAt c1 hb (by omega)
       replace x0 := cellAt x0 hb (by omega)
       replace x1 := cellAt x1 hb (by omega)
       replace x2 := cellAt x2 hb (by omega)
       replace e0 := cellAt e0 hb (by omega)
       replace e1 := cellAt e1 hb (by omega)
       replace e2 := cellAt e2 hb (by omega)
       replace Hr := Lib.hid (Hr.out.at hb)
       replace Hn := Lib.hid (Hn.out.at hb)
       replace n1 : w.heap.size < v3.heap.size := ltAt n1 hb
       replace HB := Lib.hid (lift HB.out hb)
       replace Hb9 := Lib.hid (lift Hb9.out hb)
       replace hB : b < v3.heap.size := ltAt hB hb
       replace m1 : wr.heap.size < v3.heap.size := ltAt m1 hb
       clear hb
       have HEq := Lib.hid HEK.out
       obtain ⟨on, hon⟩ : ∃ on, nodeOf ns s = on := ⟨_, rfl⟩
       obtain ⟨od, hod⟩ : ∃ od, nodeOf ns d = od := ⟨_, rfl⟩
       rw [hon]
       have HV := Lib.hid (show edgeOk ns (s, d, r) = (on.isSome && (od.isSome && (!(s == d) && ((on.getD ([], 0, 0)).2.2 == 1 && (!decide (r < 1) && !decide (10 < r)))))) by rw [HEq.out, hon, hod])
       have HON := Lib.hid hon
       have HOD := Lib.hid hod
       clear hon hod HEq
       unfold nodeV
       generalize hgs : on.getD ([], 0, 0) = gs at *
       obtain ⟨gn, gk, gt⟩ := gs
       have HGS := Lib.hid hgs
       clear hgs
       go_wp2_with fail
       first | (refine wp_named ?_; intro W4 hW) | (refine calls_named ?_; intro W4 hW)
       have B4 : Below v3.heap.size v3 W4 := by rw [hW]; exact bq2
       replace c0 := cellAt c0 B4 (by omega)
       replace c1 := cellAt c1 B4 (by omega)
       replace x0 := cellAt x0 B4 (by omega)
       replace x1 := cellAt x1 B4 (by omega)
       replace x2 := cellAt x2 B4 (by omega)
       replace e0 := cellAt e0 B4 (by omega)
       replace e1 := cellAt e1 B4 (by omega)
       replace e2 := cellAt e2 B4 (by omega)
       replace Hr := Lib.hid (Hr.out.at B4)
       replace Hn := Lib.hid (Hn.out.at B4)
       replace n1 : w.heap.size < W4.heap.size := ltAt n1 B4
       replace HB := Lib.hid (lift HB.out B4)
       replace Hb9 := Lib.hid (lift Hb9.out B4)
       replace hB : b < W4.heap.size := ltAt hB B4
       replace m1 : wr.heap.size < W4.heap.size := ltAt m1 B4
       have m2 : v3.heap.size < W4.heap.size := by rw [hW]; simp <;> omega
       have a0 : W4.cell? ⟨v3.heap.size, 0, none⟩ = some (sv gn) := by rw [hW]; go_simp
       have a1 : W4.cell? ⟨v3.heap.size, 1, none⟩ = some (.int .i64 gk) := by rw [hW]; go_simp
       have a2 : W4.cell? ⟨v3.heap.size, 2, none⟩ = some (.int .i64 gt) := by rw [hW]; go_simp
       clear hW
       clear B4
       refine (Node15_any An (some ⟨b, o, none⟩) es.length cn ce ns d W4 Hn.out (by omega)).mono ?_
       rintro e v5 ⟨rfl, hb⟩
       replace c0 := cellAt c0 hb (by omega)
       replace c1 := cellAt c1 hb (by omega)
       replace x0 := cellAt x0 hb (by omega)
       replace x1 := cellAt x1 hb (by omega)
       replace x2 := cellAt x2 hb (by omega)
       replace e0 := cellAt e0 hb (by omega)
       replace e1 := cellAt e1 hb (by omega)
       replace e2 := cellAt e2 hb (by omega)
       replace a0 := cellAt a0 hb (by omega)
       replace a1 := cellAt a1 hb (by omega)
       replace a2 := cellAt a2 hb (by omega)
       replace Hr := Lib.hid (Hr.out.at hb)
       replace Hn := Lib.hid (Hn.out.at hb)
       replace n1 : w.heap.size < v5.heap.size := ltAt n1 hb
       replace HB := Lib.hid (lift HB.out hb)
       replace Hb9 := Lib.hid (lift Hb9.out hb)
       replace hB : b < v5.heap.size := ltAt hB hb
       replace m1 : wr.heap.size < v5.heap.size := ltAt m1 hb
       replace m2 : v3.heap.size < v5.heap.size := ltAt m2 hb
       clear hb
       rw [HOD.out]
       unfold nodeV
       generalize od.getD ([], 0, 0) = gd at *
       obtain ⟨dn, dk, dt⟩ := gd
       have hv1 : on.isSome = false := by rw [← HON.out]; exact hs1
       clear hs0 hs1
       have Hm := Lib.hid (mayG_e (ns := ns) hlt (by rw [Hx.out, HV.out, hv1]; simp))
       go_wp2_with fail
       first | (refine wp_named ?_; intro W6 hW) | (refine calls_named ?_; intro W6 hW)
       have B6 : Below v5.heap.size v5 W6 := by rw [hW]; exact bq2
       replace c0 := cellAt c0 B6 (by omega)
       replace c1 := cellAt c1 B6 (by omega)
       replace x0 := cellAt x0 B6 (by omega)
       replace x1 := cellAt x1 B6 (by omega)
       replace x2 := cellAt x2 B6 (by omega)
       replace e0 := cellAt e0 B6 (by omega)
       replace e1 := cellAt e1 B6 (by omega)
       replace e2 := cellAt e2 B6 (by omega)
       replace a0 := cellAt a0 B6 (by omega)
       replace a1 := cellAt a1 B6 (by omega)
       replace a2 := cellAt a2 B6 (by omega)
       replace Hr := Lib.hid (Hr.out.at B6)
       replace Hn := Lib.hid (Hn.out.at B6)
       replace n1 : w.heap.size < W6.heap.size := ltAt n1 B6
       replace HB := Lib.hid (lift HB.out B6)
       replace Hb9 := Lib.hid (lift Hb9.out B6)
       replace hB : b < W6.heap.size := ltAt hB B6
       replace m1 : wr.heap.size < W6.heap.size := ltAt m1 B6
       replace m2 : v3.heap.size < W6.heap.size := ltAt m2 B6
       clear hW
       clear B6
       try go_wp2_with fail
       refine wp_region_held_drew (S := fun w' => Below W6.heap.size W6 w') (by kernel_rfl) (Below.drew (Below.refl _ _)) (fun hHeld => ?_)
       refine tV 0 ?_ ?zq ?_; (case zq => rintro _ -; go_simp; try with_reducible rfl); try simp only [Act.put, zn1, zn2, zn3]
       refine tV 1 ?_ ?zq ?_; (case zq => rintro _ -; go_simp; try with_reducible rfl); try simp only [Act.put, zn1, zn2, zn3]
       refine tV 2 ?_ ?zq ?_; (case zq => rintro _ -; go_simp; try with_reducible rfl); try simp only [Act.put, zn1, zn2, zn3]
       refine tU 3 ?_; (try simp only [Act.put, zn1, zn2, zn3])
       refine tU 4 ?_; (try simp only [Act.put, zn1, zn2, zn3])
       refine tV 5 ?_ ?zq ?_; (case zq => rintro _ -; go_simp; try with_reducible rfl); try simp only [Act.put, zn1, zn2, zn3]
       refine tV 6 ?_ ?zq ?_; (case zq => rintro _ -; go_simp; try with_reducible rfl); try simp only [Act.put, zn1, zn2, zn3]
       refine tU 7 ?_; (try simp only [Act.put, zn1, zn2, zn3])
       refine tU 8 ?_; (try simp only [Act.put, zn1, zn2, zn3])
       refine tU 9 ?_; (try simp only [Act.put, zn1, zn2, zn3])
       refine tV 10 ?_ ?zq ?_; (case zq => rintro _ -; go_simp; try with_reducible rfl); try simp only [Act.put, zn1, zn2, zn3]
       refine tV 11 ?_ ?zq ?_; (case zq => rintro _ -; go_simp; try with_reducible rfl); try simp only [Act.put, zn1, zn2, zn3]
       refine tU 12 ?_; (try simp only [Act.put, zn1, zn2, zn3])
       refine tU 13 ?_; (try simp only [Act.put, zn1, zn2, zn3])
       refine tU 14 ?_; (try simp only [Act.put, zn1, zn2, zn3])
       refine tU 15 ?_; (try simp only [Act.put, zn1, zn2, zn3])
       refine tU 16 ?_; (try simp only [Act.put, zn1, zn2, zn3])
       refine tV 17 ?_ ?zq ?_; (case zq => rintro _ -; go_simp; try with_reducible rfl); try simp only [Act.put, zn1, zn2, zn3]
       refine tV 18 ?_ ?zq ?_; (case zq => rintro _ -; go_simp; try with_reducible rfl); try simp only [Act.put, zn1, zn2, zn3]
       refine tU 19 ?_; (try simp only [Act.put, zn1, zn2, zn3])
       refine tU 20 ?_; (try simp only [Act.put, zn1, zn2, zn3])
       refine tU 21 ?_; (try simp only [Act.put, zn1, zn2, zn3])
       refine tV 22 ?_ ?zq ?_; (case zq => rintro _ -; go_simp; try with_reducible rfl); try simp only [Act.put, zn1, zn2, zn3]
       refine tV 23 ?_ ?zq ?_; (case zq => rintro _ -; go_simp; try with_reducible rfl); try simp only [Act.put, zn1, zn2, zn3]
       refine tU 24 ?_; (try simp only [Act.put, zn1, zn2, zn3])
       refine tU 25 ?_; (try simp only [Act.put, zn1, zn2, zn3])
       refine tU 26 ?_; (try simp only [Act.put, zn1, zn2, zn3])
       refine tV 27 ?_ ?zq ?_; (case zq => rintro _ -; go_simp; try with_reducible rfl); try simp only [Act.put, zn1, zn2, zn3]
       refine tV 28 ?_ ?zq ?_; (case zq => rintro _ -; go_simp; try with_reducible rfl); try simp only [Act.put, zn1, zn2, zn3]
       refine tU 29 ?_; (try simp only [Act.put, zn1, zn2, zn3])
       refine tU 30 ?_; (try simp only [Act.put, zn1, zn2, zn3])
       refine tU 31 ?_; (try simp only [Act.put, zn1, zn2, zn3])
       refine tU 32 ?_; (try simp only [Act.put, zn1, zn2, zn3])
       refine tU 33 ?_; (try simp only [Act.put, zn1, zn2, zn3])
       refine tU 34 ?_; (try simp only [Act.put, zn1, zn2, zn3])
       refine tU 35 ?_; (try simp only [Act.put, zn1, zn2, zn3])
       refine tU 36 ?_; (try simp only [Act.put, zn1, zn2, zn3])
       refine tU 37 ?_; (try simp only [Act.put, zn1, zn2, zn3])
       refine tU 38 ?_; (try simp only [Act.put, zn1, zn2, zn3])
       refine tU 39 ?_; (try simp only [Act.put, zn1, zn2, zn3])
       refine tU 40 ?_; (try simp only [Act.put, zn1, zn2, zn3])
       refine tU 41 ?_; (try simp only [Act.put, zn1, zn2, zn3])
       refine tV 42 ?_ ?zq ?_; (case zq => rintro _ -; go_simp; try with_reducible rfl); try simp only [Act.put, zn1, zn2, zn3]
       refine wpAnyH_done (by kernel_rfl) ?_ _
       go_wp2_with fail
       go_ret
       exact ⟨ret_bool (by rw [Hm.out]), HB.out.trans (hHeld.mono HB.out.size)⟩
     ·have hkE : k = es.length := by omega
      subst hkE
      have HT := Lib.hid (mayG_end (by omega) HU.out HE.out)
      go_wp2_with fail
      go_ret
      exact ⟨ret_bool (by rw [HT.out]), HB.out⟩
end Od
end Go.Proofs.YtbllehjhmfehbaaGreat
end
