/- My texts, joined for the claim: RStraight LwSome GIns2. -/
import Derived.Test.YtclaoffnfopekaaGreatZB9
import Derived.Test.YtclaoffnfopekaaGreatZB5
import Derived.Test.YtclaoffnfopekaaGreatZB7

section
/- The walks of matinsref15.Straight, Round and Same. -/
namespace Go.Proofs.YtclaoffnfopekaaGreat
open Go.RowKit Go.Sort

namespace Od
def ndEq (a b : Nd) : Bool := a == b
set_option maxRecDepth 100000 in
theorem nd_eq (s s' : Str) (k k' r r' : Int) (w : World) : (Op.equalIn 10000 43 (.agg #[sv s, .int .i64 k, .int .i64 r]) (.agg #[sv s', .int .i64 k', .int .i64 r'])).run Tryz.prog w = .ok (ndEq (s, k, r) (s', k', r')) w := by
  show (Op.equalIn (9999 + 1) _ _ _).run _ w = _
  go_simp
  unfold ndEq
  by_cases h1 : s = s' <;> by_cases h2 : k = k' <;> by_cases h3 : r = r' <;> simp [h1, h2, h3]
theorem nd_neq (s s' : Str) (k k' r r' : Int) (w : World) : (binOp .neq 43 (.agg #[sv s, .int .i64 k, .int .i64 r]) (.agg #[sv s', .int .i64 k', .int .i64 r'])).run Tryz.prog w = .ok (.bool (!ndEq (s, k, r) (s', k', r'))) w := by
  rw [run_neq_struct, nd_eq]; rfl

set_option maxRecDepth 100000 in
set_option maxHeartbeats 1000000 in
theorem Straight15_any (An Ae : Option Addr) (cn ce : Nat) (ns : List Nd) (es : List Ed) (w : World) (hn : Rd w w.heap.size 3 An ns.length (ndsC ns)) (hr : Rd w w.heap.size 3 Ae es.length (edsC es)) (hln : ns.length ≤ 1000000) (hl : es.length ≤ 30000) :
    Calls Tryz.prog 23 #[gV An ns.length cn Ae es.length ce] w (GraphIs ns (straight es) w) := by
  obtain ⟨i0, hi, hz0, hz1, hz2⟩ := info_parts inN
  have h63 : 0 + ns.length ≤ maxLen := by unfold maxLen; omega
  have hby : (0 + ns.length) * 32 ≤ 140737488355328 := by omega
  have Hn := Lib.hid hn
  have Hr := Lib.hid hr
  clear hr hn
  go_enter Tryz.func23, Tryz.ntmps23
  go_wp2_with fail
  first | (refine wp_named ?_; intro W1 hW) | (refine calls_named ?_; intro W1 hW)
  have B1 : Below w.heap.size w W1 := by rw [hW]; exact (by repeat (first | exact Below.refl _ _ | assumption | refine Below.alloc ?_ (by simp <;> omega) _ | refine Below.setCell ?_ (by simp <;> omega) _ | refine Below.drew ?_))
  replace Hr := Lib.hid (Hr.out.at B1)
  replace Hn := Lib.hid (Hn.out.at B1)
  have n1 : w.heap.size < W1.heap.size := by rw [hW]; simp <;> omega
  have n2 : (w.heap.size + 1) < W1.heap.size := by rw [hW]; simp <;> omega
  have c10 : W1.cell? ⟨w.heap.size, 0, none⟩ = some (.slice An ns.length cn) := by rw [hW]; go_simp
  have c11 : W1.cell? ⟨w.heap.size, 1, none⟩ = some (.slice Ae es.length ce) := by rw [hW]; go_simp
  have c20 : W1.cell? ⟨w.heap.size + 1, 0, none⟩ = some (.slice none 0 0) := by rw [hW]; go_simp
  have c21 : W1.cell? ⟨w.heap.size + 1, 1, none⟩ = some (.slice none 0 0) := by rw [hW]; go_simp
  have f20 : W1.frozen? ⟨w.heap.size + 1, 0, none⟩ = false := by rw [hW]; go_simp
  have f21 : W1.frozen? ⟨w.heap.size + 1, 1, none⟩ = false := by rw [hW]; go_simp
  clear hW
  have hz1' := n2
  refine (split15_any An Ae ns.length cn ce es W1 Hr.out hl).mono ?_
  rintro e w2 ⟨A1, c1, A2, c2, rfl, hc1, hc2, hr1, hr2, hf1, hf2, hb⟩
  have HS1 := Lib.hid hr1
  have HB2 := Lib.hid (lift B1 hb)
  replace c10 : w2.cell? ⟨w.heap.size, 0, none⟩ = some (.slice An ns.length cn) := cellAt c10 hb (by omega)
  replace c11 : w2.cell? ⟨w.heap.size, 1, none⟩ = some (.slice Ae es.length ce) := cellAt c11 hb (by omega)
  replace c20 : w2.cell? ⟨w.heap.size + 1, 0, none⟩ = some (.slice none 0 0) := cellAt c20 hb (by omega)
  replace c21 : w2.cell? ⟨w.heap.size + 1, 1, none⟩ = some (.slice none 0 0) := cellAt c21 hb (by omega)
  replace f20 : w2.frozen? ⟨w.heap.size + 1, 0, none⟩ = false := froAt f20 hb (by omega)
  replace f21 : w2.frozen? ⟨w.heap.size + 1, 1, none⟩ = false := froAt f21 hb (by omega)
  replace Hr := Lib.hid (Hr.out.at hb)
  replace Hn := Lib.hid (Hn.out.at hb)
  replace n1 : w.heap.size < w2.heap.size := ltAt n1 hb
  replace n2 : (w.heap.size + 1) < w2.heap.size := ltAt n2 hb
  clear hr1 hr2 hb B1
  have hz3 := n2
  go_wp2_with (first
    | (at_builtin; refine wpList_append_fresh _ (by rfl) (.const (.slice none 0 0)) (.tmp 11) 22 (by rfl) 43 i0 _ 3 32 Tryz.underlying22 hi hz0 hz1 hz2 rfl 0 none 0 [] (by rfl) Rd.none_ (Nat.zero_le _) _ An ns.length cn (ndsC ns) (by rfl) Hn.out (one_ndsC ns) h63 hby ?_; intro A3 c3 w3 hc3 hr3 hb3 hf3; have d20 := cellAt c20 hb3 n2; have d21 := cellAt c21 hb3 n2; have g20 := froAt f20 hb3 n2; have g21 := froAt f21 hb3 n2; have HS3 := Lib.hid hr3; have HB3 := Lib.hid hb3; clear hr3 hb3)
    | fail)
  have hc3' : ns.length ≤ c3 := by omega
  refine bodyPost_ret (v := gV A3 ns.length c3 A1 (straight es).length c1) ?_ rfl ⟨A3, c3, A1, c1, rfl, hc3', hc1, ?_, ?_, ?_⟩
  · simp [results, Tryz.results23, go_sem, d20, d21]
  · have h3 : Rd w3 w3.heap.size 3 A3 ns.length (ndsC ns) := by simpa using HS3.out
    exact ((h3.setCellF (p := ⟨w.heap.size + 1, 0, none⟩) (fun ad hn e => Nat.ne_of_lt (Nat.lt_of_lt_of_le hz3 (hf3 hn ad e))) _).setCellF (p := ⟨w.heap.size + 1, 1, none⟩) (fun ad hn e => Nat.ne_of_lt (Nat.lt_of_lt_of_le hz3 (hf3 hn ad e))) _).more (by simp)
  · exact (((HS1.out.at HB3.out).setCellF (p := ⟨w.heap.size + 1, 0, none⟩) (fun ad hn e => Nat.ne_of_lt (Nat.lt_of_lt_of_le hz1' (hf1 hn ad e))) _).setCellF (p := ⟨w.heap.size + 1, 1, none⟩) (fun ad hn e => Nat.ne_of_lt (Nat.lt_of_lt_of_le hz1' (hf1 hn ad e))) _).more (by simp)
  · exact ((lift HB2.out HB3.out).setCell (by show w.heap.size ≤ w.heap.size + 1; omega) _).setCell (by show w.heap.size ≤ w.heap.size + 1; omega) _
set_option maxRecDepth 100000 in
set_option maxHeartbeats 1000000 in
theorem Round15_any (An Ae : Option Addr) (nn cn ce : Nat) (es : List Ed) (w : World) (hr : Rd w w.heap.size 3 Ae es.length (edsC es)) (hl : es.length ≤ 30000) :
    Calls Tryz.prog 20 #[gV An nn cn Ae es.length ce] w (RdIs 3 (gone es).length (edsC (gone es)) w) := by
  have Hr := Lib.hid hr
  clear hr
  go_enter Tryz.func20, Tryz.ntmps20
  go_wp2_with fail
  first | (refine wp_named ?_; intro W1 hW) | (refine calls_named ?_; intro W1 hW)
  have B1 : Below w.heap.size w W1 := by rw [hW]; exact (by repeat (first | exact Below.refl _ _ | assumption | refine Below.alloc ?_ (by simp <;> omega) _ | refine Below.setCell ?_ (by simp <;> omega) _ | refine Below.drew ?_))
  replace Hr := Lib.hid (Hr.out.at B1)
  clear hW
  refine (split15_any An Ae nn cn ce es W1 Hr.out hl).mono ?_
  rintro e w2 ⟨A1, c1, A2, c2, rfl, hc1, hc2, hr1, hr2, hf1, hf2, hb⟩
  go_wp2_with fail
  go_ret
  exact RdIs.of hc2 hr2 (lift B1 hb) rfl rfl

theorem take_eq_succ {α : Type} {xs ys : List α} {k : Nat} (h : xs.take k = ys.take k) (h1 : k < xs.length) (h2 : k < ys.length) (he : xs[k] = ys[k]) : xs.take (k + 1) = ys.take (k + 1) := by
  rw [List.take_succ_eq_append_getElem h1, List.take_succ_eq_append_getElem h2, h, he]
def sameG (ns ns' : List Nd) (es es' : List Ed) : Bool := decide (ns = ns') && decide (es = es')
set_option maxRecDepth 100000 in
set_option maxHeartbeats 4000000 in
theorem Same15_any (An Ae Bn Be : Option Addr) (cn ce dn de : Nat) (ns ns' : List Nd) (es es' : List Ed) (w : World) (hn : Rd w w.heap.size 3 An ns.length (ndsC ns)) (hr : Rd w w.heap.size 3 Ae es.length (edsC es)) (hn' : Rd w w.heap.size 3 Bn ns'.length (ndsC ns')) (hr' : Rd w w.heap.size 3 Be es'.length (edsC es')) (hl : ns.length ≤ 1000000 ∧ es.length ≤ 1000000 ∧ ns'.length ≤ 1000000 ∧ es'.length ≤ 1000000) :
    Calls Tryz.prog 21 #[gV An ns.length cn Ae es.length ce, gV Bn ns'.length dn Be es'.length de] w fun e w' => e = .returned (.bool (sameG ns ns' es es')) ∧ Below w.heap.size w w' := by
  obtain ⟨hl1, hl2, hl3, hl4⟩ := hl
  have Hn := Lib.hid hn
  have Hr := Lib.hid hr
  have Hn' := Lib.hid hn'
  have Hr' := Lib.hid hr'
  have hq1 := ed_neq
  have hq2 := nd_neq
  clear hr hn hr' hn'
  by_cases e1 : ns.length = ns'.length
  · by_cases e2 : es.length = es'.length
    · have b1 : ((ns.length : Int) != (ns'.length : Int)) = false := by simp [e1]
      have b2 : ((es.length : Int) != (es'.length : Int)) = false := by simp [e2]
      have E1 := Lib.hid e1
      have E2 := Lib.hid e2
      clear e1 e2
      go_enter Tryz.func21, Tryz.ntmps21
      go_wp2_with fail
      first | (refine wp_named ?_; intro W1 hW) | (refine calls_named ?_; intro W1 hW)
      have B1 : Below w.heap.size w W1 := by rw [hW]; exact (by repeat (first | exact Below.refl _ _ | assumption | refine Below.alloc ?_ (by simp <;> omega) _ | refine Below.setCell ?_ (by simp <;> omega) _ | refine Below.drew ?_))
      replace Hr := Lib.hid (Hr.out.at B1)
      replace Hn := Lib.hid (Hn.out.at B1)
      replace Hr' := Lib.hid (Hr'.out.at B1)
      replace Hn' := Lib.hid (Hn'.out.at B1)
      have n1 : w.heap.size < W1.heap.size := by rw [hW]; simp <;> omega
      have n2 : (w.heap.size + 1) < W1.heap.size := by rw [hW]; simp <;> omega
      have c10 : W1.cell? ⟨w.heap.size, 0, none⟩ = some (.slice An ns.length cn) := by rw [hW]; go_simp
      have c11 : W1.cell? ⟨w.heap.size, 1, none⟩ = some (.slice Ae es.length ce) := by rw [hW]; go_simp
      have c20 : W1.cell? ⟨w.heap.size + 1, 0, none⟩ = some (.slice Bn ns'.length dn) := by rw [hW]; go_simp
      have c21 : W1.cell? ⟨w.heap.size + 1, 1, none⟩ = some (.slice Be es'.length de) := by rw [hW]; go_simp
      clear hW
      have HB := Lib.hid B1
      clear B1
      go_loopw [26] (fun i wr => ∃ k : Nat, k ≤ ns.length ∧ i = .int .i64 k ∧ Hid (ns.take k = ns'.take k) ∧ Below W1.heap.size W1 wr) (fun i _ => ns.length - (intOf i).toNat)
      case atStart => exact ⟨0, Nat.zero_le _, rfl, by simp [Hid], Below.refl _ _⟩
      case round =>
        obtain ⟨k, hk, rfl, hall, hb⟩ := hrel
        replace c10 : wr.cell? ⟨w.heap.size, 0, none⟩ = some (.slice An ns.length cn) := cellAt c10 hb (by omega)
        replace c11 : wr.cell? ⟨w.heap.size, 1, none⟩ = some (.slice Ae es.length ce) := cellAt c11 hb (by omega)
        replace c20 : wr.cell? ⟨w.heap.size + 1, 0, none⟩ = some (.slice Bn ns'.length dn) := cellAt c20 hb (by omega)
        replace c21 : wr.cell? ⟨w.heap.size + 1, 1, none⟩ = some (.slice Be es'.length de) := cellAt c21 hb (by omega)
        replace Hr := Lib.hid (Hr.out.at hb)
        replace Hn := Lib.hid (Hn.out.at hb)
        replace Hr' := Lib.hid (Hr'.out.at hb)
        replace Hn' := Lib.hid (Hn'.out.at hb)
        replace n1 : w.heap.size < wr.heap.size := ltAt n1 hb
        replace n2 : (w.heap.size + 1) < wr.heap.size := ltAt n2 hb
        replace HB := Lib.hid (lift HB.out hb)
        by_cases hlt : k < ns.length
        · have hlt' : k < ns'.length := by rw [← E1.out]; exact hlt
          obtain ⟨b, o, hA, hB, x0, x1, x2⟩ := Hn.out.node hlt
          obtain ⟨b', o', hA', hB', y0, y1, y2⟩ := Hn'.out.node hlt'
          have htk := @take_eq_succ Nd ns ns' k hall.out hlt hlt'
          have hne : ns[k] ≠ ns'[k] → ns ≠ ns' := fun h e => h (by simp [e])
          generalize ns[k] = p at x0 x1 x2 htk hne
          generalize ns'[k] = q at y0 y1 y2 htk hne
          obtain ⟨s, u, r⟩ := p
          obtain ⟨s', u', r'⟩ := q
          have HT := Lib.hid (And.intro htk hne)
          simp only at x0 x1 x2 y0 y1 y2
          have k1 : (0 : Int) ≤ (k : Int) := by omega
          have k2 : (k : Int) < (ns.length : Int) := by omega
          have k3 : (k : Int) < (ns'.length : Int) := by omega
          subst hA
          subst hA'
          clear htk hne
          have Hb := Lib.hid hb
          clear hb
          go_wp2_with fail
          try go_wp2_with fail
          refine wp_region_held_drew (S := fun w' => Below wr.heap.size wr w') (by kernel_rfl) (Below.drew (Below.refl _ _)) (fun hHeld => ?_)
          refine take_yield (i := 0) (v := ?_) rfl (by kernel_rfl) (by kernel_rfl) (by kernel_rfl) (fun _ _ _ h => h) (by rfl) ?_ hHeld ?_
          rotate_left 1
          · (intro w' hSw; clear hSw; go_simp; try with_reducible rfl)
          (try simp only [Act.put, List.setIfInBounds_toArray, List.set_cons_zero, List.set_cons_succ])
          refine take_yield (i := 1) (v := ?_) rfl (by kernel_rfl) (by kernel_rfl) (by kernel_rfl) (fun _ _ _ h => h) (by rfl) ?_ hHeld ?_
          rotate_left 1
          · (intro w' hSw; have hCell := fun (b o : Nat) (h : b < wr.heap.size) => hSw.cell (p := ⟨b, o, none⟩) h; clear hSw; go_simp; try with_reducible rfl)
          (try simp only [Act.put, List.setIfInBounds_toArray, List.set_cons_zero, List.set_cons_succ])
          refine take_yield (i := 2) (v := ?_) rfl (by kernel_rfl) (by kernel_rfl) (by kernel_rfl) (fun _ _ _ h => h) (by rfl) ?_ hHeld ?_
          rotate_left 1
          · (intro w' hSw; clear hSw; go_simp; try with_reducible rfl)
          (try simp only [Act.put, List.setIfInBounds_toArray, List.set_cons_zero, List.set_cons_succ])
          refine take_yield (i := 3) (v := ?_) rfl (by kernel_rfl) (by kernel_rfl) (by kernel_rfl) (fun _ _ _ h => h) (by rfl) ?_ hHeld ?_
          rotate_left 1
          · (intro w' hSw; clear hSw; go_simp; try with_reducible rfl)
          (try simp only [Act.put, List.setIfInBounds_toArray, List.set_cons_zero, List.set_cons_succ])
          refine take_yield (i := 4) (v := ?_) rfl (by kernel_rfl) (by kernel_rfl) (by kernel_rfl) (fun _ _ _ h => h) (by rfl) ?_ hHeld ?_
          rotate_left 1
          · (intro w' hSw; have hCell := fun (b o : Nat) (h : b < wr.heap.size) => hSw.cell (p := ⟨b, o, none⟩) h; clear hSw; go_simp; try with_reducible rfl)
          (try simp only [Act.put, List.setIfInBounds_toArray, List.set_cons_zero, List.set_cons_succ])
          refine take_yield (i := 5) (v := ?_) rfl (by kernel_rfl) (by kernel_rfl) (by kernel_rfl) (fun _ _ _ h => h) (by rfl) ?_ hHeld ?_
          rotate_left 1
          · (intro w' hSw; clear hSw; go_simp; try with_reducible rfl)
          (try simp only [Act.put, List.setIfInBounds_toArray, List.set_cons_zero, List.set_cons_succ])
          refine take_yield (i := 6) (v := ?_) rfl (by kernel_rfl) (by kernel_rfl) (by kernel_rfl) (fun _ _ _ h => h) (by rfl) ?_ hHeld ?_
          rotate_left 1
          · (intro w' hSw; have hCell := fun (b o : Nat) (h : b < wr.heap.size) => hSw.cell (p := ⟨b, o, none⟩) h; clear hSw; go_simp; try with_reducible rfl)
          (try simp only [Act.put, List.setIfInBounds_toArray, List.set_cons_zero, List.set_cons_succ])
          refine take_yield (i := 7) (v := ?_) rfl (by kernel_rfl) (by kernel_rfl) (by kernel_rfl) (fun _ _ _ h => h) (by rfl) ?_ hHeld ?_
          rotate_left 1
          · (intro w' hSw; clear hSw; go_simp; try with_reducible rfl)
          (try simp only [Act.put, List.setIfInBounds_toArray, List.set_cons_zero, List.set_cons_succ])
          refine take_yield (i := 8) (v := ?_) rfl (by kernel_rfl) (by kernel_rfl) (by kernel_rfl) (fun _ _ _ h => h) (by rfl) ?_ hHeld ?_
          rotate_left 1
          · (intro w' hSw; clear hSw; go_simp; try with_reducible rfl)
          (try simp only [Act.put, List.setIfInBounds_toArray, List.set_cons_zero, List.set_cons_succ])
          refine take_yield (i := 9) (v := ?_) rfl (by kernel_rfl) (by kernel_rfl) (by kernel_rfl) (fun _ _ _ h => h) (by rfl) ?_ hHeld ?_
          rotate_left 1
          · (intro w' hSw; have hCell := fun (b o : Nat) (h : b < wr.heap.size) => hSw.cell (p := ⟨b, o, none⟩) h; clear hSw; go_simp; try with_reducible rfl)
          (try simp only [Act.put, List.setIfInBounds_toArray, List.set_cons_zero, List.set_cons_succ])
          refine take_yield (i := 10) (v := ?_) rfl (by kernel_rfl) (by kernel_rfl) (by kernel_rfl) (fun _ _ _ h => h) (by rfl) ?_ hHeld ?_
          rotate_left 1
          · (intro w' hSw; clear hSw; go_simp; try with_reducible rfl)
          (try simp only [Act.put, List.setIfInBounds_toArray, List.set_cons_zero, List.set_cons_succ])
          refine wpAnyH_done (by kernel_rfl) ?_ _
          cases he : ndEq (s, u, r) (s', u', r')
          · have HE := Lib.hid (HT.out.2 (by simpa [ndEq] using he))
            go_wp2_with fail
            go_ret
            exact ⟨ret_bool (by unfold sameG; rw [decide_eq_false HE.out]; rfl), lift HB.out hHeld⟩
          · have HE := Lib.hid (HT.out.1 (by simpa [ndEq] using he))
            go_wp2_with fail
            go_roundw
            case rel => exact ⟨k + 1, by omega, by go_num, HE.out, lift Hb.out hHeld⟩
            case measure => simp [intOf]; omega
        · have hkn : k = ns.length := by omega
          have hns : ns = ns' := by
            have h := hall.out
            rw [hkn, List.take_length, E1.out, List.take_length] at h
            exact h
          have HNS := Lib.hid hns
          obtain ⟨w2, rfl⟩ : ∃ wo : World, wo = wr := ⟨_, rfl⟩
          clear hkn hns hb
          go_wp2_with fail
          go_loopw [44] (fun i wr => ∃ k : Nat, k ≤ es.length ∧ i = .int .i64 k ∧ Hid (es.take k = es'.take k) ∧ Below w2.heap.size w2 wr) (fun i _ => es.length - (intOf i).toNat)
          case atStart => exact ⟨0, Nat.zero_le _, rfl, by simp [Hid], Below.refl _ _⟩
          case round =>
            obtain ⟨k2, hk2, rfl, hall2, hb⟩ := hrel
            replace c10 : wr.cell? ⟨w.heap.size, 0, none⟩ = some (.slice An ns.length cn) := cellAt c10 hb (by omega)
            replace c11 : wr.cell? ⟨w.heap.size, 1, none⟩ = some (.slice Ae es.length ce) := cellAt c11 hb (by omega)
            replace c20 : wr.cell? ⟨w.heap.size + 1, 0, none⟩ = some (.slice Bn ns'.length dn) := cellAt c20 hb (by omega)
            replace c21 : wr.cell? ⟨w.heap.size + 1, 1, none⟩ = some (.slice Be es'.length de) := cellAt c21 hb (by omega)
            replace Hr := Lib.hid (Hr.out.at hb)
            replace Hn := Lib.hid (Hn.out.at hb)
            replace Hr' := Lib.hid (Hr'.out.at hb)
            replace Hn' := Lib.hid (Hn'.out.at hb)
            replace n1 : w.heap.size < wr.heap.size := ltAt n1 hb
            replace n2 : (w.heap.size + 1) < wr.heap.size := ltAt n2 hb
            replace HB := Lib.hid (lift HB.out hb)
            by_cases hlt2 : k2 < es.length
            · have hlt2' : k2 < es'.length := by rw [← E2.out]; exact hlt2
              obtain ⟨b, o, hA, hB, x0, x1, x2⟩ := Hr.out.edge hlt2
              obtain ⟨b', o', hA', hB', y0, y1, y2⟩ := Hr'.out.edge hlt2'
              have htk := @take_eq_succ Ed es es' k2 hall2.out hlt2 hlt2'
              have hne : es[k2] ≠ es'[k2] → es ≠ es' := fun h e => h (by simp [e])
              generalize es[k2] = p at x0 x1 x2 htk hne
              generalize es'[k2] = q at y0 y1 y2 htk hne
              obtain ⟨s, u, r⟩ := p
              obtain ⟨s', u', r'⟩ := q
              have HT := Lib.hid (And.intro htk hne)
              simp only at x0 x1 x2 y0 y1 y2
              have k1 : (0 : Int) ≤ (k2 : Int) := by omega
              have k3 : (k2 : Int) < (es.length : Int) := by omega
              have k4 : (k2 : Int) < (es'.length : Int) := by omega
              subst hA
              subst hA'
              clear htk hne
              have Hb := Lib.hid hb
              clear hb
              go_wp2_with fail
              try go_wp2_with fail
              refine wp_region_held_drew (S := fun w' => Below wr.heap.size wr w') (by kernel_rfl) (Below.drew (Below.refl _ _)) (fun hHeld => ?_)
              refine take_yield (i := 0) (v := ?_) rfl (by kernel_rfl) (by kernel_rfl) (by kernel_rfl) (fun _ _ _ h => h) (by rfl) ?_ hHeld ?_
              rotate_left 1
              · (intro w' hSw; clear hSw; go_simp; try with_reducible rfl)
              (try simp only [Act.put, List.setIfInBounds_toArray, List.set_cons_zero, List.set_cons_succ])
              refine take_yield (i := 1) (v := ?_) rfl (by kernel_rfl) (by kernel_rfl) (by kernel_rfl) (fun _ _ _ h => h) (by rfl) ?_ hHeld ?_
              rotate_left 1
              · (intro w' hSw; have hCell := fun (b o : Nat) (h : b < wr.heap.size) => hSw.cell (p := ⟨b, o, none⟩) h; clear hSw; go_simp; try with_reducible rfl)
              (try simp only [Act.put, List.setIfInBounds_toArray, List.set_cons_zero, List.set_cons_succ])
              refine take_yield (i := 2) (v := ?_) rfl (by kernel_rfl) (by kernel_rfl) (by kernel_rfl) (fun _ _ _ h => h) (by rfl) ?_ hHeld ?_
              rotate_left 1
              · (intro w' hSw; clear hSw; go_simp; try with_reducible rfl)
              (try simp only [Act.put, List.setIfInBounds_toArray, List.set_cons_zero, List.set_cons_succ])
              refine take_yield (i := 3) (v := ?_) rfl (by kernel_rfl) (by kernel_rfl) (by kernel_rfl) (fun _ _ _ h => h) (by rfl) ?_ hHeld ?_
              rotate_left 1
              · (intro w' hSw; clear hSw; go_simp; try with_reducible rfl)
              (try simp only [Act.put, List.setIfInBounds_toArray, List.set_cons_zero, List.set_cons_succ])
              refine take_yield (i := 4) (v := ?_) rfl (by kernel_rfl) (by kernel_rfl) (by kernel_rfl) (fun _ _ _ h => h) (by rfl) ?_ hHeld ?_
              rotate_left 1
              · (intro w' hSw; have hCell := fun (b o : Nat) (h : b < wr.heap.size) => hSw.cell (p := ⟨b, o, none⟩) h; clear hSw; go_simp; try with_reducible rfl)
              (try simp only [Act.put, List.setIfInBounds_toArray, List.set_cons_zero, List.set_cons_succ])
              refine take_yield (i := 5) (v := ?_) rfl (by kernel_rfl) (by kernel_rfl) (by kernel_rfl) (fun _ _ _ h => h) (by rfl) ?_ hHeld ?_
              rotate_left 1
              · (intro w' hSw; clear hSw; go_simp; try with_reducible rfl)
              (try simp only [Act.put, List.setIfInBounds_toArray, List.set_cons_zero, List.set_cons_succ])
              refine take_yield (i := 6) (v := ?_) rfl (by kernel_rfl) (by kernel_rfl) (by kernel_rfl) (fun _ _ _ h => h) (by rfl) ?_ hHeld ?_
              rotate_left 1
              · (intro w' hSw; have hCell := fun (b o : Nat) (h : b < wr.heap.size) => hSw.cell (p := ⟨b, o, none⟩) h; clear hSw; go_simp; try with_reducible rfl)
              (try simp only [Act.put, List.setIfInBounds_toArray, List.set_cons_zero, List.set_cons_succ])
              refine take_yield (i := 7) (v := ?_) rfl (by kernel_rfl) (by kernel_rfl) (by kernel_rfl) (fun _ _ _ h => h) (by rfl) ?_ hHeld ?_
              rotate_left 1
              · (intro w' hSw; clear hSw; go_simp; try with_reducible rfl)
              (try simp only [Act.put, List.setIfInBounds_toArray, List.set_cons_zero, List.set_cons_succ])
              refine take_yield (i := 8) (v := ?_) rfl (by kernel_rfl) (by kernel_rfl) (by kernel_rfl) (fun _ _ _ h => h) (by rfl) ?_ hHeld ?_
              rotate_left 1
              · (intro w' hSw; clear hSw; go_simp; try with_reducible rfl)
              (try simp only [Act.put, List.setIfInBounds_toArray, List.set_cons_zero, List.set_cons_succ])
              refine take_yield (i := 9) (v := ?_) rfl (by kernel_rfl) (by kernel_rfl) (by kernel_rfl) (fun _ _ _ h => h) (by rfl) ?_ hHeld ?_
              rotate_left 1
              · (intro w' hSw; have hCell := fun (b o : Nat) (h : b < wr.heap.size) => hSw.cell (p := ⟨b, o, none⟩) h; clear hSw; go_simp; try with_reducible rfl)
              (try simp only [Act.put, List.setIfInBounds_toArray, List.set_cons_zero, List.set_cons_succ])
              refine take_yield (i := 10) (v := ?_) rfl (by kernel_rfl) (by kernel_rfl) (by kernel_rfl) (fun _ _ _ h => h) (by rfl) ?_ hHeld ?_
              rotate_left 1
              · (intro w' hSw; clear hSw; go_simp; try with_reducible rfl)
              (try simp only [Act.put, List.setIfInBounds_toArray, List.set_cons_zero, List.set_cons_succ])
              refine wpAnyH_done (by kernel_rfl) ?_ _
              cases he : edEq (s, u, r) (s', u', r')
              · have HE := Lib.hid (HT.out.2 (by simpa [edEq] using he))
                go_wp2_with fail
                go_ret
                exact ⟨ret_bool (by unfold sameG; rw [decide_eq_false HE.out, Bool.and_false]), lift HB.out hHeld⟩
              · have HE := Lib.hid (HT.out.1 (by simpa [edEq] using he))
                go_wp2_with fail
                go_roundw
                case rel => exact ⟨k2 + 1, by omega, by go_num, HE.out, lift Hb.out hHeld⟩
                case measure => simp [intOf]; omega
            · have hes : es = es' := by
                have hkn : k2 = es.length := by omega
                have h := hall2.out
                rw [hkn, List.take_length, E2.out, List.take_length] at h
                exact h
              have HES := Lib.hid hes
              clear hes hb
              go_wp2_with fail
              go_ret
              exact ⟨ret_bool (by unfold sameG; rw [decide_eq_true HNS.out, decide_eq_true HES.out]; rfl), HB.out⟩
    · have b1 : ((ns.length : Int) != (ns'.length : Int)) = false := by simp [e1]
      have b2 : ((es.length : Int) != (es'.length : Int)) = true := by simp; omega
      have E1 := Lib.hid e1
      have E2 := Lib.hid (show es ≠ es' from fun h => e2 (by rw [h]))
      clear e1 e2
      go_enter Tryz.func21, Tryz.ntmps21
      go_wp2_with fail
      go_ret
      exact ⟨ret_bool (by unfold sameG; rw [decide_eq_false E2.out, Bool.and_false]), (by repeat (first | exact Below.refl _ _ | assumption | refine Below.alloc ?_ (by simp <;> omega) _ | refine Below.setCell ?_ (by simp <;> omega) _ | refine Below.drew ?_))⟩
  · have b1 : ((ns.length : Int) != (ns'.length : Int)) = true := by simp; omega
    have E1 := Lib.hid (show ns ≠ ns' from fun h => e1 (by rw [h]))
    clear e1
    go_enter Tryz.func21, Tryz.ntmps21
    go_wp2_with fail
    go_ret
    exact ⟨ret_bool (by unfold sameG; rw [decide_eq_false E1.out]; rfl), (by repeat (first | exact Below.refl _ _ | assumption | refine Below.alloc ?_ (by simp <;> omega) _ | refine Below.setCell ?_ (by simp <;> omega) _ | refine Below.drew ?_))⟩
end Od
end Go.Proofs.YtclaoffnfopekaaGreat
end

section
/- The walks of the laws' own helpers of layer 16: small, some. -/
namespace Go.Proofs.YtclaoffnfopekaaGreat
open Go.RowKit Go.Sort

namespace Od
def smallB (ns : List Nd) (es : List Ed) : Bool := decide ((ns.length : Int) ≤ 64) && decide ((es.length : Int) ≤ 300)
theorem smallB_iff {ns : List Nd} {es : List Ed} : smallB ns es = true ↔ ns.length ≤ 64 ∧ es.length ≤ 300 := by
  simp [smallB]; omega
set_option maxHeartbeats 1000000 in
theorem small_any (An Ae : Option Addr) (cn ce : Nat) (ns : List Nd) (es : List Ed) (w : World) :
    Calls Tryz.prog 11 #[gV An ns.length cn Ae es.length ce] w fun e w' => e = .returned (.bool (smallB ns es)) ∧ Below w.heap.size w w' := by
  have HM := Lib.hid (show smallB ns es = (decide ((ns.length : Int) ≤ 64) && decide ((es.length : Int) ≤ 300)) from rfl)
  by_cases h1 : (ns.length : Int) ≤ 64
  · have d1 : decide ((ns.length : Int) ≤ 64) = true := by simpa using h1
    have D1 := Lib.hid d1
    go_enter Tryz.func11, Tryz.ntmps11
    go_wp2_with fail
    go_ret
    exact ⟨ret_bool (by rw [HM.out, D1.out]; simp), (by repeat (first | exact Below.refl _ _ | assumption | refine Below.alloc ?_ (by simp <;> omega) _ | refine Below.setCell ?_ (by simp <;> omega) _ | refine Below.drew ?_))⟩
  · have d1 : decide ((ns.length : Int) ≤ 64) = false := by simpa using h1
    have D1 := Lib.hid d1
    go_enter Tryz.func11, Tryz.ntmps11
    go_wp2_with fail
    go_ret
    exact ⟨ret_bool (by rw [HM.out, D1.out]; simp), (by repeat (first | exact Below.refl _ _ | assumption | refine Below.alloc ?_ (by simp <;> omega) _ | refine Below.setCell ?_ (by simp <;> omega) _ | refine Below.drew ?_))⟩
def nmA : Str := [97, 46, 116, 97, 114, 103, 101, 116]
def nmB : Str := [98, 46, 116, 97, 114, 103, 101, 116]
def nmC : Str := [99, 46, 116, 97, 114, 103, 101, 116]
def someNs : List Nd := [(nmA, 4, 1), (nmB, 4, 1), (nmC, 4, 1)]
def someEs : List Ed := [(nmA, nmB, 8), (nmB, nmA, 1), (nmB, nmA, 8), (nmB, nmC, 7)]
set_option maxRecDepth 100000 in
set_option maxHeartbeats 1000000 in
theorem some_any (w : World) : Calls Tryz.prog 30 #[] w (GraphIs someNs someEs w) := by
  go_enter Tryz.func30, Tryz.ntmps30
  go_wp2_with fail
  refine bodyPost_ret (v := gV (some ⟨w.heap.size + 1, 0, none⟩) 3 3 (some ⟨w.heap.size + 1 + 1, 0, none⟩) 4 4) (by simp [results, Tryz.results30, go_sem]) rfl ⟨_, 3, _, 4, rfl, Nat.le_refl _, Nat.le_refl _, ?_, ?_, (by repeat (first | exact Below.refl _ _ | assumption | refine Below.alloc ?_ (by simp <;> omega) _ | refine Below.setCell ?_ (by simp <;> omega) _ | refine Below.drew ?_))⟩
  · have h := Rd.lit (w.alloc (.cells #[.slice (some ⟨w.heap.size + 1, 0, none⟩) 3 3, .slice (some ⟨w.heap.size + 1 + 1, 0, none⟩) 4 4] 25)) (ndsC someNs) 43 3 3 rfl
    simp only [World.size_alloc] at h
    exact (h.alloc (by simp) _).more (by simp)
  · have h := Rd.lit ((w.alloc (.cells #[.slice (some ⟨w.heap.size + 1, 0, none⟩) 3 3, .slice (some ⟨w.heap.size + 1 + 1, 0, none⟩) 4 4] 25)).alloc (.cells (ndsC someNs).toArray 43)) (edsC someEs) 34 3 4 rfl
    simp only [World.size_alloc] at h
    exact h.more (by simp)
theorem sh1 : mayG someNs someEs = true := by decide +kernel
theorem sh2 : isB someEs = false := by decide +kernel
theorem sh3 : isB (straight someEs) = true := by decide +kernel
theorem sh4 : gone someEs = [(nmA, nmB, 8)] := by decide +kernel
theorem sh5 : sortU (straight someEs) [nmC, nmB, nmA] = some [nmA, nmB, nmC] := by decide +kernel
theorem sh6 : sortU someEs [nmA, nmB] = none := by decide +kernel
theorem sh7 : someEs.any (aheadB nmB nmC) = true := by decide +kernel
theorem sh8 : reachL (prsL (straight someEs)) nmA = [nmB, nmC] := by decide +kernel
theorem okSome : OkE someEs := by
  intro e he
  simp only [someEs, List.mem_cons, List.not_mem_nil, or_false] at he
  rcases he with rfl | rfl | rfl | rfl <;> exact ⟨by unfold okS maxLen; decide, by unfold okS maxLen; decide⟩
theorem okSomeN : OkNs someNs := by
  intro e he
  simp only [someNs, List.mem_cons, List.not_mem_nil, or_false] at he
  rcases he with rfl | rfl | rfl <;> decide
theorem okStraight {es : List Ed} (h : OkE es) : OkE (straight es) := fun e he => h e (List.mem_filter.1 he).1
theorem straight_len (es : List Ed) : (straight es).length ≤ es.length := List.length_filter_le _ _
theorem gone_len (es : List Ed) : (gone es).length ≤ es.length := List.length_filter_le _ _
set_option maxRecDepth 100000 in
set_option maxHeartbeats 8000000 in
theorem shown_any (w : World) : Calls Tryz.prog 10 #[] w fun e w' => e = .returned (.bool true) ∧ Below w.heap.size w w' := by
  have hq := ed_eql
  go_enter Tryz.func10, Tryz.ntmps10
  go_wp2_with fail
  refine (some_any w).mono ?_
  rintro e w1 ⟨An, cn, Ae, ce, rfl, hcn, hce, hrn, hre, hb⟩
  have HN := Lib.hid hrn
  have HE := Lib.hid hre
  have HB := Lib.hid hb
  clear hrn hre hb
  go_wp2_with fail
  first | (refine wp_named ?_; intro W1 hW) | (refine calls_named ?_; intro W1 hW)
  have B1 : Below w1.heap.size w1 W1 := by rw [hW]; exact (by repeat (first | exact Below.refl _ _ | assumption | refine Below.alloc ?_ (by simp <;> omega) _ | refine Below.setCell ?_ (by simp <;> omega) _ | refine Below.drew ?_))
  replace HN := Lib.hid (HN.out.at B1)
  replace HE := Lib.hid (HE.out.at B1)
  replace HB := Lib.hid (lift HB.out B1)
  have n1 : w1.heap.size < W1.heap.size := by rw [hW]; simp <;> omega
  have c0 : W1.cell? ⟨w1.heap.size, 0, none⟩ = some (.slice An someNs.length cn) := by rw [hW]; go_simp
  have c1 : W1.cell? ⟨w1.heap.size, 1, none⟩ = some (.slice Ae someEs.length ce) := by rw [hW]; go_simp
  clear hW
  clear B1
  refine (Straight_any An Ae cn ce someNs someEs W1 HN.out HE.out okSome (by decide) (by decide)).mono ?_
  rintro e w2 ⟨Bn, dn, Be, de, rfl, hdn, hde, hsn, hse, hb⟩
  have HSN := Lib.hid hsn
  have HSE := Lib.hid hse
  replace c0 := cellAt c0 hb (by omega)
  replace c1 := cellAt c1 hb (by omega)
  replace HN := Lib.hid (HN.out.at hb)
  replace HE := Lib.hid (HE.out.at hb)
  replace HB := Lib.hid (lift HB.out hb)
  replace n1 : w1.heap.size < w2.heap.size := ltAt n1 hb
  clear hsn hse hb
  go_wp2_with fail
  first | (refine wp_named ?_; intro W2 hW) | (refine calls_named ?_; intro W2 hW)
  have B2 : Below w2.heap.size w2 W2 := by rw [hW]; exact (by repeat (first | exact Below.refl _ _ | assumption | refine Below.alloc ?_ (by simp <;> omega) _ | refine Below.setCell ?_ (by simp <;> omega) _ | refine Below.drew ?_))
  replace c0 := cellAt c0 B2 (by omega)
  replace c1 := cellAt c1 B2 (by omega)
  replace HN := Lib.hid (HN.out.at B2)
  replace HE := Lib.hid (HE.out.at B2)
  replace HB := Lib.hid (lift HB.out B2)
  replace n1 : w1.heap.size < W2.heap.size := ltAt n1 B2
  replace HSN := Lib.hid (HSN.out.at B2)
  replace HSE := Lib.hid (HSE.out.at B2)
  have n2 : w2.heap.size < W2.heap.size := by rw [hW]; simp <;> omega
  have s0 : W2.cell? ⟨w2.heap.size, 0, none⟩ = some (.slice Bn someNs.length dn) := by rw [hW]; go_simp
  have s1 : W2.cell? ⟨w2.heap.size, 1, none⟩ = some (.slice Be (straight someEs).length de) := by rw [hW]; go_simp
  clear hW
  clear B2
  refine (Round_any An Ae someNs.length cn ce someEs W2 HE.out okSome (by decide)).mono ?_
  rintro e w3 ⟨Ar, cr, rfl, hcr, hrr, hb⟩
  rw [sh4] at hcr hrr ⊢
  have HR := Lib.hid hrr
  replace c0 := cellAt c0 hb (by omega)
  replace c1 := cellAt c1 hb (by omega)
  replace s0 := cellAt s0 hb (by omega)
  replace s1 := cellAt s1 hb (by omega)
  replace HN := Lib.hid (HN.out.at hb)
  replace HE := Lib.hid (HE.out.at hb)
  replace HB := Lib.hid (lift HB.out hb)
  replace n1 : w1.heap.size < w3.heap.size := ltAt n1 hb
  replace HSN := Lib.hid (HSN.out.at hb)
  replace HSE := Lib.hid (HSE.out.at hb)
  replace n2 : w2.heap.size < w3.heap.size := ltAt n2 hb
  clear hrr hb
  go_wp2_with fail
  first | (refine wp_named ?_; intro W3 hW) | (refine calls_named ?_; intro W3 hW)
  have B3 : Below w3.heap.size w3 W3 := by rw [hW]; exact (by repeat (first | exact Below.refl _ _ | assumption | refine Below.alloc ?_ (by simp <;> omega) _ | refine Below.setCell ?_ (by simp <;> omega) _ | refine Below.drew ?_))
  replace c0 := cellAt c0 B3 (by omega)
  replace c1 := cellAt c1 B3 (by omega)
  replace s0 := cellAt s0 B3 (by omega)
  replace s1 := cellAt s1 B3 (by omega)
  replace HN := Lib.hid (HN.out.at B3)
  replace HE := Lib.hid (HE.out.at B3)
  replace HB := Lib.hid (lift HB.out B3)
  replace n1 : w1.heap.size < W3.heap.size := ltAt n1 B3
  replace HSN := Lib.hid (HSN.out.at B3)
  replace HSE := Lib.hid (HSE.out.at B3)
  replace n2 : w2.heap.size < W3.heap.size := ltAt n2 B3
  replace HR := Lib.hid (HR.out.at B3)
  have hu3 : Rd W3 W3.heap.size 1 (some ⟨w3.heap.size, 0, none⟩) 3 (svs [nmC, nmB, nmA]) := by rw [hW]; exact Rd.lit w3 (svs [nmC, nmB, nmA]) 9 1 3 rfl
  clear hW
  have HU3 := Lib.hid hu3
  clear B3 hu3
  refine (Sort_any Bn Be someNs.length dn de (straight someEs) _ 3 [nmC, nmB, nmA] W3 HSE.out HU3.out (by decide) (by decide)).mono ?_
  rw [sh5]
  rintro e w4 ⟨Al, cl, rfl, hcl, hrl, hb⟩
  have HL := Lib.hid hrl
  replace c0 := cellAt c0 hb (by omega)
  replace c1 := cellAt c1 hb (by omega)
  replace s0 := cellAt s0 hb (by omega)
  replace s1 := cellAt s1 hb (by omega)
  replace HN := Lib.hid (HN.out.at hb)
  replace HE := Lib.hid (HE.out.at hb)
  replace HB := Lib.hid (lift HB.out hb)
  replace n1 : w1.heap.size < w4.heap.size := ltAt n1 hb
  replace HSN := Lib.hid (HSN.out.at hb)
  replace HSE := Lib.hid (HSE.out.at hb)
  replace n2 : w2.heap.size < w4.heap.size := ltAt n2 hb
  replace HR := Lib.hid (HR.out.at hb)
  clear hrl hb
  go_wp2_with fail
  first | (refine wp_named ?_; intro W4 hW) | (refine calls_named ?_; intro W4 hW)
  have B4 : Below w4.heap.size w4 W4 := by rw [hW]; exact (by repeat (first | exact Below.refl _ _ | assumption | refine Below.alloc ?_ (by simp <;> omega) _ | refine Below.setCell ?_ (by simp <;> omega) _ | refine Below.drew ?_))
  replace c0 := cellAt c0 B4 (by omega)
  replace c1 := cellAt c1 B4 (by omega)
  replace s0 := cellAt s0 B4 (by omega)
  replace s1 := cellAt s1 B4 (by omega)
  replace HN := Lib.hid (HN.out.at B4)
  replace HE := Lib.hid (HE.out.at B4)
  replace HB := Lib.hid (lift HB.out B4)
  replace n1 : w1.heap.size < W4.heap.size := ltAt n1 B4
  replace HSN := Lib.hid (HSN.out.at B4)
  replace HSE := Lib.hid (HSE.out.at B4)
  replace n2 : w2.heap.size < W4.heap.size := ltAt n2 B4
  replace HR := Lib.hid (HR.out.at B4)
  replace HL := Lib.hid (HL.out.at B4)
  have hu4 : Rd W4 W4.heap.size 1 (some ⟨w4.heap.size, 0, none⟩) 2 (svs [nmA, nmB]) := by rw [hW]; exact Rd.lit w4 (svs [nmA, nmB]) 9 1 2 rfl
  clear hW
  have HU4 := Lib.hid hu4
  clear B4 hu4
  refine (Sort_any An Ae someNs.length cn ce someEs _ 2 [nmA, nmB] W4 HE.out HU4.out (by decide) (by decide)).mono ?_
  rw [sh6]
  rintro e w5 ⟨Ay, cy, rfl, hcy, hry, hb⟩
  replace c0 := cellAt c0 hb (by omega)
  replace c1 := cellAt c1 hb (by omega)
  replace s0 := cellAt s0 hb (by omega)
  replace s1 := cellAt s1 hb (by omega)
  replace HN := Lib.hid (HN.out.at hb)
  replace HE := Lib.hid (HE.out.at hb)
  replace HB := Lib.hid (lift HB.out hb)
  replace n1 : w1.heap.size < w5.heap.size := ltAt n1 hb
  replace HSN := Lib.hid (HSN.out.at hb)
  replace HSE := Lib.hid (HSE.out.at hb)
  replace n2 : w2.heap.size < w5.heap.size := ltAt n2 hb
  replace HR := Lib.hid (HR.out.at hb)
  replace HL := Lib.hid (HL.out.at hb)
  clear hry hb
  go_wp2_with fail
  refine (MayG_any An Ae cn ce someNs someEs w5 HN.out HE.out (by decide) (by decide) okSomeN).mono ?_
  rw [sh1]
  rintro e w6 ⟨rfl, hb⟩
  replace c0 := cellAt c0 hb (by omega)
  replace c1 := cellAt c1 hb (by omega)
  replace s0 := cellAt s0 hb (by omega)
  replace s1 := cellAt s1 hb (by omega)
  replace HN := Lib.hid (HN.out.at hb)
  replace HE := Lib.hid (HE.out.at hb)
  replace HB := Lib.hid (lift HB.out hb)
  replace n1 : w1.heap.size < w6.heap.size := ltAt n1 hb
  replace HSN := Lib.hid (HSN.out.at hb)
  replace HSE := Lib.hid (HSE.out.at hb)
  replace n2 : w2.heap.size < w6.heap.size := ltAt n2 hb
  replace HR := Lib.hid (HR.out.at hb)
  replace HL := Lib.hid (HL.out.at hb)
  clear hb
  go_wp2_with fail
  refine (Is_any An Ae someNs.length cn ce someEs w6 HE.out okSome (by decide)).mono ?_
  rw [sh2]
  rintro e w7 ⟨rfl, hb⟩
  replace c0 := cellAt c0 hb (by omega)
  replace c1 := cellAt c1 hb (by omega)
  replace s0 := cellAt s0 hb (by omega)
  replace s1 := cellAt s1 hb (by omega)
  replace HN := Lib.hid (HN.out.at hb)
  replace HE := Lib.hid (HE.out.at hb)
  replace HB := Lib.hid (lift HB.out hb)
  replace n1 : w1.heap.size < w7.heap.size := ltAt n1 hb
  replace HSN := Lib.hid (HSN.out.at hb)
  replace HSE := Lib.hid (HSE.out.at hb)
  replace n2 : w2.heap.size < w7.heap.size := ltAt n2 hb
  replace HR := Lib.hid (HR.out.at hb)
  replace HL := Lib.hid (HL.out.at hb)
  clear hb
  go_wp2_with fail
  refine (Is_any Bn Be someNs.length dn de (straight someEs) w7 HSE.out (okStraight okSome) (by decide)).mono ?_
  rw [sh3]
  rintro e w8 ⟨rfl, hb⟩
  replace c0 := cellAt c0 hb (by omega)
  replace c1 := cellAt c1 hb (by omega)
  replace s0 := cellAt s0 hb (by omega)
  replace s1 := cellAt s1 hb (by omega)
  replace HN := Lib.hid (HN.out.at hb)
  replace HE := Lib.hid (HE.out.at hb)
  replace HB := Lib.hid (lift HB.out hb)
  replace n1 : w1.heap.size < w8.heap.size := ltAt n1 hb
  replace HSN := Lib.hid (HSN.out.at hb)
  replace HSE := Lib.hid (HSE.out.at hb)
  replace n2 : w2.heap.size < w8.heap.size := ltAt n2 hb
  replace HR := Lib.hid (HR.out.at hb)
  replace HL := Lib.hid (HL.out.at hb)
  clear hb
  obtain ⟨br, orr, hAr, hBr, r0, r1, r2⟩ := HR.out.edge (i := 0) (by decide)
  simp only [Nat.zero_mul, Nat.add_zero, List.getElem_cons_zero] at r0 r1 r2
  have he : edEq (nmA, nmB, (8 : Int)) ([97, 46, 116, 97, 114, 103, 101, 116], [98, 46, 116, 97, 114, 103, 101, 116], (8 : Int)) = true := by decide
  subst hAr
  go_wp2_with fail
  first | (refine wp_named ?_; intro W9 hW) | (refine calls_named ?_; intro W9 hW)
  have B9 : Below w8.heap.size w8 W9 := by rw [hW]; exact (by repeat (first | exact Below.refl _ _ | assumption | refine Below.alloc ?_ (by simp <;> omega) _ | refine Below.setCell ?_ (by simp <;> omega) _ | refine Below.drew ?_))
  replace c0 := cellAt c0 B9 (by omega)
  replace c1 := cellAt c1 B9 (by omega)
  replace s0 := cellAt s0 B9 (by omega)
  replace s1 := cellAt s1 B9 (by omega)
  replace HN := Lib.hid (HN.out.at B9)
  replace HE := Lib.hid (HE.out.at B9)
  replace HB := Lib.hid (lift HB.out B9)
  replace n1 : w1.heap.size < W9.heap.size := ltAt n1 B9
  replace HSN := Lib.hid (HSN.out.at B9)
  replace HSE := Lib.hid (HSE.out.at B9)
  replace n2 : w2.heap.size < W9.heap.size := ltAt n2 B9
  replace HR := Lib.hid (HR.out.at B9)
  replace HL := Lib.hid (HL.out.at B9)
  have hu9 : Rd W9 W9.heap.size 1 (some ⟨w8.heap.size, 0, none⟩) 3 (svs [nmA, nmB, nmC]) := by rw [hW]; exact Rd.lit w8 (svs [nmA, nmB, nmC]) 9 1 3 rfl
  clear hW
  have HU9 := Lib.hid hu9
  clear B9 hu9
  refine (Same_any Al _ cl 3 [nmA, nmB, nmC] [nmA, nmB, nmC] W9 HL.out HU9.out (by decide)).mono ?_
  rw [show decide ([nmA, nmB, nmC] = [nmA, nmB, nmC]) = true from by decide]
  rintro e v1 ⟨rfl, hb⟩
  replace c0 := cellAt c0 hb (by omega)
  replace c1 := cellAt c1 hb (by omega)
  replace s0 := cellAt s0 hb (by omega)
  replace s1 := cellAt s1 hb (by omega)
  replace HN := Lib.hid (HN.out.at hb)
  replace HE := Lib.hid (HE.out.at hb)
  replace HB := Lib.hid (lift HB.out hb)
  replace n1 : w1.heap.size < v1.heap.size := ltAt n1 hb
  replace HSN := Lib.hid (HSN.out.at hb)
  replace HSE := Lib.hid (HSE.out.at hb)
  replace n2 : w2.heap.size < v1.heap.size := ltAt n2 hb
  replace HR := Lib.hid (HR.out.at hb)
  replace HL := Lib.hid (HL.out.at hb)
  clear hb
  go_wp2_with fail
  refine (Ahead_any An Ae someNs.length cn ce someEs nmB nmC v1 HE.out (by decide)).mono ?_
  rw [sh7]
  rintro e v2 ⟨rfl, hb⟩
  replace c0 := cellAt c0 hb (by omega)
  replace c1 := cellAt c1 hb (by omega)
  replace s0 := cellAt s0 hb (by omega)
  replace s1 := cellAt s1 hb (by omega)
  replace HN := Lib.hid (HN.out.at hb)
  replace HE := Lib.hid (HE.out.at hb)
  replace HB := Lib.hid (lift HB.out hb)
  replace n1 : w1.heap.size < v2.heap.size := ltAt n1 hb
  replace HSN := Lib.hid (HSN.out.at hb)
  replace HSE := Lib.hid (HSE.out.at hb)
  replace n2 : w2.heap.size < v2.heap.size := ltAt n2 hb
  replace HR := Lib.hid (HR.out.at hb)
  replace HL := Lib.hid (HL.out.at hb)
  clear hb
  go_wp2_with fail
  refine (Behind_any Bn Be someNs.length dn de (straight someEs) nmA v2 HSE.out (okStraight okSome) (by unfold okS maxLen; decide) (by decide)).mono ?_
  rw [sh8]
  rintro e v3 ⟨Ab, cb, rfl, hob, hb⟩
  have HBb := Lib.hid (own_rd' hob)
  replace c0 := cellAt c0 hb (by omega)
  replace c1 := cellAt c1 hb (by omega)
  replace s0 := cellAt s0 hb (by omega)
  replace s1 := cellAt s1 hb (by omega)
  replace HN := Lib.hid (HN.out.at hb)
  replace HE := Lib.hid (HE.out.at hb)
  replace HB := Lib.hid (lift HB.out hb)
  replace n1 : w1.heap.size < v3.heap.size := ltAt n1 hb
  replace HSN := Lib.hid (HSN.out.at hb)
  replace HSE := Lib.hid (HSE.out.at hb)
  replace n2 : w2.heap.size < v3.heap.size := ltAt n2 hb
  replace HR := Lib.hid (HR.out.at hb)
  replace HL := Lib.hid (HL.out.at hb)
  clear hob hb
  go_wp2_with fail
  first | (refine wp_named ?_; intro V4 hW) | (refine calls_named ?_; intro V4 hW)
  have B4 : Below v3.heap.size v3 V4 := by rw [hW]; exact (by repeat (first | exact Below.refl _ _ | assumption | refine Below.alloc ?_ (by simp <;> omega) _ | refine Below.setCell ?_ (by simp <;> omega) _ | refine Below.drew ?_))
  replace c0 := cellAt c0 B4 (by omega)
  replace c1 := cellAt c1 B4 (by omega)
  replace s0 := cellAt s0 B4 (by omega)
  replace s1 := cellAt s1 B4 (by omega)
  replace HN := Lib.hid (HN.out.at B4)
  replace HE := Lib.hid (HE.out.at B4)
  replace HB := Lib.hid (lift HB.out B4)
  replace n1 : w1.heap.size < V4.heap.size := ltAt n1 B4
  replace HSN := Lib.hid (HSN.out.at B4)
  replace HSE := Lib.hid (HSE.out.at B4)
  replace n2 : w2.heap.size < V4.heap.size := ltAt n2 B4
  replace HR := Lib.hid (HR.out.at B4)
  replace HL := Lib.hid (HL.out.at B4)
  replace HBb := Lib.hid (HBb.out.at B4)
  have hu4 : Rd V4 V4.heap.size 1 (some ⟨v3.heap.size, 0, none⟩) 2 (svs [nmB, nmC]) := by rw [hW]; exact Rd.lit v3 (svs [nmB, nmC]) 9 1 2 rfl
  clear hW
  have HV4 := Lib.hid hu4
  clear B4 hu4
  refine (Same_any Ab _ cb 2 [nmB, nmC] [nmB, nmC] V4 HBb.out HV4.out (by decide)).mono ?_
  rw [show decide ([nmB, nmC] = [nmB, nmC]) = true from by decide]
  rintro e v5 ⟨rfl, hb⟩
  replace c0 := cellAt c0 hb (by omega)
  replace c1 := cellAt c1 hb (by omega)
  replace s0 := cellAt s0 hb (by omega)
  replace s1 := cellAt s1 hb (by omega)
  replace HN := Lib.hid (HN.out.at hb)
  replace HE := Lib.hid (HE.out.at hb)
  replace HB := Lib.hid (lift HB.out hb)
  replace n1 : w1.heap.size < v5.heap.size := ltAt n1 hb
  replace HSN := Lib.hid (HSN.out.at hb)
  replace HSE := Lib.hid (HSE.out.at hb)
  replace n2 : w2.heap.size < v5.heap.size := ltAt n2 hb
  replace HR := Lib.hid (HR.out.at hb)
  replace HL := Lib.hid (HL.out.at hb)
  replace HBb := Lib.hid (HBb.out.at hb)
  clear hb
  go_wp2_with fail
  go_ret
  exact ⟨rfl, HB.out⟩
end Od
end Go.Proofs.YtclaoffnfopekaaGreat
end

section
/- An append to a full slice of something or of nothing: where what comes of it lies. No program. -/
namespace Go.Proofs.YtclaoffnfopekaaGreat
open Go.RowKit
section
variable {P : Program}
theorem step_append_or {w : World} {ops : Array Oper} {o : Oper} {a : Act} {K : Act → World → Prop} {Q : Exit → Act → World → Prop} {E : Prop} (hw : Region.wanted o (yielded ops a.tmps) = true) (s x : Operand) (t : TypeId)
    (ho : o.op = .call { callee := .builtin .append, args := #[s, x], argTypes := #[t, t] })
    (e : TypeId) (i : TypeInfo) (z : Value) (size bytes : Nat) (ht : P.underlying t = some (.slice e)) (hi : P.info? e = some i) (hz : i.zero = some z)
    (hsize : i.size = size) (hby : i.bytes = bytes) (hzs : z.cells.size = size) (B : Nat) (A : Option Addr) (n : Nat) (xs : List Value) (hs : a.eval s = .slice A n n) (hr : Rd w B size A n xs) (hB : B ≤ w.heap.size)
    (B2 : Nat) (A2 : Option Addr) (m c : Nat) (news : List Value) (hx : a.eval x = .slice A2 m c) (hr2 : Rd w B2 size A2 m news) (h1 : ∀ u ∈ news, u.oneCell' = true) (h63 : n + m ≤ maxLen) (hbytes : (n + m) * bytes ≤ 140737488355328)
    (h : ∀ A' c' w', n + m ≤ c' → Rd w' w'.heap.size size A' (n + m) (xs ++ news) → Below w.heap.size w w' → (A' = A ∨ ∀ ad, A' = some ad → w.heap.size ≤ ad.block) → K (a.put o.dst (.slice A' (n + m) c')) w') :
    if Region.wanted o (yielded ops a.tmps) = true then Oper.wp P o a w K Q else E := by
  rw [if_pos hw]
  rcases Nat.eq_zero_or_pos m with h0 | h0
  · subst h0
    have hn : news = [] := List.eq_nil_of_length_eq_zero (by simpa using hr2.1)
    subst hn
    have hsr : Src P i.size t (.slice A2 0 c) 0 [] w := src_rd ht (hsize ▸ hr2) h1 fun _ => rfl
    have hrun := run_append_nothing (P := P) w t t o.type e i ht hi A n n (Nat.le_refl _) (.slice A2 0 c) hsr
    unfold Oper.wp execOp
    simp only [ho, resolve, invoke, builtin, Sem.run_bind, Sem.run_pure, Result.andThen_ok, List.map_toArray, List.map_cons, List.map_nil, hs, hx, hrun]
    exact h A n w (by omega) (by simpa using hr.more hB) (Below.refl _ _) (.inl rfl)
  · obtain ⟨A', c', w', hrun, hc, h2, h3, h4⟩ := run_append_full (P := P) w t o.type e i z size bytes ht hi hz hsize hby hzs B A n xs hr hB B2 A2 m c news hr2 h1 h63 hbytes
    unfold Oper.wp execOp
    simp only [ho, resolve, invoke, builtin, Sem.run_bind, Sem.run_pure, Result.andThen_ok, List.map_toArray, List.map_cons, List.map_nil, hs, hx, hrun]
    exact h A' c' w' hc h2 h3 (.inr (h4 h0))
end
theorem takeA_block {A : Option Addr} {k size : Nat} {ad : Addr} (h : takeA A k size = some ad) : ∃ ad', A = some ad' ∧ ad'.block = ad.block := by
  unfold takeA at h
  split at h
  · exact ⟨ad, h, rfl⟩
  · cases A with
    | none => cases h
    | some x => simp only [Option.map_some, Option.some.injEq] at h; exact ⟨x, rfl, by rw [← h, Nat.zero_mul, Addr.add_zero]⟩
end Go.Proofs.YtclaoffnfopekaaGreat
end
