/- My texts, joined for the claim: RSort LwAll. -/
import Derived.Test.YtclaoffnfopekaaGreatZB5
import Derived.Test.YtclaoffnfopekaaGreatZB7
import Derived.Test.YtclaoffnfopekaaGreatZB10

section
/- The walks of matinsref15.waits and Sort. -/
namespace Go.Proofs.YtclaoffnfopekaaGreat
open Go.RowKit Go.Sort

namespace Od
set_option maxRecDepth 100000 in
set_option maxHeartbeats 1000000 in
theorem waits15_any (An Ae : Option Addr) (nn cn ce : Nat) (es : List Ed) (A : Option Addr) (c : Nat) (left : List Str) (b : Str) (w : World) (hr : Rd w w.heap.size 3 Ae es.length (edsC es)) (hu : Rd w w.heap.size 1 A left.length (svs left)) (hl : es.length ≤ 1000000) (hul : left.length ≤ 1000000) :
    Calls Tryz.prog 51 #[gV An nn cn Ae es.length ce, .slice A left.length c, sv b] w fun e w' => e = .returned (.bool (waitsB es left b)) ∧ Below w.heap.size w w' := by
  have Hr := Lib.hid hr
  have Hu := Lib.hid hu
  have HW := Lib.hid (show waitsB es left b = left.any (fun a => es.any (aheadB a b)) from rfl)
  generalize hq : (fun a => es.any (aheadB a b)) = q at HW
  have HQ := Lib.hid hq
  clear hr hu hq
  go_enter Tryz.func51, Tryz.ntmps51
  go_wp2_with fail
  first | (refine wp_named ?_; intro W1 hW) | (refine calls_named ?_; intro W1 hW)
  have B1 : Below w.heap.size w W1 := by rw [hW]; exact (by repeat (first | exact Below.refl _ _ | assumption | refine Below.alloc ?_ (by simp <;> omega) _ | refine Below.setCell ?_ (by simp <;> omega) _ | refine Below.drew ?_))
  replace Hr := Lib.hid (Hr.out.at B1)
  replace Hu := Lib.hid (Hu.out.at B1)
  have n1 : w.heap.size < W1.heap.size := by rw [hW]; simp <;> omega
  have c0 : W1.cell? ⟨w.heap.size, 0, none⟩ = some (.slice An nn cn) := by rw [hW]; go_simp
  have c1 : W1.cell? ⟨w.heap.size, 1, none⟩ = some (.slice Ae es.length ce) := by rw [hW]; go_simp
  clear hW
  have HB := Lib.hid B1
  clear B1
  go_loopw [11] (fun i wr => ∃ k : Nat, k ≤ left.length ∧ i = .int .i64 k ∧ Hid ((left.take k).any q = false) ∧ Below W1.heap.size W1 wr) (fun i _ => left.length - (intOf i).toNat)
  case atStart => exact ⟨0, Nat.zero_le _, rfl, by simp [Hid], Below.refl _ _⟩
  case round =>
    obtain ⟨k, hk, rfl, hall, hb⟩ := hrel
    replace c0 := cellAt c0 hb (by omega)
    replace c1 := cellAt c1 hb (by omega)
    replace Hr := Lib.hid (Hr.out.at hb)
    replace Hu := Lib.hid (Hu.out.at hb)
    replace n1 : w.heap.size < wr.heap.size := ltAt n1 hb
    replace HB := Lib.hid (lift HB.out hb)
    have Hb := Lib.hid hb
    clear hb
    by_cases hlt : k < left.length
    · obtain ⟨bb, o, hA, hB, hx0⟩ := Hu.out.str hlt
      have e1 := @any_take_succ Str q left k hlt
      have e2 := @any_of_at Str q left k hlt
      generalize left[k] = x at hx0 e1 e2
      have E1 := Lib.hid (And.intro e1 e2)
      have hqx : q x = es.any (aheadB x b) := by rw [← HQ.out]
      have HQx := Lib.hid hqx
      clear e1 e2 hqx
      subst hA
      go_wp2_with fail
      refine (refAhead_any An _ nn cn ce es x b wr Hr.out hl).mono ?_
      rintro e v ⟨rfl, hb⟩
      replace c0 := cellAt c0 hb (by omega)
      replace c1 := cellAt c1 hb (by omega)
      replace Hr := Lib.hid (Hr.out.at hb)
      replace Hu := Lib.hid (Hu.out.at hb)
      replace n1 : w.heap.size < v.heap.size := ltAt n1 hb
      replace HB := Lib.hid (lift HB.out hb)
      replace Hb := Lib.hid (lift Hb.out hb)
      clear hb
      rw [← HQx.out]
      cases hqv : q x
      · have HV := Lib.hid hqv
        go_wp2_with fail
        go_roundw
        case rel => exact ⟨k + 1, by omega, by go_num, by show _ = false; rw [E1.out.1, hall.out, HV.out]; rfl, Hb.out⟩
        case measure => simp [intOf]; omega
      · have HV := Lib.hid (E1.out.2 hqv)
        go_wp2_with fail
        go_ret
        exact ⟨ret_bool (by rw [HW.out, HV.out]), HB.out⟩
    · have hkn : k = left.length := by omega
      have h := hall.out
      rw [hkn, List.take_length] at h
      have H := Lib.hid h
      clear hkn h
      go_wp2_with fail
      go_ret
      exact ⟨ret_bool (by rw [HW.out, H.out]), HB.out⟩
theorem canon_take_succ {us : List Str} {j : Nat} (hj : j < us.length) : canon ltS (us.take (j + 1)) = insL ltS us[j] (canon ltS (us.take j)) := by
  unfold canon; rw [List.take_succ_eq_append_getElem hj, List.foldl_append]; rfl
set_option maxRecDepth 100000 in
set_option maxHeartbeats 4000000 in
theorem Sort15_any (An Ae : Option Addr) (nn cn ce : Nat) (es : List Ed) (A : Option Addr) (c : Nat) (units : List Str) (w : World) (hr : Rd w w.heap.size 3 Ae es.length (edsC es)) (hu : Rd w w.heap.size 1 A units.length (svs units)) (hl : es.length ≤ 1000000) (hul : units.length ≤ 100000) :
    Calls Tryz.prog 25 #[gV An nn cn Ae es.length ce, .slice A units.length c] w (SortIs (sortU es units) w) := by
  obtain ⟨i0, hi, hz0, hz1, hz2⟩ := info_parts inS
  have Hr := Lib.hid hr
  have Hu := Lib.hid hu
  clear hr hu
  go_enter Tryz.func25, Tryz.ntmps25
  go_wp2_with fail
  first | (refine wp_named ?_; intro W1 hW) | (refine calls_named ?_; intro W1 hW)
  have B1 : Below w.heap.size w W1 := by rw [hW]; exact (by repeat (first | exact Below.refl _ _ | assumption | refine Below.alloc ?_ (by simp <;> omega) _ | refine Below.setCell ?_ (by simp <;> omega) _ | refine Below.drew ?_))
  replace Hr := Lib.hid (Hr.out.at B1)
  replace Hu := Lib.hid (Hu.out.at B1)
  have n1 : w.heap.size < W1.heap.size := by rw [hW]; simp <;> omega
  have c0 : W1.cell? ⟨w.heap.size, 0, none⟩ = some (.slice An nn cn) := by rw [hW]; go_simp
  have c1 : W1.cell? ⟨w.heap.size, 1, none⟩ = some (.slice Ae es.length ce) := by rw [hW]; go_simp
  clear hW
  have HB := Lib.hid B1
  clear B1
  go_loopw [6, 13] (fun v i wr => ∃ (j : Nat) (A2 : Option Addr) (c2 : Nat), j ≤ units.length ∧ i = .int .i64 j ∧ v = .slice A2 (canon ltS (units.take j)).length c2 ∧ (canon ltS (units.take j)).length ≤ c2 ∧ Rd wr wr.heap.size 1 A2 (canon ltS (units.take j)).length (svs (canon ltS (units.take j))) ∧ Below W1.heap.size W1 wr) (fun _ i _ => units.length - (intOf i).toNat)
  case atStart => exact ⟨0, none, 0, Nat.zero_le _, rfl, rfl, Nat.le_refl _, Rd.none_, Below.refl _ _⟩
  case round =>
    obtain ⟨j, A2, c2, hj, rfl, rfl, hc2, hra, hb⟩ := hrel
    have hcl := canon_len (lt := ltS) (units.take j)
    rw [List.length_take] at hcl
    replace c0 := cellAt c0 hb (by omega)
    replace c1 := cellAt c1 hb (by omega)
    replace Hr := Lib.hid (Hr.out.at hb)
    replace Hu := Lib.hid (Hu.out.at hb)
    replace n1 : w.heap.size < wr.heap.size := ltAt n1 hb
    replace HB := Lib.hid (lift HB.out hb)
    have HRa := Lib.hid hra
    have Hb := Lib.hid hb
    clear hra hb
    by_cases hlt : j < units.length
    · obtain ⟨bb, o, hA, hB, hx0⟩ := Hu.out.str hlt
      have hcs := canon_take_succ hlt
      generalize units[j] = x at hx0 hcs
      have HCs := Lib.hid hcs
      generalize canon ltS (units.take j) = L at *
      clear hcs
      subst hA
      go_wp2_with fail
      refine (put15_any A2 c2 L x wr HRa.out hc2 (by omega)).mono ?_
      rintro e v ⟨A3, c3, rfl, hc3, hr3, hb⟩
      have HR3 := Lib.hid hr3
      replace c0 := cellAt c0 hb (by omega)
      replace c1 := cellAt c1 hb (by omega)
      replace Hr := Lib.hid (Hr.out.at hb)
      replace Hu := Lib.hid (Hu.out.at hb)
      replace n1 : w.heap.size < v.heap.size := ltAt n1 hb
      replace HB := Lib.hid (lift HB.out hb)
      replace Hb := Lib.hid (lift Hb.out hb)
      clear hr3 hb
      go_wp2_with fail
      go_roundw
      case rel => exact ⟨j + 1, A3, c3, by omega, by go_num, by rw [HCs.out], by rw [HCs.out]; exact hc3, by rw [HCs.out]; exact HR3.out, Hb.out⟩
      case measure => simp [intOf]; omega
    · have hjn : j = units.length := by omega
      have htk : units.take j = units := by rw [hjn, List.take_length]
      rw [htk] at hc2 HRa
      have HT := Lib.hid (show sortGo es (canon ltS units).length (canon ltS units) [] = sortU es units from rfl)
      have hLl : (canon ltS units).length ≤ 100000 := by have := canon_len (lt := ltS) units; omega
      rw [htk]
      generalize canon ltS units = L0 at *
      generalize sortU es units = T at *
      obtain ⟨w2, rfl⟩ : ∃ wo : World, wo = wr := ⟨_, rfl⟩
      clear htk hjn
      have hsz2 : w.heap.size ≤ w2.heap.size := HB.out.size
      have HSee : Hid (w2.cell? ⟨w.heap.size, 0, none⟩ = some (.slice An nn cn) ∧ w2.cell? ⟨w.heap.size, 1, none⟩ = some (.slice Ae es.length ce)) := ⟨c0, c1⟩
      go_wp2_with fail
      go_loopw [6, 7] (fun v6 v7 wr => ∃ (left out : List Str) (A2 : Option Addr) (c2 : Nat), v6 = .slice A2 left.length c2 ∧ left.length ≤ c2 ∧ Rd wr wr.heap.size 1 A2 left.length (svs left) ∧ wr.ownsRow w2.heap.size 9 1 v7 out.length (svs out) ∧ OffA A2 left.length v7 ∧ sortGo es left.length left out = T ∧ left.length + out.length ≤ 100000 ∧ Below w2.heap.size w2 wr)
        (fun v _ _ => match v with | .slice _ n _ => n | _ => 0)
      case atStart => exact ⟨L0, [], A2, c2, rfl, hc2, HRa.out, World.ownsRow_nil _ _ _ _, OffA.nil, HT.out, by simpa using hLl, Below.refl _ _⟩
      case round =>
        obtain ⟨left, out, A4, c4, rfl, hc4, hra4, hoo, hoff, hgo, hlen, hb⟩ := hrel
        obtain ⟨A7, c7, hv7, _⟩ := own_rd hoo
        subst hv7
        obtain ⟨w3, rfl⟩ : ∃ wo : World, wo = wr := ⟨_, rfl⟩
        replace c0 := cellAt c0 hb (by omega)
        replace c1 := cellAt c1 hb (by omega)
        replace Hr := Lib.hid (Hr.out.at hb)
        replace Hu := Lib.hid (Hu.out.at hb)
        replace n1 : w.heap.size < w3.heap.size := ltAt n1 hb
        replace HB := Lib.hid (lift HB.out hb)
        have HL := Lib.hid hra4
        have HOo := Lib.hid hoo
        have HOf := Lib.hid hoff
        have HGo := Lib.hid hgo
        have Hb3 := Lib.hid hb
        have hz3 : w2.heap.size ≤ w3.heap.size := hb.size
        clear hra4 hoo hoff hgo hb
        by_cases h0 : left.length = 0
        · have hnil := List.length_eq_zero_iff.1 h0
          subst hnil
          have hgt : decide ((0 : Int) < ((([] : List Str).length : Nat) : Int)) = false := rfl
          have HR := Lib.hid (show T = some out by rw [← HGo.out, sortGo_nil])
          go_wp2_with fail
          go_ret2
          rw [HR.out]
          exact ⟨A7, c7, rfl, (own_cap HOo.out).1, own_rd' HOo.out, HB.out⟩
        · have hpos : 0 < left.length := by omega
          have hgt : decide ((0 : Int) < (left.length : Int)) = true := by simp; omega
          go_wp2_with fail
          go_loopw [10] (fun i wr => ∃ k : Nat, k ≤ left.length ∧ i = .int .i64 k ∧ Hid (∀ j (hj : j < left.length), j < k → waitsB es left left[j] = true) ∧ Below w3.heap.size w3 wr) (fun i _ => left.length - (intOf i).toNat)
          case atStart => exact ⟨0, Nat.zero_le _, rfl, fun j hj h => by omega, Below.refl _ _⟩
          case round =>
            obtain ⟨k, hk, rfl, hall, hb⟩ := hrel
            replace c0 := cellAt c0 hb (by omega)
            replace c1 := cellAt c1 hb (by omega)
            replace Hr := Lib.hid (Hr.out.at hb)
            replace Hu := Lib.hid (Hu.out.at hb)
            replace n1 : w.heap.size < wr.heap.size := ltAt n1 hb
            replace HB := Lib.hid (lift HB.out hb)
            replace HL := Lib.hid (HL.out.at hb)
            replace HOo := Lib.hid (own_on HOo.out hb)
            replace Hb3 := Lib.hid (Hb3.out.trans (hb.mono Hb3.out.size))
            replace hz3 : w2.heap.size ≤ wr.heap.size := leAt hz3 hb
            have Hb := Lib.hid hb
            clear hb
            by_cases hlt : k < left.length
            · obtain ⟨bb, o, hA, hB, hx0⟩ := HL.out.str hlt
              have hxk : ∃ x, left[k] = x := ⟨_, rfl⟩
              obtain ⟨x, hx⟩ := hxk
              rw [hx] at hx0
              have HX := Lib.hid hx
              have k1 : (0 : Int) ≤ (k : Int) := by omega
              have k2 : (k : Int) < (left.length : Int) := by omega
              have hkl : decide ((k : Int) < (left.length : Int)) = true := by simp; omega
              clear hx
              subst hA
              try go_wp2_with fail
              refine wp_region_held_drew (S := fun w' => Below wr.heap.size wr w') (by kernel_rfl) (Below.drew (Below.refl _ _)) (fun hHeld => ?_)
              refine take_yield (i := 0) (v := ?_) rfl (by kernel_rfl) (by kernel_rfl) (by kernel_rfl) (fun _ _ _ h => h) (by rfl) ?_ hHeld ?_
              rotate_left 1
              · (intro w' hSw; clear hSw; go_simp; try with_reducible rfl)
              (try simp only [Act.put, List.setIfInBounds_toArray, List.set_cons_zero, List.set_cons_succ])
              refine take_yield (i := 1) (v := ?_) rfl (by kernel_rfl) (by kernel_rfl) (by kernel_rfl) (fun _ _ _ h => h) (by rfl) ?_ hHeld ?_
              rotate_left 1
              · (intro w' hSw; clear hSw; go_simp; try with_reducible rfl)
              (try simp only [Act.put, List.setIfInBounds_toArray, List.set_cons_zero, List.set_cons_succ])
              refine take_yield (i := 2) (v := ?_) rfl (by kernel_rfl) (by kernel_rfl) (by kernel_rfl) (fun _ _ _ h => h) (by rfl) ?_ hHeld ?_
              rotate_left 1
              · (intro w' hSw; clear hSw; go_simp; try with_reducible rfl)
              (try simp only [Act.put, List.setIfInBounds_toArray, List.set_cons_zero, List.set_cons_succ])
              refine take_yield (i := 3) (v := ?_) rfl (by kernel_rfl) (by kernel_rfl) (by kernel_rfl) (fun _ _ _ h => h) (by rfl) ?_ hHeld ?_
              rotate_left 1
              · (intro w' hSw; clear hSw; go_simp; try with_reducible rfl)
              (try simp only [Act.put, List.setIfInBounds_toArray, List.set_cons_zero, List.set_cons_succ])
              refine take_yield (i := 4) (v := ?_) rfl (by kernel_rfl) (by kernel_rfl) (by kernel_rfl) (fun _ _ _ h => h) (by rfl) ?_ hHeld ?_
              rotate_left 1
              · (intro w' hSw; clear hSw; go_simp; try with_reducible rfl)
              (try simp only [Act.put, List.setIfInBounds_toArray, List.set_cons_zero, List.set_cons_succ])
              refine take_yield (i := 5) (v := ?_) rfl (by kernel_rfl) (by kernel_rfl) (by kernel_rfl) (fun _ _ _ h => h) (by rfl) ?_ hHeld ?_
              rotate_left 1
              · (intro w' hSw; have hCell := fun (b o : Nat) (h : b < wr.heap.size) => hSw.cell (p := ⟨b, o, none⟩) h; clear hSw; go_simp; try with_reducible rfl)
              (try simp only [Act.put, List.setIfInBounds_toArray, List.set_cons_zero, List.set_cons_succ])
              refine take_yield (i := 6) (v := ?_) rfl (by kernel_rfl) (by kernel_rfl) (by kernel_rfl) (fun _ _ _ h => h) (by rfl) ?_ hHeld ?_
              rotate_left 1
              · (intro w' hSw; clear hSw; go_simp; try with_reducible rfl)
              (try simp only [Act.put, List.setIfInBounds_toArray, List.set_cons_zero, List.set_cons_succ])
              refine take_yield (i := 7) (v := ?_) rfl (by kernel_rfl) (by kernel_rfl) (by kernel_rfl) (fun _ _ _ h => h) (by rfl) ?_ hHeld ?_
              rotate_left 1
              · (intro w' hSw; clear hSw; go_simp; try with_reducible rfl)
              (try simp only [Act.put, List.setIfInBounds_toArray, List.set_cons_zero, List.set_cons_succ])
              refine take_yield (i := 8) (v := ?_) rfl (by kernel_rfl) (by kernel_rfl) (by kernel_rfl) (fun _ _ _ h => h) (by rfl) ?_ hHeld ?_
              rotate_left 1
              · (intro w' hSw; clear hSw; go_simp; try with_reducible rfl)
              (try simp only [Act.put, List.setIfInBounds_toArray, List.set_cons_zero, List.set_cons_succ])
              refine take_yield (i := 9) (v := ?_) rfl (by kernel_rfl) (by kernel_rfl) (by kernel_rfl) (fun _ _ _ h => h) (by rfl) ?_ hHeld ?_
              rotate_left 1
              · (intro w' hSw; clear hSw; go_simp; try with_reducible rfl)
              (try simp only [Act.put, List.setIfInBounds_toArray, List.set_cons_zero, List.set_cons_succ])
              refine take_yield (i := 10) (v := ?_) rfl (by kernel_rfl) (by kernel_rfl) (by kernel_rfl) (fun _ _ _ h => h) (by rfl) ?_ hHeld ?_
              rotate_left 1
              · (intro w' hSw; have hCell := fun (b o : Nat) (h : b < wr.heap.size) => hSw.cell (p := ⟨b, o, none⟩) h; clear hSw; go_simp; try with_reducible rfl)
              (try simp only [Act.put, List.setIfInBounds_toArray, List.set_cons_zero, List.set_cons_succ])
              refine ready_one (i := 11) rfl (by kernel_rfl) (fun K hK => ?_)
              go_simp
              refine (waits15_any An _ nn cn ce es _ c4 left x _ (Hr.out.at hHeld) (HL.out.at hHeld) hl (by omega)).mono ?_
              rintro e v4 ⟨rfl, hb⟩
              refine hK.out _ _ ?_ (fun hHeld2 => ?_)
              · (try dsimp only); first | exact Below.trans hHeld (Below.mono hb hHeld.size) | exact hHeld | exact Below.drew hHeld | exact (by repeat (first | exact Below.refl _ _ | assumption | refine Below.alloc ?_ (by simp <;> omega) _ | refine Below.setCell ?_ (by simp <;> omega) _ | refine Below.drew ?_))
              clear hK K hHeld
              have hHeld := hHeld2
              clear hHeld2
              (try simp only [Act.put, List.setIfInBounds_toArray, List.set_cons_zero, List.set_cons_succ])
              refine take_yield (i := 12) (v := ?_) rfl (by kernel_rfl) (by kernel_rfl) (by kernel_rfl) (fun _ _ _ h => h) (by rfl) ?_ hHeld ?_
              rotate_left 1
              · (intro w' hSw; clear hSw; go_simp; try with_reducible rfl)
              (try simp only [Act.put, List.setIfInBounds_toArray, List.set_cons_zero, List.set_cons_succ])
              refine wpAnyH_done (by kernel_rfl) ?_ _
              replace c0 := cellAt c0 hHeld (by omega)
              replace c1 := cellAt c1 hHeld (by omega)
              replace hx0 := cellAt hx0 hHeld (by omega)
              replace Hr := Lib.hid (Hr.out.at hHeld)
              replace Hu := Lib.hid (Hu.out.at hHeld)
              replace n1 : w.heap.size < v4.heap.size := ltAt n1 hHeld
              replace HB := Lib.hid (lift HB.out hHeld)
              replace HL := Lib.hid (HL.out.at hHeld)
              replace HOo := Lib.hid (own_on HOo.out hHeld)
              replace Hb3 := Lib.hid (Hb3.out.trans (hHeld.mono Hb3.out.size))
              replace hz3 : w2.heap.size ≤ v4.heap.size := leAt hz3 hHeld
              replace hB : bb < v4.heap.size := ltAt hB hHeld
              replace Hb := Lib.hid (lift Hb.out hHeld)
              cases hw : waitsB es left x
              · have HW := Lib.hid hw
                have hek : ((k : Int) == (left.length : Int)) = false := by simp; omega
                have hrest := sortGo_some (es := es) (out := out) hlt (fun j hj hjk => hall.out j hj hjk) (by rw [HX.out]; exact HW.out)
                rw [HGo.out, HX.out] at hrest
                have HRe := Lib.hid hrest.symm
                have h763 : out.length + 1 ≤ maxLen := by unfold maxLen; omega
                have h7by : (out.length + 1) * 16 ≤ 140737488355328 := by omega
                clear hrest hw
                go_wp2_with (first | (at_builtin; refine wpList_pushm w2 v4 (by rfl) (.tmp 43) (.tmp 48) 30 (by rfl) w2.heap.size 9 i0 _ 1 16 Tryz.underlying30 hi hz0 hz1 hz2 rfl (by decide) _ _ _ (by rfl) HOo.out [sv x] v4.heap.size rfl (by rfl) rfl (one_sv x) h763 h7by hz3 Hb3.out ?_; intro A8 c8 w5 hown5 hbel5 hg5 hat5; have HL5 := Lib.hid (HL.out.kept HOf.out hg5); have HOf5 := Lib.hid (HOf.out.push HL.out hat5); have HO5 := Lib.hid hown5; have HB5 := Lib.hid hbel5; have hz5 : w2.heap.size ≤ w5.heap.size := hbel5.size; have HAt := Lib.hid (show Below w.heap.size w w5 from HB.out.grown hg5 HB.out.size (fun g hg => Nat.le_trans hsz2 (HOo.out.lt g hg).1)); clear hown5 hbel5 hg5 hat5) | fail)
                have k3 : (0 : Int) ≤ (k : Int) + 1 := by omega
                have k4 : (k : Int) + 1 ≤ (left.length : Int) := by omega
                have k6 : IntKind.i64.wrap ((k : Int) + 1) = (k : Int) + 1 := IntWalk.i64_in _ (by omega)
                have hs1 := run_slice_full (P := Tryz.prog) Tryz.underlying30 hi (some ⟨bb, o, none⟩) left.length c4 k (Nat.le_trans hk hc4)
                have hs2 := run_slice_tail (P := Tryz.prog) Tryz.underlying30 hi (some ⟨bb, o, none⟩) left.length c4 (k + 1) hlt
                rw [hz1] at hs1 hs2
                rw [show (((k + 1 : Nat)) : Int) = (k : Int) + 1 from by omega] at hs2
                have HR1 := Lib.hid (HL5.out.takeA hk)
                have HR2 := Lib.hid (HL5.out.dropA (m := k + 1) hlt hc4)
                have hek2 : (left.eraseIdx k).length = left.length - 1 := by rw [List.length_eraseIdx, if_pos hlt]
                have HEk := Lib.hid hek2
                clear hek2
                try go_wp2_with fail
                refine wp_region_held_drew (S := fun w' => Below w5.heap.size w5 w') (by kernel_rfl) (Below.drew (Below.refl _ _)) (fun hHeld => ?_)
                refine take_yield (i := 0) (v := ?_) rfl (by kernel_rfl) (by kernel_rfl) (by kernel_rfl) (fun _ _ _ h => h) (by rfl) ?_ hHeld ?_
                rotate_left 1
                · (intro w' hSw; clear hSw; go_simp; try with_reducible rfl)
                (try simp only [Act.put, List.setIfInBounds_toArray, List.set_cons_zero, List.set_cons_succ])
                refine take_yield (i := 1) (v := ?_) rfl (by kernel_rfl) (by kernel_rfl) (by kernel_rfl) (fun _ _ _ h => h) (by rfl) ?_ hHeld ?_
                rotate_left 1
                · (intro w' hSw; clear hSw; go_simp; try with_reducible rfl)
                (try simp only [Act.put, List.setIfInBounds_toArray, List.set_cons_zero, List.set_cons_succ])
                refine take_yield (i := 2) (v := ?_) rfl (by kernel_rfl) (by kernel_rfl) (by kernel_rfl) (fun _ _ _ h => h) (by rfl) ?_ hHeld ?_
                rotate_left 1
                · (intro w' hSw; clear hSw; go_simp; try with_reducible rfl)
                (try simp only [Act.put, List.setIfInBounds_toArray, List.set_cons_zero, List.set_cons_succ])
                refine take_yield (i := 3) (v := ?_) rfl (by kernel_rfl) (by kernel_rfl) (by kernel_rfl) (fun _ _ _ h => h) (by rfl) ?_ hHeld ?_
                rotate_left 1
                · (intro w' hSw; clear hSw; go_simp; try with_reducible rfl)
                (try simp only [Act.put, List.setIfInBounds_toArray, List.set_cons_zero, List.set_cons_succ])
                refine take_yield (i := 4) (v := ?_) rfl (by kernel_rfl) (by kernel_rfl) (by kernel_rfl) (fun _ _ _ h => h) (by rfl) ?_ hHeld ?_
                rotate_left 1
                · (intro w' hSw; clear hSw; go_simp; try with_reducible rfl)
                (try simp only [Act.put, List.setIfInBounds_toArray, List.set_cons_zero, List.set_cons_succ])
                refine take_yield (i := 5) (v := ?_) rfl (by kernel_rfl) (by kernel_rfl) (by kernel_rfl) (fun _ _ _ h => h) (by rfl) ?_ hHeld ?_
                rotate_left 1
                · (intro w' hSw; clear hSw; go_simp; try with_reducible rfl)
                (try simp only [Act.put, List.setIfInBounds_toArray, List.set_cons_zero, List.set_cons_succ])
                refine take_yield (i := 6) (v := ?_) rfl (by kernel_rfl) (by kernel_rfl) (by kernel_rfl) (fun _ _ _ h => h) (by rfl) ?_ hHeld ?_
                rotate_left 1
                · (intro w' hSw; clear hSw; go_simp; try with_reducible rfl)
                (try simp only [Act.put, List.setIfInBounds_toArray, List.set_cons_zero, List.set_cons_succ])
                refine take_yield (i := 7) (v := ?_) rfl (by kernel_rfl) (by kernel_rfl) (by kernel_rfl) (fun _ _ _ h => h) (by rfl) ?_ hHeld ?_
                rotate_left 1
                · (intro w' hSw; clear hSw; go_simp; try with_reducible rfl)
                (try simp only [Act.put, List.setIfInBounds_toArray, List.set_cons_zero, List.set_cons_succ])
                refine ready_one (i := 8) rfl (by kernel_rfl) (fun K hK => ?_)
                refine step_append_or (by rfl) (.tmp 53) (.tmp 57) 30 (by rfl) 9 i0 _ 1 16 Tryz.underlying30 hi hz0 hz1 hz2 rfl _ _ k _ (by rfl) (HR1.out.at' (Nat.le_refl _) hHeld) (Nat.le_refl _) _ _ (left.length - (k + 1)) (c4 - (k + 1)) _ (by rfl) (HR2.out.at' (Nat.le_refl _) hHeld) (one_drop (one_svs left) _) (by unfold maxLen; omega) (by omega) ?_
                intro A6 c6 v6 hc6 hr6 hb hor
                have HR6 := Lib.hid hr6
                have HOr := Lib.hid hor
                have hcur := hHeld.size
                clear hr6 hor
                refine hK.out _ _ ?_ (fun hHeld2 => ?_)
                · (try dsimp only); first | exact Below.trans hHeld (Below.mono hb hHeld.size) | exact hHeld | exact Below.drew hHeld | exact (by repeat (first | exact Below.refl _ _ | assumption | refine Below.alloc ?_ (by simp <;> omega) _ | refine Below.setCell ?_ (by simp <;> omega) _ | refine Below.drew ?_))
                clear hK K hHeld
                have hHeld := hHeld2
                clear hHeld2
                (try simp only [Act.put, List.setIfInBounds_toArray, List.set_cons_zero, List.set_cons_succ])
                refine take_yield (i := 9) (v := ?_) rfl (by kernel_rfl) (by kernel_rfl) (by kernel_rfl) (fun _ _ _ h => h) (by rfl) ?_ hHeld ?_
                rotate_left 1
                · (intro w' hSw; clear hSw; go_simp; try with_reducible rfl)
                (try simp only [Act.put, List.setIfInBounds_toArray, List.set_cons_zero, List.set_cons_succ])
                refine wpAnyH_done (by kernel_rfl) ?_ _
                clear hs1 hs2
                have HO6 := Lib.hid (own_on HO5.out hHeld)
                have HB6 := Lib.hid (liftB HB5.out (Nat.le_refl _) hHeld)
                have HOff6 : Hid (OffA A6 (k + (left.length - (k + 1))) (.slice A8 (out.length + 1) c8)) := fun hn ad hA hv => by
                  rcases HOr.out with e | e
                  · rw [e] at hA
                    obtain ⟨ad', h1, h2⟩ := takeA_block hA
                    exact HOf5.out (by omega) ad' h1 (by rw [h2]; exact hv)
                  · have h1 := e ad hA
                    have h2 := (HO5.out.lt _ hv).2
                    have h3 : (w5.drew).heap.size = w5.heap.size := rfl
                    omega
                go_wp2_with fail
                go_roundw
                case rel =>
                  have hln : k + (left.length - (k + 1)) = (left.eraseIdx k).length := by rw [HEk.out]; omega
                  refine ⟨left.eraseIdx k, out ++ [x], A6, c6, by rw [hln], by rw [← hln]; exact hc6, ?_, ?_, by rw [← hln]; exact HOff6, HRe.out, ?_, HB6.out⟩
                  · have h6 := HR6.out
                    rw [hln] at h6
                    rw [erase_cut]
                    simpa [svs, List.map_take, List.map_drop, erase_cut] using h6
                  · have h6 := HO6.out
                    rw [List.length_append]
                    simpa [svs] using h6
                  · have := HEk.out
                    rw [List.length_append]; simp; omega
                case measure =>
                  have := HEk.out
                  simp; omega
              · have HW := Lib.hid hw
                go_wp2_with fail
                go_roundw
                case rel =>
                  refine ⟨k + 1, by omega, by go_num, fun j hj hjk => ?_, Hb.out⟩
                  by_cases e : j = k
                  · subst e; rw [HX.out]; exact HW.out
                  · exact hall.out j hj (by omega)
                case measure => simp [intOf]; omega
            · have hkn : k = left.length := by omega
              have HR := Lib.hid (show T = none by rw [← HGo.out]; exact sortGo_none hpos fun j hj => hall.out j hj (by omega))
              have hkl : decide ((k : Int) < (left.length : Int)) = false := by simp; omega
              have hek : ((k : Int) == (left.length : Int)) = true := by simp; omega
              clear hkn
              try go_wp2_with fail
              refine wp_region_held_drew (S := fun w' => Below wr.heap.size wr w') (by kernel_rfl) (Below.drew (Below.refl _ _)) (fun hHeld => ?_)
              refine take_yield (i := 0) (v := ?_) rfl (by kernel_rfl) (by kernel_rfl) (by kernel_rfl) (fun _ _ _ h => h) (by rfl) ?_ hHeld ?_
              rotate_left 1
              · (intro w' hSw; clear hSw; go_simp; try with_reducible rfl)
              (try simp only [Act.put, List.setIfInBounds_toArray, List.set_cons_zero, List.set_cons_succ])
              refine take_yield (i := 1) (v := ?_) rfl (by kernel_rfl) (by kernel_rfl) (by kernel_rfl) (fun _ _ _ h => h) (by rfl) ?_ hHeld ?_
              rotate_left 1
              · (intro w' hSw; clear hSw; go_simp; try with_reducible rfl)
              (try simp only [Act.put, List.setIfInBounds_toArray, List.set_cons_zero, List.set_cons_succ])
              refine take_yield (i := 2) (v := ?_) rfl (by kernel_rfl) (by kernel_rfl) (by kernel_rfl) (fun _ _ _ h => h) (by rfl) ?_ hHeld ?_
              rotate_left 1
              · (intro w' hSw; clear hSw; go_simp; try with_reducible rfl)
              (try simp only [Act.put, List.setIfInBounds_toArray, List.set_cons_zero, List.set_cons_succ])
              refine take_yield (i := 3) (v := ?_) rfl (by kernel_rfl) (by kernel_rfl) (by kernel_rfl) (fun _ _ _ h => h) (by rfl) ?_ hHeld ?_
              rotate_left 1
              · (intro w' hSw; clear hSw; go_simp; try with_reducible rfl)
              (try simp only [Act.put, List.setIfInBounds_toArray, List.set_cons_zero, List.set_cons_succ])
              refine take_yield (i := 4) (v := ?_) rfl (by kernel_rfl) (by kernel_rfl) (by kernel_rfl) (fun _ _ _ h => h) (by rfl) ?_ hHeld ?_
              rotate_left 1
              · (intro w' hSw; clear hSw; go_simp; try with_reducible rfl)
              (try simp only [Act.put, List.setIfInBounds_toArray, List.set_cons_zero, List.set_cons_succ])
              refine take_skip (i := 5) rfl (by kernel_rfl) (by kernel_rfl) (by kernel_rfl) (fun _ _ _ h => h) (by rfl) hHeld ?_
              (try simp only [Act.put, List.setIfInBounds_toArray, List.set_cons_zero, List.set_cons_succ])
              refine take_skip (i := 6) rfl (by kernel_rfl) (by kernel_rfl) (by kernel_rfl) (fun _ _ _ h => h) (by rfl) hHeld ?_
              (try simp only [Act.put, List.setIfInBounds_toArray, List.set_cons_zero, List.set_cons_succ])
              refine take_skip (i := 7) rfl (by kernel_rfl) (by kernel_rfl) (by kernel_rfl) (fun _ _ _ h => h) (by rfl) hHeld ?_
              (try simp only [Act.put, List.setIfInBounds_toArray, List.set_cons_zero, List.set_cons_succ])
              refine take_skip (i := 8) rfl (by kernel_rfl) (by kernel_rfl) (by kernel_rfl) (fun _ _ _ h => h) (by rfl) hHeld ?_
              (try simp only [Act.put, List.setIfInBounds_toArray, List.set_cons_zero, List.set_cons_succ])
              refine take_skip (i := 9) rfl (by kernel_rfl) (by kernel_rfl) (by kernel_rfl) (fun _ _ _ h => h) (by rfl) hHeld ?_
              (try simp only [Act.put, List.setIfInBounds_toArray, List.set_cons_zero, List.set_cons_succ])
              refine take_skip (i := 10) rfl (by kernel_rfl) (by kernel_rfl) (by kernel_rfl) (fun _ _ _ h => h) (by rfl) hHeld ?_
              (try simp only [Act.put, List.setIfInBounds_toArray, List.set_cons_zero, List.set_cons_succ])
              refine take_skip (i := 11) rfl (by kernel_rfl) (by kernel_rfl) (by kernel_rfl) (fun _ _ _ h => h) (by rfl) hHeld ?_
              (try simp only [Act.put, List.setIfInBounds_toArray, List.set_cons_zero, List.set_cons_succ])
              refine take_yield (i := 12) (v := ?_) rfl (by kernel_rfl) (by kernel_rfl) (by kernel_rfl) (fun _ _ _ h => h) (by rfl) ?_ hHeld ?_
              rotate_left 1
              · (intro w' hSw; clear hSw; go_simp; try with_reducible rfl)
              (try simp only [Act.put, List.setIfInBounds_toArray, List.set_cons_zero, List.set_cons_succ])
              refine wpAnyH_done (by kernel_rfl) ?_ _
              replace c0 := cellAt c0 hHeld (by omega)
              replace c1 := cellAt c1 hHeld (by omega)
              replace Hr := Lib.hid (Hr.out.at hHeld)
              replace Hu := Lib.hid (Hu.out.at hHeld)
              replace n1 : w.heap.size < wr.drew.heap.size := ltAt n1 hHeld
              replace HB := Lib.hid (lift HB.out hHeld)
              replace HL := Lib.hid (HL.out.at hHeld)
              replace HOo := Lib.hid (own_on HOo.out hHeld)
              replace Hb3 := Lib.hid (Hb3.out.trans (hHeld.mono Hb3.out.size))
              replace hz3 : w2.heap.size ≤ wr.drew.heap.size := leAt hz3 hHeld
              go_wp2_with fail
              go_ret2
              rw [HR.out]
              exact ⟨none, 0, rfl, Nat.le_refl _, Rd.none_, HB.out⟩
end Od
end Go.Proofs.YtclaoffnfopekaaGreat
end

section
/- The walks of the laws OrderAll and OrderSort. -/
namespace Go.Proofs.YtclaoffnfopekaaGreat
open Go.RowKit Go.Sort

namespace Od
theorem sortGo_len (es : List Ed) : ∀ (n : Nat) (left out l : List Str), sortGo es n left out = some l → l.length = left.length + out.length
  | n, [], out, l, h => by rw [sortGo_nil] at h; injection h with h; subst h; simp
  | 0, x :: r, out, l, h => by simp [sortGo] at h
  | n + 1, x :: r, out, l, h => by
    simp only [sortGo] at h
    cases hf : freeAt es (x :: r) with
    | none => rw [hf] at h; cases h
    | some i =>
      rw [hf] at h
      have hi : i < (x :: r).length := (List.findIdx?_eq_some_iff_getElem.1 hf).1
      have := sortGo_len es n _ _ _ h
      rw [this, List.length_eraseIdx, if_pos hi]
      simp
      omega
theorem sortU_len (es : List Ed) (us : List Str) : ((sortU es us).getD []).length ≤ us.length := by
  cases h : sortU es us with
  | none => simp
  | some l =>
    have := sortGo_len es _ _ _ _ h
    have h2 := canon_len (lt := ltS) us
    simp at this ⊢
    omega
/-- What a law's walk starts from. -/
structure GIn (w : World) (An Ae : Option Addr) (cn ce : Nat) (ns : List Nd) (es : List Ed) : Prop where
  rn : Rd w w.heap.size 3 An ns.length (ndsC ns)
  re : Rd w w.heap.size 3 Ae es.length (edsC es)
  okn : OkNs ns
  oke : OkE es
theorem GIn.at {w w' : World} {An Ae : Option Addr} {cn ce : Nat} {ns : List Nd} {es : List Ed} (h : GIn w An Ae cn ce ns es) (hb : Below w.heap.size w w') : GIn w' An Ae cn ce ns es := ⟨h.rn.at hb, h.re.at hb, h.okn, h.oke⟩

set_option maxRecDepth 100000 in
set_option maxHeartbeats 8000000 in
theorem orderSort_any (An Ae : Option Addr) (cn ce : Nat) (ns : List Nd) (es : List Ed) (A : Option Addr) (c : Nat) (units : List Str) (w : World) (hg : GIn w An Ae cn ce ns es) (hu : Rd w w.heap.size 1 A units.length (svs units)) :
    Calls Tryz.prog 4 #[gV An ns.length cn Ae es.length ce, .slice A units.length c] w fun e w' => e = .returned (.bool true) ∧ Below w.heap.size w w' := by
  have HG := Lib.hid hg
  have HU := Lib.hid hu
  clear hg hu
  by_cases h80 : (80 : Int) < (units.length : Int)
  · have d80 : decide ((80 : Int) < (units.length : Int)) = true := by simpa using h80
    go_enter Tryz.func4, Tryz.ntmps4
    go_wp2_with fail
    first | (refine wp_named ?_; intro W1 hW) | (refine calls_named ?_; intro W1 hW)
    have B1 : Below w.heap.size w W1 := by rw [hW]; exact (by repeat (first | exact Below.refl _ _ | assumption | refine Below.alloc ?_ (by simp <;> omega) _ | refine Below.setCell ?_ (by simp <;> omega) _ | refine Below.drew ?_))
    replace HG := Lib.hid (HG.out.at B1)
    have n1 : w.heap.size < W1.heap.size := by rw [hW]; simp <;> omega
    have c0 : W1.cell? ⟨w.heap.size, 0, none⟩ = some (.slice An ns.length cn) := by rw [hW]; go_simp
    have c1 : W1.cell? ⟨w.heap.size, 1, none⟩ = some (.slice Ae es.length ce) := by rw [hW]; go_simp
    clear hW
    have HB := Lib.hid B1
    clear B1
    refine (shown_any W1).mono ?_
    rintro e w2 ⟨rfl, hb⟩
    replace c0 := cellAt c0 hb (by omega)
    replace c1 := cellAt c1 hb (by omega)
    replace HG := Lib.hid (HG.out.at hb)
    replace n1 : w.heap.size < w2.heap.size := ltAt n1 hb
    replace HB := Lib.hid (lift HB.out hb)
    clear hb
    go_wp2_with fail
    refine (small_any An Ae cn ce ns es w2).mono ?_
    rintro e w3 ⟨rfl, hb⟩
    replace c0 := cellAt c0 hb (by omega)
    replace c1 := cellAt c1 hb (by omega)
    replace HG := Lib.hid (HG.out.at hb)
    replace n1 : w.heap.size < w3.heap.size := ltAt n1 hb
    replace HB := Lib.hid (lift HB.out hb)
    clear hb
    cases hsm : smallB ns es
    · go_wp2_with fail
      go_ret
      exact ⟨rfl, HB.out⟩
    · go_wp2_with fail
      go_ret
      exact ⟨rfl, HB.out⟩
  · have d80 : decide ((80 : Int) < (units.length : Int)) = false := by simpa using h80
    go_enter Tryz.func4, Tryz.ntmps4
    go_wp2_with fail
    first | (refine wp_named ?_; intro W1 hW) | (refine calls_named ?_; intro W1 hW)
    have B1 : Below w.heap.size w W1 := by rw [hW]; exact (by repeat (first | exact Below.refl _ _ | assumption | refine Below.alloc ?_ (by simp <;> omega) _ | refine Below.setCell ?_ (by simp <;> omega) _ | refine Below.drew ?_))
    replace HU := Lib.hid (HU.out.at B1)
    replace HG := Lib.hid (HG.out.at B1)
    have n1 : w.heap.size < W1.heap.size := by rw [hW]; simp <;> omega
    have c0 : W1.cell? ⟨w.heap.size, 0, none⟩ = some (.slice An ns.length cn) := by rw [hW]; go_simp
    have c1 : W1.cell? ⟨w.heap.size, 1, none⟩ = some (.slice Ae es.length ce) := by rw [hW]; go_simp
    clear hW
    have HB := Lib.hid B1
    clear B1
    refine (shown_any W1).mono ?_
    rintro e w2 ⟨rfl, hb⟩
    replace c0 := cellAt c0 hb (by omega)
    replace c1 := cellAt c1 hb (by omega)
    replace HU := Lib.hid (HU.out.at hb)
    replace HG := Lib.hid (HG.out.at hb)
    replace n1 : w.heap.size < w2.heap.size := ltAt n1 hb
    replace HB := Lib.hid (lift HB.out hb)
    clear hb
    go_wp2_with fail
    refine (small_any An Ae cn ce ns es w2).mono ?_
    rintro e w3 ⟨rfl, hb⟩
    replace c0 := cellAt c0 hb (by omega)
    replace c1 := cellAt c1 hb (by omega)
    replace HU := Lib.hid (HU.out.at hb)
    replace HG := Lib.hid (HG.out.at hb)
    replace n1 : w.heap.size < w3.heap.size := ltAt n1 hb
    replace HB := Lib.hid (lift HB.out hb)
    clear hb
    cases hsm : smallB ns es
    · go_wp2_with fail
      go_ret
      exact ⟨rfl, HB.out⟩
    · have hs2 := smallB_iff.1 hsm
      have hl1 := hs2.1
      have hl2 := hs2.2
      clear hs2
      go_wp2_with fail
      refine (Sort_any An Ae ns.length cn ce es A c units w3 HG.out.re HU.out (by omega) (by omega)).mono ?_
      rintro e w4 ⟨A1, c1', rfl, hc1, hr1, hb⟩
      have HR1 := Lib.hid hr1
      replace c0 := cellAt c0 hb (by omega)
      replace c1 := cellAt c1 hb (by omega)
      replace HU := Lib.hid (HU.out.at hb)
      replace HG := Lib.hid (HG.out.at hb)
      replace n1 : w.heap.size < w4.heap.size := ltAt n1 hb
      replace HB := Lib.hid (lift HB.out hb)
      clear hr1 hb
      go_wp2_with fail
      refine (Sort15_any An Ae ns.length cn ce es A c units w4 HG.out.re HU.out (by omega) (by omega)).mono ?_
      rintro e w5 ⟨A2, c2', rfl, hc2, hr2, hb⟩
      have HR2 := Lib.hid hr2
      replace c0 := cellAt c0 hb (by omega)
      replace c1 := cellAt c1 hb (by omega)
      replace HU := Lib.hid (HU.out.at hb)
      replace HG := Lib.hid (HG.out.at hb)
      replace n1 : w.heap.size < w5.heap.size := ltAt n1 hb
      replace HB := Lib.hid (lift HB.out hb)
      replace HR1 := Lib.hid (HR1.out.at hb)
      clear hr2 hb
      have hTl : ((sortU es units).getD []).length ≤ 1000000 := by have := sortU_len es units; omega
      generalize hT : sortU es units = T at *
      go_wp2_with fail
      refine (Same_any A1 A2 c1' c2' (T.getD []) (T.getD []) w5 HR1.out HR2.out hTl).mono ?_
      rw [decide_eq_true rfl]
      rintro e w6 ⟨rfl, hb⟩
      replace c0 := cellAt c0 hb (by omega)
      replace c1 := cellAt c1 hb (by omega)
      replace HU := Lib.hid (HU.out.at hb)
      replace HG := Lib.hid (HG.out.at hb)
      replace n1 : w.heap.size < w6.heap.size := ltAt n1 hb
      replace HB := Lib.hid (lift HB.out hb)
      replace HR1 := Lib.hid (HR1.out.at hb)
      clear hb
      go_wp2_with fail
      go_ret
      exact ⟨by simp, HB.out⟩
set_option maxRecDepth 100000 in
set_option maxHeartbeats 8000000 in
theorem orderAll_any (An Ae : Option Addr) (cn ce : Nat) (ns : List Nd) (es : List Ed) (a b : Str) (w : World) (hg : GIn w An Ae cn ce ns es) (ha : okS a) :
    Calls Tryz.prog 3 #[gV An ns.length cn Ae es.length ce, sv a, sv b] w fun e w' => e = .returned (.bool true) ∧ Below w.heap.size w w' := by
  have HG := Lib.hid hg
  have hq := ed_neq
  clear hg
  go_enter Tryz.func3, Tryz.ntmps3
  go_wp2_with fail
  first | (refine wp_named ?_; intro W1 hW) | (refine calls_named ?_; intro W1 hW)
  have B1 : Below w.heap.size w W1 := by rw [hW]; exact (by repeat (first | exact Below.refl _ _ | assumption | refine Below.alloc ?_ (by simp <;> omega) _ | refine Below.setCell ?_ (by simp <;> omega) _ | refine Below.drew ?_))
  replace HG := Lib.hid (HG.out.at B1)
  have n1 : w.heap.size < W1.heap.size := by rw [hW]; simp <;> omega
  have c0 : W1.cell? ⟨w.heap.size, 0, none⟩ = some (.slice An ns.length cn) := by rw [hW]; go_simp
  have c1 : W1.cell? ⟨w.heap.size, 1, none⟩ = some (.slice Ae es.length ce) := by rw [hW]; go_simp
  clear hW
  have HB := Lib.hid B1
  clear B1
  refine (shown_any W1).mono ?_
  rintro e w2 ⟨rfl, hb⟩
  replace c0 := cellAt c0 hb (by omega)
  replace c1 := cellAt c1 hb (by omega)
  replace HG := Lib.hid (HG.out.at hb)
  replace n1 : w.heap.size < w2.heap.size := ltAt n1 hb
  replace HB := Lib.hid (lift HB.out hb)
  clear hb
  go_wp2_with fail
  refine (small_any An Ae cn ce ns es w2).mono ?_
  rintro e w3 ⟨rfl, hb⟩
  replace c0 := cellAt c0 hb (by omega)
  replace c1 := cellAt c1 hb (by omega)
  replace HG := Lib.hid (HG.out.at hb)
  replace n1 : w.heap.size < w3.heap.size := ltAt n1 hb
  replace HB := Lib.hid (lift HB.out hb)
  clear hb
  cases hsm : smallB ns es
  · go_wp2_with fail
    go_ret
    exact ⟨rfl, HB.out⟩
  · have hs2 := smallB_iff.1 hsm
    have hl1 := hs2.1
    have hl2 := hs2.2
    clear hs2
    go_wp2_with fail
    try go_wp2_with fail
    refine wp_region_held_drew (S := fun w' => Below w3.heap.size w3 w') (by kernel_rfl) (Below.drew (Below.refl _ _)) (fun hHeld => ?_)
    refine take_yield (i := 0) (v := ?_) rfl (by kernel_rfl) (by kernel_rfl) (by kernel_rfl) (fun _ _ _ h => h) (by rfl) ?_ hHeld ?_
    rotate_left 1
    · (intro w' hSw; have hCell := fun (b o : Nat) (h : b < w3.heap.size) => hSw.cell (p := ⟨b, o, none⟩) h; clear hSw; go_simp; try with_reducible rfl)
    (try simp only [Act.put, List.setIfInBounds_toArray, List.set_cons_zero, List.set_cons_succ])
    refine take_yield (i := 1) (v := ?_) rfl (by kernel_rfl) (by kernel_rfl) (by kernel_rfl) (fun _ _ _ h => h) (by rfl) ?_ hHeld ?_
    rotate_left 1
    · (intro w' hSw; clear hSw; go_simp; try with_reducible rfl)
    (try simp only [Act.put, List.setIfInBounds_toArray, List.set_cons_zero, List.set_cons_succ])
    refine take_yield (i := 2) (v := ?_) rfl (by kernel_rfl) (by kernel_rfl) (by kernel_rfl) (fun _ _ _ h => h) (by rfl) ?_ hHeld ?_
    rotate_left 1
    · (intro w' hSw; clear hSw; go_simp; try with_reducible rfl)
    (try simp only [Act.put, List.setIfInBounds_toArray, List.set_cons_zero, List.set_cons_succ])
    refine take_yield (i := 4) (v := ?_) rfl (by kernel_rfl) (by kernel_rfl) (by kernel_rfl) (fun _ _ _ h => h) (by rfl) ?_ hHeld ?_
    rotate_left 1
    · (intro w' hSw; have hCell := fun (b o : Nat) (h : b < w3.heap.size) => hSw.cell (p := ⟨b, o, none⟩) h; clear hSw; go_simp; try with_reducible rfl)
    (try simp only [Act.put, List.setIfInBounds_toArray, List.set_cons_zero, List.set_cons_succ])
    refine take_yield (i := 5) (v := ?_) rfl (by kernel_rfl) (by kernel_rfl) (by kernel_rfl) (fun _ _ _ h => h) (by rfl) ?_ hHeld ?_
    rotate_left 1
    · (intro w' hSw; clear hSw; go_simp; try with_reducible rfl)
    (try simp only [Act.put, List.setIfInBounds_toArray, List.set_cons_zero, List.set_cons_succ])
    refine take_yield (i := 6) (v := ?_) rfl (by kernel_rfl) (by kernel_rfl) (by kernel_rfl) (fun _ _ _ h => h) (by rfl) ?_ hHeld ?_
    rotate_left 1
    · (intro w' hSw; clear hSw; go_simp; try with_reducible rfl)
    (try simp only [Act.put, List.setIfInBounds_toArray, List.set_cons_zero, List.set_cons_succ])
    refine ready_one (i := 3) rfl (by kernel_rfl) (fun K hK => ?_)
    go_simp
    refine (Ahead_any An Ae ns.length cn ce es a b _ (HG.out.re.at hHeld) (by omega)).mono ?_
    rintro e v1 ⟨rfl, hb⟩
    refine hK.out _ _ ?_ (fun hHeld2 => ?_)
    · (try dsimp only); first | exact Below.trans hHeld (Below.mono hb hHeld.size) | exact hHeld | exact Below.drew hHeld | exact (by repeat (first | exact Below.refl _ _ | assumption | refine Below.alloc ?_ (by simp <;> omega) _ | refine Below.setCell ?_ (by simp <;> omega) _ | refine Below.drew ?_))
    clear hK K hHeld
    have hHeld := hHeld2
    clear hHeld2
    (try simp only [Act.put, List.setIfInBounds_toArray, List.set_cons_zero, List.set_cons_succ])
    refine ready_one (i := 7) rfl (by kernel_rfl) (fun K hK => ?_)
    go_simp
    refine (refAhead_any An Ae ns.length cn ce es a b _ (HG.out.re.at hHeld) (by omega)).mono ?_
    rintro e v2 ⟨rfl, hb⟩
    refine hK.out _ _ ?_ (fun hHeld2 => ?_)
    · (try dsimp only); first | exact Below.trans hHeld (Below.mono hb hHeld.size) | exact hHeld | exact Below.drew hHeld | exact (by repeat (first | exact Below.refl _ _ | assumption | refine Below.alloc ?_ (by simp <;> omega) _ | refine Below.setCell ?_ (by simp <;> omega) _ | refine Below.drew ?_))
    clear hK K hHeld
    have hHeld := hHeld2
    clear hHeld2
    (try simp only [Act.put, List.setIfInBounds_toArray, List.set_cons_zero, List.set_cons_succ])
    refine take_yield (i := 8) (v := ?_) rfl (by kernel_rfl) (by kernel_rfl) (by kernel_rfl) (fun _ _ _ h => h) (by rfl) ?_ hHeld ?_
    rotate_left 1
    · (intro w' hSw; clear hSw; go_simp; try with_reducible rfl)
    (try simp only [Act.put, List.setIfInBounds_toArray, List.set_cons_zero, List.set_cons_succ])
    refine take_yield (i := 9) (v := ?_) rfl (by kernel_rfl) (by kernel_rfl) (by kernel_rfl) (fun _ _ _ h => h) (by rfl) ?_ hHeld ?_
    rotate_left 1
    · (intro w' hSw; clear hSw; go_simp; try with_reducible rfl)
    (try simp only [Act.put, List.setIfInBounds_toArray, List.set_cons_zero, List.set_cons_succ])
    refine take_yield (i := 10) (v := ?_) rfl (by kernel_rfl) (by kernel_rfl) (by kernel_rfl) (fun _ _ _ h => h) (by rfl) ?_ hHeld ?_
    rotate_left 1
    · (intro w' hSw; have hCell := fun (b o : Nat) (h : b < w3.heap.size) => hSw.cell (p := ⟨b, o, none⟩) h; clear hSw; go_simp; try with_reducible rfl)
    (try simp only [Act.put, List.setIfInBounds_toArray, List.set_cons_zero, List.set_cons_succ])
    refine take_yield (i := 12) (v := ?_) rfl (by kernel_rfl) (by kernel_rfl) (by kernel_rfl) (fun _ _ _ h => h) (by rfl) ?_ hHeld ?_
    rotate_left 1
    · (intro w' hSw; have hCell := fun (b o : Nat) (h : b < w3.heap.size) => hSw.cell (p := ⟨b, o, none⟩) h; clear hSw; go_simp; try with_reducible rfl)
    (try simp only [Act.put, List.setIfInBounds_toArray, List.set_cons_zero, List.set_cons_succ])
    refine ready_one (i := 11) rfl (by kernel_rfl) (fun K hK => ?_)
    go_simp
    refine (Is_any An Ae ns.length cn ce es _ (HG.out.re.at hHeld) HG.out.oke (by omega)).mono ?_
    rintro e v3 ⟨rfl, hb⟩
    refine hK.out _ _ ?_ (fun hHeld2 => ?_)
    · (try dsimp only); first | exact Below.trans hHeld (Below.mono hb hHeld.size) | exact hHeld | exact Below.drew hHeld | exact (by repeat (first | exact Below.refl _ _ | assumption | refine Below.alloc ?_ (by simp <;> omega) _ | refine Below.setCell ?_ (by simp <;> omega) _ | refine Below.drew ?_))
    clear hK K hHeld
    have hHeld := hHeld2
    clear hHeld2
    (try simp only [Act.put, List.setIfInBounds_toArray, List.set_cons_zero, List.set_cons_succ])
    refine ready_one (i := 13) rfl (by kernel_rfl) (fun K hK => ?_)
    go_simp
    refine (Is15_any An Ae ns.length cn ce es _ (HG.out.re.at hHeld) (by omega)).mono ?_
    rintro e v4 ⟨rfl, hb⟩
    refine hK.out _ _ ?_ (fun hHeld2 => ?_)
    · (try dsimp only); first | exact Below.trans hHeld (Below.mono hb hHeld.size) | exact hHeld | exact Below.drew hHeld | exact (by repeat (first | exact Below.refl _ _ | assumption | refine Below.alloc ?_ (by simp <;> omega) _ | refine Below.setCell ?_ (by simp <;> omega) _ | refine Below.drew ?_))
    clear hK K hHeld
    have hHeld := hHeld2
    clear hHeld2
    (try simp only [Act.put, List.setIfInBounds_toArray, List.set_cons_zero, List.set_cons_succ])
    refine take_yield (i := 14) (v := ?_) rfl (by kernel_rfl) (by kernel_rfl) (by kernel_rfl) (fun _ _ _ h => h) (by rfl) ?_ hHeld ?_
    rotate_left 1
    · (intro w' hSw; clear hSw; go_simp; try with_reducible rfl)
    (try simp only [Act.put, List.setIfInBounds_toArray, List.set_cons_zero, List.set_cons_succ])
    refine take_yield (i := 15) (v := ?_) rfl (by kernel_rfl) (by kernel_rfl) (by kernel_rfl) (fun _ _ _ h => h) (by rfl) ?_ hHeld ?_
    rotate_left 1
    · (intro w' hSw; clear hSw; go_simp; try with_reducible rfl)
    (try simp only [Act.put, List.setIfInBounds_toArray, List.set_cons_zero, List.set_cons_succ])
    refine take_yield (i := 16) (v := ?_) rfl (by kernel_rfl) (by kernel_rfl) (by kernel_rfl) (fun _ _ _ h => h) (by rfl) ?_ hHeld ?_
    rotate_left 1
    · (intro w' hSw; clear hSw; go_simp; try with_reducible rfl)
    (try simp only [Act.put, List.setIfInBounds_toArray, List.set_cons_zero, List.set_cons_succ])
    refine take_yield (i := 17) (v := ?_) rfl (by kernel_rfl) (by kernel_rfl) (by kernel_rfl) (fun _ _ _ h => h) (by rfl) ?_ hHeld ?_
    rotate_left 1
    · (intro w' hSw; have hCell := fun (b o : Nat) (h : b < w3.heap.size) => hSw.cell (p := ⟨b, o, none⟩) h; clear hSw; go_simp; try with_reducible rfl)
    (try simp only [Act.put, List.setIfInBounds_toArray, List.set_cons_zero, List.set_cons_succ])
    refine take_yield (i := 18) (v := ?_) rfl (by kernel_rfl) (by kernel_rfl) (by kernel_rfl) (fun _ _ _ h => h) (by rfl) ?_ hHeld ?_
    rotate_left 1
    · (intro w' hSw; clear hSw; go_simp; try with_reducible rfl)
    (try simp only [Act.put, List.setIfInBounds_toArray, List.set_cons_zero, List.set_cons_succ])
    refine take_yield (i := 20) (v := ?_) rfl (by kernel_rfl) (by kernel_rfl) (by kernel_rfl) (fun _ _ _ h => h) (by rfl) ?_ hHeld ?_
    rotate_left 1
    · (intro w' hSw; have hCell := fun (b o : Nat) (h : b < w3.heap.size) => hSw.cell (p := ⟨b, o, none⟩) h; clear hSw; go_simp; try with_reducible rfl)
    (try simp only [Act.put, List.setIfInBounds_toArray, List.set_cons_zero, List.set_cons_succ])
    refine take_yield (i := 21) (v := ?_) rfl (by kernel_rfl) (by kernel_rfl) (by kernel_rfl) (fun _ _ _ h => h) (by rfl) ?_ hHeld ?_
    rotate_left 1
    · (intro w' hSw; clear hSw; go_simp; try with_reducible rfl)
    (try simp only [Act.put, List.setIfInBounds_toArray, List.set_cons_zero, List.set_cons_succ])
    refine ready_one (i := 19) rfl (by kernel_rfl) (fun K hK => ?_)
    go_simp
    refine (Behind_any An Ae ns.length cn ce es a _ (HG.out.re.at hHeld) HG.out.oke ha (by omega)).mono ?_
    rintro e v5 ⟨A5, c5, rfl, ho5, hb⟩
    have HR5 := Lib.hid (own_rd' ho5)
    clear ho5
    refine hK.out _ _ ?_ (fun hHeld2 => ?_)
    · (try dsimp only); first | exact Below.trans hHeld (Below.mono hb hHeld.size) | exact hHeld | exact Below.drew hHeld | exact (by repeat (first | exact Below.refl _ _ | assumption | refine Below.alloc ?_ (by simp <;> omega) _ | refine Below.setCell ?_ (by simp <;> omega) _ | refine Below.drew ?_))
    clear hK K hHeld
    have hHeld := hHeld2
    clear hHeld2
    (try simp only [Act.put, List.setIfInBounds_toArray, List.set_cons_zero, List.set_cons_succ])
    refine ready_one (i := 22) rfl (by kernel_rfl) (fun K hK => ?_)
    go_simp
    refine (Behind15_any An Ae ns.length cn ce es a _ (HG.out.re.at hHeld) (by omega)).mono ?_
    rintro e v6 ⟨A6, c6, rfl, hc6, hr6, hb⟩
    have HR6 := Lib.hid hr6
    have HR5b := Lib.hid (HR5.out.at hb)
    clear hr6
    refine hK.out _ _ ?_ (fun hHeld2 => ?_)
    · (try dsimp only); first | exact Below.trans hHeld (Below.mono hb hHeld.size) | exact hHeld | exact Below.drew hHeld | exact (by repeat (first | exact Below.refl _ _ | assumption | refine Below.alloc ?_ (by simp <;> omega) _ | refine Below.setCell ?_ (by simp <;> omega) _ | refine Below.drew ?_))
    clear hK K hHeld
    have hHeld := hHeld2
    clear hHeld2
    (try simp only [Act.put, List.setIfInBounds_toArray, List.set_cons_zero, List.set_cons_succ])
    refine ready_one (i := 23) rfl (by kernel_rfl) (fun K hK => ?_)
    go_simp
    refine (Same_any A5 A6 c5 c6 (reachL (prsL es) a) (reachL (prsL es) a) _ HR5b.out HR6.out (by have h1 := reached_len (reachL_ok (prsL es) a).1 (fun s hs => mem_reachL.1 hs); have h2 := prsL_len es; omega)).mono ?_
    rw [decide_eq_true rfl]
    rintro e v7 ⟨rfl, hb⟩
    refine hK.out _ _ ?_ (fun hHeld2 => ?_)
    · (try dsimp only); first | exact Below.trans hHeld (Below.mono hb hHeld.size) | exact hHeld | exact Below.drew hHeld | exact (by repeat (first | exact Below.refl _ _ | assumption | refine Below.alloc ?_ (by simp <;> omega) _ | refine Below.setCell ?_ (by simp <;> omega) _ | refine Below.drew ?_))
    clear hK K hHeld
    have hHeld := hHeld2
    clear hHeld2
    (try simp only [Act.put, List.setIfInBounds_toArray, List.set_cons_zero, List.set_cons_succ])
    refine take_yield (i := 24) (v := ?_) rfl (by kernel_rfl) (by kernel_rfl) (by kernel_rfl) (fun _ _ _ h => h) (by rfl) ?_ hHeld ?_
    rotate_left 1
    · (intro w' hSw; clear hSw; go_simp; try with_reducible rfl)
    (try simp only [Act.put, List.setIfInBounds_toArray, List.set_cons_zero, List.set_cons_succ])
    refine take_yield (i := 25) (v := ?_) rfl (by kernel_rfl) (by kernel_rfl) (by kernel_rfl) (fun _ _ _ h => h) (by rfl) ?_ hHeld ?_
    rotate_left 1
    · (intro w' hSw; clear hSw; go_simp; try with_reducible rfl)
    (try simp only [Act.put, List.setIfInBounds_toArray, List.set_cons_zero, List.set_cons_succ])
    refine wpAnyH_done (by kernel_rfl) ?_ _
    replace c0 := cellAt c0 hHeld (by omega)
    replace c1 := cellAt c1 hHeld (by omega)
    replace HG := Lib.hid (HG.out.at hHeld)
    replace n1 : w.heap.size < v7.heap.size := ltAt n1 hHeld
    replace HB := Lib.hid (lift HB.out hHeld)
    go_wp2_with fail
    try go_wp2_with fail
    refine wp_region_held_drew (S := fun w' => Below v7.heap.size v7 w') (by kernel_rfl) (Below.drew (Below.refl _ _)) (fun hHeld => ?_)
    refine take_yield (i := 0) (v := ?_) rfl (by kernel_rfl) (by kernel_rfl) (by kernel_rfl) (fun _ _ _ h => h) (by rfl) ?_ hHeld ?_
    rotate_left 1
    · (intro w' hSw; have hCell := fun (b o : Nat) (h : b < v7.heap.size) => hSw.cell (p := ⟨b, o, none⟩) h; clear hSw; go_simp; try with_reducible rfl)
    (try simp only [Act.put, List.setIfInBounds_toArray, List.set_cons_zero, List.set_cons_succ])
    refine take_yield (i := 2) (v := ?_) rfl (by kernel_rfl) (by kernel_rfl) (by kernel_rfl) (fun _ _ _ h => h) (by rfl) ?_ hHeld ?_
    rotate_left 1
    · (intro w' hSw; have hCell := fun (b o : Nat) (h : b < v7.heap.size) => hSw.cell (p := ⟨b, o, none⟩) h; clear hSw; go_simp; try with_reducible rfl)
    (try simp only [Act.put, List.setIfInBounds_toArray, List.set_cons_zero, List.set_cons_succ])
    refine ready_one (i := 1) rfl (by kernel_rfl) (fun K hK => ?_)
    go_simp
    refine (Round_any An Ae ns.length cn ce es _ (HG.out.re.at hHeld) HG.out.oke (by omega)).mono ?_
    rintro e v8 ⟨A8, c8, rfl, hc8, hr8, hb⟩
    have HR8 := Lib.hid hr8
    clear hr8
    refine hK.out _ _ ?_ (fun hHeld2 => ?_)
    · (try dsimp only); first | exact Below.trans hHeld (Below.mono hb hHeld.size) | exact hHeld | exact Below.drew hHeld | exact (by repeat (first | exact Below.refl _ _ | assumption | refine Below.alloc ?_ (by simp <;> omega) _ | refine Below.setCell ?_ (by simp <;> omega) _ | refine Below.drew ?_))
    clear hK K hHeld
    have hHeld := hHeld2
    clear hHeld2
    (try simp only [Act.put, List.setIfInBounds_toArray, List.set_cons_zero, List.set_cons_succ])
    refine ready_one (i := 3) rfl (by kernel_rfl) (fun K hK => ?_)
    go_simp
    refine (Round15_any An Ae ns.length cn ce es _ (HG.out.re.at hHeld) (by omega)).mono ?_
    rintro e v9 ⟨A9, c9, rfl, hc9, hr9, hb⟩
    have HR9 := Lib.hid hr9
    have HR8b := Lib.hid (HR8.out.at hb)
    clear hr9
    refine hK.out _ _ ?_ (fun hHeld2 => ?_)
    · (try dsimp only); first | exact Below.trans hHeld (Below.mono hb hHeld.size) | exact hHeld | exact Below.drew hHeld | exact (by repeat (first | exact Below.refl _ _ | assumption | refine Below.alloc ?_ (by simp <;> omega) _ | refine Below.setCell ?_ (by simp <;> omega) _ | refine Below.drew ?_))
    clear hK K hHeld
    have hHeld := hHeld2
    clear hHeld2
    (try simp only [Act.put, List.setIfInBounds_toArray, List.set_cons_zero, List.set_cons_succ])
    refine take_yield (i := 4) (v := ?_) rfl (by kernel_rfl) (by kernel_rfl) (by kernel_rfl) (fun _ _ _ h => h) (by rfl) ?_ hHeld ?_
    rotate_left 1
    · (intro w' hSw; clear hSw; go_simp; try with_reducible rfl)
    (try simp only [Act.put, List.setIfInBounds_toArray, List.set_cons_zero, List.set_cons_succ])
    refine take_yield (i := 5) (v := ?_) rfl (by kernel_rfl) (by kernel_rfl) (by kernel_rfl) (fun _ _ _ h => h) (by rfl) ?_ hHeld ?_
    rotate_left 1
    · (intro w' hSw; clear hSw; go_simp; try with_reducible rfl)
    (try simp only [Act.put, List.setIfInBounds_toArray, List.set_cons_zero, List.set_cons_succ])
    refine wpAnyH_done (by kernel_rfl) ?_ _
    replace c0 := cellAt c0 hHeld (by omega)
    replace c1 := cellAt c1 hHeld (by omega)
    replace HG := Lib.hid (HG.out.at hHeld)
    replace n1 : w.heap.size < v9.heap.size := ltAt n1 hHeld
    replace HB := Lib.hid (lift HB.out hHeld)
    have hgl := gone_len es
    generalize hgo : gone es = G at *
    have HGo := Lib.hid hgo
    clear hgo
    go_wp2_with fail
    go_loopw [52] (fun i wr => ∃ k : Nat, k ≤ G.length ∧ i = .int .i64 k ∧ Below v9.heap.size v9 wr) (fun i _ => G.length - (intOf i).toNat)
    case atStart => exact ⟨0, Nat.zero_le _, rfl, Below.refl _ _⟩
    case round =>
      obtain ⟨k, hk, rfl, hb⟩ := hrel
      replace c0 := cellAt c0 hb (by omega)
      replace c1 := cellAt c1 hb (by omega)
      replace HG := Lib.hid (HG.out.at hb)
      replace n1 : w.heap.size < wr.heap.size := ltAt n1 hb
      replace HB := Lib.hid (lift HB.out hb)
      replace HR8b := Lib.hid (HR8b.out.at hb)
      replace HR9 := Lib.hid (HR9.out.at hb)
      have Hb := Lib.hid hb
      clear hb
      by_cases hlt : k < G.length
      · obtain ⟨b1, o1, hA1, hB1, x0, x1, x2⟩ := HR8b.out.edge hlt
        obtain ⟨b2, o2, hA2, hB2, y0, y1, y2⟩ := HR9.out.edge hlt
        generalize G[k] = p at x0 x1 x2 y0 y1 y2
        obtain ⟨s, d, r⟩ := p
        have hee : edEq (s, d, r) (s, d, r) = true := by simp [edEq]
        simp only at x0 x1 x2 y0 y1 y2
        have k1 : (0 : Int) ≤ (k : Int) := by omega
        have k2 : (k : Int) < (G.length : Int) := by omega
        subst hA1
        subst hA2
        go_wp2_with fail
        try go_wp2_with fail
        refine wp_region_held_drew (S := fun w' => Below wr.heap.size wr w') (by kernel_rfl) (Below.drew (Below.refl _ _)) (fun hHeld => ?_)
        refine take_yield (i := 0) (v := ?_) rfl (by kernel_rfl) (by kernel_rfl) (by kernel_rfl) (fun _ _ _ h => h) (by rfl) ?_ hHeld ?_
        rotate_left 1
        · (intro w' hSw; clear hSw; go_simp; try with_reducible rfl)
        (try simp only [Act.put, List.setIfInBounds_toArray, List.set_cons_zero, List.set_cons_succ])
        refine take_yield (i := 1) (v := ?_) rfl (by kernel_rfl) (by kernel_rfl) (by kernel_rfl) (fun _ _ _ h => h) (by rfl) ?_ hHeld ?_
        rotate_left 1
        · (intro w' hSw; clear hSw; go_simp; try with_reducible rfl)
        (try simp only [Act.put, List.setIfInBounds_toArray, List.set_cons_zero, List.set_cons_succ])
        refine take_yield (i := 2) (v := ?_) rfl (by kernel_rfl) (by kernel_rfl) (by kernel_rfl) (fun _ _ _ h => h) (by rfl) ?_ hHeld ?_
        rotate_left 1
        · (intro w' hSw; clear hSw; go_simp; try with_reducible rfl)
        (try simp only [Act.put, List.setIfInBounds_toArray, List.set_cons_zero, List.set_cons_succ])
        refine take_yield (i := 3) (v := ?_) rfl (by kernel_rfl) (by kernel_rfl) (by kernel_rfl) (fun _ _ _ h => h) (by rfl) ?_ hHeld ?_
        rotate_left 1
        · (intro w' hSw; have hCell := fun (b o : Nat) (h : b < wr.heap.size) => hSw.cell (p := ⟨b, o, none⟩) h; clear hSw; go_simp; try with_reducible rfl)
        (try simp only [Act.put, List.setIfInBounds_toArray, List.set_cons_zero, List.set_cons_succ])
        refine take_yield (i := 4) (v := ?_) rfl (by kernel_rfl) (by kernel_rfl) (by kernel_rfl) (fun _ _ _ h => h) (by rfl) ?_ hHeld ?_
        rotate_left 1
        · (intro w' hSw; clear hSw; go_simp; try with_reducible rfl)
        (try simp only [Act.put, List.setIfInBounds_toArray, List.set_cons_zero, List.set_cons_succ])
        refine take_yield (i := 5) (v := ?_) rfl (by kernel_rfl) (by kernel_rfl) (by kernel_rfl) (fun _ _ _ h => h) (by rfl) ?_ hHeld ?_
        rotate_left 1
        · (intro w' hSw; clear hSw; go_simp; try with_reducible rfl)
        (try simp only [Act.put, List.setIfInBounds_toArray, List.set_cons_zero, List.set_cons_succ])
        refine take_yield (i := 6) (v := ?_) rfl (by kernel_rfl) (by kernel_rfl) (by kernel_rfl) (fun _ _ _ h => h) (by rfl) ?_ hHeld ?_
        rotate_left 1
        · (intro w' hSw; clear hSw; go_simp; try with_reducible rfl)
        (try simp only [Act.put, List.setIfInBounds_toArray, List.set_cons_zero, List.set_cons_succ])
        refine take_yield (i := 7) (v := ?_) rfl (by kernel_rfl) (by kernel_rfl) (by kernel_rfl) (fun _ _ _ h => h) (by rfl) ?_ hHeld ?_
        rotate_left 1
        · (intro w' hSw; have hCell := fun (b o : Nat) (h : b < wr.heap.size) => hSw.cell (p := ⟨b, o, none⟩) h; clear hSw; go_simp; try with_reducible rfl)
        (try simp only [Act.put, List.setIfInBounds_toArray, List.set_cons_zero, List.set_cons_succ])
        refine take_yield (i := 8) (v := ?_) rfl (by kernel_rfl) (by kernel_rfl) (by kernel_rfl) (fun _ _ _ h => h) (by rfl) ?_ hHeld ?_
        rotate_left 1
        · (intro w' hSw; clear hSw; go_simp; try with_reducible rfl)
        (try simp only [Act.put, List.setIfInBounds_toArray, List.set_cons_zero, List.set_cons_succ])
        refine wpAnyH_done (by kernel_rfl) ?_ _
        go_wp2_with fail
        go_roundw
        case rel => exact ⟨k + 1, by omega, by go_num, lift Hb.out hHeld⟩
        case measure => simp [intOf]; omega
      · go_wp2_with fail
        try go_wp2_with fail
        refine wp_region_held_drew (S := fun w' => Below wr.heap.size wr w') (by kernel_rfl) (Below.drew (Below.refl _ _)) (fun hHeld => ?_)
        refine take_yield (i := 0) (v := ?_) rfl (by kernel_rfl) (by kernel_rfl) (by kernel_rfl) (fun _ _ _ h => h) (by rfl) ?_ hHeld ?_
        rotate_left 1
        · (intro w' hSw; have hCell := fun (b o : Nat) (h : b < wr.heap.size) => hSw.cell (p := ⟨b, o, none⟩) h; clear hSw; go_simp; try with_reducible rfl)
        (try simp only [Act.put, List.setIfInBounds_toArray, List.set_cons_zero, List.set_cons_succ])
        refine take_yield (i := 2) (v := ?_) rfl (by kernel_rfl) (by kernel_rfl) (by kernel_rfl) (fun _ _ _ h => h) (by rfl) ?_ hHeld ?_
        rotate_left 1
        · (intro w' hSw; have hCell := fun (b o : Nat) (h : b < wr.heap.size) => hSw.cell (p := ⟨b, o, none⟩) h; clear hSw; go_simp; try with_reducible rfl)
        (try simp only [Act.put, List.setIfInBounds_toArray, List.set_cons_zero, List.set_cons_succ])
        refine ready_one (i := 1) rfl (by kernel_rfl) (fun K hK => ?_)
        go_simp
        refine (Straight_any An Ae cn ce ns es _ (HG.out.rn.at hHeld) (HG.out.re.at hHeld) HG.out.oke (by omega) (by omega)).mono ?_
        rintro e u1 ⟨Bn, dn, Be, de, rfl, hdn, hde, hsn, hse, hb⟩
        have HSN := Lib.hid hsn
        have HSE := Lib.hid hse
        clear hsn hse
        refine hK.out _ _ ?_ (fun hHeld2 => ?_)
        · (try dsimp only); first | exact Below.trans hHeld (Below.mono hb hHeld.size) | exact hHeld | exact Below.drew hHeld | exact (by repeat (first | exact Below.refl _ _ | assumption | refine Below.alloc ?_ (by simp <;> omega) _ | refine Below.setCell ?_ (by simp <;> omega) _ | refine Below.drew ?_))
        clear hK K hHeld
        have hHeld := hHeld2
        clear hHeld2
        (try simp only [Act.put, List.setIfInBounds_toArray, List.set_cons_zero, List.set_cons_succ])
        refine ready_one (i := 3) rfl (by kernel_rfl) (fun K hK => ?_)
        go_simp
        refine (Straight15_any An Ae cn ce ns es _ (HG.out.rn.at hHeld) (HG.out.re.at hHeld) (by omega) (by omega)).mono ?_
        rintro e u2 ⟨Dn, fn, De, fe, rfl, hfn, hfe, htn, hte, hb⟩
        have HTN := Lib.hid htn
        have HTE := Lib.hid hte
        have HSN2 := Lib.hid (HSN.out.at hb)
        have HSE2 := Lib.hid (HSE.out.at hb)
        clear htn hte
        refine hK.out _ _ ?_ (fun hHeld2 => ?_)
        · (try dsimp only); first | exact Below.trans hHeld (Below.mono hb hHeld.size) | exact hHeld | exact Below.drew hHeld | exact (by repeat (first | exact Below.refl _ _ | assumption | refine Below.alloc ?_ (by simp <;> omega) _ | refine Below.setCell ?_ (by simp <;> omega) _ | refine Below.drew ?_))
        clear hK K hHeld
        have hHeld := hHeld2
        clear hHeld2
        (try simp only [Act.put, List.setIfInBounds_toArray, List.set_cons_zero, List.set_cons_succ])
        refine ready_one (i := 4) rfl (by kernel_rfl) (fun K hK => ?_)
        go_simp
        refine (Same15_any Bn Be Dn De dn de fn fe ns ns (straight es) (straight es) _ HSN2.out HSE2.out HTN.out HTE.out ⟨by omega, by have := straight_len es; omega, by omega, by have := straight_len es; omega⟩).mono ?_
        rw [show sameG ns ns (straight es) (straight es) = true from by simp [sameG]]
        rintro e u3 ⟨rfl, hb⟩
        refine hK.out _ _ ?_ (fun hHeld2 => ?_)
        · (try dsimp only); first | exact Below.trans hHeld (Below.mono hb hHeld.size) | exact hHeld | exact Below.drew hHeld | exact (by repeat (first | exact Below.refl _ _ | assumption | refine Below.alloc ?_ (by simp <;> omega) _ | refine Below.setCell ?_ (by simp <;> omega) _ | refine Below.drew ?_))
        clear hK K hHeld
        have hHeld := hHeld2
        clear hHeld2
        (try simp only [Act.put, List.setIfInBounds_toArray, List.set_cons_zero, List.set_cons_succ])
        refine take_yield (i := 5) (v := ?_) rfl (by kernel_rfl) (by kernel_rfl) (by kernel_rfl) (fun _ _ _ h => h) (by rfl) ?_ hHeld ?_
        rotate_left 1
        · (intro w' hSw; clear hSw; go_simp; try with_reducible rfl)
        (try simp only [Act.put, List.setIfInBounds_toArray, List.set_cons_zero, List.set_cons_succ])
        refine wpAnyH_done (by kernel_rfl) ?_ _
        go_wp2_with fail
        go_ret
        exact ⟨rfl, lift HB.out hHeld⟩
end Od
end Go.Proofs.YtclaoffnfopekaaGreat
end
