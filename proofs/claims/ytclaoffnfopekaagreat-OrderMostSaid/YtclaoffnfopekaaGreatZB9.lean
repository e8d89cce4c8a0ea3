/- My texts, joined for the claim: RReach RReach2 GSplit GEqE RSplit. -/
import Derived.Test.YtclaoffnfopekaaGreatZB8
import Derived.Test.YtclaoffnfopekaaGreatZB3
import Derived.Test.YtclaoffnfopekaaGreatZB2
import Derived.Test.YtclaoffnfopekaaGreatRows
import Derived.Test.YtclaoffnfopekaaGreatZB0
import Derived.WalkKit
import Derived.Test.YtclaoffnfopekaaGreatZB5

section
/- The walks of matinsref15.reach, leads, Is and Behind. -/
namespace Go.Proofs.YtclaoffnfopekaaGreat
open Go.RowKit Go.Sort

namespace Od
theorem stepL_succ {l : List Pr} {a : Str} {S : List Str} {k : Nat} (hk : k < l.length) :
    stepL (l.take (k + 1)) a S = if l[k].1 = a ∨ l[k].1 ∈ stepL (l.take k) a S then insL ltS l[k].2 (stepL (l.take k) a S) else stepL (l.take k) a S := by
  unfold stepL; rw [List.take_succ_eq_append_getElem hk, List.foldl_append]; rfl
theorem stepL_ok {l : List Pr} {a : Str} {S : List Str} (h1 : SS ltS S) (h2 : ∀ b, b ∈ S → R l a b) (k : Nat) :
    SS ltS (stepL (l.take k) a S) ∧ (∀ b, b ∈ stepL (l.take k) a S → R l a b) ∧ S.length ≤ (stepL (l.take k) a S).length := by
  have h := step_fold l a (l.take k) S (fun p hp => List.mem_of_mem_take hp) h1 h2
  exact ⟨h.1, h.2.1, h.2.2.1⟩
theorem stepL_closed {l : List Pr} {a : Str} {S : List Str} (h1 : SS ltS S) (h2 : ∀ b, b ∈ S → R l a b) (h : ¬ S.length < (stepL l a S).length) : stepL l a S = S ∧ Closed l a S := by
  have h' := step_fold l a l S (fun p hp => hp) h1 h2
  exact h'.2.2.2 (by have := h'.2.2.1; unfold stepL at h; omega)
theorem any_eq_mem {s : Str} {l : List Str} : (l.any (· == s)) = decide (s ∈ l) := by
  rw [Bool.eq_iff_iff]; simp only [List.any_eq_true, beq_iff_eq, decide_eq_true_eq]; exact ⟨fun ⟨x, h, e⟩ => e ▸ h, fun h => ⟨s, h, rfl⟩⟩

set_option maxRecDepth 100000 in
set_option maxHeartbeats 4000000 in
theorem reach15_any (A : Option Addr) (c : Nat) (l : List Pr) (a : Str) (w : World) (hr : Rd w w.heap.size 2 A l.length (prsC l)) (hl : l.length ≤ 100000) :
    Calls Tryz.prog 39 #[.slice A l.length c, sv a] w (RdIs 1 (reachL l a).length (svs (reachL l a)) w) := by
  have Hr := Lib.hid hr
  clear hr
  go_enter Tryz.func39, Tryz.ntmps39
  go_wp2_with fail
  go_loopw [5, 6] (fun v g wr => ∃ (S : List Str) (A1 : Option Addr) (c1 : Nat) (b : Bool), v = .slice A1 S.length c1 ∧ g = .bool b ∧ S.length ≤ c1 ∧ Rd wr wr.heap.size 1 A1 S.length (svs S) ∧ SS ltS S ∧ (∀ s, s ∈ S → R l a s) ∧ (b = false → Closed l a S) ∧ Below w.heap.size w wr)
    (fun v g _ => match v, g with | .slice _ n _, .bool true => l.length + 1 - n | _, _ => 0)
  case atStart => exact ⟨[], none, 0, true, rfl, rfl, Nat.le_refl _, Rd.none_, List.Pairwise.nil, by simp, by simp, Below.refl _ _⟩
  case round =>
    obtain ⟨S, A1, c1, b, rfl, rfl, hc1, hra, hss, hre, hcl, hb⟩ := hrel
    obtain ⟨w1, rfl⟩ : ∃ wo : World, wo = wr := ⟨_, rfl⟩
    have HA := Lib.hid hra
    have HB := Lib.hid hb
    have HS := Lib.hid (And.intro hss (And.intro hre hcl))
    have hsl := reached_len hss hre
    clear hra hb hss hre hcl
    cases b
    · have heq : S = reachL l a := (Reached.of HS.out.1 HS.out.2.1 (HS.out.2.2 rfl)).eq
      subst heq
      go_wp2_with fail
      go_ret
      exact RdIs.of hc1 HA.out HB.out rfl rfl
    · go_wp2_with fail
      go_loopw [5, 6, 16] (fun v g i wr => ∃ (k : Nat) (A2 : Option Addr) (c2 : Nat), k ≤ l.length ∧ i = .int .i64 k ∧ v = .slice A2 (stepL (l.take k) a S).length c2 ∧ (stepL (l.take k) a S).length ≤ c2 ∧ Rd wr wr.heap.size 1 A2 (stepL (l.take k) a S).length (svs (stepL (l.take k) a S)) ∧
        g = .bool (decide (S.length < (stepL (l.take k) a S).length)) ∧ Below w1.heap.size w1 wr) (fun _ _ i _ => l.length - (intOf i).toNat)
      case atStart => exact ⟨0, A1, c1, Nat.zero_le _, rfl, rfl, hc1, HA.out, by simp [stepL], Below.refl _ _⟩
      case round =>
        obtain ⟨k, A2, c2, hk, rfl, rfl, hc2, hra, rfl, hb⟩ := hrel
        obtain ⟨w2, rfl⟩ : ∃ wo : World, wo = wr := ⟨_, rfl⟩
        have HT := stepL_ok HS.out.1 HS.out.2.1 k
        have htl := reached_len HT.1 HT.2.1
        have HTh := Lib.hid HT
        by_cases hlt : k < l.length
        · have hsu := @stepL_succ l a S k hlt
          generalize hT : stepL (l.take k) a S = T at *
          have HTe := Lib.hid hT
          obtain ⟨bl, o, rfl, hB, hc0, hc3⟩ := (Hr.out.at (HB.out.trans (hb.mono HB.out.size))).pair hlt
          generalize hx : l[k] = x at hc0 hc3 hsu
          obtain ⟨x, y⟩ := x
          have HA2 := Lib.hid hra
          have HB2 := Lib.hid hb
          have HSu := Lib.hid hsu
          simp only at hc0 hc3
          clear hra hb hx hsu hT HT
          go_wp2_with fail
          first | (refine wp_named ?_; intro W3 hW) | (refine calls_named ?_; intro W3 hW)
          have B3 : Below w2.heap.size w2 W3 := by rw [hW]; exact (by repeat (first | exact Below.refl _ _ | assumption | refine Below.alloc ?_ (by simp <;> omega) _ | refine Below.setCell ?_ (by simp <;> omega) _ | refine Below.drew ?_))
          replace HA2 := Lib.hid (HA2.out.at B3)
          replace HB2 := Lib.hid (HB2.out.trans (B3.mono HB2.out.size))
          have n3 : w2.heap.size < W3.heap.size := by rw [hW]; simp <;> omega
          have c30 : W3.cell? ⟨w2.heap.size, 0, none⟩ = some (sv x) := by rw [hW]; go_simp
          have c31 : W3.cell? ⟨w2.heap.size, 1, none⟩ = some (sv y) := by rw [hW]; go_simp
          clear hW
          clear B3
          go_loop [9, 10, 26] (fun ne th i => ∃ j : Nat, j ≤ T.length ∧ i = .int .i64 j ∧ ne = .bool ((x == a) || (T.take j).any (· == x)) ∧ th = .bool ((T.take j).any (· == y))) (fun _ _ i => T.length - (intOf i).toNat)
          case atStart => exact ⟨0, Nat.zero_le _, rfl, by simp, by simp⟩
          case round =>
            obtain ⟨j, hj, rfl, rfl, rfl⟩ := hrel
            by_cases hlt2 : j < T.length
            · obtain ⟨b2, o2, rfl, hB2, hs0⟩ := HA2.out.str hlt2
              have e1 := @any_take_succ Str (· == x) T j hlt2
              have e2 := @any_take_succ Str (· == y) T j hlt2
              generalize hs : T[j] = s at hs0 e1 e2
              have E1 := Lib.hid e1
              have E2 := Lib.hid e2
              clear hs e1 e2
              cases hn : ((x == a) || (T.take j).any (· == x)) <;> cases ht : (T.take j).any (· == y)
              all_goals
                have Hn := Lib.hid (And.intro hn ht)
                clear hn ht
                go_wp2_with fail
                go_round
                case rel =>
                  refine ⟨j + 1, by omega, by go_num, ?_, ?_⟩
                  · rw [E1.out, ← Bool.or_assoc, Hn.out.1]; simp
                  · rw [E2.out, Hn.out.2]; simp
                case measure => simp [intOf]; omega
            · have hjn : j = T.length := by omega
              subst hjn
              rw [List.take_length] at *
              have HM := HTh.out
              have hkk : ∀ v : World, True := fun _ => trivial
              clear hkk
              have hkeep : ¬ ((x = a ∨ x ∈ T) ∧ ¬ y ∈ T) → stepL (l.take (k + 1)) a S = T := fun h => by
                rw [HSu.out]
                by_cases h1 : x = a ∨ x ∈ T
                · rw [if_pos h1]; exact insL_of_mem toS HM.1 (Decidable.byContradiction fun h2 => h ⟨h1, h2⟩)
                · rw [if_neg h1]
              have hgrow : (x = a ∨ x ∈ T) ∧ ¬ y ∈ T → stepL (l.take (k + 1)) a S = insL ltS y T ∧ S.length < (insL ltS y T).length := fun h => by
                refine ⟨by rw [HSu.out, if_pos h.1], ?_⟩
                rw [insL_len toS HM.1 h.2]; have := HM.2.2; omega
              have HK := Lib.hid (And.intro hkeep hgrow)
              clear hkeep hgrow HM
              cases hn : ((x == a) || T.any (· == x))
              · have hno : ¬ ((x = a ∨ x ∈ T) ∧ ¬ y ∈ T) := fun h => by
                  rw [any_eq_mem, Bool.or_eq_false_iff] at hn
                  rcases h.1 with e | e
                  · rw [e] at hn; simp at hn
                  · simp [e] at hn
                have HNo := Lib.hid (HK.out.1 hno)
                clear hno
                have Hn := Lib.hid hn
                clear hn
                go_wp2_with fail
                go_roundw
                case rel => exact ⟨k + 1, A2, c2, by omega, by go_num, by rw [HNo.out], by rw [HNo.out]; exact hc2, by rw [HNo.out]; exact HA2.out, by rw [HNo.out], HB2.out⟩
                case measure => simp [intOf]; omega
              · cases ht : T.any (· == y)
                · have hyes : (x = a ∨ x ∈ T) ∧ ¬ y ∈ T := by
                    rw [any_eq_mem] at hn ht
                    exact ⟨by simpa using hn, by simpa using ht⟩
                  have HY := Lib.hid (HK.out.2 hyes)
                  have Hn := Lib.hid (And.intro hn ht)
                  clear hyes hn ht
                  go_wp2_with fail
                  refine (put15_any A2 c2 T y W3 HA2.out hc2 (by omega)).mono ?_
                  rintro e v ⟨A3, c3, rfl, hc3, hr3, hb⟩
                  have HA3 := Lib.hid hr3
                  replace c30 : v.cell? ⟨w2.heap.size, 0, none⟩ = some (sv x) := cellAt c30 hb (by omega)
                  replace c31 : v.cell? ⟨w2.heap.size, 1, none⟩ = some (sv y) := cellAt c31 hb (by omega)
                  replace HA2 := Lib.hid (HA2.out.at hb)
                  replace HB2 := Lib.hid (HB2.out.trans (hb.mono HB2.out.size))
                  replace n3 : w2.heap.size < v.heap.size := ltAt n3 hb
                  clear hr3 hb
                  go_wp2_with fail
                  go_roundw
                  case rel => exact ⟨k + 1, A3, c3, by omega, by go_num, by rw [HY.out.1], by rw [HY.out.1]; exact hc3, by rw [HY.out.1]; exact HA3.out, by rw [HY.out.1]; simp [HY.out.2], HB2.out⟩
                  case measure => simp [intOf]; omega
                · have hno : ¬ ((x = a ∨ x ∈ T) ∧ ¬ y ∈ T) := fun h => by
                    rw [any_eq_mem] at ht; simp [h.2] at ht
                  have HNo := Lib.hid (HK.out.1 hno)
                  have Hn := Lib.hid (And.intro hn ht)
                  clear hno hn ht
                  go_wp2_with fail
                  go_roundw
                  case rel => exact ⟨k + 1, A2, c2, by omega, by go_num, by rw [HNo.out], by rw [HNo.out]; exact hc2, by rw [HNo.out]; exact HA2.out, by rw [HNo.out], HB2.out⟩
                  case measure => simp [intOf]; omega
        · have hkn : k = l.length := by omega
          subst hkn
          rw [List.take_length] at *
          have HA2 := Lib.hid hra
          have HB2 := Lib.hid (HB.out.trans (hb.mono HB.out.size))
          clear hra hb
          have HT2 := HTh.out
          have HT3 := Lib.hid HT2
          cases hg : decide (S.length < (stepL l a S).length)
          · have hcl := stepL_closed HS.out.1 HS.out.2.1 (by simpa using hg)
            have HCl := Lib.hid hcl
            have Hg := Lib.hid hg
            clear hcl hg HT2
            go_wp2_with fail
            go_roundw
            case rel => exact ⟨stepL l a S, A2, c2, false, rfl, rfl, hc2, HA2.out, HT3.out.1, HT3.out.2.1, fun _ => by rw [HCl.out.1]; exact HCl.out.2, HB2.out⟩
            case measure => simp; omega
          · have hgl : S.length < (stepL l a S).length := by simpa using hg
            have Hg := Lib.hid hg
            clear hg HT2
            go_wp2_with fail
            go_roundw
            case rel => exact ⟨stepL l a S, A2, c2, true, rfl, rfl, hc2, HA2.out, HT3.out.1, HT3.out.2.1, (fun h => by cases h), HB2.out⟩
            case measure => simp; omega
end Od
end Go.Proofs.YtclaoffnfopekaaGreat
end

section
/- The walks of matinsref15.leads, Is and Behind. -/
namespace Go.Proofs.YtclaoffnfopekaaGreat
open Go.RowKit Go.Sort

namespace Od
set_option maxRecDepth 100000 in
set_option maxHeartbeats 1000000 in
theorem leads15_any (A : Option Addr) (c : Nat) (l : List Pr) (a b : Str) (w : World) (hr : Rd w w.heap.size 2 A l.length (prsC l)) (hl : l.length ≤ 100000) :
    Calls Tryz.prog 37 #[.slice A l.length c, sv a, sv b] w fun e w' => e = .returned (.bool (decide (b ∈ reachL l a))) ∧ Below w.heap.size w w' := by
  have Hr := Lib.hid hr
  clear hr
  rw [← any_eq_mem]
  go_enter Tryz.func37, Tryz.ntmps37
  go_wp2_with fail
  refine (reach15_any A c l a w Hr.out hl).mono ?_
  rintro e w1 ⟨A1, c1, rfl, hc1, hr1, hb⟩
  have HR := Lib.hid hr1
  have HB := Lib.hid hb
  have hln := reached_len (reachL_ok l a).1 (fun s hs => mem_reachL.1 hs)
  clear hr1 hb
  generalize hT : reachL l a = T at *
  have HT := Lib.hid hT
  clear hT
  go_wp2_with fail
  go_loop [13] (fun i => ∃ j : Nat, j ≤ T.length ∧ i = .int .i64 j ∧ Hid ((T.take j).any (· == b) = false)) (fun i => T.length - (intOf i).toNat)
  case atStart => exact ⟨0, Nat.zero_le _, rfl, by simp [Hid]⟩
  case round =>
    obtain ⟨j, hj, rfl, hall⟩ := hrel
    by_cases hlt : j < T.length
    · obtain ⟨bl, o, rfl, hB, hs0⟩ := HR.out.str hlt
      have e1 := @any_take_succ Str (· == b) T j hlt
      have e2 := @any_of_at Str (· == b) T j hlt
      generalize hs : T[j] = s at hs0 e1 e2
      have E1 := Lib.hid e1
      have E2 := Lib.hid e2
      clear hs e1 e2
      cases hsb : (s == b)
      · have Hsb := Lib.hid hsb
        go_wp2_with fail
        go_round
        case rel => exact ⟨j + 1, by omega, by go_num, by show _ = false; rw [E1.out, hall.out, Hsb.out]; rfl⟩
        case measure => simp [intOf]; omega
      · have Hsb := Lib.hid (E2.out hsb)
        go_wp2_with fail
        go_ret
        exact ⟨ret_bool (by rw [HT.out]; exact Hsb.out.symm), HB.out⟩
    · have hjn : j = T.length := by omega
      subst hjn
      go_wp2_with fail
      go_ret
      have h := hall.out
      rw [List.take_length] at h
      exact ⟨ret_bool (by rw [HT.out]; exact h.symm), HB.out⟩

theorem isB_any (es : List Ed) : isB es = !(prsL es).any (fun p => decide (p.1 ∈ reachL (prsL es) p.2) || p.1 == p.2) := by
  unfold isB
  congr 2
  funext p
  rw [Bool.or_comm]
set_option maxRecDepth 100000 in
set_option maxHeartbeats 1000000 in
theorem Is15_any (An Ae : Option Addr) (nn cn ce : Nat) (es : List Ed) (w : World) (hr : Rd w w.heap.size 3 Ae es.length (edsC es)) (hl : es.length ≤ 100000) :
    Calls Tryz.prog 15 #[gV An nn cn Ae es.length ce] w fun e w' => e = .returned (.bool (isB es)) ∧ Below w.heap.size w w' := by
  have Hr := Lib.hid hr
  clear hr
  have hpl := prsL_len es
  rw [isB_any]
  go_enter Tryz.func15, Tryz.ntmps15
  go_wp2_with fail
  first | (refine wp_named ?_; intro W1 hW) | (refine calls_named ?_; intro W1 hW)
  have B1 : Below w.heap.size w W1 := by rw [hW]; exact (by repeat (first | exact Below.refl _ _ | assumption | refine Below.alloc ?_ (by simp <;> omega) _ | refine Below.setCell ?_ (by simp <;> omega) _ | refine Below.drew ?_))
  replace Hr := Lib.hid (Hr.out.at B1)
  clear hW
  refine (pairs15_any An Ae nn cn ce es W1 Hr.out hl).mono ?_
  rintro e w2 ⟨A, c, rfl, hc, hrp, hfr, hb⟩
  have HP := Lib.hid hrp
  have HB := Lib.hid (lift B1 hb)
  clear hrp hb B1
  generalize hL : prsL es = l at *
  have HL := Lib.hid hL
  clear hL
  generalize hq : (fun p : Pr => decide (p.1 ∈ reachL l p.2) || p.1 == p.2) = q
  have HQ := Lib.hid hq
  clear hq
  go_wp2_with fail
  go_loopw [10] (fun i wr => ∃ j : Nat, j ≤ l.length ∧ i = .int .i64 j ∧ Hid ((l.take j).any q = false) ∧ Below w2.heap.size w2 wr) (fun i _ => l.length - (intOf i).toNat)
  case atStart => exact ⟨0, Nat.zero_le _, rfl, by simp [Hid], Below.refl _ _⟩
  case round =>
    obtain ⟨j, hj, rfl, hall, hb⟩ := hrel
    by_cases hlt : j < l.length
    · obtain ⟨bl, o, hA, hB, hc0, hc1⟩ := (HP.out.at hb).pair hlt
      have e1 := @any_take_succ Pr q l j hlt
      have e2 := @any_of_at Pr q l j hlt
      generalize hx : l[j] = p at hc0 hc1 e1 e2
      obtain ⟨x, y⟩ := p
      simp only at hc0 hc1
      have E1 := Lib.hid e1
      have E2 := Lib.hid e2
      have hqv : q (x, y) = (decide (x ∈ reachL l y) || x == y) := by rw [← HQ.out]
      have HQv := Lib.hid hqv
      have HPr := Lib.hid (HP.out.at hb)
      have HBr := Lib.hid (lift HB.out hb)
      have HB2 := Lib.hid hb
      clear hx e1 e2 hqv hb
      subst hA
      go_wp2_with fail
      first | (refine wp_named ?_; intro W3 hW) | (refine calls_named ?_; intro W3 hW)
      have B3 : Below wr.heap.size wr W3 := by rw [hW]; exact (by repeat (first | exact Below.refl _ _ | assumption | refine Below.alloc ?_ (by simp <;> omega) _ | refine Below.setCell ?_ (by simp <;> omega) _ | refine Below.drew ?_))
      replace HPr := Lib.hid (HPr.out.at B3)
      replace HBr := Lib.hid (lift HBr.out B3)
      replace HB2 := Lib.hid (HB2.out.trans (B3.mono HB2.out.size))
      have n3 : wr.heap.size < W3.heap.size := by rw [hW]; simp <;> omega
      have c30 : W3.cell? ⟨wr.heap.size, 0, none⟩ = some (sv x) := by rw [hW]; go_simp
      have c31 : W3.cell? ⟨wr.heap.size, 1, none⟩ = some (sv y) := by rw [hW]; go_simp
      clear hW
      refine (leads15_any _ c l y x W3 HPr.out (by omega)).mono ?_
      rintro e v ⟨rfl, hb⟩
      replace c30 : v.cell? ⟨wr.heap.size, 0, none⟩ = some (sv x) := cellAt c30 hb (by omega)
      replace c31 : v.cell? ⟨wr.heap.size, 1, none⟩ = some (sv y) := cellAt c31 hb (by omega)
      replace HPr := Lib.hid (HPr.out.at hb)
      replace HBr := Lib.hid (lift HBr.out hb)
      replace HB2 := Lib.hid (HB2.out.trans (hb.mono HB2.out.size))
      replace n3 : wr.heap.size < v.heap.size := ltAt n3 hb
      clear hb B3
      cases hd : decide (x ∈ reachL l y)
      · rw [hd, Bool.false_or] at HQv
        cases he : (x == y)
        · have HE := Lib.hid he
          go_wp2_with fail
          go_roundw
          case rel => exact ⟨j + 1, by omega, by go_num, by show _ = false; rw [E1.out, hall.out, HQv.out, HE.out]; rfl, HB2.out⟩
          case measure => simp [intOf]; omega
        · have HE := Lib.hid (E2.out (HQv.out.trans he))
          go_wp2_with fail
          go_ret
          exact ⟨ret_bool (by rw [HL.out, HQ.out, HE.out]; rfl), HBr.out⟩
      · rw [hd, Bool.true_or] at HQv
        have HE := Lib.hid (E2.out HQv.out)
        go_wp2_with fail
        go_ret
        exact ⟨ret_bool (by rw [HL.out, HQ.out, HE.out]; rfl), HBr.out⟩
    · have hjn : j = l.length := by omega
      subst hjn
      have HBr := Lib.hid (lift HB.out hb)
      clear hb
      go_wp2_with fail
      go_ret
      have h := hall.out
      rw [List.take_length] at h
      exact ⟨ret_bool (by rw [HL.out, HQ.out, h]; rfl), HBr.out⟩
set_option maxRecDepth 100000 in
set_option maxHeartbeats 1000000 in
theorem Behind15_any (An Ae : Option Addr) (nn cn ce : Nat) (es : List Ed) (a : Str) (w : World) (hr : Rd w w.heap.size 3 Ae es.length (edsC es)) (hl : es.length ≤ 100000) :
    Calls Tryz.prog 18 #[gV An nn cn Ae es.length ce, sv a] w (RdIs 1 (reachL (prsL es) a).length (svs (reachL (prsL es) a)) w) := by
  have Hr := Lib.hid hr
  clear hr
  have hpl := prsL_len es
  go_enter Tryz.func18, Tryz.ntmps18
  go_wp2_with fail
  first | (refine wp_named ?_; intro W1 hW) | (refine calls_named ?_; intro W1 hW)
  have B1 : Below w.heap.size w W1 := by rw [hW]; exact (by repeat (first | exact Below.refl _ _ | assumption | refine Below.alloc ?_ (by simp <;> omega) _ | refine Below.setCell ?_ (by simp <;> omega) _ | refine Below.drew ?_))
  replace Hr := Lib.hid (Hr.out.at B1)
  clear hW
  refine (pairs15_any An Ae nn cn ce es W1 Hr.out hl).mono ?_
  rintro e w2 ⟨A, c, rfl, hc, hrp, hfr, hb⟩
  have HP := Lib.hid hrp
  have HB := Lib.hid (lift B1 hb)
  clear hrp hb B1
  go_wp2_with fail
  refine (reach15_any A c (prsL es) a w2 HP.out (by omega)).mono ?_
  rintro e w3 ⟨A1, c1, rfl, hc1, hr1, hb⟩
  have HR := Lib.hid hr1
  have HB2 := Lib.hid (lift HB.out hb)
  clear hr1 hb
  go_wp2_with fail
  go_ret
  exact RdIs.of hc1 HR.out HB2.out rfl rfl
end Od
end Go.Proofs.YtclaoffnfopekaaGreat
end

section
/- What matinsref15.split gathers: the pairs that stay, and those that go. No program. -/
namespace Go.Proofs.YtclaoffnfopekaaGreat
open Go.RowKit
namespace Od

def splitStep (es : List Ed) (first : Bool) (st : List Pr × List Pr) (p : Pr) : List Pr × List Pr :=
  if needsB es p = first then (if keepB es first st.1 p = true then (st.1 ++ [p], st.2) else (st.1, st.2 ++ [p])) else st
def phase2 (es : List Ed) (first : Bool) (st : List Pr × List Pr) (l : List Pr) : List Pr × List Pr := l.foldl (splitStep es first) st
theorem splitStep_fst (es : List Ed) (first : Bool) (st : List Pr × List Pr) (p : Pr) : (splitStep es first st p).1 = if keepB es first st.1 p = true then st.1 ++ [p] else st.1 := by
  unfold splitStep
  by_cases h : needsB es p = first
  · rw [if_pos h]; split <;> rfl
  · rw [if_neg h, if_neg (fun hk => h (keepB_iff.1 hk).1)]
theorem phase2_fst (es : List Ed) (first : Bool) : ∀ (l : List Pr) (st : List Pr × List Pr), (phase2 es first st l).1 = phase es first st.1 l
  | [], _ => rfl
  | p :: l, st => by
    rw [phase_cons, ← splitStep_fst]
    exact phase2_fst es first l (splitStep es first st p)
theorem phase2_take {es : List Ed} {first : Bool} {st : List Pr × List Pr} {l : List Pr} {k : Nat} (hk : k < l.length) : phase2 es first st (l.take (k + 1)) = splitStep es first (phase2 es first st (l.take k)) l[k] := by
  unfold phase2; rw [List.take_succ_eq_append_getElem hk, List.foldl_append]; rfl
theorem phase_mono (es : List Ed) (first : Bool) : ∀ (l acc : List Pr) (p : Pr), p ∈ acc → p ∈ phase es first acc l
  | [], _, _, h => h
  | q :: l, acc, p, h => by
    rw [phase_cons]
    refine phase_mono es first l _ p ?_
    split
    · exact List.mem_append_left _ h
    · exact h
theorem phase_from (es : List Ed) (first : Bool) : ∀ (l acc : List Pr) (p : Pr), p ∈ phase es first acc l → p ∈ acc ∨ (p ∈ l ∧ needsB es p = first)
  | [], _, _, h => .inl h
  | q :: l, acc, p, h => by
    rw [phase_cons] at h
    rcases phase_from es first l _ p h with e | e
    · split at e
      · rename_i hk
        rcases List.mem_append.1 e with e | e
        · exact .inl e
        · rw [List.mem_singleton.1 e]; exact .inr ⟨.head _, (keepB_iff.1 hk).1⟩
      · exact .inl e
    · exact .inr ⟨.tail _ e.1, e.2⟩
theorem phase2_snd (es : List Ed) (first : Bool) : ∀ (l : List Pr) (st : List Pr × List Pr), l.Nodup → (∀ q, q ∈ l → needsB es q = first → q ∉ st.1 ∧ q ∉ st.2) →
    ∀ p, p ∈ (phase2 es first st l).2 ↔ p ∈ st.2 ∨ (p ∈ l ∧ needsB es p = first ∧ p ∉ (phase2 es first st l).1)
  | [], st, _, _, p => by simp [phase2]
  | q :: l, st, hnd, hd, p => by
    obtain ⟨hq, hnd'⟩ := List.nodup_cons.1 hnd
    have ih := phase2_snd es first l (splitStep es first st q) hnd'
    show p ∈ (phase2 es first (splitStep es first st q) l).2 ↔ p ∈ st.2 ∨ (p ∈ q :: l ∧ needsB es p = first ∧ p ∉ (phase2 es first (splitStep es first st q) l).1)
    by_cases hn : needsB es q = first
    · by_cases hk : keepB es first st.1 q = true
      · have hs : splitStep es first st q = (st.1 ++ [q], st.2) := by simp [splitStep, hn, hk]
        rw [ih (fun r hr hrn => by rw [hs]; exact ⟨fun h => (List.mem_append.1 h).elim (hd r (.tail _ hr) hrn).1 (fun h => hq (List.mem_singleton.1 h ▸ hr)), (hd r (.tail _ hr) hrn).2⟩) p, hs]
        have hqin : q ∈ (phase2 es first (st.1 ++ [q], st.2) l).1 := by rw [phase2_fst]; exact phase_mono _ _ _ _ _ (by simp)
        constructor
        · rintro (h | ⟨h1, h2⟩)
          · exact .inl h
          · exact .inr ⟨.tail _ h1, h2⟩
        · rintro (h | ⟨h1, h2, h3⟩)
          · exact .inl h
          · rcases List.mem_cons.1 h1 with e | e
            · exact absurd (e ▸ hqin) h3
            · exact .inr ⟨e, h2, h3⟩
      · have hs : splitStep es first st q = (st.1, st.2 ++ [q]) := by simp [splitStep, hn, hk]
        rw [ih (fun r hr hrn => by rw [hs]; exact ⟨(hd r (.tail _ hr) hrn).1, fun h => (List.mem_append.1 h).elim (hd r (.tail _ hr) hrn).2 (fun h => hq (List.mem_singleton.1 h ▸ hr))⟩) p, hs]
        have hqout : q ∉ (phase2 es first (st.1, st.2 ++ [q]) l).1 := by
          rw [phase2_fst]
          intro h
          rcases phase_from _ _ _ _ _ h with e | e
          · exact (hd q (.head _) hn).1 e
          · exact hq e.1
        simp only [List.mem_append, List.mem_cons, List.not_mem_nil, or_false]
        constructor
        · rintro ((h | h) | ⟨h1, h2⟩)
          · exact .inl h
          · exact .inr ⟨.inl h, h ▸ hn, h ▸ hqout⟩
          · exact .inr ⟨.inr h1, h2⟩
        · rintro (h | ⟨h1, h2, h3⟩)
          · exact .inl (.inl h)
          · rcases h1 with e | e
            · exact .inl (.inr e)
            · exact .inr ⟨e, h2, h3⟩
    · have hs : splitStep es first st q = st := by simp [splitStep, hn]
      rw [ih (fun r hr hrn => by rw [hs]; exact hd r (.tail _ hr) hrn) p, hs]
      constructor
      · rintro (h | ⟨h1, h2⟩)
        · exact .inl h
        · exact .inr ⟨.tail _ h1, h2⟩
      · rintro (h | ⟨h1, h2, h3⟩)
        · exact .inl h
        · rcases List.mem_cons.1 h1 with e | e
          · exact absurd (e ▸ h2) hn
          · exact .inr ⟨e, h2, h3⟩
theorem SS.nodup_p {l : List Pr} (h : SS ltP l) : l.Nodup := h.imp fun {a b} hab e => by subst e; rw [toP.irrefl] at hab; cases hab
def splitL (es : List Ed) : Nat → List Pr × List Pr
  | 0 => ([], [])
  | 1 => phase2 es true ([], []) (prsL es)
  | _ => phase2 es false (phase2 es true ([], []) (prsL es)) (prsL es)
theorem splitL_fst (es : List Ed) : (splitL es 2).1 = keptL es := by
  show (phase2 es false (phase2 es true ([], []) (prsL es)) (prsL es)).1 = _
  rw [phase2_fst, phase2_fst]; rfl
theorem splitL_gone (es : List Ed) (p : Pr) : p ∈ (splitL es 2).2 ↔ p ∈ prsL es ∧ p ∉ keptL es := by
  have hnd := SS.nodup_p (prsL_ss es)
  have h1 := phase2_snd es true (prsL es) ([], []) hnd (by simp) p
  have hK1 : ∀ q, q ∈ (phase2 es true ([], []) (prsL es)).1 → needsB es q = true := fun q hq => by
    rw [phase2_fst] at hq
    rcases phase_from _ _ _ _ _ hq with e | e
    · simp at e
    · exact e.2
  have h2 := phase2_snd es false (prsL es) (phase2 es true ([], []) (prsL es)) hnd (fun q hq hn => ⟨(fun h => by rw [hK1 q h] at hn; cases hn), fun h => by
    rcases (phase2_snd es true (prsL es) ([], []) hnd (by simp) q).1 h with e | e
    · simp at e
    · rw [e.2.1] at hn; cases hn⟩) p
  rw [← splitL_fst]
  show p ∈ (phase2 es false (phase2 es true ([], []) (prsL es)) (prsL es)).2 ↔ p ∈ prsL es ∧ p ∉ (phase2 es false (phase2 es true ([], []) (prsL es)) (prsL es)).1
  rw [h2, h1]
  have hK2 : needsB es p = true → (p ∈ (phase2 es false (phase2 es true ([], []) (prsL es)) (prsL es)).1 ↔ p ∈ (phase2 es true ([], []) (prsL es)).1) := fun hn => by
    rw [phase2_fst es false]
    constructor
    · intro h
      rcases phase_from _ _ _ _ _ h with e | e
      · exact e
      · rw [hn] at e; cases e.2
    · exact phase_mono _ _ _ _ _
  cases hn : needsB es p
  · simp
  · rw [hK2 hn]; simp
/-- Does an edge go, as the reference asks? -/
def goesBy (G : List Pr) (e : Ed) : Bool := G.any (fun p => e == (p.2, p.1, (8 : Int)) || e == (p.1, p.2, (7 : Int)))
theorem goesBy_iff {es : List Ed} {e : Ed} (he : e ∈ es) : goesBy (splitL es 2).2 e = !stays es e := by
  rw [Bool.eq_iff_iff]
  unfold goesBy stays
  rw [List.any_eq_true]
  constructor
  · rintro ⟨p, hp, h⟩
    have hg := (splitL_gone es p).1 hp
    have hpe : pairE e = some p := by
      simp only [Bool.or_eq_true, beq_iff_eq] at h
      rcases h with h | h <;> simp [h, pairE]
    rw [hpe]
    simpa using hg.2
  · intro h
    cases hpe : pairE e with
    | none => rw [hpe] at h; simp at h
    | some p =>
      rw [hpe] at h
      refine ⟨p, (splitL_gone es p).2 ⟨mem_prsL.2 ⟨e, he, hpe⟩, by simpa using h⟩, ?_⟩
      obtain ⟨s, d, r⟩ := e
      unfold pairE at hpe
      by_cases h8 : r = 8
      · simp only [h8, if_true, Option.some.injEq] at hpe
        simp [← hpe, h8]
      · by_cases h7 : r = 7
        · simp [h7] at hpe
          simp [← hpe, h7]
        · simp [h8, h7] at hpe
theorem split_len (es : List Ed) (first : Bool) : ∀ (l : List Pr) (st : List Pr × List Pr), (phase2 es first st l).1.length + (phase2 es first st l).2.length ≤ st.1.length + st.2.length + l.length
  | [], st => Nat.le_refl _
  | p :: l, st => by
    have h := split_len es first l (splitStep es first st p)
    have h2 : (splitStep es first st p).1.length + (splitStep es first st p).2.length ≤ st.1.length + st.2.length + 1 := by
      unfold splitStep; split
      · split <;> simp <;> omega
      · omega
    show (phase2 es first (splitStep es first st p) l).1.length + (phase2 es first (splitStep es first st p) l).2.length ≤ _
    simp only [List.length_cons]
    omega
end Od
end Go.Proofs.YtclaoffnfopekaaGreat
end

section
/- '==' of two edges, as one answer. -/
namespace Go.Proofs.YtclaoffnfopekaaGreat
open Go.RowKit
namespace Od
def edEq (a b : Ed) : Bool := a == b
theorem edEq_iff {a b : Ed} : edEq a b = (a == b) := rfl
set_option maxRecDepth 100000 in
theorem ed_eq (s d s' d' : Str) (r r' : Int) (w : World) : (Op.equalIn 10000 34 (.agg #[sv s, sv d, .int .i64 r]) (.agg #[sv s', sv d', .int .i64 r'])).run Tryz.prog w = .ok (edEq (s, d, r) (s', d', r')) w := by
  show (Op.equalIn (9999 + 1) _ _ _).run _ w = _
  go_simp
  unfold edEq
  by_cases h1 : s = s' <;> by_cases h2 : d = d' <;> by_cases h3 : r = r' <;> simp [h1, h2, h3]
theorem ed_eql (s d s' d' : Str) (r r' : Int) (w : World) : (binOp .eql 34 (.agg #[sv s, sv d, .int .i64 r]) (.agg #[sv s', sv d', .int .i64 r'])).run Tryz.prog w = .ok (.bool (edEq (s, d, r) (s', d', r'))) w := by
  rw [run_eql_struct, ed_eq]; rfl
theorem ed_neq (s d s' d' : Str) (r r' : Int) (w : World) : (binOp .neq 34 (.agg #[sv s, sv d, .int .i64 r]) (.agg #[sv s', sv d', .int .i64 r'])).run Tryz.prog w = .ok (.bool (!edEq (s, d, r) (s', d', r'))) w := by
  rw [run_neq_struct, ed_eq]; rfl
end Od
end Go.Proofs.YtclaoffnfopekaaGreat
end

section
/- The walks of matinsref15.split, Straight, Round. -/
namespace Go.Proofs.YtclaoffnfopekaaGreat
open Go.RowKit Go.Sort

namespace Od
theorem prsC_app (l : List Pr) (p : Pr) : prsC (l ++ [p]) = prsC l ++ prC p := by simp [prsC]
theorem hasE_any {es : List Ed} {a b : Str} {r : Int} : es.any (· == (a, b, r)) = hasE es a b r := rfl
theorem splitL_succ (es : List Ed) (i : Nat) (hi : i < 2) : phase2 es (decide (i = 0)) (splitL es i) (prsL es) = splitL es (i + 1) := by
  rcases (show i = 0 ∨ i = 1 by omega) with rfl | rfl <;> rfl
theorem splitL_len (es : List Ed) (i : Nat) (hi : i ≤ 2) : (splitL es i).1.length + (splitL es i).2.length ≤ 2 * (prsL es).length := by
  have h1 := split_len es true (prsL es) ([], [])
  have h2 := split_len es false (prsL es) (phase2 es true ([], []) (prsL es))
  simp only [List.length_nil, Nat.zero_add] at h1
  rcases (show i = 0 ∨ i = 1 ∨ i = 2 by omega) with rfl | rfl | rfl
  · simp [splitL]
  · show (phase2 es true ([], []) (prsL es)).1.length + _ ≤ _; simp only [splitL]; omega
  · simp only [splitL]; omega
set_option maxRecDepth 100000 in
set_option maxHeartbeats 8000000 in
theorem split15_any (An Ae : Option Addr) (nn cn ce : Nat) (es : List Ed) (w : World) (hr : Rd w w.heap.size 3 Ae es.length (edsC es)) (hl : es.length ≤ 30000) :
    Calls Tryz.prog 41 #[gV An nn cn Ae es.length ce] w (PartIs es w) := by
  obtain ⟨i0, hi, hz0, hz1, hz2⟩ := info_parts inP2
  obtain ⟨j0, hj, hy0, hy1, hy2⟩ := info_parts inE
  have Hr := Lib.hid hr
  have hpl := prsL_len es
  clear hr
  go_enter Tryz.func41, Tryz.ntmps41
  go_wp2_with fail
  first | (refine wp_named ?_; intro W1 hW) | (refine calls_named ?_; intro W1 hW)
  have B1 : Below w.heap.size w W1 := by rw [hW]; exact (by repeat (first | exact Below.refl _ _ | assumption | refine Below.alloc ?_ (by simp <;> omega) _ | refine Below.setCell ?_ (by simp <;> omega) _ | refine Below.drew ?_))
  replace Hr := Lib.hid (Hr.out.at B1)
  have n1 : w.heap.size < W1.heap.size := by rw [hW]; simp <;> omega
  have c10 : W1.cell? ⟨w.heap.size, 0, none⟩ = some (.slice An nn cn) := by rw [hW]; go_simp
  have c11 : W1.cell? ⟨w.heap.size, 1, none⟩ = some (.slice Ae es.length ce) := by rw [hW]; go_simp
  clear hW
  have HB1 := Lib.hid B1
  clear B1
  go_loopw [4, 5, 6] (fun v4 v5 i wr => ∃ k : Nat, k ≤ 2 ∧ i = .int .i64 k ∧ wr.ownsRow W1.heap.size 61 2 v4 (splitL es k).1.length (prsC (splitL es k).1) ∧ wr.ownsRow W1.heap.size 61 2 v5 (splitL es k).2.length (prsC (splitL es k).2) ∧ Sep v4 v5 ∧ Below W1.heap.size W1 wr) (fun _ _ i _ => 2 - (intOf i).toNat)
  case atStart => exact ⟨0, by omega, rfl, World.ownsRow_nil _ _ _ _, World.ownsRow_nil _ _ _ _, .inl rfl, Below.refl _ _⟩
  case round =>
    obtain ⟨k, hk, rfl, ho4, ho5, hsep, hb⟩ := hrel
    obtain ⟨w1, rfl⟩ : ∃ wo : World, wo = wr := ⟨_, rfl⟩
    have hsl := splitL_len es k hk
    by_cases hlt : k < 2
    · have hdk : decide ((k : Int) < 2) = true := by simp; omega
      have H4 := Lib.hid ho4
      have H5 := Lib.hid ho5
      have HS := Lib.hid hsep
      have HB := Lib.hid hb
      have hw1 : W1.heap.size ≤ w1.heap.size := hb.size
      have Hr1 := Lib.hid (Hr.out.at hb)
      have d10 := cellAt c10 hb n1
      have d11 := cellAt c11 hb n1
      have m1 := ltAt n1 hb
      clear ho4 ho5 hsep hb
      have hfs := splitL_succ es k hlt
      generalize hfi : decide (k = 0) = first at hfs
      have hf0 : ((k : Int) == 0) = first := by rw [← hfi, Bool.eq_iff_iff, beq_iff_eq, decide_eq_true_eq]; omega
      have HFs := Lib.hid hfs
      clear hfs hfi
      have HF0 := Lib.hid hf0
      clear hf0
      generalize hst : splitL es k = st at *
      have HSt := Lib.hid hst
      clear hst
      obtain ⟨A4, c4, h4v, _⟩ := own_rd H4.out
      obtain ⟨A5, c5, h5v, _⟩ := own_rd H5.out
      subst h4v h5v
      go_wp2_with fail
      refine (pairs15_any An Ae nn cn ce es w1 Hr1.out (by omega)).mono ?_
      rintro e w2 ⟨A, c, rfl, hc, hrp, hfr, hb⟩
      have HP := Lib.hid hrp
      have HOf := Lib.hid (And.intro (OffA.fresh hfr H4.out (Nat.le_refl _)) (OffA.fresh hfr H5.out (Nat.le_refl _)))
      replace d10 : w2.cell? ⟨w.heap.size, 0, none⟩ = some (.slice An nn cn) := cellAt d10 hb (by omega)
      replace d11 : w2.cell? ⟨w.heap.size, 1, none⟩ = some (.slice Ae es.length ce) := cellAt d11 hb (by omega)
      replace m1 : w.heap.size < w2.heap.size := ltAt m1 hb
      replace hw1 : W1.heap.size ≤ w2.heap.size := leAt hw1 hb
      replace Hr1 := Lib.hid (Hr1.out.at hb)
      replace H4 := Lib.hid (own_on H4.out hb)
      replace H5 := Lib.hid (own_on H5.out hb)
      replace HB := Lib.hid (HB.out.trans (hb.mono HB.out.size))
      clear hrp hfr hb
      go_wp2_with fail
      go_loopw [4, 5, 24] (fun v4 v5 i wr => ∃ j : Nat, j ≤ (prsL es).length ∧ i = .int .i64 j ∧ wr.ownsRow W1.heap.size 61 2 v4 (phase2 es first st ((prsL es).take j)).1.length (prsC (phase2 es first st ((prsL es).take j)).1) ∧ wr.ownsRow W1.heap.size 61 2 v5 (phase2 es first st ((prsL es).take j)).2.length (prsC (phase2 es first st ((prsL es).take j)).2) ∧ Sep v4 v5 ∧ Below W1.heap.size W1 wr ∧
        Rd wr wr.heap.size 2 A (prsL es).length (prsC (prsL es)) ∧ OffA A (prsL es).length v4 ∧ OffA A (prsL es).length v5) (fun _ _ i _ => (prsL es).length - (intOf i).toNat)
      case atStart => exact ⟨0, Nat.zero_le _, rfl, H4.out, H5.out, HS.out, HB.out, HP.out, HOf.out.1, HOf.out.2⟩
      case round =>
        obtain ⟨j, hj, rfl, ho4, ho5, hsep, hb, hrp, hof4, hof5⟩ := hrel
        obtain ⟨w3, rfl⟩ : ∃ wo : World, wo = wr := ⟨_, rfl⟩
        obtain ⟨A4, c4, h4v, _⟩ := own_rd ho4
        obtain ⟨A5, c5, h5v, _⟩ := own_rd ho5
        subst h4v h5v
        have hsl2 := split_len es first ((prsL es).take j) st
        rw [List.length_take] at hsl2
        by_cases hlt2 : j < (prsL es).length
        · have hs2 := @phase2_take es first st (prsL es) j hlt2
          generalize hs2g : phase2 es first st ((prsL es).take j) = s2 at *
          have hpair := hrp.pair hlt2
          generalize hx : (prsL es)[j] = p at hpair hs2
          obtain ⟨x, y⟩ := p
          obtain ⟨bl, o, hA, hB, hc0, hc3⟩ := hpair
          simp only at hc0 hc3
          have hw3 : W1.heap.size ≤ w3.heap.size := hb.size
          have e10 := cellAt c10 hb n1
          have e11 := cellAt c11 hb n1
          have m3 := ltAt n1 hb
          have Hr3 := Lib.hid (Hr.out.at hb)
          have H4 := Lib.hid ho4
          have H5 := Lib.hid ho5
          have HS := Lib.hid hsep
          have HB := Lib.hid hb
          have HP := Lib.hid hrp
          have HOf := Lib.hid (And.intro hof4 hof5)
          have HS2 := Lib.hid hs2
          clear ho4 ho5 hsep hb hrp hof4 hof5 hs2 hs2g hx
          have h463 : s2.1.length + 1 ≤ maxLen := by unfold maxLen; omega
          have h4by : (s2.1.length + 1) * 32 ≤ 140737488355328 := by omega
          have h563 : s2.2.length + 1 ≤ maxLen := by unfold maxLen; omega
          have h5by : (s2.2.length + 1) * 32 ≤ 140737488355328 := by omega
          have h4l : s2.1.length ≤ 100000 := by omega
          subst hA
          go_wp2_with fail
          first | (refine wp_named ?_; intro W4 hW) | (refine calls_named ?_; intro W4 hW)
          have B4 : Below w3.heap.size w3 W4 := by rw [hW]; exact (by repeat (first | exact Below.refl _ _ | assumption | refine Below.alloc ?_ (by simp <;> omega) _ | refine Below.setCell ?_ (by simp <;> omega) _ | refine Below.drew ?_))
          replace e10 : W4.cell? ⟨w.heap.size, 0, none⟩ = some (.slice An nn cn) := cellAt e10 B4 (by omega)
          replace e11 : W4.cell? ⟨w.heap.size, 1, none⟩ = some (.slice Ae es.length ce) := cellAt e11 B4 (by omega)
          replace m3 : w.heap.size < W4.heap.size := ltAt m3 B4
          replace hw3 : W1.heap.size ≤ W4.heap.size := leAt hw3 B4
          replace Hr3 := Lib.hid (Hr3.out.at B4)
          replace H4 := Lib.hid (own_on H4.out B4)
          replace H5 := Lib.hid (own_on H5.out B4)
          replace HB := Lib.hid (HB.out.trans (B4.mono HB.out.size))
          replace HP := Lib.hid (HP.out.at B4)
          have m4 : w3.heap.size < W4.heap.size := by rw [hW]; simp <;> omega
          have x0 : W4.cell? ⟨w3.heap.size, 0, none⟩ = some (sv x) := by rw [hW]; go_simp
          have x1 : W4.cell? ⟨w3.heap.size, 1, none⟩ = some (sv y) := by rw [hW]; go_simp
          clear hW
          clear B4
          refine (Has_any An Ae nn cn ce es y x 1 W4 Hr3.out (by omega)).mono ?_
          rintro e v1 ⟨rfl, hb⟩
          replace e10 : v1.cell? ⟨w.heap.size, 0, none⟩ = some (.slice An nn cn) := cellAt e10 hb (by omega)
          replace e11 : v1.cell? ⟨w.heap.size, 1, none⟩ = some (.slice Ae es.length ce) := cellAt e11 hb (by omega)
          replace x0 : v1.cell? ⟨w3.heap.size, 0, none⟩ = some (sv x) := cellAt x0 hb (by omega)
          replace x1 : v1.cell? ⟨w3.heap.size, 1, none⟩ = some (sv y) := cellAt x1 hb (by omega)
          replace m3 : w.heap.size < v1.heap.size := ltAt m3 hb
          replace hw3 : W1.heap.size ≤ v1.heap.size := leAt hw3 hb
          replace Hr3 := Lib.hid (Hr3.out.at hb)
          replace H4 := Lib.hid (own_on H4.out hb)
          replace H5 := Lib.hid (own_on H5.out hb)
          replace HB := Lib.hid (HB.out.trans (hb.mono HB.out.size))
          replace HP := Lib.hid (HP.out.at hb)
          replace m4 : w3.heap.size < v1.heap.size := ltAt m4 hb
          clear hb
          rw [hasE_any]
          cases h1 : hasE es y x 1
          · go_wp2_with fail
            refine (Has_any An Ae nn cn ce es y x 4 v1 Hr3.out (by omega)).mono ?_
            rintro e v2 ⟨rfl, hb⟩
            replace e10 : v2.cell? ⟨w.heap.size, 0, none⟩ = some (.slice An nn cn) := cellAt e10 hb (by omega)
            replace e11 : v2.cell? ⟨w.heap.size, 1, none⟩ = some (.slice Ae es.length ce) := cellAt e11 hb (by omega)
            replace x0 : v2.cell? ⟨w3.heap.size, 0, none⟩ = some (sv x) := cellAt x0 hb (by omega)
            replace x1 : v2.cell? ⟨w3.heap.size, 1, none⟩ = some (sv y) := cellAt x1 hb (by omega)
            replace m3 : w.heap.size < v2.heap.size := ltAt m3 hb
            replace hw3 : W1.heap.size ≤ v2.heap.size := leAt hw3 hb
            replace Hr3 := Lib.hid (Hr3.out.at hb)
            replace H4 := Lib.hid (own_on H4.out hb)
            replace H5 := Lib.hid (own_on H5.out hb)
            replace HB := Lib.hid (HB.out.trans (hb.mono HB.out.size))
            replace HP := Lib.hid (HP.out.at hb)
            replace m4 : w3.heap.size < v2.heap.size := ltAt m4 hb
            clear hb
            rw [hasE_any]
            cases h2 : hasE es y x 4
            · have HN := Lib.hid (show needsB es (x, y) = false by simp [needsB, h1, h2])
              clear h1 h2
              cases hft : first
              · have hf0 := HF0.out
                rw [hft] at hf0
                have HFt := Lib.hid hft
                clear hft
                cases hxy : (x == y)
                · have hne : x ≠ y := by simpa using hxy
                  go_wp2_with fail
                  refine (leads15_any A4 c4 s2.1 y x v2 (own_rd' H4.out) h4l).mono ?_
                  rintro e w5 ⟨rfl, hb⟩
                  replace e10 : w5.cell? ⟨w.heap.size, 0, none⟩ = some (.slice An nn cn) := cellAt e10 hb (by omega)
                  replace e11 : w5.cell? ⟨w.heap.size, 1, none⟩ = some (.slice Ae es.length ce) := cellAt e11 hb (by omega)
                  replace x0 : w5.cell? ⟨w3.heap.size, 0, none⟩ = some (sv x) := cellAt x0 hb (by omega)
                  replace x1 : w5.cell? ⟨w3.heap.size, 1, none⟩ = some (sv y) := cellAt x1 hb (by omega)
                  replace m3 : w.heap.size < w5.heap.size := ltAt m3 hb
                  replace hw3 : W1.heap.size ≤ w5.heap.size := leAt hw3 hb
                  replace Hr3 := Lib.hid (Hr3.out.at hb)
                  replace H4 := Lib.hid (own_on H4.out hb)
                  replace H5 := Lib.hid (own_on H5.out hb)
                  replace HB := Lib.hid (HB.out.trans (hb.mono HB.out.size))
                  replace HP := Lib.hid (HP.out.at hb)
                  replace m4 : w3.heap.size < w5.heap.size := ltAt m4 hb
                  clear hb
                  cases hd : decide (x ∈ reachL s2.1 y)
                  · have hkb : keepB es first s2.1 (x, y) = true := by rw [keepB_iff]; exact ⟨HN.out.trans HFt.out.symm, hne, fun h => by have := mem_reachL.2 h; simp [this] at hd⟩
                    have HKb := Lib.hid hkb
                    clear hkb hne
                    have hss : phase2 es first st ((prsL es).take (j + 1)) = (s2.1 ++ [(x, y)], s2.2) := by rw [HS2.out, splitStep, if_pos (HN.out.trans HFt.out.symm), if_pos HKb.out]
                    have HSS := Lib.hid hss
                    clear hss
                    go_wp2_with (first | (at_builtin; refine wpList_pushm W1 w5 (by rfl) (.tmp 63) (.tmp 65) 59 (by rfl) W1.heap.size 61 i0 _ 2 32 Tryz.underlying59 hi hz0 hz1 hz2 rfl (by decide) _ _ _ (by rfl) H4.out (prC (x, y)) w5.heap.size rfl (by rfl) rfl (one_prC _) h463 h4by hw3 HB.out ?_; intro A6 c6 w6 hown6 hbel6 hg6 hat6) | fail)
                    go_roundw
                    case rel =>
                      refine ⟨j + 1, by omega, by go_num, ?_, ?_, ?_, hbel6, HP.out.kept HOf.out.1 hg6, HOf.out.1.push HP.out hat6, HOf.out.2⟩
                      · rw [HSS.out]; simp only [List.length_append, List.length_cons, List.length_nil, prsC_app]; exact hown6
                      · rw [HSS.out]; exact HS.out.kept H5.out hg6
                      · exact HS.out.push H5.out hat6
                    case measure => simp [intOf]; omega
                  · have hkb : ¬ keepB es first s2.1 (x, y) = true := by rw [keepB_iff]; exact fun h => h.2.2 (mem_reachL.1 (by simpa using hd))
                    have HKb := Lib.hid hkb
                    clear hkb hne
                    have hss : phase2 es first st ((prsL es).take (j + 1)) = (s2.1, s2.2 ++ [(x, y)]) := by rw [HS2.out, splitStep, if_pos (HN.out.trans HFt.out.symm), if_neg HKb.out]
                    have HSS := Lib.hid hss
                    clear hss
                    go_wp2_with (first | (at_builtin; refine wpList_pushm W1 w5 (by rfl) (.tmp 59) (.tmp 61) 59 (by rfl) W1.heap.size 61 i0 _ 2 32 Tryz.underlying59 hi hz0 hz1 hz2 rfl (by decide) _ _ _ (by rfl) H5.out (prC (x, y)) w5.heap.size rfl (by rfl) rfl (one_prC _) h563 h5by hw3 HB.out ?_; intro A6 c6 w6 hown6 hbel6 hg6 hat6) | fail)
                    go_roundw
                    case rel =>
                      refine ⟨j + 1, by omega, by go_num, ?_, ?_, ?_, hbel6, HP.out.kept HOf.out.2 hg6, HOf.out.1, HOf.out.2.push HP.out hat6⟩
                      · rw [HSS.out]; exact HS.out.symm.kept H4.out hg6
                      · rw [HSS.out]; simp only [List.length_append, List.length_cons, List.length_nil, prsC_app]; exact hown6
                      · exact (HS.out.symm.push H4.out hat6).symm
                    case measure => simp [intOf]; omega
                · have hkb : ¬ keepB es first s2.1 (x, y) = true := by rw [keepB_iff]; exact fun h => h.2.1 (by simpa using hxy)
                  have HKb := Lib.hid hkb
                  clear hkb
                  have hss : phase2 es first st ((prsL es).take (j + 1)) = (s2.1, s2.2 ++ [(x, y)]) := by rw [HS2.out, splitStep, if_pos (HN.out.trans HFt.out.symm), if_neg HKb.out]
                  have HSS := Lib.hid hss
                  clear hss
                  go_wp2_with (first | (at_builtin; refine wpList_pushm W1 v2 (by rfl) (.tmp 59) (.tmp 61) 59 (by rfl) W1.heap.size 61 i0 _ 2 32 Tryz.underlying59 hi hz0 hz1 hz2 rfl (by decide) _ _ _ (by rfl) H5.out (prC (x, y)) v2.heap.size rfl (by rfl) rfl (one_prC _) h563 h5by hw3 HB.out ?_; intro A6 c6 w6 hown6 hbel6 hg6 hat6) | fail)
                  go_roundw
                  case rel =>
                    refine ⟨j + 1, by omega, by go_num, ?_, ?_, ?_, hbel6, HP.out.kept HOf.out.2 hg6, HOf.out.1, HOf.out.2.push HP.out hat6⟩
                    · rw [HSS.out]; exact HS.out.symm.kept H4.out hg6
                    · rw [HSS.out]; simp only [List.length_append, List.length_cons, List.length_nil, prsC_app]; exact hown6
                    · exact (HS.out.symm.push H4.out hat6).symm
                  case measure => simp [intOf]; omega
              · have hf0 := HF0.out
                rw [hft] at hf0
                have HFt := Lib.hid hft
                clear hft
                have hss : phase2 es first st ((prsL es).take (j + 1)) = s2 := by rw [HS2.out, splitStep, if_neg]; rw [HN.out, HFt.out]; decide
                have HSS := Lib.hid hss
                clear hss
                go_wp2_with fail
                go_roundw
                case rel => exact ⟨j + 1, by omega, by go_num, by rw [HSS.out]; exact H4.out, by rw [HSS.out]; exact H5.out, HS.out, HB.out, HP.out, HOf.out.1, HOf.out.2⟩
                case measure => simp [intOf]; omega
            · have HN := Lib.hid (show needsB es (x, y) = true by simp [needsB, h1, h2])
              clear h1 h2
              cases hft : first
              · have hf0 := HF0.out
                rw [hft] at hf0
                have HFt := Lib.hid hft
                clear hft
                have hss : phase2 es first st ((prsL es).take (j + 1)) = s2 := by rw [HS2.out, splitStep, if_neg]; rw [HN.out, HFt.out]; decide
                have HSS := Lib.hid hss
                clear hss
                go_wp2_with fail
                go_roundw
                case rel => exact ⟨j + 1, by omega, by go_num, by rw [HSS.out]; exact H4.out, by rw [HSS.out]; exact H5.out, HS.out, HB.out, HP.out, HOf.out.1, HOf.out.2⟩
                case measure => simp [intOf]; omega
              · have hf0 := HF0.out
                rw [hft] at hf0
                have HFt := Lib.hid hft
                clear hft
                cases hxy : (x == y)
                · have hne : x ≠ y := by simpa using hxy
                  go_wp2_with fail
                  refine (leads15_any A4 c4 s2.1 y x v2 (own_rd' H4.out) h4l).mono ?_
                  rintro e w5 ⟨rfl, hb⟩
                  replace e10 : w5.cell? ⟨w.heap.size, 0, none⟩ = some (.slice An nn cn) := cellAt e10 hb (by omega)
                  replace e11 : w5.cell? ⟨w.heap.size, 1, none⟩ = some (.slice Ae es.length ce) := cellAt e11 hb (by omega)
                  replace x0 : w5.cell? ⟨w3.heap.size, 0, none⟩ = some (sv x) := cellAt x0 hb (by omega)
                  replace x1 : w5.cell? ⟨w3.heap.size, 1, none⟩ = some (sv y) := cellAt x1 hb (by omega)
                  replace m3 : w.heap.size < w5.heap.size := ltAt m3 hb
                  replace hw3 : W1.heap.size ≤ w5.heap.size := leAt hw3 hb
                  replace Hr3 := Lib.hid (Hr3.out.at hb)
                  replace H4 := Lib.hid (own_on H4.out hb)
                  replace H5 := Lib.hid (own_on H5.out hb)
                  replace HB := Lib.hid (HB.out.trans (hb.mono HB.out.size))
                  replace HP := Lib.hid (HP.out.at hb)
                  replace m4 : w3.heap.size < w5.heap.size := ltAt m4 hb
                  clear hb
                  cases hd : decide (x ∈ reachL s2.1 y)
                  · have hkb : keepB es first s2.1 (x, y) = true := by rw [keepB_iff]; exact ⟨HN.out.trans HFt.out.symm, hne, fun h => by have := mem_reachL.2 h; simp [this] at hd⟩
                    have HKb := Lib.hid hkb
                    clear hkb hne
                    have hss : phase2 es first st ((prsL es).take (j + 1)) = (s2.1 ++ [(x, y)], s2.2) := by rw [HS2.out, splitStep, if_pos (HN.out.trans HFt.out.symm), if_pos HKb.out]
                    have HSS := Lib.hid hss
                    clear hss
                    go_wp2_with (first | (at_builtin; refine wpList_pushm W1 w5 (by rfl) (.tmp 63) (.tmp 65) 59 (by rfl) W1.heap.size 61 i0 _ 2 32 Tryz.underlying59 hi hz0 hz1 hz2 rfl (by decide) _ _ _ (by rfl) H4.out (prC (x, y)) w5.heap.size rfl (by rfl) rfl (one_prC _) h463 h4by hw3 HB.out ?_; intro A6 c6 w6 hown6 hbel6 hg6 hat6) | fail)
                    go_roundw
                    case rel =>
                      refine ⟨j + 1, by omega, by go_num, ?_, ?_, ?_, hbel6, HP.out.kept HOf.out.1 hg6, HOf.out.1.push HP.out hat6, HOf.out.2⟩
                      · rw [HSS.out]; simp only [List.length_append, List.length_cons, List.length_nil, prsC_app]; exact hown6
                      · rw [HSS.out]; exact HS.out.kept H5.out hg6
                      · exact HS.out.push H5.out hat6
                    case measure => simp [intOf]; omega
                  · have hkb : ¬ keepB es first s2.1 (x, y) = true := by rw [keepB_iff]; exact fun h => h.2.2 (mem_reachL.1 (by simpa using hd))
                    have HKb := Lib.hid hkb
                    clear hkb hne
                    have hss : phase2 es first st ((prsL es).take (j + 1)) = (s2.1, s2.2 ++ [(x, y)]) := by rw [HS2.out, splitStep, if_pos (HN.out.trans HFt.out.symm), if_neg HKb.out]
                    have HSS := Lib.hid hss
                    clear hss
                    go_wp2_with (first | (at_builtin; refine wpList_pushm W1 w5 (by rfl) (.tmp 59) (.tmp 61) 59 (by rfl) W1.heap.size 61 i0 _ 2 32 Tryz.underlying59 hi hz0 hz1 hz2 rfl (by decide) _ _ _ (by rfl) H5.out (prC (x, y)) w5.heap.size rfl (by rfl) rfl (one_prC _) h563 h5by hw3 HB.out ?_; intro A6 c6 w6 hown6 hbel6 hg6 hat6) | fail)
                    go_roundw
                    case rel =>
                      refine ⟨j + 1, by omega, by go_num, ?_, ?_, ?_, hbel6, HP.out.kept HOf.out.2 hg6, HOf.out.1, HOf.out.2.push HP.out hat6⟩
                      · rw [HSS.out]; exact HS.out.symm.kept H4.out hg6
                      · rw [HSS.out]; simp only [List.length_append, List.length_cons, List.length_nil, prsC_app]; exact hown6
                      · exact (HS.out.symm.push H4.out hat6).symm
                    case measure => simp [intOf]; omega
                · have hkb : ¬ keepB es first s2.1 (x, y) = true := by rw [keepB_iff]; exact fun h => h.2.1 (by simpa using hxy)
                  have HKb := Lib.hid hkb
                  clear hkb
                  have hss : phase2 es first st ((prsL es).take (j + 1)) = (s2.1, s2.2 ++ [(x, y)]) := by rw [HS2.out, splitStep, if_pos (HN.out.trans HFt.out.symm), if_neg HKb.out]
                  have HSS := Lib.hid hss
                  clear hss
                  go_wp2_with (first | (at_builtin; refine wpList_pushm W1 v2 (by rfl) (.tmp 59) (.tmp 61) 59 (by rfl) W1.heap.size 61 i0 _ 2 32 Tryz.underlying59 hi hz0 hz1 hz2 rfl (by decide) _ _ _ (by rfl) H5.out (prC (x, y)) v2.heap.size rfl (by rfl) rfl (one_prC _) h563 h5by hw3 HB.out ?_; intro A6 c6 w6 hown6 hbel6 hg6 hat6) | fail)
                  go_roundw
                  case rel =>
                    refine ⟨j + 1, by omega, by go_num, ?_, ?_, ?_, hbel6, HP.out.kept HOf.out.2 hg6, HOf.out.1, HOf.out.2.push HP.out hat6⟩
                    · rw [HSS.out]; exact HS.out.symm.kept H4.out hg6
                    · rw [HSS.out]; simp only [List.length_append, List.length_cons, List.length_nil, prsC_app]; exact hown6
                    · exact (HS.out.symm.push H4.out hat6).symm
                  case measure => simp [intOf]; omega
          · have HN := Lib.hid (show needsB es (x, y) = true by simp [needsB, h1])
            clear h1
            cases hft : first
            · have hf0 := HF0.out
              rw [hft] at hf0
              have HFt := Lib.hid hft
              clear hft
              have hss : phase2 es first st ((prsL es).take (j + 1)) = s2 := by rw [HS2.out, splitStep, if_neg]; rw [HN.out, HFt.out]; decide
              have HSS := Lib.hid hss
              clear hss
              go_wp2_with fail
              go_roundw
              case rel => exact ⟨j + 1, by omega, by go_num, by rw [HSS.out]; exact H4.out, by rw [HSS.out]; exact H5.out, HS.out, HB.out, HP.out, HOf.out.1, HOf.out.2⟩
              case measure => simp [intOf]; omega
            · have hf0 := HF0.out
              rw [hft] at hf0
              have HFt := Lib.hid hft
              clear hft
              cases hxy : (x == y)
              · have hne : x ≠ y := by simpa using hxy
                go_wp2_with fail
                refine (leads15_any A4 c4 s2.1 y x v1 (own_rd' H4.out) h4l).mono ?_
                rintro e w5 ⟨rfl, hb⟩
                replace e10 : w5.cell? ⟨w.heap.size, 0, none⟩ = some (.slice An nn cn) := cellAt e10 hb (by omega)
                replace e11 : w5.cell? ⟨w.heap.size, 1, none⟩ = some (.slice Ae es.length ce) := cellAt e11 hb (by omega)
                replace x0 : w5.cell? ⟨w3.heap.size, 0, none⟩ = some (sv x) := cellAt x0 hb (by omega)
                replace x1 : w5.cell? ⟨w3.heap.size, 1, none⟩ = some (sv y) := cellAt x1 hb (by omega)
                replace m3 : w.heap.size < w5.heap.size := ltAt m3 hb
                replace hw3 : W1.heap.size ≤ w5.heap.size := leAt hw3 hb
                replace Hr3 := Lib.hid (Hr3.out.at hb)
                replace H4 := Lib.hid (own_on H4.out hb)
                replace H5 := Lib.hid (own_on H5.out hb)
                replace HB := Lib.hid (HB.out.trans (hb.mono HB.out.size))
                replace HP := Lib.hid (HP.out.at hb)
                replace m4 : w3.heap.size < w5.heap.size := ltAt m4 hb
                clear hb
                cases hd : decide (x ∈ reachL s2.1 y)
                · have hkb : keepB es first s2.1 (x, y) = true := by rw [keepB_iff]; exact ⟨HN.out.trans HFt.out.symm, hne, fun h => by have := mem_reachL.2 h; simp [this] at hd⟩
                  have HKb := Lib.hid hkb
                  clear hkb hne
                  have hss : phase2 es first st ((prsL es).take (j + 1)) = (s2.1 ++ [(x, y)], s2.2) := by rw [HS2.out, splitStep, if_pos (HN.out.trans HFt.out.symm), if_pos HKb.out]
                  have HSS := Lib.hid hss
                  clear hss
                  go_wp2_with (first | (at_builtin; refine wpList_pushm W1 w5 (by rfl) (.tmp 63) (.tmp 65) 59 (by rfl) W1.heap.size 61 i0 _ 2 32 Tryz.underlying59 hi hz0 hz1 hz2 rfl (by decide) _ _ _ (by rfl) H4.out (prC (x, y)) w5.heap.size rfl (by rfl) rfl (one_prC _) h463 h4by hw3 HB.out ?_; intro A6 c6 w6 hown6 hbel6 hg6 hat6) | fail)
                  go_roundw
                  case rel =>
                    refine ⟨j + 1, by omega, by go_num, ?_, ?_, ?_, hbel6, HP.out.kept HOf.out.1 hg6, HOf.out.1.push HP.out hat6, HOf.out.2⟩
                    · rw [HSS.out]; simp only [List.length_append, List.length_cons, List.length_nil, prsC_app]; exact hown6
                    · rw [HSS.out]; exact HS.out.kept H5.out hg6
                    · exact HS.out.push H5.out hat6
                  case measure => simp [intOf]; omega
                · have hkb : ¬ keepB es first s2.1 (x, y) = true := by rw [keepB_iff]; exact fun h => h.2.2 (mem_reachL.1 (by simpa using hd))
                  have HKb := Lib.hid hkb
                  clear hkb hne
                  have hss : phase2 es first st ((prsL es).take (j + 1)) = (s2.1, s2.2 ++ [(x, y)]) := by rw [HS2.out, splitStep, if_pos (HN.out.trans HFt.out.symm), if_neg HKb.out]
                  have HSS := Lib.hid hss
                  clear hss
                  go_wp2_with (first | (at_builtin; refine wpList_pushm W1 w5 (by rfl) (.tmp 59) (.tmp 61) 59 (by rfl) W1.heap.size 61 i0 _ 2 32 Tryz.underlying59 hi hz0 hz1 hz2 rfl (by decide) _ _ _ (by rfl) H5.out (prC (x, y)) w5.heap.size rfl (by rfl) rfl (one_prC _) h563 h5by hw3 HB.out ?_; intro A6 c6 w6 hown6 hbel6 hg6 hat6) | fail)
                  go_roundw
                  case rel =>
                    refine ⟨j + 1, by omega, by go_num, ?_, ?_, ?_, hbel6, HP.out.kept HOf.out.2 hg6, HOf.out.1, HOf.out.2.push HP.out hat6⟩
                    · rw [HSS.out]; exact HS.out.symm.kept H4.out hg6
                    · rw [HSS.out]; simp only [List.length_append, List.length_cons, List.length_nil, prsC_app]; exact hown6
                    · exact (HS.out.symm.push H4.out hat6).symm
                  case measure => simp [intOf]; omega
              · have hkb : ¬ keepB es first s2.1 (x, y) = true := by rw [keepB_iff]; exact fun h => h.2.1 (by simpa using hxy)
                have HKb := Lib.hid hkb
                clear hkb
                have hss : phase2 es first st ((prsL es).take (j + 1)) = (s2.1, s2.2 ++ [(x, y)]) := by rw [HS2.out, splitStep, if_pos (HN.out.trans HFt.out.symm), if_neg HKb.out]
                have HSS := Lib.hid hss
                clear hss
                go_wp2_with (first | (at_builtin; refine wpList_pushm W1 v1 (by rfl) (.tmp 59) (.tmp 61) 59 (by rfl) W1.heap.size 61 i0 _ 2 32 Tryz.underlying59 hi hz0 hz1 hz2 rfl (by decide) _ _ _ (by rfl) H5.out (prC (x, y)) v1.heap.size rfl (by rfl) rfl (one_prC _) h563 h5by hw3 HB.out ?_; intro A6 c6 w6 hown6 hbel6 hg6 hat6) | fail)
                go_roundw
                case rel =>
                  refine ⟨j + 1, by omega, by go_num, ?_, ?_, ?_, hbel6, HP.out.kept HOf.out.2 hg6, HOf.out.1, HOf.out.2.push HP.out hat6⟩
                  · rw [HSS.out]; exact HS.out.symm.kept H4.out hg6
                  · rw [HSS.out]; simp only [List.length_append, List.length_cons, List.length_nil, prsC_app]; exact hown6
                  · exact (HS.out.symm.push H4.out hat6).symm
                case measure => simp [intOf]; omega
        · have hjn : j = (prsL es).length := by omega
          subst hjn
          have H4 := Lib.hid ho4
          have H5 := Lib.hid ho5
          have HS := Lib.hid hsep
          have HB := Lib.hid hb
          clear ho4 ho5 hsep hb
          go_wp2_with fail
          go_roundw
          case rel =>
            refine ⟨k + 1, by omega, by go_num, ?_, ?_, HS.out, HB.out⟩
            · rw [← HFs.out]; have h := H4.out; rw [List.take_length] at h ⊢; exact h
            · rw [← HFs.out]; have h := H5.out; rw [List.take_length] at h ⊢; exact h
          case measure => simp [intOf]; omega
    · have hk2 : k = 2 := by omega
      have hdk : decide ((k : Int) < 2) = false := by simp; omega
      obtain ⟨w5, rfl⟩ : ∃ wo : World, wo = w1 := ⟨_, rfl⟩
      generalize hst0 : splitL es k = st at *
      have hst1 : splitL es 2 = st := by rw [← hst0, hk2]
      have HST := Lib.hid hst1
      clear hk2 hst0 hst1
      obtain ⟨A5, c5, h5v, _⟩ := own_rd ho5
      subst h5v
      have HG := Lib.hid (own_rd' ho5)
      have HB := Lib.hid (lift HB1.out hb)
      have e11 := cellAt c11 hb n1
      have m5 := ltAt n1 hb
      have Hr5 := Lib.hid (Hr.out.at hb)
      have hgo := fun e he => @goesBy_iff es e he
      rw [HST.out] at hgo
      have hGl : st.2.length ≤ 2 * (prsL es).length := by omega
      generalize st.2 = G at *
      have HGo := Lib.hid hgo
      clear hgo ho4 ho5 hsep hb hsl
      go_wp2_with fail
      go_loopw [10, 11, 71] (fun v10 v11 i wr => ∃ j : Nat, j ≤ es.length ∧ i = .int .i64 j ∧ wr.ownsRow w5.heap.size 34 3 v10 ((es.take j).filter (stays es)).length (edsC ((es.take j).filter (stays es))) ∧
        wr.ownsRow w5.heap.size 34 3 v11 ((es.take j).filter (fun e => !stays es e)).length (edsC ((es.take j).filter (fun e => !stays es e))) ∧ Sep v10 v11 ∧ Below w5.heap.size w5 wr) (fun _ _ i _ => es.length - (intOf i).toNat)
      case atStart => exact ⟨0, Nat.zero_le _, rfl, by simpa [edsC] using World.ownsRow_nil _ _ _ _, by simpa [edsC] using World.ownsRow_nil _ _ _ _, .inl rfl, Below.refl _ _⟩
      case round =>
        obtain ⟨j, hj5, rfl, ho10, ho11, hsep, hb⟩ := hrel
        obtain ⟨w6, rfl⟩ : ∃ wo : World, wo = wr := ⟨_, rfl⟩
        obtain ⟨A10, c10', h10, _⟩ := own_rd ho10
        obtain ⟨A11, c11', h11, _⟩ := own_rd ho11
        subst h10 h11
        have hl5 := List.length_filter_le (stays es) (es.take j)
        have hl6 := List.length_filter_le (fun e => !stays es e) (es.take j)
        have htk : (es.take j).length ≤ es.length := by rw [List.length_take]; omega
        by_cases hlt5 : j < es.length
        · obtain ⟨b, o, rfl, hB, hc0, hc1, hc2⟩ := (Hr5.out.at hb).edge hlt5
          have hgoj := HGo.out es[j] (List.getElem_mem hlt5)
          have hf5 := @filter_take_succ Ed (stays es) es j hlt5
          have hf6 := @filter_take_succ Ed (fun e => !stays es e) es j hlt5
          generalize hx : es[j] = e at hc0 hc1 hc2 hf5 hf6 hgoj
          obtain ⟨s, d, r⟩ := e
          have H10 := Lib.hid ho10
          have H11 := Lib.hid ho11
          have HS := Lib.hid hsep
          have HB6 := Lib.hid hb
          have HGr := Lib.hid (HG.out.at hb)
          have HF5 := Lib.hid hf5
          have HF6 := Lib.hid hf6
          have HGj := Lib.hid hgoj
          have hz6 := hb.size
          generalize hL5 : (es.take j).filter (stays es) = L5 at *
          generalize hL6 : (es.take j).filter (fun e => !stays es e) = L6 at *
          have HL := Lib.hid (And.intro hL5 hL6)
          have h563 : L5.length + 1 ≤ maxLen := by unfold maxLen; omega
          have h5by : (L5.length + 1) * 40 ≤ 140737488355328 := by omega
          have h663 : L6.length + 1 ≤ maxLen := by unfold maxLen; omega
          have h6by : (L6.length + 1) * 40 ≤ 140737488355328 := by omega
          clear hx ho10 ho11 hsep hb hf5 hf6 hL5 hL6 hgoj
          simp only at hc0 hc1 hc2
          go_wp2_with fail
          first | (refine wp_named ?_; intro W7 hW) | (refine calls_named ?_; intro W7 hW)
          have B7 : Below w6.heap.size w6 W7 := by rw [hW]; exact (by repeat (first | exact Below.refl _ _ | assumption | refine Below.alloc ?_ (by simp <;> omega) _ | refine Below.setCell ?_ (by simp <;> omega) _ | refine Below.drew ?_))
          replace hz6 : w5.heap.size ≤ W7.heap.size := leAt hz6 B7
          replace H10 := Lib.hid (own_on H10.out B7)
          replace H11 := Lib.hid (own_on H11.out B7)
          replace HGr := Lib.hid (HGr.out.at B7)
          replace HB6 := Lib.hid (HB6.out.trans (B7.mono HB6.out.size))
          have n7 : w6.heap.size < W7.heap.size := by rw [hW]; simp <;> omega
          have c70 : W7.cell? ⟨w6.heap.size, 0, none⟩ = some (sv s) := by rw [hW]; go_simp
          have c71 : W7.cell? ⟨w6.heap.size, 1, none⟩ = some (sv d) := by rw [hW]; go_simp
          have c72 : W7.cell? ⟨w6.heap.size, 2, none⟩ = some (.int .i64 r) := by rw [hW]; go_simp
          clear hW
          clear B7
          go_loopw [14, 77] (fun v i wr => ∃ k : Nat, k ≤ G.length ∧ i = .int .i64 k ∧ v = .bool (goesBy (G.take k) (s, d, r)) ∧ Below W7.heap.size W7 wr) (fun _ i _ => G.length - (intOf i).toNat)
          case atStart => exact ⟨0, Nat.zero_le _, rfl, rfl, Below.refl _ _⟩
          case round =>
            obtain ⟨k, hk, rfl, rfl, hb⟩ := hrel
            replace c70 : wr.cell? ⟨w6.heap.size, 0, none⟩ = some (sv s) := cellAt c70 hb (by omega)
            replace c71 : wr.cell? ⟨w6.heap.size, 1, none⟩ = some (sv d) := cellAt c71 hb (by omega)
            replace c72 : wr.cell? ⟨w6.heap.size, 2, none⟩ = some (.int .i64 r) := cellAt c72 hb (by omega)
            replace hz6 : w5.heap.size ≤ wr.heap.size := leAt hz6 hb
            replace H10 := Lib.hid (own_on H10.out hb)
            replace H11 := Lib.hid (own_on H11.out hb)
            replace HGr := Lib.hid (HGr.out.at hb)
            replace HB6 := Lib.hid (HB6.out.trans (hb.mono HB6.out.size))
            replace n7 : w6.heap.size < wr.heap.size := ltAt n7 hb
            by_cases hltk : k < G.length
            · have hg1 : goesBy (G.take (k + 1)) (s, d, r) = (goesBy (G.take k) (s, d, r) || ((s, d, r) == (G[k].2, G[k].1, (8 : Int)) || (s, d, r) == (G[k].1, G[k].2, (7 : Int)))) := by
                unfold goesBy; rw [List.take_succ_eq_append_getElem hltk, List.any_append]; simp
              obtain ⟨b2, o2, hA2, hB2, hq0, hq1⟩ := HGr.out.pair hltk
              generalize G[k] = q at hq0 hq1 hg1
              obtain ⟨x, y⟩ := q
              simp only at hq0 hq1 hg1
              have HG1 := Lib.hid hg1
              have HB7 := Lib.hid hb
              clear hg1 hb
              subst hA2
              cases hgk : goesBy (G.take k) (s, d, r)
              · have HGk := Lib.hid hgk
                clear hgk
                have hq8 := ed_eql
                cases hy1 : edEq (s, d, r) (y, x, (8 : Int))
                · have HY1 := Lib.hid hy1
                  go_wp2_with fail
                  go_roundw
                  case rel => exact ⟨k + 1, by omega, by go_num, by rw [HG1.out, HGk.out, ← edEq_iff, ← edEq_iff, HY1.out]; rfl, HB7.out.alloc HB7.out.size _⟩
                  case measure => simp [intOf]; omega
                · have HY1 := Lib.hid hy1
                  go_wp2_with fail
                  go_roundw
                  case rel => exact ⟨k + 1, by omega, by go_num, by rw [HG1.out, HGk.out, ← edEq_iff, ← edEq_iff, HY1.out]; rfl, HB7.out.alloc HB7.out.size _⟩
                  case measure => simp [intOf]; omega
              · have HGk := Lib.hid hgk
                clear hgk
                go_wp2_with fail
                go_roundw
                case rel => exact ⟨k + 1, by omega, by go_num, by rw [HG1.out, HGk.out]; rfl, HB7.out.alloc HB7.out.size _⟩
                case measure => simp [intOf]; omega
            · have hkG : k = G.length := by omega
              subst hkG
              rw [List.take_length, HGj.out]
              obtain ⟨w8, rfl⟩ : ∃ wo : World, wo = wr := ⟨_, rfl⟩
              clear hb
              cases hst : stays es (s, d, r)
              · have Hst := Lib.hid hst
                clear hst
                go_wp2_with (first | (at_builtin; refine wpList_pushm w5 w8 (by rfl) (.tmp 102) (.tmp 104) 23 (by rfl) w5.heap.size 34 j0 _ 3 40 Tryz.underlying23 hj hy0 hy1 hy2 rfl (by decide) _ _ _ (by rfl) H11.out (edC (s, d, r)) w8.heap.size rfl (by rfl) rfl (one_edC _) h663 h6by hz6 HB6.out ?_; intro A1 c1 w9 hown9 hbel9 hg9 hat9) | fail)
                go_roundw
                case rel =>
                  have e5 := HF5.out
                  have e6 := HF6.out
                  rw [Hst.out] at e5 e6
                  simp only [Bool.not_false, if_true, Bool.false_eq_true, if_false, List.append_nil] at e5 e6
                  refine ⟨j + 1, by omega, by go_num, ?_, ?_, ?_, hbel9⟩
                  · rw [e5]; exact HS.out.symm.kept H10.out hg9
                  · rw [e6, List.length_append, edsC_app]; exact hown9
                  · exact (HS.out.symm.push H10.out hat9).symm
                case measure => simp [intOf]; omega
              · have Hst := Lib.hid hst
                clear hst
                go_wp2_with (first | (at_builtin; refine wpList_pushm w5 w8 (by rfl) (.tmp 106) (.tmp 108) 23 (by rfl) w5.heap.size 34 j0 _ 3 40 Tryz.underlying23 hj hy0 hy1 hy2 rfl (by decide) _ _ _ (by rfl) H10.out (edC (s, d, r)) w8.heap.size rfl (by rfl) rfl (one_edC _) h563 h5by hz6 HB6.out ?_; intro A1 c1 w9 hown9 hbel9 hg9 hat9) | fail)
                go_roundw
                case rel =>
                  have e5 := HF5.out
                  have e6 := HF6.out
                  rw [Hst.out] at e5 e6
                  simp only [if_true, Bool.not_true, Bool.false_eq_true, if_false, List.append_nil] at e5 e6
                  refine ⟨j + 1, by omega, by go_num, ?_, ?_, ?_, hbel9⟩
                  · rw [e5, List.length_append, edsC_app]; exact hown9
                  · rw [e6]; exact HS.out.kept H11.out hg9
                  · exact HS.out.push H11.out hat9
                case measure => simp [intOf]; omega
        · have hjn : j = es.length := by omega
          subst hjn
          simp only [List.take_length] at ho10 ho11
          have H10 := Lib.hid ho10
          have H11 := Lib.hid ho11
          have HBf := Lib.hid (lift HB.out hb)
          have hzz := HB.out.size
          clear ho10 ho11 hb hl5 hl6
          go_wp2_with fail
          go_ret2
          rw [List.take_length]
          exact ⟨A10, c10', A11, c11', rfl, (own_cap H10.out).1, (own_cap H11.out).1, own_rd' H10.out, own_rd' H11.out, (own_fresh H10.out).low hzz, (own_fresh H11.out).low hzz, HBf.out⟩
end Od
end Go.Proofs.YtclaoffnfopekaaGreat
end
