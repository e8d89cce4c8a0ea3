/- The walk of the law LimitNever. -/
import Derived.Test.YtdcbapheoagelaaLimNever
namespace Go.Proofs.Ytdcbapheoagelaa
open Go.RowKit

namespace Lm
set_option maxHeartbeats 4000000 in
theorem never_any (A : Option Addr) (c : Nat) (xs : List Int) (every burst : Int) (keep : Bool) (w : World) (hr : Rd w w.heap.size 1 A xs.length (ints xs)) :
    Calls Try.prog 8 #[.slice A xs.length c, .int .i64 every, .int .i64 burst, .bool keep] w fun e w' => e = .returned (.bool true) ∧ Below w.heap.size w w' := by
  obtain ⟨i0, hi, hz0, hz1, hz2⟩ := info_parts Try.info3
  have Hr := Lib.hid hr
  clear hr
  by_cases hl : 80 < xs.length
  · go_enter Try.func8, Try.ntmps8
    go_wp2_with ((go_at_call 15; refine (shown_any _).mono ?_; rintro e w1 ⟨rfl, hb1⟩))
    go_ret
    exact ⟨rfl, hb1⟩
  cases hsp : spanB every
  · go_enter Try.func8, Try.ntmps8
    go_wp2_with (first | (go_at_call 15; refine (shown_any _).mono ?_; rintro e w1 ⟨rfl, hb1⟩) | (go_at_call 24; refine (refSpan_any _ _).mono ?_; rintro e w' ⟨rfl, rfl⟩))
    go_ret
    exact ⟨rfl, hb1⟩
  by_cases he0 : every = 0
  · subst he0
    go_enter Try.func8, Try.ntmps8
    go_wp2_with (first | (go_at_call 15; refine (shown_any _).mono ?_; rintro e w1 ⟨rfl, hb1⟩) | (go_at_call 24; refine (refSpan_any _ _).mono ?_; rintro e w' ⟨rfl, rfl⟩))
    go_ret
    exact ⟨rfl, hb1⟩
  have he1 := (spanB_iff every).1 hsp
  have he2 : 0 < every := by omega
  have he3 : every ≤ 1099511627776 := by omega
  have he4 : (every == 0) = false := by simp [he0]
  clear he0 he1
  go_enter Try.func8, Try.ntmps8
  go_wp2_with (first | (go_at_call 15; refine (shown_any _).mono ?_; rintro e w1 ⟨rfl, hb1⟩) | (go_at_call 24; refine (refSpan_any _ _).mono ?_; rintro e w' ⟨rfl, rfl⟩))
  have Hb1 := Lib.hid hb1
  clear hb1 hsp
  go_loopw [9, 10, 11, 35] (fun v v' l i wr => ∃ (k : Nat) (L M : List Int) (last : Int), k ≤ xs.length ∧ i = .int .i64 k ∧ l = .int .i64 last ∧ L.length ≤ k ∧ M.length ≤ k ∧ wr.ownsRow w.heap.size 3 1 v L.length (ints L) ∧ wr.ownsRow w.heap.size 3 1 v' M.length (ints M) ∧ Sep v v' ∧ Hid (NInv L M last every burst) ∧ Below w.heap.size w wr)
    (fun _ _ _ i _ => xs.length - (intOf i).toNat)
  case atStart => exact ⟨0, [], [], 0, Nat.zero_le _, rfl, rfl, Nat.le_refl _, Nat.le_refl _, World.ownsRow_nil _ _ _ _, World.ownsRow_nil _ _ _ _, .inl rfl, NInv.start _ _, Hb1.out⟩
  case round =>
    obtain ⟨k, L, M, last, hk, rfl, rfl, hL, hM, hown, hown', hsep, hinv, hbel⟩ := hrel
    by_cases hlt : k < xs.length
    · obtain ⟨b, o, rfl, hB, hc⟩ := (Hr.out.on (Nat.le_refl _) hbel).open (by omega)
      have hcell : wr.cell? ⟨b, o + k, none⟩ = some (.int .i64 xs[k]) := by rw [hc k (by omega), ints_at hlt]
      obtain ⟨A1, c1, rfl, hr1⟩ := own_rd hown
      have Hr1 := Lib.hid hr1
      have Hown := Lib.hid hown
      have Hown' := Lib.hid hown'
      have Hsep := Lib.hid hsep
      have Hbel := Lib.hid hbel
      have hsz := hbel.size
      clear hc hr1 hown hown' hsep hbel
      by_cases hskip : xs[k] < last ∨ 6311433600 ≤ xs[k]
      · rcases (show xs[k] < last ∨ (¬ xs[k] < last ∧ 6311433600 ≤ xs[k]) from by omega) with h1 | ⟨h1, h2⟩
        all_goals
          clear hskip
          go_wp2_with fail
          go_roundw
          case rel => exact ⟨k + 1, L, M, last, by omega, by go_num, rfl, by omega, by omega, Hown.out, Hown'.out, Hsep.out, hinv, Hbel.out⟩
          case measure => simp [intOf]; omega
      · have h1 : ¬ xs[k] < last := by omega
        have h2 : ¬ 6311433600 ≤ xs[k] := by omega
        have hb8 : L.length * 8 ≤ 140737488351232 := by omega
        have hle : last ≤ xs[k] := by omega
        clear hskip
        cases hm : mayB L xs[k] every burst
        · have Hm := Lib.hid hm
          go_wp2_with ((go_at_call 21; refine (may_any A1 c1 L _ _ _ _ Hr1.out hb8).mono ?_; rintro e w3 ⟨rfl, hb3⟩))
          go_roundw
          case rel => exact ⟨k + 1, L, M, xs[k], by omega, by go_num, rfl, by omega, by omega, own_on Hown.out hb3, own_on Hown'.out hb3, Hsep.out, hinv.out.later hle, Hbel.out.trans (hb3.mono hsz)⟩
          case measure => simp [intOf]; omega
        · have Hm := Lib.hid hm
          have hst := hinv.out.step hle (by omega) hm
          have Hst := Lib.hid hst
          clear hst
          go_wp2_with fail
          refine (may_any A1 c1 L _ _ _ _ Hr1.out hb8).mono ?_
          rintro e w3 ⟨rfl, hb3⟩
          rw [Hm.out]
          have Hbel3 := Lib.hid (Hbel.out.trans (hb3.mono hsz))
          have Hown3 := Lib.hid (own_on Hown.out hb3)
          have Hown3' := Lib.hid (own_on Hown'.out hb3)
          have hsz3 : w.heap.size ≤ w3.heap.size := Hbel3.out.size
          have Hr3 := Lib.hid ((Hr1.out.on (Nat.le_refl _) hb3).more hb3.size)
          clear hb3 hm
          cases keep
          · have h63 : L.length + 1 ≤ maxLen := by unfold maxLen; omega
            have hby : (L.length + 1) * 8 ≤ 140737488355328 := by omega
            have h63' : M.length + 1 ≤ maxLen := by unfold maxLen; omega
            have hby' : (M.length + 1) * 8 ≤ 140737488355328 := by omega
            go_wp2_with (first | (at_builtin; refine wpList_push w w3 (by rfl) (.tmp 58) (.tmp 60) 29 (by rfl) w.heap.size 3 i0 (.int .i64 0) 1 8 Try.underlying29 hi hz0 hz1 hz2 rfl (by decide) _ _ _ (by rfl) Hown3.out [.int .i64 xs[k]] (by rfl) rfl (by simp [Value.oneCell']) h63 hby hsz3 Hbel3.out ?_; intro A5 c5 w5 ho5 hb5 hg5 ha5; have Hho5 := Lib.hid ho5; have Hhb5 := Lib.hid hb5; have Hhg5 := Lib.hid hg5; have Hha5 := Lib.hid ha5; have hsz_w5 := hb5.size; clear ho5 hb5 hg5 ha5) | (at_builtin; refine wpList_push w w5 (by rfl) (.tmp 62) (.tmp 64) 29 (by rfl) w.heap.size 3 i0 (.int .i64 0) 1 8 Try.underlying29 hi hz0 hz1 hz2 rfl (by decide) _ _ _ (by rfl) (Hsep.out.kept Hown3'.out Hhg5.out) [.int .i64 xs[k]] (by rfl) rfl (by simp [Value.oneCell']) h63' hby' hsz_w5 Hhb5.out ?_; intro A6 c6 w6 ho6 hb6 hg6 ha6; have Hho6 := Lib.hid ho6; have Hhb6 := Lib.hid hb6; have Hhg6 := Lib.hid hg6; have Hha6 := Lib.hid ha6; have hsz_w6 := hb6.size; clear ho6 hb6 hg6 ha6))
            go_roundw
            case rel =>
              have hs1 := Hsep.out.push Hown3'.out Hha5.out
              exact ⟨k + 1, L ++ [xs[k]], M ++ [xs[k]], xs[k], by omega, by go_num, rfl, by simp; omega, by simp; omega, by have := hs1.symm.kept Hho5.out Hhg6.out; simpa using this, by simpa using Hho6.out,
                (hs1.symm.push Hho5.out Hha6.out).symm, Hst.out L (.inl rfl), Hhb6.out⟩
            case measure => simp [intOf]; omega
          · go_wp2_with fail
            refine (keep_any A1 c1 L _ _ _ Hr3.out hb8).mono ?_
            rintro e w4 ⟨v4, rfl, hown4, hb4⟩
            obtain ⟨A4, c4, rfl, _⟩ := own_rd hown4
            have hlk : (keepL L xs[k] every).length ≤ L.length := by unfold keepL; split; exact List.length_filter_le _ _; simp
            have Hsep4 := Lib.hid (Sep.new Hown3'.out hown4 (Nat.le_refl _))
            have Hown4' := Lib.hid (own_on Hown3'.out hb4)
            have Hown4 := Lib.hid (own_base hown4 hsz3)
            have Hbel4 := Lib.hid (Hbel3.out.trans (hb4.mono hsz3))
            have hsz4 : w.heap.size ≤ w4.heap.size := Hbel4.out.size
            have Hst4 := Lib.hid (Hst.out _ (.inr rfl))
            clear hown4 hb4
            generalize keepL L xs[k] every = K at *
            have h63 : K.length + 1 ≤ maxLen := by unfold maxLen; omega
            have hby : (K.length + 1) * 8 ≤ 140737488355328 := by omega
            have h63' : M.length + 1 ≤ maxLen := by unfold maxLen; omega
            have hby' : (M.length + 1) * 8 ≤ 140737488355328 := by omega
            go_wp2_with (first | (at_builtin; refine wpList_push w w4 (by rfl) (.tmp 58) (.tmp 60) 29 (by rfl) w.heap.size 3 i0 (.int .i64 0) 1 8 Try.underlying29 hi hz0 hz1 hz2 rfl (by decide) _ _ _ (by rfl) Hown4.out [.int .i64 xs[k]] (by rfl) rfl (by simp [Value.oneCell']) h63 hby hsz4 Hbel4.out ?_; intro A5 c5 w5 ho5 hb5 hg5 ha5; have Hho5 := Lib.hid ho5; have Hhb5 := Lib.hid hb5; have Hhg5 := Lib.hid hg5; have Hha5 := Lib.hid ha5; have hsz_w5 := hb5.size; clear ho5 hb5 hg5 ha5) | (at_builtin; refine wpList_push w w5 (by rfl) (.tmp 62) (.tmp 64) 29 (by rfl) w.heap.size 3 i0 (.int .i64 0) 1 8 Try.underlying29 hi hz0 hz1 hz2 rfl (by decide) _ _ _ (by rfl) (Hsep4.out.kept Hown4'.out Hhg5.out) [.int .i64 xs[k]] (by rfl) rfl (by simp [Value.oneCell']) h63' hby' hsz_w5 Hhb5.out ?_; intro A6 c6 w6 ho6 hb6 hg6 ha6; have Hho6 := Lib.hid ho6; have Hhb6 := Lib.hid hb6; have Hhg6 := Lib.hid hg6; have Hha6 := Lib.hid ha6; have hsz_w6 := hb6.size; clear ho6 hb6 hg6 ha6))
            go_roundw
            case rel =>
              have hs1 := Hsep4.out.push Hown4'.out Hha5.out
              exact ⟨k + 1, K ++ [xs[k]], M ++ [xs[k]], xs[k], by omega, by go_num, rfl, by simp; omega, by simp; omega, by have := hs1.symm.kept Hho5.out Hhg6.out; simpa using this, by simpa using Hho6.out,
                (hs1.symm.push Hho5.out Hha6.out).symm, Hst4.out, Hhb6.out⟩
            case measure => simp [intOf]; omega
    · obtain ⟨A2, c2, rfl, hr2⟩ := own_rd hown'
      have hcap := (own_cap hown').1
      have hM80 : M.length ≤ 80 := by omega
      obtain ⟨wo, rfl⟩ : ∃ wo : World, wo = wr := ⟨_, rfl⟩
      have Hr2 := Lib.hid hr2
      have Hinv := hinv
      have Hbelo := Lib.hid hbel
      have hszo := hbel.size
      clear hr2 hown hown' hsep hinv hbel
      go_wp2_with fail
      go_loopw [69] (fun j wr => ∃ i : Nat, i ≤ M.length ∧ j = .int .i64 i ∧ Hid (Below wo.heap.size wo wr)) (fun j _ => M.length - (intOf j).toNat)
      case atStart => exact ⟨0, Nat.zero_le _, rfl, Below.refl _ _⟩
      case round =>
        obtain ⟨i, hi0, rfl, hbeli⟩ := hrel
        by_cases hil : i < M.length
        · obtain ⟨b, o, rfl, hB, hc⟩ := (Hr2.out.on (Nat.le_refl _) hbeli.out).open (by omega)
          have hcell : wr.cell? ⟨b, o + i, none⟩ = some (.int .i64 M[i]) := by rw [hc i (by omega), ints_at hil]
          have Hc := Lib.hid hc
          have hMi := Hinv.out.inM M[i] (List.getElem_mem hil)
          have hMi1 := hMi.1
          have hMi2 := hMi.2.2
          have hci : (i : Int) + 1 ≤ (c2 : Int) := by omega
          clear hc hMi
          by_cases hF : every = 1099511627776
          · subst hF
            go_wp2_with fail
            go_loop [16, 79] (fun n j => ∃ q : Nat, q ≤ i + 1 ∧ j = .int .i64 q ∧ n = .int .i64 ((M.take q).filter (nearB M[i] 1099511627776)).length) (fun _ j => i + 1 - (intOf j).toNat)
            case atStart => exact ⟨0, Nat.zero_le _, rfl, by simp⟩
            case round =>
              obtain ⟨q, hq, rfl, rfl⟩ := hrel
              have hfl : ((M.take q).filter (nearB M[i] 1099511627776)).length ≤ 80 := Nat.le_trans (List.length_filter_le _ _) (by simp; omega)
              by_cases hqi : q < i + 1
              · have hqM : q < M.length := by omega
                have hcell2 : wr.cell? ⟨b, o + q, none⟩ = some (.int .i64 M[q]) := by rw [Hc.out q (by omega), ints_at hqM]
                have hsu := filter_take_succ (p := nearB M[i] 1099511627776) hqM
                have hnear := near_iff M[i] 1099511627776 M[q]
                have hnr : nearB M[i] 1099511627776 M[q] = true := by rw [hnear]; omega
                rw [hnr] at hsu
                have Hsu := Lib.hid hsu
                clear hsu hnr hnear
                go_wp2_with fail
                go_round
                case rel => exact ⟨q + 1, by omega, by go_num, by rw [Hsu.out]; simp⟩
                case measure => simp [intOf]; omega
              · have hq1 : q = i + 1 := by omega
                have hg := Hinv.out.good i hil
                rw [← hq1] at hg
                have Hq1 := Lib.hid hq1
                have hng : ¬ burst < (((M.take q).filter (nearB M[i] 1099511627776)).length : Int) := by omega
                clear hg hq1
                go_wp2_with fail
                go_roundw
                case rel => exact ⟨i + 1, by omega, by go_num, hbeli.out⟩
                case measure => simp [intOf]; omega
          · have hF' : (every == 1099511627776) = false := by simp [hF]
            go_wp2_with fail
            go_loop [16, 79] (fun n j => ∃ q : Nat, q ≤ i + 1 ∧ j = .int .i64 q ∧ n = .int .i64 ((M.take q).filter (nearB M[i] every)).length) (fun _ j => i + 1 - (intOf j).toNat)
            case atStart => exact ⟨0, Nat.zero_le _, rfl, by simp⟩
            case round =>
              obtain ⟨q, hq, rfl, rfl⟩ := hrel
              have hfl : ((M.take q).filter (nearB M[i] every)).length ≤ 80 := Nat.le_trans (List.length_filter_le _ _) (by simp; omega)
              by_cases hqi : q < i + 1
              · have hqM : q < M.length := by omega
                have hcell2 : wr.cell? ⟨b, o + q, none⟩ = some (.int .i64 M[q]) := by rw [Hc.out q (by omega), ints_at hqM]
                have hsu := filter_take_succ (p := nearB M[i] every) hqM
                have hnear := near_iff M[i] every M[q]
                by_cases hcmp : M[i] - every < M[q]
                · have hnr : nearB M[i] every M[q] = true := by rw [hnear]; omega
                  rw [hnr] at hsu
                  have Hsu := Lib.hid hsu
                  clear hsu hnr hnear
                  go_wp2_with fail
                  go_round
                  case rel => exact ⟨q + 1, by omega, by go_num, by rw [Hsu.out]; simp⟩
                  case measure => simp [intOf]; omega
                · have hnr : nearB M[i] every M[q] = false := by rw [Bool.eq_false_iff, ne_eq, hnear]; omega
                  rw [hnr] at hsu
                  have Hsu := Lib.hid hsu
                  clear hsu hnr hnear
                  go_wp2_with fail
                  go_round
                  case rel => exact ⟨q + 1, by omega, by go_num, by rw [Hsu.out]; simp⟩
                  case measure => simp [intOf]; omega
              · have hq1 : q = i + 1 := by omega
                have hg := Hinv.out.good i hil
                rw [← hq1] at hg
                have Hq1 := Lib.hid hq1
                have hng : ¬ burst < (((M.take q).filter (nearB M[i] every)).length : Int) := by omega
                clear hg hq1
                go_wp2_with fail
                go_roundw
                case rel => exact ⟨i + 1, by omega, by go_num, hbeli.out⟩
                case measure => simp [intOf]; omega
        · go_wp2_with fail
          go_ret
          exact ⟨rfl, Hbelo.out.trans (hbeli.out.mono hszo)⟩
end Lm
end Go.Proofs.Ytdcbapheoagelaa
