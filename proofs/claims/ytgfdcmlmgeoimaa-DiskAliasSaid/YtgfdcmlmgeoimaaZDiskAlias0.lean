/- My texts, joined for the claim: LdH. -/
import Derived.Test.YtgfdcmlmgeoimaaZB1
import Derived.Test.YtgfdcmlmgeoimaaZB15
import Derived.Test.YtgfdcmlmgeoimaaZB13

section
/- The walk of the law DiskAlias. (bel2) -/
namespace Go.Proofs.Ytgfdcmlmgeoimaa
open Go.RowKit Go.Sort
set_option linter.unusedSimpArgs false
namespace Od

set_option maxHeartbeats 4000000 in
theorem name12_any (k : Nat) (hk : k < 13) (w : World) : Calls Try.prog 11 #[.int .i64 k] w fun e w' => e = .returned (sv (nmS k)) ∧ w' = w := by
  have hwr : IntKind.i64.wrap ((k : Int) + 1) = ((k + 1 : Nat) : Int) := by rw [IntWalk.i64_in _ (by omega)]; omega
  have hex := extract_str hexC k (k + 1)
  have hz : (hexC.take (k + 1)).drop k = [hexC.getD k 0] := by
    have : ∀ k, k < 13 → (hexC.take (k + 1)).drop k = [hexC.getD k 0] := by decide
    exact this k hk
  rw [hz] at hex
  have hN : nmS k = ([117] ++ [hexC.getD k 0]) ++ dotService := rfl
  generalize hexC.getD k 0 = z at *
  have hex2 : (⟨#[48, 49, 50, 51, 52, 53, 54, 55, 56, 57, 97, 98, 99]⟩ : ByteArray).extract k (k + 1) = ⟨[z].toArray⟩ := hex
  obtain ⟨S1, hS1⟩ : ∃ S : Str, S = [117] ++ [z] := ⟨_, rfl⟩
  have e1 : ((⟨#[117]⟩ : ByteArray) ++ ⟨[z].toArray⟩) = ⟨S1.toArray⟩ := by rw [hS1]; exact str_add [117] [z]
  have e1' : ((⟨#[117]⟩ : ByteArray) ++ ⟨#[z]⟩) = ⟨S1.toArray⟩ := e1
  have l1 : S1.length = 2 := by rw [hS1]; rfl
  rw [← hS1] at hN
  obtain ⟨S2, hS2⟩ : ∃ S : Str, S = S1 ++ dotService := ⟨_, rfl⟩
  have e2 : ((⟨S1.toArray⟩ : ByteArray) ++ ⟨#[46, 115, 101, 114, 118, 105, 99, 101]⟩) = ⟨S2.toArray⟩ := by rw [hS2]; exact str_add S1 [46, 115, 101, 114, 118, 105, 99, 101]
  rw [← hS2] at hN
  have n2 : ¬ 9223372036854775807 < S1.length + 8 := by omega
  have k1 : (0 : Int) ≤ (k : Int) := by omega
  have k2 : (k : Int) ≤ ((k + 1 : Nat) : Int) := by omega
  have k3 : ((k + 1 : Nat) : Int) ≤ 13 := by omega
  have HN := Lib.hid hN
  clear hS1 hS2 hz hex hN
  go_enter Try.func11, Try.ntmps11
  go_wp2_with fail
  go_ret
  exact ⟨by rw [HN.out]; rfl, rfl⟩
theorem name12_succ (k : Nat) (hk : k < 12) (w : World) : Calls Try.prog 11 #[.int .i64 ((k : Int) + 1)] w fun e w' => e = .returned (sv (nmS (k + 1))) ∧ w' = w := name12_any (k + 1) (by omega) w
theorem linkA_row (k : Nat) : (List.range (k + 1)).map linkA = (List.range k).map linkA ++ [linkA k] := by rw [List.range_succ, List.map_append]; rfl
/-- A file in a block. -/
structure FlZ (w : World) (b : Nat) (s t l : Str) : Prop where
  c0 : w.cell? ⟨b, 0, none⟩ = some (sv s)
  c1 : w.cell? ⟨b, 1, none⟩ = some (sv t)
  c2 : w.cell? ⟨b, 2, none⟩ = some (sv l)
  f0 : w.frozen? ⟨b, 0, none⟩ = false
  f1 : w.frozen? ⟨b, 1, none⟩ = false
  f2 : w.frozen? ⟨b, 2, none⟩ = false
theorem FlZ.lt {w : World} {b : Nat} {s t l : Str} (h : FlZ w b s t l) : b < w.heap.size := cell_blk h.c0
theorem FlZ.on {w w' : World} {b : Nat} {s t l : Str} (h : FlZ w b s t l) (hb : Below w.heap.size w w') : FlZ w' b s t l :=
  ⟨cellAt h.c0 hb h.lt, cellAt h.c1 hb h.lt, cellAt h.c2 hb h.lt, froAt h.f0 hb h.lt, froAt h.f1 hb h.lt, froAt h.f2 hb h.lt⟩
theorem FlZ.new (w : World) : FlZ (w.alloc (.cells #[.string ⟨#[]⟩, .string ⟨#[]⟩, .string ⟨#[]⟩] 38)) w.heap.size [] [] [] :=
  ⟨by go_simp, by go_simp, by go_simp, by go_simp, by go_simp, by go_simp⟩
set_option maxRecDepth 100000 in
set_option maxHeartbeats 16000000 in
theorem diskAlias_any (n : Int) (ring : Bool) (x : Str) (w : World) (hx : x.length ≤ 140737488351232) :
    Calls Try.prog 4 #[.int .i64 n, .bool ring, sv x] w fun e w' => e = .returned (.bool true) ∧ Below w.heap.size w w' := by
  obtain ⟨i0, hi, hz0, hz1, hz2⟩ := info_parts infoFl
  by_cases hn0 : n < 0
  · have d0 : decide (n < 0) = true := by simpa using hn0
    go_enter Try.func4, Try.ntmps4
    go_wp2_with fail
    refine (shown12_any w).mono ?_
    rintro e w1 ⟨rfl, hb⟩
    have HB := Lib.hid hb
    clear hb
    go_wp2_with fail
    go_ret
    exact ⟨rfl, HB.out⟩
  · have d0 : decide (n < 0) = false := by simpa using hn0
    by_cases hn1 : 12 < n
    · have d1 : decide (12 < n) = true := by simpa using hn1
      go_enter Try.func4, Try.ntmps4
      go_wp2_with fail
      refine (shown12_any w).mono ?_
      rintro e w1 ⟨rfl, hb⟩
      have HB := Lib.hid hb
      clear hb
      go_wp2_with fail
      go_ret
      exact ⟨rfl, HB.out⟩
    · have d1 : decide (12 < n) = false := by simpa using hn1
      obtain ⟨N, rfl⟩ : ∃ N : Nat, n = (N : Int) := ⟨n.toNat, by omega⟩
      have hN : N ≤ 12 := by omega
      have d2 : decide (12 < N) = false := by rw [decide_eq_false_iff_not]; omega
      obtain ⟨m, hm0⟩ : ∃ m, m = min x.length 100 := ⟨_, rfl⟩
      have hmin : min (x.length : Int) 100 = (m : Int) := by omega
      have k1 : (0 : Int) ≤ (m : Int) := by omega
      have k2 : (m : Int) ≤ (x.length : Int) := by omega
      have hex := extract_str x 0 m
      rw [List.drop_zero] at hex
      have htx : (x.take m).length ≤ 100 := by rw [List.length_take]; omega
      generalize x.take m = tx at *
      have HMin := Lib.hid hmin
      have HEx := Lib.hid hex
      have hn13 : N < 13 := by omega
      have HAl := Lib.hid (fun ring => alias_find N hn13 ring tx htx)
      have HNN := Lib.hid (fun W => name12_any N hn13 W)
      have HN0 : Hid (∀ W, Calls Try.prog 11 #[.int .i64 0] W fun e w' => e = .returned (sv (nmS 0)) ∧ w' = W) := Lib.hid (fun W => name12_any 0 (by decide) W)
      clear hm0 hmin hex
      go_enter Try.func4, Try.ntmps4
      go_wp2_with fail
      refine (shown12_any w).mono ?_
      rintro e w1 ⟨rfl, hb⟩
      have HB := Lib.hid hb
      clear hb
      go_wp2_with fail
      clear d0 d1 d2
      go_loopw [7, 8] (fun v i wr => ∃ (k : Nat) (Ao : Option Addr) (co : Nat), k ≤ N ∧ v = .slice Ao k co ∧ i = .int .i64 k ∧ Hid (wr.ownsRow w1.heap.size 38 3 (.slice Ao k co) k (flsC ((List.range k).map linkA))) ∧ Hid (Below w1.heap.size w1 wr)) (fun _ i _ => N - (intOf i).toNat)
      case atStart => exact ⟨0, none, 0, Nat.zero_le _, rfl, rfl, World.ownsRow_nil _ _ _ _, Below.refl _ _⟩
      case round =>
        obtain ⟨k, Ao, co, hk, rfl, rfl, HO, HBk⟩ := hrel
        obtain ⟨w6, rfl⟩ : ∃ wo : World, wo = wr := ⟨_, rfl⟩
        have hz6 := HBk.out.size
        by_cases hlt : k < N
        · have HTk := Lib.hid (show (List.range (k + 1)).map linkA = (List.range k).map linkA ++ [(pathU libS (nmS k), [], nmS (k + 1))] from linkA_row k)
          have HNk := Lib.hid (fun W => name12_any k (by omega) W)
          have HNs := Lib.hid (fun W => name12_succ k (by omega) W)
          have hal : (nmS k).length = 10 := rfl
          generalize nmS (k + 1) = b at *
          generalize nmS k = a at *
          obtain ⟨q, hq⟩ : ∃ q, q = pathU libS a := ⟨_, rfl⟩
          have e0 : ((⟨#[108, 105, 98, 47]⟩ : ByteArray) ++ ⟨a.toArray⟩) = ⟨q.toArray⟩ := by rw [hq]; exact str_add [108, 105, 98, 47] a
          rw [← hq] at HTk
          have n0 : ¬ 9223372036854775807 < 4 + a.length := by omega
          have h63 := Lib.hid (show k + 1 ≤ maxLen by unfold maxLen; omega)
          have hby := Lib.hid (show (k + 1) * 48 ≤ 140737488355328 by omega)
          have i2 : (k : Int) < (N : Int) := by omega
          have hwr : IntKind.i64.wrap ((k : Int) + 1) = (k : Int) + 1 := by rw [IntWalk.i64_in _ (by omega)]
          clear hq hal
          go_wp2_with fail
          refine (HNk.out w6).mono ?_
          rintro e wz ⟨rfl, hwz⟩
          replace hwz := hwz.symm
          subst hwz
          go_wp2_with fail
          refine (HNs.out w6).mono ?_
          rintro e wz ⟨rfl, hwz⟩
          replace hwz := hwz.symm
          subst hwz
          go_wp2_with (first | (at_builtin; refine wpList_pushm w6 w6 (by rfl) (.tmp 25) (.tmp 33) 22 (by rfl) w1.heap.size 38 i0 _ 3 48 Try.underlying22 hi hz0 hz1 hz2 rfl (by decide) _ _ _ (by rfl) HO.out [sv q, sv [], sv b] w6.heap.size rfl (by rfl) rfl (one_flC (q, [], b)) h63.out hby.out hz6 (Below.refl _ _) ?_; intro A10 c10 w10 hown hbel hg hat; have HO10 := Lib.hid hown; have HBa := Lib.hid hbel; clear hown hbel hg hat) | fail)
          go_roundw
          case rel => exact ⟨k + 1, A10, c10, by omega, rfl, by go_num, by rw [HTk.out, flsC_app, flsC_one]; exact HO10.out, HBk.out.trans HBa.out⟩
          case measure => simp [intOf]; omega
        · obtain rfl : N = k := by omega
          have HO6 := HO
          have hok : ∀ f ∈ (List.range N).map linkA, okFl f := fun f hf => by
            obtain ⟨j, _, rfl⟩ := List.mem_map.1 hf
            exact ⟨by show (14 : Nat) ≤ _; decide, by show (0 : Nat) ≤ _; decide, by show (10 : Nat) ≤ _; decide⟩
          have hLl : ((List.range N).map linkA).length = N := by simp
          obtain ⟨qN, hqN⟩ : ∃ q, q = pathU runS (nmS N) := ⟨_, rfl⟩
          have hqNl : qN.length = 14 := by rw [hqN]; rfl
          have HRowF := Lib.hid (show (List.range N).map linkA ++ [(qN, tx, [])] = rowA N false tx by rw [hqN]; rfl)
          have HRowT := Lib.hid (show (List.range N).map linkA ++ [(qN, [], nmS 0)] = rowA N true tx by rw [hqN]; rfl)
          have eN : ((⟨#[114, 117, 110, 47]⟩ : ByteArray) ++ ⟨(nmS N).toArray⟩) = ⟨qN.toArray⟩ := by rw [hqN]; exact str_add [114, 117, 110, 47] (nmS N)
          have haN : (nmS N).length = 10 := rfl
          have ha0 : (nmS 0).length = 10 := rfl
          have nN : ¬ 9223372036854775807 < 4 + (nmS N).length := by omega
          have hal := HAl.out ring
          rw [← hqN] at hal
          have HFn : Hid (∀ A c W, FlIn W A (rowA N ring tx) → Calls Try.prog 6 #[.slice A (N + 1) c, sv (nmS 0)] W (FindR (findF (rowA N ring tx) (nmS 0)) W)) := Lib.hid (fun A c W h => by
            have h1 := Find_any A c (rowA N ring tx) (nmS 0) W h (by simp [rowA]; omega) (by omega)
            rwa [show (rowA N ring tx).length = N + 1 by simp [rowA]] at h1)
          have hok1 : okFl (qN, tx, ([] : Str)) := ⟨by show qN.length ≤ _; omega, by show tx.length ≤ _; omega, by show (0 : Nat) ≤ _; decide⟩
          have hok2 : okFl (qN, ([] : Str), nmS 0) := ⟨by show qN.length ≤ _; omega, by show (0 : Nat) ≤ _; decide, by show (10 : Nat) ≤ _; decide⟩
          clear hqN HAl
          generalize nmS N = aN at *
          generalize nmS 0 = a0 at *
          have h63 := Lib.hid (show N + 1 ≤ maxLen by unfold maxLen; omega)
          have hby := Lib.hid (show (N + 1) * 48 ≤ 140737488355328 by omega)
          have hmin := HMin.out
          have hex := HEx.out
          go_upto_region 10 with fail
          go_cut [9] (fun v wx => ∃ b9 : Nat, v = .pointer (some ⟨b9, 0, none⟩) ∧ w6.heap.size ≤ b9 ∧ Hid (FlZ wx b9 qN tx []) ∧ Hid (Below w6.heap.size w6 wx))
          case first =>
            try go_wp2_with fail
            refine wp_region_held_drew (S := fun w' => Below w6.heap.size w6 w') (by kernel_rfl) (Below.drew (Below.refl _ _)) (fun hHeld => ?_)
            generalize w6.drew = v0 at hHeld ⊢
            refine tY (i := 0) (v := ?_) rfl ?_ hHeld ?_; rotate_left 1; focus (intro w' hSw; clear hSw; go_simp; try with_reducible rfl)
            (try simp only [Act.put, zn1, zn2, zn3])
            refine tY (i := 3) (v := ?_) rfl ?_ hHeld ?_; rotate_left 1; focus (intro w' hSw; clear hSw; go_simp; try with_reducible rfl)
            (try simp only [Act.put, zn1, zn2, zn3])
            refine tY (i := 4) (v := ?_) rfl ?_ hHeld ?_; rotate_left 1; focus (intro w' hSw; clear hSw; go_simp; try with_reducible rfl)
            (try simp only [Act.put, zn1, zn2, zn3])
            refine tY (i := 5) (v := ?_) rfl ?_ hHeld ?_; rotate_left 1; focus (intro w' hSw; clear hSw; go_simp; try with_reducible rfl)
            (try simp only [Act.put, zn1, zn2, zn3])
            refine tY (i := 6) (v := ?_) rfl ?_ hHeld ?_; rotate_left 1; focus (intro w' hSw; clear hSw; go_simp; try with_reducible rfl)
            (try simp only [Act.put, zn1, zn2, zn3])
            refine tY (i := 7) (v := ?_) rfl ?_ hHeld ?_; rotate_left 1; focus (intro w' hSw; clear hSw; go_simp; try with_reducible rfl)
            (try simp only [Act.put, zn1, zn2, zn3])
            refine ready_twoD (i := 1) (j := 9) rfl rfl (by kernel_rfl) (fun K hK => ?_) (fun K hK => ?_) 
            · skip
              go_simp
              refine (HNN.out _).mono ?_
              rintro e y1 ⟨rfl, hwz⟩
              have hb : Below (v0).heap.size (v0) y1 := by rw [hwz]; exact Below.refl _ _
              clear hwz
              try replace HZ9 := Lib.hid (HZ9.out.on hb)
              refine hK.out _ _ ?_ (fun hHeld2 => ?_)
              · (try dsimp only); exact Below.trans hHeld (Below.mono hb hHeld.size)
              clear hK K hHeld hb; have hHeld := hHeld2; clear hHeld2; (try simp only [Act.put, zn1, zn2, zn3])
              refine tY (i := 2) (v := ?_) rfl ?_ hHeld ?_; rotate_left 1; focus (intro w' hSw; clear hSw; go_simp; try with_reducible rfl)
              (try simp only [Act.put, zn1, zn2, zn3])
              refine ready_twoD (i := 8) (j := 9) rfl rfl (by kernel_rfl) (fun K hK => ?_) (fun K hK => ?_) 
              · skip
                go_simp
                refine hK.out _ _ ?_ (fun hHeld2 => ?_)
                · (try dsimp only); first | (with_reducible exact hHeld) | (repeat (first | (with_reducible exact hHeld) | (with_reducible refine Below.alloc ?_ ?zs _; case zs => first | omega | exact hHeld.size | (simp <;> omega)) | (with_reducible refine Below.setCell ?_ ?zs _; case zs => first | omega | (simp <;> omega))))
                clear hK K hHeld; have hHeld := hHeld2; clear hHeld2; (try simp only [Act.put, zn1, zn2, zn3])
                refine ready_one (i := 9) rfl (by kernel_rfl) (fun K hK => ?_)
                go_simp
                refine hK.out _ _ ?_ (fun hHeld2 => ?_)
                · (try dsimp only); first | (with_reducible exact hHeld) | (repeat (first | (with_reducible exact hHeld) | (with_reducible refine Below.alloc ?_ ?zs _; case zs => first | omega | exact hHeld.size | (simp <;> omega)) | (with_reducible refine Below.setCell ?_ ?zs _; case zs => first | omega | (simp <;> omega))))
                have hge9 : w6.heap.size ≤ (y1).heap.size := hHeld.size
                have HZ9 := Lib.hid (FlZ.new (y1))
                generalize (y1).alloc (.cells #[.string ⟨#[]⟩, .string ⟨#[]⟩, .string ⟨#[]⟩] 38) = z9 at *
                generalize (y1).heap.size = b9 at *
                clear hK K hHeld; have hHeld := hHeld2; clear hHeld2; (try simp only [Act.put, zn1, zn2, zn3])
                have d0 := HZ9.out.c0
                have d1 := HZ9.out.c1
                have d2 := HZ9.out.c2
                have g0 := HZ9.out.f0
                have g1 := HZ9.out.f1
                have g2 := HZ9.out.f2
                refine ready_one (i := 10) rfl (by kernel_rfl) (fun K hK => ?_)
                go_simp
                refine hK.out _ _ ?_ (fun hHeld2 => ?_)
                · (try dsimp only); first | (with_reducible exact hHeld) | (repeat (first | (with_reducible exact hHeld) | (with_reducible refine Below.alloc ?_ ?zs _; case zs => first | omega | exact hHeld.size | (simp <;> omega)) | (with_reducible refine Below.setCell ?_ ?zs _; case zs => first | omega | (simp <;> omega))))
                clear hK K hHeld; have hHeld := hHeld2; clear hHeld2; (try simp only [Act.put, zn1, zn2, zn3])
                refine wpAnyH_done (by kernel_rfl) ?_ _
                go_wp2_with fail
                go_meet
                refine ⟨b9, rfl, hge9, ?_, hHeld⟩
                show FlZ _ _ _ _ _
                exact ⟨by go_simp, by go_simp, by go_simp, by go_simp, by go_simp, by go_simp⟩
              · skip
                go_simp
                refine hK.out _ _ ?_ (fun hHeld2 => ?_)
                · (try dsimp only); first | (with_reducible exact hHeld) | (repeat (first | (with_reducible exact hHeld) | (with_reducible refine Below.alloc ?_ ?zs _; case zs => first | omega | exact hHeld.size | (simp <;> omega)) | (with_reducible refine Below.setCell ?_ ?zs _; case zs => first | omega | (simp <;> omega))))
                have hge9 : w6.heap.size ≤ (y1).heap.size := hHeld.size
                have HZ9 := Lib.hid (FlZ.new (y1))
                generalize (y1).alloc (.cells #[.string ⟨#[]⟩, .string ⟨#[]⟩, .string ⟨#[]⟩] 38) = z9 at *
                generalize (y1).heap.size = b9 at *
                clear hK K hHeld; have hHeld := hHeld2; clear hHeld2; (try simp only [Act.put, zn1, zn2, zn3])
                refine ready_one (i := 8) rfl (by kernel_rfl) (fun K hK => ?_)
                go_simp
                refine hK.out _ _ ?_ (fun hHeld2 => ?_)
                · (try dsimp only); first | (with_reducible exact hHeld) | (repeat (first | (with_reducible exact hHeld) | (with_reducible refine Below.alloc ?_ ?zs _; case zs => first | omega | exact hHeld.size | (simp <;> omega)) | (with_reducible refine Below.setCell ?_ ?zs _; case zs => first | omega | (simp <;> omega))))
                clear hK K hHeld; have hHeld := hHeld2; clear hHeld2; (try simp only [Act.put, zn1, zn2, zn3])
                have d0 := HZ9.out.c0
                have d1 := HZ9.out.c1
                have d2 := HZ9.out.c2
                have g0 := HZ9.out.f0
                have g1 := HZ9.out.f1
                have g2 := HZ9.out.f2
                refine ready_one (i := 10) rfl (by kernel_rfl) (fun K hK => ?_)
                go_simp
                refine hK.out _ _ ?_ (fun hHeld2 => ?_)
                · (try dsimp only); first | (with_reducible exact hHeld) | (repeat (first | (with_reducible exact hHeld) | (with_reducible refine Below.alloc ?_ ?zs _; case zs => first | omega | exact hHeld.size | (simp <;> omega)) | (with_reducible refine Below.setCell ?_ ?zs _; case zs => first | omega | (simp <;> omega))))
                clear hK K hHeld; have hHeld := hHeld2; clear hHeld2; (try simp only [Act.put, zn1, zn2, zn3])
                refine wpAnyH_done (by kernel_rfl) ?_ _
                go_wp2_with fail
                go_meet
                refine ⟨b9, rfl, hge9, ?_, hHeld⟩
                show FlZ _ _ _ _ _
                exact ⟨by go_simp, by go_simp, by go_simp, by go_simp, by go_simp, by go_simp⟩
            · skip
              go_simp
              refine hK.out _ _ ?_ (fun hHeld2 => ?_)
              · (try dsimp only); first | (with_reducible exact hHeld) | (repeat (first | (with_reducible exact hHeld) | (with_reducible refine Below.alloc ?_ ?zs _; case zs => first | omega | exact hHeld.size | (simp <;> omega)) | (with_reducible refine Below.setCell ?_ ?zs _; case zs => first | omega | (simp <;> omega))))
              have hge9 : w6.heap.size ≤ (v0).heap.size := hHeld.size
              have HZ9 := Lib.hid (FlZ.new (v0))
              generalize (v0).alloc (.cells #[.string ⟨#[]⟩, .string ⟨#[]⟩, .string ⟨#[]⟩] 38) = z9 at *
              generalize (v0).heap.size = b9 at *
              clear hK K hHeld; have hHeld := hHeld2; clear hHeld2; (try simp only [Act.put, zn1, zn2, zn3])
              refine ready_one (i := 1) rfl (by kernel_rfl) (fun K hK => ?_)
              go_simp
              refine (HNN.out _).mono ?_
              rintro e y1 ⟨rfl, hwz⟩
              have hb : Below (z9).heap.size (z9) y1 := by rw [hwz]; exact Below.refl _ _
              clear hwz
              try replace HZ9 := Lib.hid (HZ9.out.on hb)
              refine hK.out _ _ ?_ (fun hHeld2 => ?_)
              · (try dsimp only); exact Below.trans hHeld (Below.mono hb hHeld.size)
              clear hK K hHeld hb; have hHeld := hHeld2; clear hHeld2; (try simp only [Act.put, zn1, zn2, zn3])
              refine tY (i := 2) (v := ?_) rfl ?_ hHeld ?_; rotate_left 1; focus (intro w' hSw; clear hSw; go_simp; try with_reducible rfl)
              (try simp only [Act.put, zn1, zn2, zn3])
              refine ready_one (i := 8) rfl (by kernel_rfl) (fun K hK => ?_)
              go_simp
              refine hK.out _ _ ?_ (fun hHeld2 => ?_)
              · (try dsimp only); first | (with_reducible exact hHeld) | (repeat (first | (with_reducible exact hHeld) | (with_reducible refine Below.alloc ?_ ?zs _; case zs => first | omega | exact hHeld.size | (simp <;> omega)) | (with_reducible refine Below.setCell ?_ ?zs _; case zs => first | omega | (simp <;> omega))))
              clear hK K hHeld; have hHeld := hHeld2; clear hHeld2; (try simp only [Act.put, zn1, zn2, zn3])
              have d0 := HZ9.out.c0
              have d1 := HZ9.out.c1
              have d2 := HZ9.out.c2
              have g0 := HZ9.out.f0
              have g1 := HZ9.out.f1
              have g2 := HZ9.out.f2
              refine ready_one (i := 10) rfl (by kernel_rfl) (fun K hK => ?_)
              go_simp
              refine hK.out _ _ ?_ (fun hHeld2 => ?_)
              · (try dsimp only); first | (with_reducible exact hHeld) | (repeat (first | (with_reducible exact hHeld) | (with_reducible refine Below.alloc ?_ ?zs _; case zs => first | omega | exact hHeld.size | (simp <;> omega)) | (with_reducible refine Below.setCell ?_ ?zs _; case zs => first | omega | (simp <;> omega))))
              clear hK K hHeld; have hHeld := hHeld2; clear hHeld2; (try simp only [Act.put, zn1, zn2, zn3])
              refine wpAnyH_done (by kernel_rfl) ?_ _
              go_wp2_with fail
              go_meet
              refine ⟨b9, rfl, hge9, ?_, hHeld⟩
              show FlZ _ _ _ _ _
              exact ⟨by go_simp, by go_simp, by go_simp, by go_simp, by go_simp, by go_simp⟩
          case rest =>
            obtain ⟨b9, rfl, hge, HZ, HBc⟩ := hcut
            have hbc := HBc.out
            clear hmin hex k1 k2 HMin HEx HO
            obtain ⟨w7, rfl⟩ : ∃ wo : World, wo = wc := ⟨_, rfl⟩
            cases ring
            · by_cases h8 : 8 < N
              · have HEr := Lib.hid (hal.1 (.inr h8))
                have d8 : decide (8 < N) = true := by simpa using h8
                have d0 := HZ.out.c0
                have d1 := HZ.out.c1
                have d2 := HZ.out.c2
                clear hal HRowT
                have HOd := Lib.hid (own_on HO6.out hbc)
                have hz20 := Nat.le_trans hz6 (hbc).size
                go_upto_region 14 with (first | (at_builtin; refine wpList_pushm w7 w7 (by rfl) (.tmp 50) (.tmp 52) 22 (by rfl) w1.heap.size 38 i0 _ 3 48 Try.underlying22 hi hz0 hz1 hz2 rfl (by decide) _ _ _ (by rfl) HOd.out [sv qN, sv tx, sv []] w7.heap.size rfl (by rfl) rfl (one_flC (qN, tx, [])) h63.out hby.out hz20 (Below.refl _ _) ?_; intro A20 c20 w20 hown hbel hg hat; have HO20 := Lib.hid hown; have HBa := Lib.hid hbel; have HGr := Lib.hid hg; clear hown hbel hg hat) | fail)
                have HF := Lib.hid (FlIn.snoc hok (by rw [hLl]; exact HO20.out) hok1)
                have HBd := Lib.hid (show Below w.heap.size w w20 from lift HB.out ((HBk.out.trans (Below.mono hbc hz6)).trans HBa.out))
                clear HO20 HOd HBa
                rw [show (List.range N).map linkA ++ [(qN, tx, [])] = rowA N false tx from HRowF.out] at HF
                have HX := Lib.hid (HFn.out A20 c20 w20 HF.out)
                clear HFn
                go_wp2_with fail
                refine (HN0.out w20).mono ?_
                rintro e wz ⟨rfl, hwz⟩
                replace hwz := hwz.symm
                subst hwz
                go_wp2_with fail
                refine HX.out.mono ?_
                rw [HEr.out]
                unfold found0
                rintro e w21 ⟨A21, c21, rfl, hr, hb⟩
                simp only at hr ⊢
                have HR : Hid (Rd w21 w21.heap.size 1 A21 0 []) := Lib.hid hr
                have HB21 := Lib.hid (lift HBd.out hb)
                clear hb hr HX
                go_upto_region 15 with fail
                first | (refine wp_named ?_; intro W22 hW) | (refine calls_named ?_; intro W22 hW) | (refine exit_named ?_; intro W22 hW)
                have B22 : Below w21.heap.size w21 W22 := by rw [hW]; exact (by repeat (first | exact Below.refl _ _ | assumption | refine Below.alloc ?_ (by first | omega | (simp <;> omega)) _ | refine Below.setCell ?_ (by first | omega | (simp <;> omega)) _ | refine Below.drew ?_))
                replace HR := Lib.hid (HR.out.at B22)
                replace HB21 := Lib.hid (lift HB21.out B22)
                have n22 : w21.heap.size < W22.heap.size := by rw [hW]; simp <;> omega
                have x0 : W22.cell? ⟨w21.heap.size, 0, none⟩ = some (sv []) := by rw [hW]; go_simp
                have x1 : W22.cell? ⟨w21.heap.size, 1, none⟩ = some (sv []) := by rw [hW]; go_simp
                have x2 : W22.cell? ⟨w21.heap.size, 2, none⟩ = some (.bool false) := by rw [hW]; go_simp
                have x3 : W22.cell? ⟨w21.heap.size, 3, none⟩ = some (.slice A21 0 c21) := by rw [hW]; go_simp
                clear hW
                clear B22
                go_wp2_with fail
                refine (show Calls Try.prog 8 #[.agg #[sv [], sv [], .bool false, .slice A21 0 c21], .agg #[sv [], sv [], .bool false, .slice none 0 0]] W22 _ from same12_any ([], [], false, []) A21 none c21 0 W22 HR.out Rd.none_ (by decide)).mono ?_
                rintro e w23 ⟨rfl, hb⟩
                replace x0 := cellAt x0 hb (by omega)
                replace x1 := cellAt x1 hb (by omega)
                replace x2 := cellAt x2 hb (by omega)
                replace x3 := cellAt x3 hb (by omega)
                replace HR := Lib.hid (HR.out.at hb)
                replace HB21 := Lib.hid (lift HB21.out hb)
                replace n22 : w21.heap.size < w23.heap.size := ltAt n22 hb
                clear hb
                go_wp2_with fail
                go_ret
                exact ⟨rfl, HB21.out⟩
              · have hal2 := hal.2 (by simp [h8])
                have d8 : decide (8 < N) = false := by simpa using h8
                have d0 := HZ.out.c0
                have d1 := HZ.out.c1
                have d2 := HZ.out.c2
                have hlz := HZ.out.lt
                have hne : (Value.slice Ao N co).ownBlock ≠ some b9 := fun e => by
                  have := (HO6.out.lt b9 e).2
                  omega
                clear hal HRowT
                have HOd := Lib.hid (own_on HO6.out hbc)
                have hz20 := Nat.le_trans hz6 (hbc).size
                go_upto_region 14 with (first | (at_builtin; refine wpList_pushm w7 w7 (by rfl) (.tmp 50) (.tmp 52) 22 (by rfl) w1.heap.size 38 i0 _ 3 48 Try.underlying22 hi hz0 hz1 hz2 rfl (by decide) _ _ _ (by rfl) HOd.out [sv qN, sv tx, sv []] w7.heap.size rfl (by rfl) rfl (one_flC (qN, tx, [])) h63.out hby.out hz20 (Below.refl _ _) ?_; intro A20 c20 w20 hown hbel hg hat; have HO20 := Lib.hid hown; have HBa := Lib.hid hbel; have HGr := Lib.hid hg; clear hown hbel hg hat) | fail)
                have HF := Lib.hid (FlIn.snoc hok (by rw [hLl]; exact HO20.out) hok1)
                have HBd := Lib.hid (show Below w.heap.size w w20 from lift HB.out ((HBk.out.trans (Below.mono hbc hz6)).trans HBa.out))
                clear HO20 HOd HBa
                rw [show (List.range N).map linkA ++ [(qN, tx, [])] = rowA N false tx from HRowF.out] at HF
                have HX := Lib.hid (HFn.out A20 c20 w20 HF.out)
                clear HFn
                go_wp2_with fail
                refine (HN0.out w20).mono ?_
                rintro e wz ⟨rfl, hwz⟩
                replace hwz := hwz.symm
                subst hwz
                go_wp2_with fail
                refine HX.out.mono ?_
                obtain ⟨q1, q2, q3⟩ := hal2
                have z0 := cell_kept d0 HGr.out hlz hne
                clear d0 d1 d2 hbc HZ HBc
                generalize findF (rowA N false tx) a0 = R at *
                obtain ⟨⟨n1, p1, m1, ds1⟩, k1⟩ := R
                simp only at q1 q2 q3
                subst q1 q2 q3
                have hz20b : b9 < w20.heap.size := Nat.lt_of_lt_of_le hlz HGr.out.size
                rintro e w21 ⟨A21, c21, rfl, hr, hb⟩
                simp only at hr ⊢
                have HB21 := Lib.hid (lift HBd.out hb)
                have z1 := cellAt z0 hb hz20b
                have hz21 : b9 < w21.heap.size := Nat.lt_of_lt_of_le hz20b hb.size
                clear hr hb HX z0
                go_upto_region 17 with fail
                first | (refine wp_named ?_; intro W22 hW) | (refine calls_named ?_; intro W22 hW) | (refine exit_named ?_; intro W22 hW)
                have B22 : Below w21.heap.size w21 W22 := by rw [hW]; exact (by repeat (first | exact Below.refl _ _ | assumption | refine Below.alloc ?_ (by first | omega | (simp <;> omega)) _ | refine Below.setCell ?_ (by first | omega | (simp <;> omega)) _ | refine Below.drew ?_))
                replace z1 := cellAt z1 B22 (by omega)
                replace hz21 : b9 < W22.heap.size := ltAt hz21 B22
                replace HB21 := Lib.hid (lift HB21.out B22)
                have n22 : w21.heap.size < W22.heap.size := by rw [hW]; simp <;> omega
                have x0 : W22.cell? ⟨w21.heap.size, 0, none⟩ = some (sv n1) := by rw [hW]; go_simp
                have x1 : W22.cell? ⟨w21.heap.size, 1, none⟩ = some (sv p1) := by rw [hW]; go_simp
                clear hW
                clear B22
                have e1 : (n1 == n1) = true := by simp
                have e2 : (p1 == p1) = true := by simp
                try go_wp2_with fail
                refine wp_region_held_drew (S := fun w' => Below W22.heap.size W22 w') (by kernel_rfl) (Below.drew (Below.refl _ _)) (fun hHeld => ?_)
                refine tY (i := 0) (v := ?_) rfl ?_ hHeld ?_; rotate_left 1; focus (intro w' hSw; clear hSw; go_simp; try with_reducible rfl)
                (try simp only [Act.put, zn1, zn2, zn3])
                refine tY (i := 1) (v := ?_) rfl ?_ hHeld ?_; rotate_left 1; focus (intro w' hSw; clear hSw; go_simp; try with_reducible rfl)
                (try simp only [Act.put, zn1, zn2, zn3])
                refine tY (i := 2) (v := ?_) rfl ?_ hHeld ?_; rotate_left 1; focus (intro w' hSw; clear hSw; go_simp; try with_reducible rfl)
                (try simp only [Act.put, zn1, zn2, zn3])
                refine tY (i := 3) (v := ?_) rfl ?_ hHeld ?_; rotate_left 1; focus (intro w' hSw; clear hSw; go_simp; try with_reducible rfl)
                (try simp only [Act.put, zn1, zn2, zn3])
                refine tY (i := 4) (v := ?_) rfl ?_ hHeld ?_; rotate_left 1; focus (intro w' hSw; have hCell := fun (b o : Nat) (h : b < W22.heap.size) => hSw.cell (p := ⟨b, o, none⟩) h; clear hSw; go_simp; try with_reducible rfl)
                (try simp only [Act.put, zn1, zn2, zn3])
                refine tY (i := 5) (v := ?_) rfl ?_ hHeld ?_; rotate_left 1; focus (intro w' hSw; clear hSw; go_simp; try with_reducible rfl)
                (try simp only [Act.put, zn1, zn2, zn3])
                refine ready_one (i := 6) rfl (by kernel_rfl) (fun K hK => ?_)
                go_simp
                refine (HNN.out _).mono ?_
                rintro e yr ⟨rfl, hwz⟩
                have hb : Below (W22.drew).heap.size (W22.drew) yr := by rw [hwz]; exact Below.refl _ _
                clear hwz
                refine hK.out _ _ ?_ (fun hHeld2 => ?_)
                · (try dsimp only); first | exact Below.trans hHeld (Below.mono hb hHeld.size) | exact hHeld | exact Below.drew hHeld | exact (by repeat (first | exact Below.refl _ _ | assumption | refine Below.alloc ?_ (by first | omega | (simp <;> omega)) _ | refine Below.setCell ?_ (by first | omega | (simp <;> omega)) _ | refine Below.drew ?_))
                clear hK K hHeld; have hHeld := hHeld2; clear hHeld2; (try simp only [Act.put, zn1, zn2, zn3])
                refine tY (i := 7) (v := ?_) rfl ?_ hHeld ?_; rotate_left 1; focus (intro w' hSw; clear hSw; go_simp; try with_reducible rfl)
                (try simp only [Act.put, zn1, zn2, zn3])
                refine tY (i := 8) (v := ?_) rfl ?_ hHeld ?_; rotate_left 1; focus (intro w' hSw; clear hSw; go_simp; try with_reducible rfl)
                (try simp only [Act.put, zn1, zn2, zn3])
                refine tY (i := 9) (v := ?_) rfl ?_ hHeld ?_; rotate_left 1; focus (intro w' hSw; clear hSw; go_simp; try with_reducible rfl)
                (try simp only [Act.put, zn1, zn2, zn3])
                refine tY (i := 10) (v := ?_) rfl ?_ hHeld ?_; rotate_left 1; focus (intro w' hSw; clear hSw; go_simp; try with_reducible rfl)
                (try simp only [Act.put, zn1, zn2, zn3])
                refine tY (i := 11) (v := ?_) rfl ?_ hHeld ?_; rotate_left 1; focus (intro w' hSw; have hCell := fun (b o : Nat) (h : b < W22.heap.size) => hSw.cell (p := ⟨b, o, none⟩) h; clear hSw; go_simp; try with_reducible rfl)
                (try simp only [Act.put, zn1, zn2, zn3])
                refine tY (i := 12) (v := ?_) rfl ?_ hHeld ?_; rotate_left 1; focus (intro w' hSw; clear hSw; go_simp; try with_reducible rfl)
                (try simp only [Act.put, zn1, zn2, zn3])
                refine tY (i := 13) (v := ?_) rfl ?_ hHeld ?_; rotate_left 1; focus (intro w' hSw; have hCell := fun (b o : Nat) (h : b < W22.heap.size) => hSw.cell (p := ⟨b, o, none⟩) h; clear hSw; go_simp; try with_reducible rfl)
                (try simp only [Act.put, zn1, zn2, zn3])
                refine tY (i := 14) (v := ?_) rfl ?_ hHeld ?_; rotate_left 1; focus (intro w' hSw; clear hSw; go_simp; try with_reducible rfl)
                (try simp only [Act.put, zn1, zn2, zn3])
                refine tY (i := 15) (v := ?_) rfl ?_ hHeld ?_; rotate_left 1; focus (intro w' hSw; clear hSw; go_simp; try with_reducible rfl)
                (try simp only [Act.put, zn1, zn2, zn3])
                refine tY (i := 16) (v := ?_) rfl ?_ hHeld ?_; rotate_left 1; focus (intro w' hSw; clear hSw; go_simp; try with_reducible rfl)
                (try simp only [Act.put, zn1, zn2, zn3])
                refine wpAnyH_done (by kernel_rfl) ?_ _
                replace z1 := cellAt z1 hHeld (by omega)
                replace x0 := cellAt x0 hHeld (by omega)
                replace x1 := cellAt x1 hHeld (by omega)
                replace hz21 : b9 < yr.heap.size := ltAt hz21 hHeld
                replace HB21 := Lib.hid (lift HB21.out hHeld)
                replace n22 : w21.heap.size < yr.heap.size := ltAt n22 hHeld
                go_wp2_with fail
                go_ret
                exact ⟨rfl, HB21.out⟩
            · have HEr := Lib.hid (hal.1 (.inl rfl))
              clear hal HRowF
              have d0 := HZ.out.c0
              have d1 := HZ.out.c1
              have d2 := HZ.out.c2
              have g0 := HZ.out.f0
              have g1 := HZ.out.f1
              have g2 := HZ.out.f2
              have hlz := HZ.out.lt
              go_wp2_with fail
              refine (HNN.out w7).mono ?_
              rintro e wz ⟨rfl, hwz⟩
              replace hwz := hwz.symm
              subst hwz
              go_wp2_with fail
              refine (HN0.out w7).mono ?_
              rintro e wz ⟨rfl, hwz⟩
              replace hwz := hwz.symm
              subst hwz
              go_upto_region 13 with fail
              obtain ⟨w8, hw8⟩ : ∃ z, z = ((w7.setCell ⟨b9, 0, none⟩ (sv qN)).setCell ⟨b9, 1, none⟩ (sv [])).setCell ⟨b9, 2, none⟩ (sv a0) := ⟨_, rfl⟩
              rw [← hw8]
              have u0 : w8.cell? ⟨b9, 0, none⟩ = some (sv qN) := by rw [hw8]; go_simp
              have u1 : w8.cell? ⟨b9, 1, none⟩ = some (sv []) := by rw [hw8]; go_simp
              have u2 : w8.cell? ⟨b9, 2, none⟩ = some (sv a0) := by rw [hw8]; go_simp
              have hbd : Below w6.heap.size w6 w8 := by rw [hw8]; exact ((hbc.setCell hge _).setCell hge _).setCell hge _
              have hlz8 : b9 < w8.heap.size := by rw [hw8]; simp only [World.size_setCell]; exact hlz
              clear hw8 d0 d1 d2 g0 g1 g2 HZ HBc hbc hlz
              have HOd := Lib.hid (own_on HO6.out hbd)
              have hz20 := Nat.le_trans hz6 (hbd).size
              go_upto_region 14 with (first | (at_builtin; refine wpList_pushm w8 w8 (by rfl) (.tmp 50) (.tmp 52) 22 (by rfl) w1.heap.size 38 i0 _ 3 48 Try.underlying22 hi hz0 hz1 hz2 rfl (by decide) _ _ _ (by rfl) HOd.out [sv qN, sv [], sv a0] w8.heap.size rfl (by rfl) rfl (one_flC (qN, [], a0)) h63.out hby.out hz20 (Below.refl _ _) ?_; intro A20 c20 w20 hown hbel hg hat; have HO20 := Lib.hid hown; have HBa := Lib.hid hbel; have HGr := Lib.hid hg; clear hown hbel hg hat) | fail)
              have HF := Lib.hid (FlIn.snoc hok (by rw [hLl]; exact HO20.out) hok2)
              have HBd := Lib.hid (show Below w.heap.size w w20 from lift HB.out ((HBk.out.trans (Below.mono hbd hz6)).trans HBa.out))
              clear HO20 HOd HBa
              rw [show (List.range N).map linkA ++ [(qN, [], a0)] = rowA N true tx from HRowT.out] at HF
              have HX := Lib.hid (HFn.out A20 c20 w20 HF.out)
              clear HFn
              go_wp2_with fail
              refine (HN0.out w20).mono ?_
              rintro e wz ⟨rfl, hwz⟩
              replace hwz := hwz.symm
              subst hwz
              go_wp2_with fail
              refine HX.out.mono ?_
              rw [HEr.out]
              unfold found0
              rintro e w21 ⟨A21, c21, rfl, hr, hb⟩
              simp only at hr ⊢
              have HR : Hid (Rd w21 w21.heap.size 1 A21 0 []) := Lib.hid hr
              have HB21 := Lib.hid (lift HBd.out hb)
              clear hb hr HX
              go_upto_region 15 with fail
              first | (refine wp_named ?_; intro W22 hW) | (refine calls_named ?_; intro W22 hW) | (refine exit_named ?_; intro W22 hW)
              have B22 : Below w21.heap.size w21 W22 := by rw [hW]; exact (by repeat (first | exact Below.refl _ _ | assumption | refine Below.alloc ?_ (by first | omega | (simp <;> omega)) _ | refine Below.setCell ?_ (by first | omega | (simp <;> omega)) _ | refine Below.drew ?_))
              replace HR := Lib.hid (HR.out.at B22)
              replace HB21 := Lib.hid (lift HB21.out B22)
              have n22 : w21.heap.size < W22.heap.size := by rw [hW]; simp <;> omega
              have x0 : W22.cell? ⟨w21.heap.size, 0, none⟩ = some (sv []) := by rw [hW]; go_simp
              have x1 : W22.cell? ⟨w21.heap.size, 1, none⟩ = some (sv []) := by rw [hW]; go_simp
              have x2 : W22.cell? ⟨w21.heap.size, 2, none⟩ = some (.bool false) := by rw [hW]; go_simp
              have x3 : W22.cell? ⟨w21.heap.size, 3, none⟩ = some (.slice A21 0 c21) := by rw [hW]; go_simp
              clear hW
              clear B22
              go_wp2_with fail
              refine (show Calls Try.prog 8 #[.agg #[sv [], sv [], .bool false, .slice A21 0 c21], .agg #[sv [], sv [], .bool false, .slice none 0 0]] W22 _ from same12_any ([], [], false, []) A21 none c21 0 W22 HR.out Rd.none_ (by decide)).mono ?_
              rintro e w23 ⟨rfl, hb⟩
              replace x0 := cellAt x0 hb (by omega)
              replace x1 := cellAt x1 hb (by omega)
              replace x2 := cellAt x2 hb (by omega)
              replace x3 := cellAt x3 hb (by omega)
              replace HR := Lib.hid (HR.out.at hb)
              replace HB21 := Lib.hid (lift HB21.out hb)
              replace n22 : w21.heap.size < w23.heap.size := ltAt n22 hb
              clear hb
              go_wp2_with fail
              go_ret
              exact ⟨rfl, HB21.out⟩
end Od
end Go.Proofs.Ytgfdcmlmgeoimaa
end
