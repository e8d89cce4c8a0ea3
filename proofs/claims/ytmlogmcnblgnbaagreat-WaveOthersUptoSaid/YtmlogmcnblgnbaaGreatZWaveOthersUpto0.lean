/- My texts, joined for the claim: FrameU LvI. -/
import Derived.Test.YtmlogmcnblgnbaaGreatZB15
import Derived.Deep.CondSized
import Derived.Test.YtmlogmcnblgnbaaGreatZB0

section
/- What the bound of a statement's second form gives for rows of texts that came in. -/
namespace Go.Proofs.YtmlogmcnblgnbaaGreat
open Go.ChangeShapes Go.WideShapes Go.ChangeAt Go.RowKit Go.Deep
section
variable {H : Type} {enc : TypeId × Value → H}
theorem bulk_one (d : DataW H) : 1 ≤ Rows.uptoBulk d := by
  cases d with
  | lit l => cases l <;> simp [Rows.uptoBulk]
  | nil => simp [Rows.uptoBulk]
  | ptr d => simp [Rows.uptoBulk]
  | slice elems spare => simp [Rows.uptoBulk]
  | agg parts => simp [Rows.uptoBulk]
  | iface t d => simp [Rows.uptoBulk]
  | map entries => simp [Rows.uptoBulk]
  | held h => simp [Rows.uptoBulk]
theorem bulk_len (l : List (DataW H)) : l.length ≤ Rows.uptoBulkAll l := by
  induction l with
  | nil => simp [Rows.uptoBulkAll]
  | cons x r ih => have := bulk_one x; simp only [Rows.uptoBulkAll, List.length_cons]; omega
theorem bulk_part {d : DataW H} {l : List (DataW H)} (h : d ∈ l) : Rows.uptoBulk d ≤ Rows.uptoBulkAll l := by
  induction l with
  | nil => cases h
  | cons x r ih =>
    simp only [Rows.uptoBulkAll]
    rcases List.mem_cons.1 h with e | e
    · subst e; omega
    · have := ih e; omega
theorem bulk_small {d : DataW H} {l : List (DataW H)} (hk : Rows.uptoSmall H l = true) (h : d ∈ l) : Rows.uptoBulk d ≤ 1048576 := by
  have h1 := of_decide_eq_true hk
  exact Nat.le_trans (bulk_part h) h1
theorem open_rd_bulk {P : Program} {W : World} {t e : TypeId} {fuel : Nat} {A : Option Addr} {len c : Nat} {y : DataW H × List MemPlace} (ht : P.underlying t = some (.slice e))
    (h : DataW.trod enc P W 0 (fun _ => true) true fuel t [.slice A len c] = some y) : len ≤ Rows.uptoBulk y.1 := by
  rcases open_slice ht h with ⟨hcs, _⟩ | ⟨a, len', cap, m, n, D, Pl, hcs, _, hl, hm, hmm, hx, hi⟩
  · simp only [List.cons.injEq, and_true, Value.slice.injEq] at hcs
    omega
  · simp only [List.cons.injEq, and_true, Value.slice.injEq] at hcs
    obtain ⟨_, rfl, _⟩ := hcs
    rw [hx]
    simp only [Rows.uptoBulk]
    have := bulk_len (H := H) ((List.range len).map D)
    simp only [List.length_map, List.length_range] at this
    omega
theorem strs_bulk {W : World} {A : Option Addr} {len c : Nat} {d : DataW H} {p : List MemPlace} (h : DataW.Trod enc Tryz.prog W 0 (fun _ => true) true 27 (.slice A len c) d p) : len ≤ Rows.uptoBulk d := by
  obtain ⟨fuel, hf⟩ := h
  exact open_rd_bulk Tryz.underlying27 hf
end
end Go.Proofs.YtmlogmcnblgnbaaGreat
end

section
/- The walk of the law WaveOthers, where texts are not too many. (bel2) -/
namespace Go.Proofs.YtmlogmcnblgnbaaGreat
open Go.RowKit Go.Sort
set_option linter.unusedSimpArgs false

namespace Od

theorem addS_succ {q : List Jb} {more : List Str} {m : Nat} (h : m < more.length) : addS q (more.take (m + 1)) = addS q (more.take m) ++ (if (!hasJ q more[m]) = true then [more[m]] else []) := by
  unfold addS
  rw [List.take_succ_eq_append_getElem h, List.filter_append]
  congr 1
  rw [List.filter_cons, List.filter_nil]
theorem addS_len (q : List Jb) (more : List Str) (m : Nat) : (addS q (more.take m)).length ≤ more.length := by
  unfold addS
  refine Nat.le_trans (List.length_filter_le _ _) ?_
  rw [List.length_take]; omega
def hasP (s : Str) (j : Jb) : Bool := j.1 == s && j.2.1 != 2
set_option maxRecDepth 100000 in
set_option maxHeartbeats 16000000 in
theorem waveOthers_any (An Ae : Option Addr) (cn ce : Nat) (ns : List Nd) (es : List Ed) (A : Option Addr) (c : Nat) (q : List Jb) (Af : Option Addr) (cf : Nat) (fails : List Str) (Am : Option Addr) (cm : Nat) (more : List Str) (Ap : Option Addr) (cp : Nat) (picks : List Int) (w : World) (hg : GIw w An Ae ns es) (hq : QIn w A c q) (hf : Rd w w.heap.size 1 Af fails.length (svs fails)) (hmo : Rd w w.heap.size 1 Am more.length (svs more)) (hp : Rd w w.heap.size 1 Ap picks.length (ints picks)) (hlf : fails.length ≤ 1048576) (hlm : more.length ≤ 1048576) :
    Calls Tryz.prog 13 #[gV An ns.length cn Ae es.length ce, .slice A q.length c, .slice Af fails.length cf, .slice Am more.length cm, .slice Ap picks.length cp] w fun e w' => e = .returned (.bool true) ∧ Below w.heap.size w w' := by
  obtain ⟨s0, hs, hs0, hs1, hs2⟩ := info_parts infoS
  have HG := Lib.hid hg
  have HQ := Lib.hid hq
  have HFl := Lib.hid (And.intro hf hmo)
  have HP := Lib.hid hp
  clear hg hq hf hmo hp
  cases d30 : decide ((30 : Int) < (q.length : Int))
  · cases d300 : decide ((300 : Int) < (picks.length : Int))
    · have h30 : ¬ (30 : Int) < (q.length : Int) := by simpa using d30
      go_enter Tryz.func13, Tryz.ntmps13
      go_wp2_with fail
      first | (refine wp_named ?_; intro W1 hW) | (refine calls_named ?_; intro W1 hW)
      have B1 : Below w.heap.size w W1 := by rw [hW]; exact (by repeat (first | exact Below.refl _ _ | assumption | refine Below.alloc ?_ (by first | omega | (simp <;> omega)) _ | refine Below.setCell ?_ (by first | omega | (simp <;> omega)) _ | refine Below.drew ?_))
      replace HG := Lib.hid (HG.out.at B1)
      replace HQ := Lib.hid (HQ.out.at B1)
      replace HFl := Lib.hid ((And.intro (HFl.out.1.at B1) (HFl.out.2.at B1)))
      replace HP := Lib.hid (HP.out.at B1)
      have nw1 : w.heap.size < W1.heap.size := by rw [hW]; simp <;> omega
      have c0 : W1.cell? ⟨w.heap.size, 0, none⟩ = some (.slice An ns.length cn) := by rw [hW]; go_simp
      have c1 : W1.cell? ⟨w.heap.size, 1, none⟩ = some (.slice Ae es.length ce) := by rw [hW]; go_simp
      clear hW
      have HB := Lib.hid B1
      clear B1
      refine (shown_any W1).mono ?_
      rintro e w2 ⟨rfl, hb⟩
      replace c0 := cellAt c0 hb (by omega)
      replace c1 := cellAt c1 hb (by omega)
      replace HG := Lib.hid (HG.out.at hb)
      replace HQ := Lib.hid (HQ.out.at hb)
      replace HFl := Lib.hid ((And.intro (HFl.out.1.at hb) (HFl.out.2.at hb)))
      replace HP := Lib.hid (HP.out.at hb)
      replace nw1 : w.heap.size < w2.heap.size := ltAt nw1 hb
      replace HB := Lib.hid (lift HB.out hb)
      clear hb
      go_wp2_with fail
      refine (small_any An Ae cn ce ns es w2).mono ?_
      rintro e w3 ⟨rfl, hb⟩
      replace c0 := cellAt c0 hb (by omega)
      replace c1 := cellAt c1 hb (by omega)
      replace HG := Lib.hid (HG.out.at hb)
      replace HQ := Lib.hid (HQ.out.at hb)
      replace HFl := Lib.hid ((And.intro (HFl.out.1.at hb) (HFl.out.2.at hb)))
      replace HP := Lib.hid (HP.out.at hb)
      replace nw1 : w.heap.size < w3.heap.size := ltAt nw1 hb
      replace HB := Lib.hid (lift HB.out hb)
      clear hb
      cases hsm : smallB ns es
      · go_wp2_with fail
        go_ret
        exact ⟨rfl, HB.out⟩
      · have hs2 := smallB_iff.1 hsm
        have hl1 := hs2.1
        have hl2 := hs2.2
        clear hs2
        have HK := Lib.hid (show 0 + fails.length ≤ maxLen ∧ (0 + fails.length) * 16 ≤ 140737488355328 by unfold maxLen; omega)
        go_wp2_with (first | (at_builtin; refine wpList_append_rd w3 (by rfl) (.const (.slice none 0 0)) (.tmp 32) 27 (by rfl) w3.heap.size 9 s0 _ 1 16 Tryz.underlying27 hs hs0 hs1 hs2 rfl (by decide) (.slice none 0 0) 0 [] (by rfl) (World.ownsRow_nil _ _ _ _) _ Af fails.length cf (svs fails) (by rfl) HFl.out.1 (one_svs fails) HK.out.1 HK.out.2 (Nat.le_refl _) ?_; intro A5 c5 w4 hown4 hg4 hat4; simp only [Nat.zero_add, List.nil_append] at hown4 ⊢; have hb4 : Below w3.heap.size w3 w4 := (Below.refl w3.heap.size w3).grown hg4 (Nat.le_refl _) (fun k h => by cases h); have HO4 := Lib.hid hown4; have Hb4 := Lib.hid hb4; clear hown4 hg4 hat4 hb4) | fail)
        have hb := Hb4.out
        clear Hb4
        go_loopw [11, 36] (fun v i wr => ∃ (m : Nat) (A9 : Option Addr) (c9 : Nat), m ≤ more.length ∧ i = .int .i64 m ∧ v = .slice A9 (fails ++ addS q (more.take m)).length c9 ∧ Hid (wr.ownsRow w3.heap.size 9 1 (.slice A9 (fails ++ addS q (more.take m)).length c9) (fails ++ addS q (more.take m)).length (svs (fails ++ addS q (more.take m)))) ∧ Below w3.heap.size w3 wr) (fun _ i _ => more.length - (intOf i).toNat)
        case atStart =>
          have e0 : fails ++ addS q (more.take 0) = fails := by simp [addS]
          exact ⟨0, A5, c5, Nat.zero_le _, rfl, by rw [e0], by rw [e0]; exact HO4, hb⟩
        case round =>
          obtain ⟨m, A9, c9, hmm, rfl, rfl, HO, hb9⟩ := hrel
          have HBl := Lib.hid hb9
          clear hb
          replace c0 := cellAt c0 hb9 (by omega)
          replace c1 := cellAt c1 hb9 (by omega)
          replace HG := Lib.hid (HG.out.at hb9)
          replace HQ := Lib.hid (HQ.out.at hb9)
          replace HFl := Lib.hid ((And.intro (HFl.out.1.at hb9) (HFl.out.2.at hb9)))
          replace HP := Lib.hid (HP.out.at hb9)
          replace nw1 : w.heap.size < wr.heap.size := ltAt nw1 hb9
          replace HB := Lib.hid (lift HB.out hb9)
          clear hb9 HO4
          by_cases hlt : m < more.length
          · obtain ⟨bm, om, hAm, hBm, q0⟩ := HFl.out.2.str hlt
            have hsu := addS_succ (q := q) hlt
            have hsl := addS_len q more m
            subst hAm
            generalize more[m] = s at q0 hsu
            have hLl : (fails ++ addS q (more.take m)).length ≤ 2097152 := by rw [List.length_append]; omega
            have HSu2 := Lib.hid (show fails ++ addS q (more.take (m + 1)) = (fails ++ addS q (more.take m)) ++ (if (!hasJ q s) = true then [s] else []) by rw [hsu, List.append_assoc])
            clear hsu hsl
            generalize fails ++ addS q (more.take m) = L at HO hLl HSu2 ⊢
            have m1 : (0 : Int) ≤ (m : Int) := by omega
            have m2 : (m : Int) < (more.length : Int) := by omega
            obtain ⟨w9, rfl⟩ : ∃ wo : World, wo = wr := ⟨_, rfl⟩
            go_wp2_with fail
            go_loopw [14, 42] (fun v i wr => ∃ k : Nat, k ≤ q.length ∧ i = .int .i64 k ∧ v = .bool ((q.take k).any (hasP s)) ∧ Below w9.heap.size w9 wr) (fun _ i _ => q.length - (intOf i).toNat)
            case atStart => exact ⟨0, Nat.zero_le _, rfl, rfl, Below.refl _ _⟩
            case round =>
              obtain ⟨k, hkq, rfl, rfl, hb⟩ := hrel
              have HB7 := Lib.hid hb
              replace c0 := cellAt c0 hb (by omega)
              replace c1 := cellAt c1 hb (by omega)
              replace HG := Lib.hid (HG.out.at hb)
              replace HQ := Lib.hid (HQ.out.at hb)
              replace HFl := Lib.hid ((And.intro (HFl.out.1.at hb) (HFl.out.2.at hb)))
              replace HP := Lib.hid (HP.out.at hb)
              replace nw1 : w.heap.size < wr.heap.size := ltAt nw1 hb
              replace HB := Lib.hid (lift HB.out hb)
              replace HBl := Lib.hid (lift HBl.out hb)
              replace HO := Lib.hid (own_on HO.out hb)
              clear hb
              by_cases hlt2 : k < q.length
              · obtain ⟨bq, oq, hAq, hBq, x0, x1, x2, x3⟩ := HQ.out.rq.job hlt2
                have hsu := any_take_succ (p := hasP s) hlt2
                subst hAq
                generalize q[k] = j at x0 x1 x2 x3 hsu
                obtain ⟨s', t, r, d⟩ := j
                simp only at x0 x1 x2 x3
                have HSu := Lib.hid (hsu.trans (show _ = ((q.take k).any (hasP s) || ((s' == s) && (t != 2))) from rfl))
                clear hsu
                have p1 : (0 : Int) ≤ (k : Int) := by omega
                have p2 : (k : Int) < (q.length : Int) := by omega
                cases hL : (q.take k).any (hasP s)
                · cases e1 : (s' == s)
                  · have HN := Lib.hid (show (q.take (k + 1)).any (hasP s) = false by rw [HSu.out, hL, e1]; rfl)
                    go_wp2_with fail
                    go_roundw
                    case rel => exact ⟨k + 1, by omega, by go_num, by rw [HN.out], HB7.out.alloc (by have := HB7.out.size; omega) _⟩
                    case measure => simp [intOf]; omega
                  · cases e2 : (t != 2)
                    · have HN := Lib.hid (show (q.take (k + 1)).any (hasP s) = false by rw [HSu.out, hL, e1, e2]; rfl)
                      go_wp2_with fail
                      go_roundw
                      case rel => exact ⟨k + 1, by omega, by go_num, by rw [HN.out], HB7.out.alloc (by have := HB7.out.size; omega) _⟩
                      case measure => simp [intOf]; omega
                    · have HN := Lib.hid (show (q.take (k + 1)).any (hasP s) = true by rw [HSu.out, hL, e1, e2]; rfl)
                      go_wp2_with fail
                      go_roundw
                      case rel => exact ⟨k + 1, by omega, by go_num, by rw [HN.out], HB7.out.alloc (by have := HB7.out.size; omega) _⟩
                      case measure => simp [intOf]; omega
                · have HN := Lib.hid (show (q.take (k + 1)).any (hasP s) = true by rw [HSu.out, hL]; rfl)
                  go_wp2_with fail
                  go_roundw
                  case rel => exact ⟨k + 1, by omega, by go_num, by rw [HN.out], HB7.out.alloc (by have := HB7.out.size; omega) _⟩
                  case measure => simp [intOf]; omega
              · have htk : q.take k = q := List.take_of_length_le (by omega)
                have hhj : q.any (hasP s) = hasJ q s := rfl
                rw [htk, hhj]
                cases hh : hasJ q s
                · have HS2 := Lib.hid (show fails ++ addS q (more.take (m + 1)) = L ++ [s] by rw [HSu2.out, hh]; rfl)
                  have h63 := Lib.hid (show L.length + 1 ≤ maxLen by unfold maxLen; omega)
                  have hby := Lib.hid (show (L.length + 1) * 16 ≤ 140737488355328 by omega)
                  have hzb : w3.heap.size ≤ wr.heap.size := HBl.out.size
                  go_wp2_with (first | (at_builtin; refine wpList_pushm w3 wr (by rfl) (.tmp 61) (.tmp 63) 27 (by rfl) w3.heap.size 9 s0 _ 1 16 Tryz.underlying27 hs hs0 hs1 hs2 rfl (by decide) _ _ _ (by rfl) HO.out [sv s] wr.heap.size rfl (by rfl) rfl (one_sv s) h63.out hby.out hzb HBl.out ?_; intro A8 c8 w8 hown8 hbel8 hg8 hat8) | fail)
                  go_roundw
                  case rel =>
                    have hll : (fails ++ addS q (more.take (m + 1))).length = L.length + 1 := by rw [HS2.out]; simp
                    refine ⟨m + 1, A8, c8, by omega, by go_num, by rw [hll], ?_, hbel8⟩
                    rw [hll, HS2.out]
                    simpa [svs, Hid] using hown8
                  case measure => simp [intOf]; omega
                · have HS2 := Lib.hid (show fails ++ addS q (more.take (m + 1)) = L by rw [HSu2.out, hh]; simp)
                  go_wp2_with fail
                  go_roundw
                  case rel => exact ⟨m + 1, A9, c9, by omega, by go_num, by rw [HS2.out], by rw [HS2.out]; exact HO, HBl.out⟩
                  case measure => simp [intOf]; omega
          · have htk : more.take m = more := List.take_of_length_le (by omega)
            rw [htk] at HO ⊢
            have hoth := runR_others (es := es) (picks := picks) (others_same (q := q) (fails := fails) (more := more))
            have hol : (fails ++ addS q more).length ≤ 140737488355328 := by
              have := addS_len q more more.length
              rw [List.take_length] at this
              rw [List.length_append]; omega
            have hxl := runR_len es fails picks q
            have htl := trR_len es fails picks q
            generalize fails ++ addS q more = L at HO hoth hol ⊢
            have HR := Lib.hid (own_rd' HO.out)
            obtain ⟨ho1, ho2⟩ := hoth
            generalize hz1 : runR es fails picks q = z at *
            generalize hz2 : trR es fails picks q = t at *
            have HZ1 := Lib.hid hz1
            have HZ2 := Lib.hid hz2
            have HZ3 := Lib.hid ho1.symm
            have HZ4 := Lib.hid ho2.symm
            clear hz1 hz2 ho1 ho2 htk
            obtain ⟨w9, rfl⟩ : ∃ wo : World, wo = wr := ⟨_, rfl⟩
            go_wp2_with fail
            try go_wp2_with fail
            refine wp_region_held_drew (S := fun w' => Below w9.heap.size w9 w') (by kernel_rfl) (Below.drew (Below.refl _ _)) (fun hHeld => ?_)
            refine tY (i := 0) (v := ?_) rfl ?_ hHeld ?_; rotate_left 1; focus (intro w' hSw; have hCell := fun (b o : Nat) (h : b < w9.heap.size) => hSw.cell (p := ⟨b, o, none⟩) h; clear hSw; go_simp; try with_reducible rfl)
            (try simp only [Act.put, zn1, zn2, zn3])
            refine tY (i := 1) (v := ?_) rfl ?_ hHeld ?_; rotate_left 1; focus (intro w' hSw; clear hSw; go_simp; try with_reducible rfl)
            (try simp only [Act.put, zn1, zn2, zn3])
            refine tY (i := 2) (v := ?_) rfl ?_ hHeld ?_; rotate_left 1; focus (intro w' hSw; clear hSw; go_simp; try with_reducible rfl)
            (try simp only [Act.put, zn1, zn2, zn3])
            refine tY (i := 3) (v := ?_) rfl ?_ hHeld ?_; rotate_left 1; focus (intro w' hSw; clear hSw; go_simp; try with_reducible rfl)
            (try simp only [Act.put, zn1, zn2, zn3])
            refine tY (i := 5) (v := ?_) rfl ?_ hHeld ?_; rotate_left 1; focus (intro w' hSw; have hCell := fun (b o : Nat) (h : b < w9.heap.size) => hSw.cell (p := ⟨b, o, none⟩) h; clear hSw; go_simp; try with_reducible rfl)
            (try simp only [Act.put, zn1, zn2, zn3])
            refine tY (i := 6) (v := ?_) rfl ?_ hHeld ?_; rotate_left 1; focus (intro w' hSw; clear hSw; go_simp; try with_reducible rfl)
            (try simp only [Act.put, zn1, zn2, zn3])
            refine tY (i := 7) (v := ?_) rfl ?_ hHeld ?_; rotate_left 1; focus (intro w' hSw; clear hSw; go_simp; try with_reducible rfl)
            (try simp only [Act.put, zn1, zn2, zn3])
            refine tY (i := 8) (v := ?_) rfl ?_ hHeld ?_; rotate_left 1; focus (intro w' hSw; clear hSw; go_simp; try with_reducible rfl)
            (try simp only [Act.put, zn1, zn2, zn3])
            refine ready_one (i := 4) rfl (by kernel_rfl) (fun K hK => ?_)
            go_simp
            refine (RunW_any An Ae ns.length cn ce es A c q Af cf fails Ap cp picks _ (HG.out.at hHeld).re (HQ.out.at hHeld) (HFl.out.1.at hHeld) (HP.out.at hHeld) (by omega) (by omega) (by omega)).mono ?_
            rw [HZ1.out]
            rintro e y1 ⟨B1, d1, rfl, hd1, hr1, hb⟩
            have HR1 := Lib.hid hr1
            clear hr1
            refine hK.out _ _ ?_ (fun hHeld2 => ?_)
            · (try dsimp only); first | exact Below.trans hHeld (Below.mono hb hHeld.size) | exact hHeld | exact Below.drew hHeld | exact (by repeat (first | exact Below.refl _ _ | assumption | refine Below.alloc ?_ (by first | omega | (simp <;> omega)) _ | refine Below.setCell ?_ (by first | omega | (simp <;> omega)) _ | refine Below.drew ?_))
            clear hK K hHeld; have hHeld := hHeld2; clear hHeld2; (try simp only [Act.put, zn1, zn2, zn3])
            refine ready_one (i := 9) rfl (by kernel_rfl) (fun K hK => ?_)
            go_simp
            refine (RunW_any An Ae ns.length cn ce es A c q A9 c9 L Ap cp picks _ (HG.out.at hHeld).re (HQ.out.at hHeld) (HR.out.at hHeld) (HP.out.at hHeld) (by omega) (by omega) hol).mono ?_
            rw [HZ3.out]
            rintro e y2 ⟨B2, d2, rfl, hd2, hr2, hb⟩
            have HR2 := Lib.hid hr2
            have HR1b := Lib.hid (HR1.out.at hb)
            clear hr2
            refine hK.out _ _ ?_ (fun hHeld2 => ?_)
            · (try dsimp only); first | exact Below.trans hHeld (Below.mono hb hHeld.size) | exact hHeld | exact Below.drew hHeld | exact (by repeat (first | exact Below.refl _ _ | assumption | refine Below.alloc ?_ (by first | omega | (simp <;> omega)) _ | refine Below.setCell ?_ (by first | omega | (simp <;> omega)) _ | refine Below.drew ?_))
            clear hK K hHeld; have hHeld := hHeld2; clear hHeld2; (try simp only [Act.put, zn1, zn2, zn3])
            refine ready_one (i := 10) rfl (by kernel_rfl) (fun K hK => ?_)
            go_simp
            refine (SameJobs_any B1 B2 d1 d2 z z _ HR1b.out HR2.out (by omega)).mono ?_
            rw [decide_eq_true rfl]
            rintro e y3 ⟨rfl, hb⟩
            refine hK.out _ _ ?_ (fun hHeld2 => ?_)
            · (try dsimp only); first | exact Below.trans hHeld (Below.mono hb hHeld.size) | exact hHeld | exact Below.drew hHeld | exact (by repeat (first | exact Below.refl _ _ | assumption | refine Below.alloc ?_ (by first | omega | (simp <;> omega)) _ | refine Below.setCell ?_ (by first | omega | (simp <;> omega)) _ | refine Below.drew ?_))
            clear hK K hHeld; have hHeld := hHeld2; clear hHeld2; (try simp only [Act.put, zn1, zn2, zn3])
            refine tY (i := 11) (v := ?_) rfl ?_ hHeld ?_; rotate_left 1; focus (intro w' hSw; clear hSw; go_simp; try with_reducible rfl)
            (try simp only [Act.put, zn1, zn2, zn3])
            refine tY (i := 12) (v := ?_) rfl ?_ hHeld ?_; rotate_left 1; focus (intro w' hSw; have hCell := fun (b o : Nat) (h : b < w9.heap.size) => hSw.cell (p := ⟨b, o, none⟩) h; clear hSw; go_simp; try with_reducible rfl)
            (try simp only [Act.put, zn1, zn2, zn3])
            refine tY (i := 13) (v := ?_) rfl ?_ hHeld ?_; rotate_left 1; focus (intro w' hSw; clear hSw; go_simp; try with_reducible rfl)
            (try simp only [Act.put, zn1, zn2, zn3])
            refine tY (i := 14) (v := ?_) rfl ?_ hHeld ?_; rotate_left 1; focus (intro w' hSw; clear hSw; go_simp; try with_reducible rfl)
            (try simp only [Act.put, zn1, zn2, zn3])
            refine tY (i := 15) (v := ?_) rfl ?_ hHeld ?_; rotate_left 1; focus (intro w' hSw; clear hSw; go_simp; try with_reducible rfl)
            (try simp only [Act.put, zn1, zn2, zn3])
            refine tY (i := 17) (v := ?_) rfl ?_ hHeld ?_; rotate_left 1; focus (intro w' hSw; have hCell := fun (b o : Nat) (h : b < w9.heap.size) => hSw.cell (p := ⟨b, o, none⟩) h; clear hSw; go_simp; try with_reducible rfl)
            (try simp only [Act.put, zn1, zn2, zn3])
            refine tY (i := 18) (v := ?_) rfl ?_ hHeld ?_; rotate_left 1; focus (intro w' hSw; clear hSw; go_simp; try with_reducible rfl)
            (try simp only [Act.put, zn1, zn2, zn3])
            refine tY (i := 19) (v := ?_) rfl ?_ hHeld ?_; rotate_left 1; focus (intro w' hSw; clear hSw; go_simp; try with_reducible rfl)
            (try simp only [Act.put, zn1, zn2, zn3])
            refine tY (i := 20) (v := ?_) rfl ?_ hHeld ?_; rotate_left 1; focus (intro w' hSw; clear hSw; go_simp; try with_reducible rfl)
            (try simp only [Act.put, zn1, zn2, zn3])
            refine ready_one (i := 16) rfl (by kernel_rfl) (fun K hK => ?_)
            go_simp
            refine (TraceW_any An Ae ns.length cn ce es A c q Af cf fails Ap cp picks _ (HG.out.at hHeld).re (HQ.out.at hHeld) (HFl.out.1.at hHeld) (HP.out.at hHeld) (by omega) (by omega) (by omega)).mono ?_
            rw [HZ2.out]
            rintro e y4 ⟨B4, d4, rfl, hd4, hr4, hb⟩
            have HR4 := Lib.hid hr4
            clear hr4
            refine hK.out _ _ ?_ (fun hHeld2 => ?_)
            · (try dsimp only); first | exact Below.trans hHeld (Below.mono hb hHeld.size) | exact hHeld | exact Below.drew hHeld | exact (by repeat (first | exact Below.refl _ _ | assumption | refine Below.alloc ?_ (by first | omega | (simp <;> omega)) _ | refine Below.setCell ?_ (by first | omega | (simp <;> omega)) _ | refine Below.drew ?_))
            clear hK K hHeld; have hHeld := hHeld2; clear hHeld2; (try simp only [Act.put, zn1, zn2, zn3])
            refine ready_one (i := 21) rfl (by kernel_rfl) (fun K hK => ?_)
            go_simp
            refine (TraceW_any An Ae ns.length cn ce es A c q A9 c9 L Ap cp picks _ (HG.out.at hHeld).re (HQ.out.at hHeld) (HR.out.at hHeld) (HP.out.at hHeld) (by omega) (by omega) hol).mono ?_
            rw [HZ4.out]
            rintro e y5 ⟨B5, d5, rfl, hd5, hr5, hb⟩
            have HR5 := Lib.hid hr5
            have HR4b := Lib.hid (HR4.out.at hb)
            clear hr5
            refine hK.out _ _ ?_ (fun hHeld2 => ?_)
            · (try dsimp only); first | exact Below.trans hHeld (Below.mono hb hHeld.size) | exact hHeld | exact Below.drew hHeld | exact (by repeat (first | exact Below.refl _ _ | assumption | refine Below.alloc ?_ (by first | omega | (simp <;> omega)) _ | refine Below.setCell ?_ (by first | omega | (simp <;> omega)) _ | refine Below.drew ?_))
            clear hK K hHeld; have hHeld := hHeld2; clear hHeld2; (try simp only [Act.put, zn1, zn2, zn3])
            refine ready_one (i := 22) rfl (by kernel_rfl) (fun K hK => ?_)
            go_simp
            refine (SameDone_any B4 B5 d4 d5 t t _ HR4b.out HR5.out (by omega)).mono ?_
            rw [decide_eq_true rfl]
            rintro e y6 ⟨rfl, hb⟩
            refine hK.out _ _ ?_ (fun hHeld2 => ?_)
            · (try dsimp only); first | exact Below.trans hHeld (Below.mono hb hHeld.size) | exact hHeld | exact Below.drew hHeld | exact (by repeat (first | exact Below.refl _ _ | assumption | refine Below.alloc ?_ (by first | omega | (simp <;> omega)) _ | refine Below.setCell ?_ (by first | omega | (simp <;> omega)) _ | refine Below.drew ?_))
            clear hK K hHeld; have hHeld := hHeld2; clear hHeld2; (try simp only [Act.put, zn1, zn2, zn3])
            refine tY (i := 23) (v := ?_) rfl ?_ hHeld ?_; rotate_left 1; focus (intro w' hSw; clear hSw; go_simp; try with_reducible rfl)
            (try simp only [Act.put, zn1, zn2, zn3])
            refine tY (i := 24) (v := ?_) rfl ?_ hHeld ?_; rotate_left 1; focus (intro w' hSw; clear hSw; go_simp; try with_reducible rfl)
            (try simp only [Act.put, zn1, zn2, zn3])
            refine wpAnyH_done (by kernel_rfl) ?_ _
            go_wp2_with fail
            go_ret
            exact ⟨rfl, lift HB.out hHeld⟩
    · go_enter Tryz.func13, Tryz.ntmps13
      go_wp2_with fail
      first | (refine wp_named ?_; intro W1 hW) | (refine calls_named ?_; intro W1 hW)
      have B1 : Below w.heap.size w W1 := by rw [hW]; exact (by repeat (first | exact Below.refl _ _ | assumption | refine Below.alloc ?_ (by first | omega | (simp <;> omega)) _ | refine Below.setCell ?_ (by first | omega | (simp <;> omega)) _ | refine Below.drew ?_))
      replace HG := Lib.hid (HG.out.at B1)
      replace HQ := Lib.hid (HQ.out.at B1)
      replace HFl := Lib.hid ((And.intro (HFl.out.1.at B1) (HFl.out.2.at B1)))
      replace HP := Lib.hid (HP.out.at B1)
      have nw1 : w.heap.size < W1.heap.size := by rw [hW]; simp <;> omega
      have c0 : W1.cell? ⟨w.heap.size, 0, none⟩ = some (.slice An ns.length cn) := by rw [hW]; go_simp
      have c1 : W1.cell? ⟨w.heap.size, 1, none⟩ = some (.slice Ae es.length ce) := by rw [hW]; go_simp
      clear hW
      have HB := Lib.hid B1
      clear B1
      refine (shown_any W1).mono ?_
      rintro e w2 ⟨rfl, hb⟩
      replace c0 := cellAt c0 hb (by omega)
      replace c1 := cellAt c1 hb (by omega)
      replace HG := Lib.hid (HG.out.at hb)
      replace HQ := Lib.hid (HQ.out.at hb)
      replace HFl := Lib.hid ((And.intro (HFl.out.1.at hb) (HFl.out.2.at hb)))
      replace HP := Lib.hid (HP.out.at hb)
      replace nw1 : w.heap.size < w2.heap.size := ltAt nw1 hb
      replace HB := Lib.hid (lift HB.out hb)
      clear hb
      go_wp2_with fail
      refine (small_any An Ae cn ce ns es w2).mono ?_
      rintro e w3 ⟨rfl, hb⟩
      replace c0 := cellAt c0 hb (by omega)
      replace c1 := cellAt c1 hb (by omega)
      replace HG := Lib.hid (HG.out.at hb)
      replace HQ := Lib.hid (HQ.out.at hb)
      replace HFl := Lib.hid ((And.intro (HFl.out.1.at hb) (HFl.out.2.at hb)))
      replace HP := Lib.hid (HP.out.at hb)
      replace nw1 : w.heap.size < w3.heap.size := ltAt nw1 hb
      replace HB := Lib.hid (lift HB.out hb)
      clear hb
      cases hsm : smallB ns es
      · go_wp2_with fail
        go_ret
        exact ⟨rfl, HB.out⟩
      · go_wp2_with fail
        go_ret
        exact ⟨rfl, HB.out⟩
  · go_enter Tryz.func13, Tryz.ntmps13
    go_wp2_with fail
    first | (refine wp_named ?_; intro W1 hW) | (refine calls_named ?_; intro W1 hW)
    have B1 : Below w.heap.size w W1 := by rw [hW]; exact (by repeat (first | exact Below.refl _ _ | assumption | refine Below.alloc ?_ (by first | omega | (simp <;> omega)) _ | refine Below.setCell ?_ (by first | omega | (simp <;> omega)) _ | refine Below.drew ?_))
    replace HG := Lib.hid (HG.out.at B1)
    replace HQ := Lib.hid (HQ.out.at B1)
    replace HFl := Lib.hid ((And.intro (HFl.out.1.at B1) (HFl.out.2.at B1)))
    replace HP := Lib.hid (HP.out.at B1)
    have nw1 : w.heap.size < W1.heap.size := by rw [hW]; simp <;> omega
    have c0 : W1.cell? ⟨w.heap.size, 0, none⟩ = some (.slice An ns.length cn) := by rw [hW]; go_simp
    have c1 : W1.cell? ⟨w.heap.size, 1, none⟩ = some (.slice Ae es.length ce) := by rw [hW]; go_simp
    clear hW
    have HB := Lib.hid B1
    clear B1
    refine (shown_any W1).mono ?_
    rintro e w2 ⟨rfl, hb⟩
    replace c0 := cellAt c0 hb (by omega)
    replace c1 := cellAt c1 hb (by omega)
    replace HG := Lib.hid (HG.out.at hb)
    replace HQ := Lib.hid (HQ.out.at hb)
    replace HFl := Lib.hid ((And.intro (HFl.out.1.at hb) (HFl.out.2.at hb)))
    replace HP := Lib.hid (HP.out.at hb)
    replace nw1 : w.heap.size < w2.heap.size := ltAt nw1 hb
    replace HB := Lib.hid (lift HB.out hb)
    clear hb
    go_wp2_with fail
    refine (small_any An Ae cn ce ns es w2).mono ?_
    rintro e w3 ⟨rfl, hb⟩
    replace c0 := cellAt c0 hb (by omega)
    replace c1 := cellAt c1 hb (by omega)
    replace HG := Lib.hid (HG.out.at hb)
    replace HQ := Lib.hid (HQ.out.at hb)
    replace HFl := Lib.hid ((And.intro (HFl.out.1.at hb) (HFl.out.2.at hb)))
    replace HP := Lib.hid (HP.out.at hb)
    replace nw1 : w.heap.size < w3.heap.size := ltAt nw1 hb
    replace HB := Lib.hid (lift HB.out hb)
    clear hb
    cases hsm : smallB ns es
    · go_wp2_with fail
      go_ret
      exact ⟨rfl, HB.out⟩
    · go_wp2_with fail
      go_ret
      exact ⟨rfl, HB.out⟩
end Od
end Go.Proofs.YtmlogmcnblgnbaaGreat
end
