/- My texts, joined for the claim: LpB. -/
import Derived.Test.YtbllehjhmfehbaaGreatZB0
import Derived.Test.YtbllehjhmfehbaaGreatZB15

section
/- The walk of the law PullStart. (bel2) -/
namespace Go.Proofs.YtbllehjhmfehbaaGreat
open Go.RowKit Go.Sort Go.Maps
set_option linter.unusedSimpArgs false
namespace Od

def nmF (l : List Pl) (s : Str) : Option Value := if s ∈ l.map (·.1) then some (.bool (needS l s)) else none
theorem nmF_get (l : List Pl) (s : Str) : (nmF l s).getD (.bool false) = .bool (needS l s) := by
  unfold nmF
  by_cases h : s ∈ l.map (·.1)
  · rw [if_pos h]; rfl
  · rw [if_neg h]
    have : needS l s = false := by
      unfold needS
      rw [List.any_eq_false]
      intro p hp
      have : ¬ p.1 = s := fun e => h (List.mem_map.2 ⟨p, hp, e⟩)
      simp [this]
    rw [this]; rfl
theorem needS_snoc (l : List Pl) (p : Pl) (s : Str) : needS (l ++ [p]) s = (needS l s || (p.1 == s && (p.2.1 == 1 && p.2.2.1))) := by
  unfold needS; rw [List.any_append]; simp
theorem nmF_put {l : List Pl} {p : Pl} {v : Bool} (hv : needS (l ++ [p]) p.1 = v) : (fun y => if y = p.1 then some (Value.bool v) else nmF l y) = nmF (l ++ [p]) := by
  funext y
  unfold nmF
  by_cases e : y = p.1
  · subst e
    rw [if_pos rfl, hv, List.map_append, if_pos (by simp)]
  · rw [if_neg e, needS_snoc]
    have h1 : (p.1 == y) = false := by simpa using fun h => e h.symm
    have h2 : (y ∈ (l ++ [p]).map (·.1)) ↔ y ∈ l.map (·.1) := by
      rw [List.map_append, List.mem_append]
      simp only [List.map_cons, List.map_nil, List.mem_singleton]
      exact ⟨fun h => h.elim id fun h => absurd h e, .inl⟩
    rw [h1]
    by_cases h3 : y ∈ l.map (·.1)
    · rw [if_pos h3, if_pos (h2.2 h3)]; simp
    · rw [if_neg h3, if_neg fun h => h3 (h2.1 h)]
theorem nmF_of {l : List Pl} {s : Str} {v : Value} (h : nmF l s = some v) : v = .bool (needS l s) := by
  unfold nmF at h
  split at h
  · injection h with h; exact h.symm
  · cases h
theorem svs_app' (a b : List Str) : svs (a ++ b) = svs a ++ svs b := by simp [svs]
set_option maxRecDepth 100000 in
set_option maxHeartbeats 16000000 in
theorem pullStart_any (An Ae Au Ah : Option Addr) (cn ce cu ch : Nat) (ns : List Nd) (es : List Ed) (up half : List Str) (u : Str) (w : World) (hg : GIw w An Ae ns es) (hn : NIn w Au Ah up half) (hof : okS u) :
    Calls Tryz.prog 8 #[gV An ns.length cn Ae es.length ce, nowV Au up.length cu Ah half.length ch, sv u] w fun e w' => e = .returned (.bool true) ∧ Below w.heap.size w w' := by
  obtain ⟨s0, hs, hs0, hs1, hs2⟩ := info_parts infoS
  have hmm : ∀ (t : TypeId) (w : World), (Instr.makeMap t none).run Tryz.prog w = .ok (.map (some w.heap.size)) (w.alloc (.map #[] 0)) := fun _ _ => rfl
  have HG := Lib.hid hg
  have HN := Lib.hid hn
  have hofj : okJ (u, 1) := ⟨hof, by rfl⟩
  clear hg hn
  go_enter Tryz.func8, Tryz.ntmps8
  go_wp2_with fail
  first | (refine wp_named ?_; intro W1 hW) | (refine calls_named ?_; intro W1 hW)
  have B1 : Below w.heap.size w W1 := by rw [hW]; exact (by repeat (first | exact Below.refl _ _ | assumption | refine Below.alloc ?_ (by first | omega | (simp <;> omega)) _ | refine Below.setCell ?_ (by first | omega | (simp <;> omega)) _ | refine Below.drew ?_))
  replace HG := Lib.hid (HG.out.at B1)
  replace HN := Lib.hid (HN.out.at B1)
  have n1 : w.heap.size < W1.heap.size := by rw [hW]; simp <;> omega
  have n2 : (w.heap.size + 1) < W1.heap.size := by rw [hW]; simp <;> omega
  have c0 : W1.cell? ⟨w.heap.size, 0, none⟩ = some (.slice An ns.length cn) := by rw [hW]; go_simp
  have c1 : W1.cell? ⟨w.heap.size, 1, none⟩ = some (.slice Ae es.length ce) := by rw [hW]; go_simp
  have c2 : W1.cell? ⟨(w.heap.size + 1), 0, none⟩ = some (.slice Au up.length cu) := by rw [hW]; go_simp
  have c3 : W1.cell? ⟨(w.heap.size + 1), 1, none⟩ = some (.slice Ah half.length ch) := by rw [hW]; go_simp
  clear hW
  have HB := Lib.hid B1
  clear B1
  refine (shown17_any W1).mono ?_
  rintro e w2 ⟨rfl, hb⟩
  replace c0 := cellAt c0 hb (by omega)
  replace c1 := cellAt c1 hb (by omega)
  replace c2 := cellAt c2 hb (by omega)
  replace c3 := cellAt c3 hb (by omega)
  replace HG := Lib.hid (HG.out.at hb)
  replace HN := Lib.hid (HN.out.at hb)
  replace n1 : w.heap.size < w2.heap.size := ltAt n1 hb
  replace n2 : (w.heap.size + 1) < w2.heap.size := ltAt n2 hb
  replace HB := Lib.hid (lift HB.out hb)
  clear hb
  go_wp2_with fail
  refine (small17_any An Ae cn ce ns es w2 HG.out).mono ?_
  rintro e w3 ⟨rfl, hb⟩
  replace c0 := cellAt c0 hb (by omega)
  replace c1 := cellAt c1 hb (by omega)
  replace c2 := cellAt c2 hb (by omega)
  replace c3 := cellAt c3 hb (by omega)
  replace HG := Lib.hid (HG.out.at hb)
  replace HN := Lib.hid (HN.out.at hb)
  replace n1 : w.heap.size < w3.heap.size := ltAt n1 hb
  replace n2 : (w.heap.size + 1) < w3.heap.size := ltAt n2 hb
  replace HB := Lib.hid (lift HB.out hb)
  clear hb
  cases hsm : small17 ns es
  · skip
    go_wp2_with fail
    go_ret
    exact ⟨rfl, HB.out⟩
  · obtain ⟨hl, hmay⟩ := small17_iff.1 hsm
    have hnl := may_len hmay
    have HMay := Lib.hid hmay
    clear hmay hsm
    go_wp2_with fail
    refine (PAll_any An Ae Au Ah none cn ce cu ch 0 ns es up half [] u 1 w3 HG.out.rn (by omega) HG.out.re (by omega) HN.out.u HN.out.h Rd.none_ (by simp) HG.out.oke hofj (fun _ h => by cases h)).mono ?_
    rintro e w4 ⟨A, c, rfl, ho, hb⟩
    have HR := Lib.hid (own_rd' ho)
    replace c0 := cellAt c0 hb (by omega)
    replace c1 := cellAt c1 hb (by omega)
    replace c2 := cellAt c2 hb (by omega)
    replace c3 := cellAt c3 hb (by omega)
    replace HG := Lib.hid (HG.out.at hb)
    replace HN := Lib.hid (HN.out.at hb)
    replace n1 : w.heap.size < w4.heap.size := ltAt n1 hb
    replace n2 : (w.heap.size + 1) < w4.heap.size := ltAt n2 hb
    replace HB := Lib.hid (lift HB.out hb)
    have HOk := Lib.hid (fun p (hp : p ∈ pullQ ns es up half (u, 1) []) => pull_ok HG.out.oke hofj hp)
    have hlen := pullQ_len ns es up half (u, 1) []
    have HSt := Lib.hid (fun (v o : Str) (hv : needS (pullQ ns es up half (u, 1) []) v = true) (ho : (v, o, 1) ∈ es ∨ (v, o, 4) ∈ es) => (show needS (pullQ ns es up half (u, 1) []) o = true from by
      refine pull_start ?_ hv ho
      cases ha : asksB ns (u, 1)
      · rw [pull_asks ha] at hv; cases hv
      · rfl))
    have HNm := Lib.hid (pull_name (ns := ns) (es := es) (up := up) (half := half) (u := u))
    clear hb ho
    generalize pullQ ns es up half (u, 1) [] = L at *
    go_wp2_with fail
    have hmp : MapIs strK (w4.alloc (.map #[] 0)) w4.heap.size 0 (nmF []) := by
      have h := MapIs.made strK w4
      rwa [show (fun _ => none : Str → Option Value) = nmF [] from by funext s; simp [nmF]] at h
    have HM0 := Lib.hid hmp
    clear hmp
    have hL1 : L.length < maxLen := by unfold maxLen; omega
    have HLm := Lib.hid hL1
    clear hL1
    go_loopw [29] (fun i wr => ∃ k : Nat, k ≤ L.length ∧ i = .int .i64 k ∧ Hid (MapIs strK wr w4.heap.size k (nmF (L.take k))) ∧ Hid (Below w4.heap.size w4 wr)) (fun i _ => L.length - (intOf i).toNat)
    case atStart => exact ⟨0, Nat.zero_le _, rfl, HM0, (Below.refl _ _).alloc (Nat.le_refl _) _⟩
    case round =>
      obtain ⟨k, hk, rfl, HMk, HBk⟩ := hrel
      have hz5 := HBk.out.size
      have hmlt := HMk.out.lt
      by_cases hlt : k < L.length
      · obtain ⟨b2, o2, hA, hB2, x0, x1, x2, x3⟩ := (HR.out.at HBk.out).pl hlt
        subst hA
        have htk : L.take (k + 1) = L.take k ++ [L[k]] := List.take_succ_eq_append_getElem hlt
        have hok := (HOk.out _ (List.getElem_mem hlt)).1.1
        have hkm : k < maxLen := by have := HLm.out; omega
        generalize L[k] = p at x0 x1 x2 x3 htk hok
        obtain ⟨s, t', n', b'⟩ := p
        simp only at x0 x1 x2 x3 htk hok
        have HTk := Lib.hid htk
        have HKm := Lib.hid hkm
        have i1 : (0 : Int) ≤ (k : Int) := by omega
        have i2 : (k : Int) < (L.length : Int) := by omega
        have hsn := needS_snoc (L.take k) (s, t', n', b') s
        clear htk hkm
        cases hold : needS (L.take k) s
        · cases ht : (t' == 1)
          · have HV := Lib.hid (show needS (L.take k ++ [(s, t', n', b')]) s = false by rw [hsn, hold, ht]; simp)
            clear hsn
            go_wp2_with (first
              | (at_lookup; refine wpList_lookup_is _ (by rfl) (.tmp 36) (.tmp 38) 35 (by rfl) 4 Tryz.underlying35 (.bool false) (zeroB _) w4.heap.size _ _ (by rfl) (HMk.out.alloc _) s (by rfl) hok ?_; rw [nmF_get, hold])
              | (at_mapUpdate; refine wpList_update_is _ (by rfl) (.tmp 33) (.tmp 35) (.tmp 48) 35 (by rfl) 4 Tryz.underlying35 w4.heap.size _ _ (by rfl) (HMk.out.alloc _) HKm.out s (.bool false) (by rfl) (by rfl) hok ?_; intro w6 hm6 hg6; have HM6 := Lib.hid (setS_if hm6); have HB6 := Lib.hid ((HBk.out.alloc hz5 _).grown hg6 (by simp; omega) (fun g hg => by cases hg; exact Nat.le_refl _)); clear hm6 hg6)
              | fail)
            go_roundw
            case rel =>
              have h6 := HM6.out
              rw [nmF_put (p := (s, t', n', b')) HV.out, ← HTk.out] at h6
              exact ⟨k + 1, by omega, by go_num, h6, HB6⟩
            case measure => simp [intOf]; omega
          · cases n'
            · have HV := Lib.hid (show needS (L.take k ++ [(s, t', false, b')]) s = false by rw [hsn, hold, ht]; simp)
              clear hsn
              go_wp2_with (first
                | (at_lookup; refine wpList_lookup_is _ (by rfl) (.tmp 36) (.tmp 38) 35 (by rfl) 4 Tryz.underlying35 (.bool false) (zeroB _) w4.heap.size _ _ (by rfl) (HMk.out.alloc _) s (by rfl) hok ?_; rw [nmF_get, hold])
                | (at_mapUpdate; refine wpList_update_is _ (by rfl) (.tmp 33) (.tmp 35) (.tmp 48) 35 (by rfl) 4 Tryz.underlying35 w4.heap.size _ _ (by rfl) (HMk.out.alloc _) HKm.out s (.bool false) (by rfl) (by rfl) hok ?_; intro w6 hm6 hg6; have HM6 := Lib.hid (setS_if hm6); have HB6 := Lib.hid ((HBk.out.alloc hz5 _).grown hg6 (by simp; omega) (fun g hg => by cases hg; exact Nat.le_refl _)); clear hm6 hg6)
                | fail)
              go_roundw
              case rel =>
                have h6 := HM6.out
                rw [nmF_put (p := (s, t', false, b')) HV.out, ← HTk.out] at h6
                exact ⟨k + 1, by omega, by go_num, h6, HB6⟩
              case measure => simp [intOf]; omega
            · have HV := Lib.hid (show needS (L.take k ++ [(s, t', true, b')]) s = true by rw [hsn, hold, ht]; simp)
              clear hsn
              go_wp2_with (first
                | (at_lookup; refine wpList_lookup_is _ (by rfl) (.tmp 36) (.tmp 38) 35 (by rfl) 4 Tryz.underlying35 (.bool false) (zeroB _) w4.heap.size _ _ (by rfl) (HMk.out.alloc _) s (by rfl) hok ?_; rw [nmF_get, hold])
                | (at_mapUpdate; refine wpList_update_is _ (by rfl) (.tmp 33) (.tmp 35) (.tmp 48) 35 (by rfl) 4 Tryz.underlying35 w4.heap.size _ _ (by rfl) (HMk.out.alloc _) HKm.out s (.bool true) (by rfl) (by rfl) hok ?_; intro w6 hm6 hg6; have HM6 := Lib.hid (setS_if hm6); have HB6 := Lib.hid ((HBk.out.alloc hz5 _).grown hg6 (by simp; omega) (fun g hg => by cases hg; exact Nat.le_refl _)); clear hm6 hg6)
                | fail)
              go_roundw
              case rel =>
                have h6 := HM6.out
                rw [nmF_put (p := (s, t', true, b')) HV.out, ← HTk.out] at h6
                exact ⟨k + 1, by omega, by go_num, h6, HB6⟩
              case measure => simp [intOf]; omega
        · have HV := Lib.hid (show needS (L.take k ++ [(s, t', n', b')]) s = true by rw [hsn, hold]; simp)
          clear hsn
          go_wp2_with (first
            | (at_lookup; refine wpList_lookup_is _ (by rfl) (.tmp 36) (.tmp 38) 35 (by rfl) 4 Tryz.underlying35 (.bool false) (zeroB _) w4.heap.size _ _ (by rfl) (HMk.out.alloc _) s (by rfl) hok ?_; rw [nmF_get, hold])
            | (at_mapUpdate; refine wpList_update_is _ (by rfl) (.tmp 33) (.tmp 35) (.tmp 48) 35 (by rfl) 4 Tryz.underlying35 w4.heap.size _ _ (by rfl) (HMk.out.alloc _) HKm.out s (.bool true) (by rfl) (by rfl) hok ?_; intro w6 hm6 hg6; have HM6 := Lib.hid (setS_if hm6); have HB6 := Lib.hid ((HBk.out.alloc hz5 _).grown hg6 (by simp; omega) (fun g hg => by cases hg; exact Nat.le_refl _)); clear hm6 hg6)
            | fail)
          go_roundw
          case rel =>
            have h6 := HM6.out
            rw [nmF_put (p := (s, t', n', b')) HV.out, ← HTk.out] at h6
            exact ⟨k + 1, by omega, by go_num, h6, HB6⟩
          case measure => simp [intOf]; omega
      · obtain rfl : k = L.length := by omega
        obtain ⟨w9, rfl⟩ : ∃ wo : World, wo = wr := ⟨_, rfl⟩
        rw [List.take_length] at HMk
        replace c0 := cellAt c0 HBk.out (by omega)
        replace c1 := cellAt c1 HBk.out (by omega)
        replace c2 := cellAt c2 HBk.out (by omega)
        replace c3 := cellAt c3 HBk.out (by omega)
        replace HG := Lib.hid (HG.out.at HBk.out)
        replace HN := Lib.hid (HN.out.at HBk.out)
        replace n1 : w.heap.size < w9.heap.size := ltAt n1 HBk.out
        replace n2 : (w.heap.size + 1) < w9.heap.size := ltAt n2 HBk.out
        replace HB := Lib.hid (lift HB.out HBk.out)
        replace HR := Lib.hid (HR.out.at HBk.out)
        go_wp2_with (first
          | (at_range; refine wpList_range_is _ (by rfl) (.tmp 50) 35 (by rfl) 4 Tryz.underlying35 w4.heap.size _ _ (by rfl) HMk.out ?_; intro w3' cnt hr3 hg3 hs3; have HR3 := Lib.hid hr3; have HG3 := Lib.hid hg3; clear hr3 hg3)
          | fail)
        go_frame
        go_loopw [11] (fun _ wr => ∃ (left : Str → Bool) (cnt : Nat), RangeIs strK wr w4.heap.size w9.heap.size L.length (nmF L) left cnt ∧ Below w9.heap.size w9 wr) (fun _ wr => wr.rangeLeft w4.heap.size w9.heap.size)
        case atStart => exact ⟨_, cnt, HR3.out, (Below.refl _ _).grown HG3.out (Nat.le_refl _) (fun g hg => by cases hg)⟩
        case round =>
          obtain ⟨left, cnt', hrg, hbel⟩ := hrel
          have hmz : wr.rangeLeft w4.heap.size w9.heap.size = cnt' := hrg.left_eq
          have HB2 := Lib.hid hbel
          have HM := Lib.hid hmz
          have HRg := Lib.hid hrg
          clear hrg hbel hmz
          go_wp2_with (first
            | (at_next; refine wpList_next_is _ (by rfl) (.tmp 51) (by rfl) w4.heap.size w9.heap.size _ (nmF L) left cnt' (by rfl) HRg.out ?_ ?_)
            | fail)
          · intro _
            have hbr := HB2.out
            replace c0 := cellAt c0 hbr (by omega)
            replace c1 := cellAt c1 hbr (by omega)
            replace c2 := cellAt c2 hbr (by omega)
            replace c3 := cellAt c3 hbr (by omega)
            replace HG := Lib.hid (HG.out.at hbr)
            replace HN := Lib.hid (HN.out.at hbr)
            replace n1 : w.heap.size < wr.heap.size := ltAt n1 hbr
            replace n2 : (w.heap.size + 1) < wr.heap.size := ltAt n2 hbr
            replace HB := Lib.hid (lift HB.out hbr)
            replace HR := Lib.hid (HR.out.at hbr)
            replace HMk := Lib.hid (MapIs.on HMk.out hbr)
            clear hbr HB2
            go_wp2_with fail
            refine (Node_any An Ae es.length cn ce ns u wr HG.out.rn (by omega)).mono ?_
            rintro e v2 ⟨rfl, hb⟩
            replace c0 := cellAt c0 hb (by omega)
            replace c1 := cellAt c1 hb (by omega)
            replace c2 := cellAt c2 hb (by omega)
            replace c3 := cellAt c3 hb (by omega)
            replace HG := Lib.hid (HG.out.at hb)
            replace HN := Lib.hid (HN.out.at hb)
            replace n1 : w.heap.size < v2.heap.size := ltAt n1 hb
            replace n2 : (w.heap.size + 1) < v2.heap.size := ltAt n2 hb
            replace HB := Lib.hid (lift HB.out hb)
            replace HR := Lib.hid (HR.out.at hb)
            replace HMk := Lib.hid (MapIs.on HMk.out hb)
            clear hb
            have hz8 := HB.out.size
            have hnm := HNm.out
            cases hno : nodeOf ns u with
            | none =>
              rw [hno] at hnm
              have HNu := Lib.hid hnm
              clear hnm
              unfold nodeV
              go_wp2_with (first
                | (at_lookup; refine wpList_lookup_is _ (by rfl) (.tmp 82) (.tmp 83) 35 (by rfl) 4 Tryz.underlying35 (.bool false) (zeroB _) w4.heap.size _ _ (by rfl) (HMk.out.alloc _) u (by rfl) hof ?_; rw [nmF_get, HNu.out])
                | fail)
              go_ret
              exact ⟨rfl, HB.out.alloc hz8 _⟩
            | some nd =>
              obtain ⟨s1, k1, r1⟩ := nd
              rw [hno] at hnm
              have HNu := Lib.hid hnm
              clear hnm
              unfold nodeV
              go_wp2_with (first
                | (at_lookup; refine wpList_lookup_is _ (by rfl) (.tmp 82) (.tmp 83) 35 (by rfl) 4 Tryz.underlying35 (.bool false) (zeroB _) w4.heap.size _ _ (by rfl) (HMk.out.alloc _) u (by rfl) hof ?_; rw [nmF_get, HNu.out])
                | fail)
              go_ret
              exact ⟨rfl, HB.out.alloc hz8 _⟩
          · intro x v w5 cnt3 hx hlx hfx hrg3 hlt3 hg3 hs5 hen
            have hv := nmF_of hfx
            subst hv
            have hb5 : Below w9.heap.size w9 w5 := HB2.out.grown hg3 HB2.out.size (fun g hg => by cases hg; exact Nat.le_refl _)
            have HR4 := Lib.hid hrg3
            have HLt := Lib.hid hlt3
            clear hrg3 hg3 hlx hfx hlt3
            cases hnx : needS L x
            · have HB5 := Lib.hid hb5
              clear hb5
              go_wp2_with fail
              go_roundw
              case rel => exact ⟨_, cnt3, HR4.out, HB5.out⟩
              case measure =>
                rw [HM.out]
                have := HR4.out.left_eq
                have := HLt.out
                omega
            · skip
              replace c0 := cellAt c0 hb5 (by omega)
              replace c1 := cellAt c1 hb5 (by omega)
              replace c2 := cellAt c2 hb5 (by omega)
              replace c3 := cellAt c3 hb5 (by omega)
              replace HG := Lib.hid (HG.out.at hb5)
              replace HN := Lib.hid (HN.out.at hb5)
              replace n1 : w.heap.size < w5.heap.size := ltAt n1 hb5
              replace n2 : (w.heap.size + 1) < w5.heap.size := ltAt n2 hb5
              replace HB := Lib.hid (lift HB.out hb5)
              replace HR := Lib.hid (HR.out.at hb5)
              replace HMk := Lib.hid (MapIs.on HMk.out hb5)
              have HB5 := Lib.hid hb5
              have HR5 := Lib.hid HR4.out
              clear hb5
              go_wp2_with fail
              have hl1 := outS_len es x 1
              have hl2 := outS_len es x 4
              have h63 := Lib.hid (show (outS es x 1).length + (outS es x 4).length ≤ maxLen by unfold maxLen; omega)
              have hby := Lib.hid (show ((outS es x 1).length + (outS es x 4).length) * 16 ≤ 140737488355328 by omega)
              first | (refine wp_named ?_; intro W6 hW) | (refine calls_named ?_; intro W6 hW)
              have B6 : Below w5.heap.size w5 W6 := by rw [hW]; exact (by repeat (first | exact Below.refl _ _ | assumption | refine Below.alloc ?_ (by first | omega | (simp <;> omega)) _ | refine Below.setCell ?_ (by first | omega | (simp <;> omega)) _ | refine Below.drew ?_))
              replace c0 := cellAt c0 B6 (by omega)
              replace c1 := cellAt c1 B6 (by omega)
              replace c2 := cellAt c2 B6 (by omega)
              replace c3 := cellAt c3 B6 (by omega)
              replace HG := Lib.hid (HG.out.at B6)
              replace HN := Lib.hid (HN.out.at B6)
              replace n1 : w.heap.size < W6.heap.size := ltAt n1 B6
              replace n2 : (w.heap.size + 1) < W6.heap.size := ltAt n2 B6
              replace HB := Lib.hid (lift HB.out B6)
              replace HR := Lib.hid (HR.out.at B6)
              replace HMk := Lib.hid (MapIs.on HMk.out B6)
              clear hW
              have HR6 := Lib.hid (HR5.out.on B6)
              have HB6 := Lib.hid (lift HB5.out B6)
              clear B6
              try go_wp2_with fail
              refine wp_region_held_drew (S := fun w' => Below W6.heap.size W6 w') (by kernel_rfl) (Below.drew (Below.refl _ _)) (fun hHeld => ?_)
              refine tY (i := 0) (v := ?_) rfl ?_ hHeld ?_; rotate_left 1; focus (intro w' hSw; have hCell := fun (b o : Nat) (h : b < W6.heap.size) => hSw.cell (p := ⟨b, o, none⟩) h; clear hSw; go_simp; try with_reducible rfl)
              (try simp only [Act.put, zn1, zn2, zn3])
              refine tY (i := 1) (v := ?_) rfl ?_ hHeld ?_; rotate_left 1; focus (intro w' hSw; clear hSw; go_simp; try with_reducible rfl)
              (try simp only [Act.put, zn1, zn2, zn3])
              refine tY (i := 3) (v := ?_) rfl ?_ hHeld ?_; rotate_left 1; focus (intro w' hSw; have hCell := fun (b o : Nat) (h : b < W6.heap.size) => hSw.cell (p := ⟨b, o, none⟩) h; clear hSw; go_simp; try with_reducible rfl)
              (try simp only [Act.put, zn1, zn2, zn3])
              refine tY (i := 4) (v := ?_) rfl ?_ hHeld ?_; rotate_left 1; focus (intro w' hSw; clear hSw; go_simp; try with_reducible rfl)
              (try simp only [Act.put, zn1, zn2, zn3])
              refine tY (i := 8) (v := ?_) rfl ?_ hHeld ?_; rotate_left 1; focus (intro w' hSw; clear hSw; go_simp; try with_reducible rfl)
              (try simp only [Act.put, zn1, zn2, zn3])
              refine ready_one (i := 2) rfl (by kernel_rfl) (fun K hK => ?_)
              go_simp
              refine (Out_any An Ae ns.length cn ce es x 1 _ (HG.out.re.at hHeld) (by omega)).mono ?_
              rintro e y1 ⟨A1, c1', rfl, ho1, hb⟩
              have HO1 := Lib.hid (own_base ho1 hHeld.size)
              clear ho1
              refine hK.out _ _ ?_ (fun hHeld2 => ?_)
              · (try dsimp only); first | exact Below.trans hHeld (Below.mono hb hHeld.size) | exact hHeld | exact Below.drew hHeld | exact (by repeat (first | exact Below.refl _ _ | assumption | refine Below.alloc ?_ (by first | omega | (simp <;> omega)) _ | refine Below.setCell ?_ (by first | omega | (simp <;> omega)) _ | refine Below.drew ?_))
              clear hK K hHeld; have hHeld := hHeld2; clear hHeld2; (try simp only [Act.put, zn1, zn2, zn3])
              refine ready_one (i := 5) rfl (by kernel_rfl) (fun K hK => ?_)
              go_simp
              refine (Out_any An Ae ns.length cn ce es x 4 _ (HG.out.re.at hHeld) (by omega)).mono ?_
              rintro e y2 ⟨A2, c2', rfl, ho2, hb⟩
              have HO2 := Lib.hid (own_on HO1.out hb)
              have HS2 := Lib.hid (own_rd' ho2)
              clear ho2
              refine hK.out _ _ ?_ (fun hHeld2 => ?_)
              · (try dsimp only); first | exact Below.trans hHeld (Below.mono hb hHeld.size) | exact hHeld | exact Below.drew hHeld | exact (by repeat (first | exact Below.refl _ _ | assumption | refine Below.alloc ?_ (by first | omega | (simp <;> omega)) _ | refine Below.setCell ?_ (by first | omega | (simp <;> omega)) _ | refine Below.drew ?_))
              clear hK K hHeld; have hHeld := hHeld2; clear hHeld2; (try simp only [Act.put, zn1, zn2, zn3])
              refine ready_one (i := 6) rfl (by kernel_rfl) (fun K hK => ?_)
              refine step_append_rd _ (by rfl) (.tmp 61) (.tmp 64) 26 (by rfl) W6.heap.size 9 s0 _ 1 16 Tryz.underlying26 hs hs0 hs1 hs2 rfl (by decide) _ (outS es x 1).length (svs (outS es x 1)) (by rfl) HO2.out _ A2 (outS es x 4).length c2' (svs (outS es x 4)) (by rfl) HS2.out (one_svs _) h63.out hby.out hHeld.size ?_
              intro A7 c7 w7 ho7 hg7 hat7
              replace hHeld := hHeld.grown hg7 hHeld.size (fun j hj => (HO2.out.lt j hj).1)
              have HO7 := Lib.hid ho7
              clear ho7 hg7 hat7
              refine hK.out _ _ ?_ (fun hHeld2 => ?_)
              · (try dsimp only); first | exact Below.trans hHeld (Below.mono hb hHeld.size) | exact hHeld | exact Below.drew hHeld | exact (by repeat (first | exact Below.refl _ _ | assumption | refine Below.alloc ?_ (by first | omega | (simp <;> omega)) _ | refine Below.setCell ?_ (by first | omega | (simp <;> omega)) _ | refine Below.drew ?_))
              clear hK K hHeld; have hHeld := hHeld2; clear hHeld2; (try simp only [Act.put, zn1, zn2, zn3])
              refine tY (i := 7) (v := ?_) rfl ?_ hHeld ?_; rotate_left 1; focus (intro w' hSw; clear hSw; go_simp; try with_reducible rfl)
              (try simp only [Act.put, zn1, zn2, zn3])
              refine wpAnyH_done (by kernel_rfl) ?_ _
              have HB7 := Lib.hid (lift HB6.out hHeld)
              have HR7 := Lib.hid (HR6.out.on hHeld)
              replace c0 := cellAt c0 hHeld (by omega)
              replace c1 := cellAt c1 hHeld (by omega)
              replace c2 := cellAt c2 hHeld (by omega)
              replace c3 := cellAt c3 hHeld (by omega)
              replace HG := Lib.hid (HG.out.at hHeld)
              replace HN := Lib.hid (HN.out.at hHeld)
              replace n1 : w.heap.size < w7.heap.size := ltAt n1 hHeld
              replace n2 : (w.heap.size + 1) < w7.heap.size := ltAt n2 hHeld
              replace HB := Lib.hid (lift HB.out hHeld)
              replace HR := Lib.hid (HR.out.at hHeld)
              replace HMk := Lib.hid (MapIs.on HMk.out hHeld)
              clear hHeld
              have hall : ∀ o ∈ outS es x 1 ++ outS es x 4, needS L o = true ∧ okS o := fun o ho => by
                have h1 : (x, o, 1) ∈ es ∨ (x, o, 4) ∈ es := by
                  rcases List.mem_append.1 ho with h | h
                  · exact .inl (mem_outS.1 h)
                  · exact .inr (mem_outS.1 h)
                refine ⟨HSt.out x o hnx h1, ?_⟩
                rcases h1 with h | h
                · exact (HG.out.oke _ h).2
                · exact (HG.out.oke _ h).2
              have HAll := Lib.hid hall
              have hrd : Rd w7 w7.heap.size 1 A7 (outS es x 1 ++ outS es x 4).length (svs (outS es x 1 ++ outS es x 4)) := by
                rw [List.length_append, svs_app']
                exact own_rd' HO7.out
              have HRd := Lib.hid hrd
              clear hall hrd HO7 HO2 HS2 HO1
              generalize outS es x 1 = a at *
              generalize outS es x 4 = b at *
              go_wp2_with fail
              go_loopw [67] (fun i wr => ∃ k : Nat, k ≤ a.length + b.length ∧ i = .int .i64 k ∧ Hid (Below w7.heap.size w7 wr)) (fun i _ => a.length + b.length - (intOf i).toNat)
              case atStart => exact ⟨0, Nat.zero_le _, rfl, Below.refl _ _⟩
              case round =>
                obtain ⟨k, hk, rfl, HBx⟩ := hrel
                by_cases hlt2 : k < a.length + b.length
                · have hlt3 : k < (a ++ b).length := by rw [List.length_append]; exact hlt2
                  obtain ⟨b2, o2, hA, hB2, x0⟩ := (HRd.out.at HBx.out).str hlt3
                  subst hA
                  have hm := HAll.out _ (List.getElem_mem hlt3)
                  generalize (a ++ b)[k] = s at x0 hm
                  obtain ⟨hm1, hok⟩ := hm
                  have i1 : (0 : Int) ≤ (k : Int) := by omega
                  have i2 : (k : Int) < (a.length : Int) + (b.length : Int) := by omega
                  clear hlt3
                  go_wp2_with (first
                    | (at_lookup; refine wpList_lookup_is _ (by rfl) (.tmp 71) (.tmp 72) 35 (by rfl) 4 Tryz.underlying35 (.bool false) (zeroB _) w4.heap.size _ _ (by rfl) (HMk.out.on HBx.out) s (by rfl) hok ?_; rw [nmF_get, hm1])
                    | fail)
                  go_roundw
                  case rel => exact ⟨k + 1, by omega, by go_num, HBx⟩
                  case measure => simp [intOf]; omega
                · obtain rfl : k = a.length + b.length := by omega
                  go_wp2_with fail
                  go_roundw
                  case rel => exact ⟨_, cnt3, HR7.out.on HBx.out, lift HB7.out HBx.out⟩
                  case measure =>
                    rw [HM.out]
                    have := (HR7.out.on HBx.out).left_eq
                    have := HLt.out
                    omega
end Od
end Go.Proofs.YtbllehjhmfehbaaGreat
end
