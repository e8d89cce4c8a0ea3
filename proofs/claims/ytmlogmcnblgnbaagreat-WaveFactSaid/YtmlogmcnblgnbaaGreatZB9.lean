/- My texts, joined for the claim: OBehind OPairsA OAll OIs QReadyW QGIw OSortB QOwn. -/
import Derived.Test.YtmlogmcnblgnbaaGreatZB8
import Derived.Test.YtmlogmcnblgnbaaGreatZB3
import Derived.Test.YtmlogmcnblgnbaaGreatZB7
import Derived.Test.YtmlogmcnblgnbaaGreatZB4

section
/- The walk of (order.ways).behind: all that one leads to. -/
namespace Go.Proofs.YtmlogmcnblgnbaaGreat
open Go.RowKit Go.Maps Go.Sort

namespace Od
/-- slices.Clone at texts, whatever the slice. -/
theorem cloneS_rd (A : Option Addr) (c : Nat) (ss : List Str) (w : World) (hr : Rd w w.heap.size 1 A ss.length (svs ss)) (hl : ss.length ≤ 1000000) :
    Calls Tryz.prog 130 #[.slice A ss.length c] w (OwnS ss w) := by
  cases A with
  | none =>
    have hn : ss = [] := by
      rcases Nat.eq_zero_or_pos ss.length with h | h
      · exact List.length_eq_zero_iff.1 h
      · obtain ⟨_, _, e, _⟩ := hr.open h; cases e
    subst hn
    refine (Tryz.slices_Clone_string_nil _ _ _).mono ?_
    rintro e w' ⟨rfl, rfl⟩
    exact ⟨none, 0, rfl, World.ownsRow_nil _ _ _ _, Below.refl _ _⟩
  | some ad =>
    rcases Nat.eq_zero_or_pos ss.length with h0 | h0
    · have hn := List.length_eq_zero_iff.1 h0
      subst hn
      refine (Tryz.slices_Clone_string_zero ad c w).mono ?_
      rintro e w' ⟨v, rfl, h1, _, h2⟩
      obtain ⟨A', c', rfl, _⟩ := own_rd h1
      exact ⟨A', c', rfl, h1, h2⟩
    · obtain ⟨b, o, e, hb, hc⟩ := hr.open h0
      rw [e]
      have hz : ((ss.map fun s => (⟨s.toArray⟩ : ByteArray)).take ss.length).map Value.string = svs ss := by
        rw [List.take_of_length_le (by simp)]
        simp [svs]
      refine (Tryz.slices_Clone_string b o ss.length c (ss.map fun s => ⟨s.toArray⟩) w (by simp) (by omega) (fun j hj => ?_)).mono ?_
      · have hj' : j < ss.length := by simpa using hj
        rw [hc j (by omega)]
        simp [svs, hj']
      · rintro e w' ⟨v, rfl, h1, _, h2⟩
        rw [hz] at h1
        obtain ⟨A', c', rfl, _⟩ := own_rd h1
        exact ⟨A', c', rfl, h1, h2⟩

open Classical in
/-- What a set of texts holds. -/
noncomputable def setF (D : List Str) (s : Str) : Option Value := if s ∈ D then some (.bool true) else none
theorem setF_cons (b : Str) (D : List Str) (f : Str → Option Value) (ha : f b = some (.bool true)) (ho : ∀ s, s ≠ b → f s = setF D s) : f = setF (b :: D) := by
  funext s
  by_cases h : s = b
  · subst h; rw [ha]; simp [setF]
  · rw [ho s h]; simp [setF, h]
theorem set_put {w : World} {m n : Nat} {b : Str} {D : List Str} {f : Str → Option Value} (h : MapIs strK w m n f) (h1 : f b = some (.bool true)) (h2 : ∀ s, s ≠ b → f s = setF D s) : MapIs strK w m n (setF (b :: D)) := by
  rw [setF_cons b D f h1 h2] at h; exact h
theorem zeroB (w : World) : (zeroValue 4).run Tryz.prog w = .ok (.bool false) w := Tryz.zeroValue4 w

/-- A call hands back a set of texts of its own. -/
def SetIs (S : Str → Prop) (n : Nat) (w : World) (e : Ending) (w' : World) : Prop := ∃ b D, e = .returned (.map (some b)) ∧ MapIs strK w' b n (setF D) ∧ (∀ s, s ∈ D ↔ S s) ∧ w.heap.size ≤ b ∧ D.length ≤ n ∧ Below w.heap.size w w'

theorem tail_head {w : World} {base c : Nat} {A : Option Addr} {b : Str} {T : List Str} (h : Tail w base 1 (.slice A (b :: T).length c) (b :: T).length (svs (b :: T))) :
    ∃ g o, A = some ⟨g, o, none⟩ ∧ base ≤ g ∧ g < w.heap.size ∧ w.cell? ⟨g, o, none⟩ = some (sv b) := by
  rcases h.2 with ⟨_, h2⟩ | ⟨g, off, cap, h1, h3, h4, _, _, h7, _⟩
  · simp at h2
  · injection h1 with e1 _ e3
    subst e1
    exact ⟨g, off, rfl, h3, h4, by have := h7 0 (by simp); simpa [svs] using this⟩
theorem tail_next {w : World} {base c g o : Nat} {b : Str} {T : List Str} (h : Tail w base 1 (.slice (some ⟨g, o, none⟩) (b :: T).length c) (b :: T).length (svs (b :: T))) :
    Tail w base 1 (.slice (some ⟨g, o + 1, none⟩) T.length (c - 1)) T.length (svs T) := by
  rcases h.2 with ⟨_, h2⟩ | ⟨g, off, cap, h1, h3, h4, h5, h6, h7, h8⟩
  · simp at h2
  · injection h1 with e1 _ e3
    injection e1 with e1
    injection e1 with e1 e2
    subst e1 e2 e3
    simp only [List.length_cons] at h5 h7
    refine ⟨by simp [svs], .inr ⟨g, o + 1, c - 1, rfl, h3, h4, by omega, by omega, fun j hj => ?_, fun j hj => ?_⟩⟩
    · have := h7 (j + 1) (by omega)
      rw [show o + 1 + j = o + (j + 1) by omega, this]
      simp [svs]
    · have := h8 (j + 1) (by omega)
      rwa [show o + (j + 1) = o + 1 + j by omega] at this
theorem tail_next0 {w : World} {base c g o : Nat} {b : Str} {T : List Str} (h : Tail w base 1 (.slice (some ⟨g, o, none⟩) (b :: T).length c) (b :: T).length (svs (b :: T))) (hc : c = 1) :
    Tail w base 1 (.slice (some ⟨g, o, none⟩) T.length 0) T.length (svs T) := by
  subst hc
  rcases h.2 with ⟨_, h2⟩ | ⟨g, off, cap, h1, h3, h4, h5, h6, h7, h8⟩
  · simp at h2
  · injection h1 with e1 _ e3
    injection e1 with e1
    injection e1 with e1 e2
    subst e1 e2 e3
    simp only [List.length_cons] at h5
    exact ⟨by simp [svs], .inr ⟨g, o, 0, rfl, h3, h4, by omega, by omega, fun j hj => by omega, fun j hj => by omega⟩⟩
theorem rd_none_len {w : World} {B k n : Nat} {A : Option Addr} {xs : List Value} (h : Rd w B k A n xs) (hA : A = none) : n = 0 := by
  rcases Nat.eq_zero_or_pos n with h0 | h0
  · exact h0
  · obtain ⟨_, e, _⟩ := h.2 h0; rw [hA] at e; cases e

set_option maxHeartbeats 4000000 in
set_option maxRecDepth 100000 in
theorem behind_any (base m : Nat) (l : List Pr) (a : Str) (w : World) (h : WaysIs w base m l) (ha : okS a) (hall : ∀ p, p ∈ l → okS p.1 ∧ okS p.2) (hl : l.length ≤ 300000) :
    Calls Tryz.prog 94 #[.map (some m), sv a] w (SetIs (fun s => s ∈ reachL l a) (2 * l.length) w) := by
  obtain ⟨i0, hi, hz0, hz1, hz2⟩ := info_parts infoS'
  obtain ⟨f, h⟩ := h
  have hsz := h.lt
  have H := Lib.hid h
  have HA := Lib.hid hall
  have hsl := succ_len l a
  have HM := Lib.hid (MapIs.made strK w)
  have hb0 : Below w.heap.size w (w.alloc (.map #[] 0)) := (Below.refl _ _).alloc (Nat.le_refl _) _
  have H1 := Lib.hid (h.on hb0)
  have hrow := (h.on hb0).row a ha
  obtain ⟨A0, c0, hv0, hr0⟩ := own_rd hrow
  have HR := Lib.hid hr0
  have HB := Lib.hid hb0
  clear h hall hrow hr0 hb0
  have hln : 2 * l.length < maxLen := by unfold maxLen; omega
  have hmm : ∀ (t : TypeId) (w : World), (Instr.makeMap t none).run Tryz.prog w = .ok (.map (some w.heap.size)) (w.alloc (.map #[] 0)) := fun _ _ => rfl
  go_enter Tryz.func94, Tryz.ntmps94
  go_wp2_with (first
    | (at_lookup; refine wpList_lookup_is _ (by rfl) (.tmp 9) (.tmp 10) 120 (by rfl) 27 Tryz.underlying120 (.slice none 0 0) (zeroR _) m l.length f (by rfl) H1.out.map a (by rfl) ha ?_; rw [show (f a).getD (.slice none 0 0) = .slice A0 (succ l a).length c0 from hv0])
    | fail)
  refine (cloneS_rd A0 c0 (succ l a) _ HR.out (by omega)).mono ?_
  rintro e w1 ⟨A1, c1, rfl, ho1, hb1⟩
  have HO := Lib.hid ho1
  have HB1 := Lib.hid hb1
  clear ho1 hb1
  go_wp2_with fail
  go_loopg [6] (2 * l.length) (fun g s6 wr => ∃ D T A c, s6 = .slice A (List.length T) c ∧ Tail wr (w.heap.size + 1) 1 (.slice A (List.length T) c) (List.length T) (svs T) ∧ MapIs strK wr w.heap.size (List.length D) (setF D) ∧ Bfs l a D T ∧ List.length D + mea l D T ≤ 2 * l.length ∧ mea l D T ≤ g ∧ Below w.heap.size w wr)
  case atStart =>
    have hm : MapIs strK w1 w.heap.size 0 (setF []) := by
      have := HM.out.on HB1.out
      rwa [show (fun _ => none : Str → Option Value) = setF [] from by funext s; simp [setF]] at this
    refine ⟨[], succ l a, A1, c1, rfl, (Tail.own HO.out).low (by simp), hm, Bfs.start l a, ?_, mea_start l a, below_alloc (Nat.le_refl _) HB1.out⟩
    have := mea_start l a
    simpa using this
  case round =>
    obtain ⟨D, T, A, c, rfl, htail, hmap, hbfs, hle, hg, hbel⟩ := hrel
    cases T with
    | nil =>
      have HT := Lib.hid htail
      have HMp := Lib.hid hmap
      have HBf := Lib.hid hbfs
      have HBl := Lib.hid hbel
      clear htail hmap hbfs hbel
      go_wp2_with fail
      go_ret
      exact ⟨w.heap.size, D, rfl, HMp.out.mono (by omega), HBf.out.end, Nat.le_refl _, by omega, HBl.out⟩
    | cons b T =>
      obtain ⟨g0, o0, rfl, hg0, hg1, hc0⟩ := tail_head htail
      have hok : okS b := by
        obtain ⟨x, hx, _⟩ := (hbfs.todo b (.head _)).last
        exact (HA.out _ hx).2
      have hcap := htail.cap
      have HT := Lib.hid htail
      have HMp := Lib.hid hmap
      have HBf := Lib.hid hbfs
      have HBl := Lib.hid hbel
      clear htail hmap hbfs hbel
      by_cases hb : b ∈ D
      · have hbs : (setF D b).getD (.bool false) = .bool true := by simp [setF, hb]
        have HD := Lib.hid hb
        clear hb
        go_wp2_with (first
          | (at_lookup; refine wpList_lookup_is _ (by rfl) (.tmp 21) (.tmp 22) 122 (by rfl) 4 Tryz.underlying122 (.bool false) (zeroB _) w.heap.size _ _ (by rfl) HMp.out b (by rfl) hok ?_; rw [hbs])
          | fail)
        all_goals
          go_roundg (mea l D T)
          case measure => have := mea_skip l b D T; omega
          case rel =>
            have hms := mea_skip l b D T
            exact ⟨D, T, _, _, rfl, by first | exact tail_next HT.out | exact tail_next0 HT.out (by assumption), HMp.out, HBf.out.skip HD.out, by omega, Nat.le_refl _, HBl.out⟩
      · have hbs : (setF D b).getD (.bool false) = .bool false := by simp [setF, hb]
        have HD := Lib.hid hb
        clear hb
        have hD : D.length < maxLen := by omega
        have hsb := succ_len l b
        have hms := mea_take (l := l) (T := T) HD.out
        have hTm : (T ++ succ l b).length ≤ mea l (b :: D) (T ++ succ l b) := by unfold mea; omega
        have hTl : (T ++ succ l b).length ≤ 2 * l.length := by omega
        have h63 : (b :: T).length + (succ l b).length ≤ maxLen := by simp only [List.length_append, List.length_cons] at *; omega
        have hby : ((b :: T).length + (succ l b).length) * 16 ≤ 140737488355328 := by simp only [List.length_append, List.length_cons] at *; omega
        go_wp2_with (first
          | (at_lookup; refine wpList_lookup_is _ (by rfl) (.tmp 21) (.tmp 22) 122 (by rfl) 4 Tryz.underlying122 (.bool false) (zeroB _) w.heap.size _ _ (by rfl) HMp.out b (by rfl) hok ?_; rw [hbs])
          | (at_mapUpdate; refine wpList_update_is _ (by rfl) (.tmp 25) (.tmp 26) (.const (.bool true)) 122 (by rfl) 4 Tryz.underlying122 w.heap.size _ _ (by rfl) HMp.out hD b (.bool true) (by rfl) (by rfl) hok ?_; intro w2 hm2 hg2
             have hb2 : Below w.heap.size w w2 := HBl.out.grown hg2 HBl.out.size (fun g hg => by cases hg; exact Nat.le_refl _)
             have ht2 := HT.out.kept hg2 (fun g hg => by have := (HT.out.lt hg).1; intro e; cases e; omega)
             obtain ⟨A3, c3, hv3, hr3⟩ := own_rd ((H.out.on hb2).row b hok)
             have HM2 := Lib.hid hm2; have HG2 := Lib.hid hg2; have HB2 := Lib.hid hb2; have HT2 := Lib.hid ht2; have HR3 := Lib.hid hr3
             clear hm2 hg2 hb2 ht2 hr3)
          | (at_lookup; refine wpList_lookup_is _ (by rfl) (.tmp 28) (.tmp 29) 120 (by rfl) 27 Tryz.underlying120 (.slice none 0 0) (zeroR _) m l.length f (by rfl) (H.out.on HB2.out).map b (by rfl) hok ?_; rw [show (f b).getD (.slice none 0 0) = .slice A3 (succ l b).length c3 from hv3])
          | (at_builtin; refine wpList_append_tail _ (by rfl) (.tmp 27) (.tmp 30) 27 (by rfl) (w.heap.size + 1) 9 i0 (.string ⟨#[]⟩) 1 16 Tryz.underlying27 hi hz0 hz1 hz2 rfl _ _ (svs (b :: T)) (by rfl) HT2.out _ (succ l b).length (svs (succ l b)) (by rfl) (src_rd Tryz.underlying27 HR3.out (by simp [svs, Value.oneCell']) (rd_none_len HR3.out)) h63 hby (by have := HG2.out.size; omega) ?_
             intro A4 c4 w4 ht4 hg4 ha4
             have ht5 : Tail w4 (w.heap.size + 1) 1 (.slice A4 (b :: (T ++ succ l b)).length c4) (b :: (T ++ succ l b)).length (svs (b :: (T ++ succ l b))) := by
               have e : (b :: T).length + (succ l b).length = (b :: (T ++ succ l b)).length := by simp; omega
               rw [e] at ht4
               simpa [svs] using ht4
             have hcap4 := ht5.cap
             obtain ⟨g4, o4, rfl, hg40, hg41, hc4⟩ := tail_head ht5
             have hb4 : Below w.heap.size w w4 := HB2.out.grown hg4 HB2.out.size (fun g hg => by have := (HT2.out.lt hg).1; omega)
             have hm4 : MapIs strK w4 w.heap.size _ _ := HM2.out.kept hg4 (fun e => by have := (HT2.out.lt e.symm).1; omega)
             have HT4 := Lib.hid ht5; have HB4 := Lib.hid hb4; have HM4 := Lib.hid hm4
             have hcc : (T.length : Int) + 1 + (succ l b).length ≤ c4 := by have := hcap4.1; simp at this; omega
             clear ht4 ht5 hb4 hm4 hg4 ha4)
          | fail)
        all_goals
          go_roundg (mea l (b :: D) (T ++ succ l b))
          case measure => omega
          case rel =>
            have e : T.length + (succ l b).length = (T ++ succ l b).length := by simp
            refine ⟨b :: D, T ++ succ l b, _, _, by rw [e], ?_, ?_, HBf.out.take, by simp only [List.length_cons]; omega, Nat.le_refl _, HB4.out⟩
            · first | exact tail_next HT4.out | exact tail_next0 HT4.out (by assumption)
            · exact set_put HM4.out (by simp) (by intro s hs; simp [hs])
end Od
end Go.Proofs.YtmlogmcnblgnbaaGreat
end

section
/- The walk of order.pairs: all that edges say, each once, by rising units. -/
namespace Go.Proofs.YtmlogmcnblgnbaaGreat
open Go.RowKit Go.Sort

namespace Od
theorem pairOf_eq : pairOf = pairE := rfl
def rawP (es : List Ed) : List Pr := es.filterMap pairE
theorem rawP_len (es : List Ed) : (rawP es).length ≤ es.length := List.length_filterMap_le _ _
theorem rawP_succ {es : List Ed} {k : Nat} (hk : k < es.length) : rawP (es.take (k + 1)) = rawP (es.take k) ++ (match pairE es[k] with | none => [] | some p => [p]) := by
  unfold rawP
  rw [List.take_succ_eq_append_getElem hk, List.filterMap_append]
  congr 1
  cases h : pairE es[k] <;> simp [h]
theorem compact_sort (es : List Ed) : Lib.compact (sortP (rawP es)) = prsL es := compact_canon toP (sortP_le _) (fun _ => mem_sortP)
/-- A call hands back pairs of its own. -/
def OwnP (ps : List Pr) (w : World) (e : Ending) (w' : World) : Prop := ∃ A c, e = .returned (.slice A ps.length c) ∧ w'.ownsRow w.heap.size 87 2 (.slice A ps.length c) ps.length (prsC ps) ∧ Below w.heap.size w w'

set_option maxRecDepth 100000 in
set_option maxHeartbeats 4000000 in
theorem pairs_any (An Ae : Option Addr) (nn cn ce : Nat) (es : List Ed) (w : World) (hr : Rd w w.heap.size 3 Ae es.length (edsC es)) (hl : es.length ≤ 300000) :
    Calls Tryz.prog 128 #[gV An nn cn Ae es.length ce] w (OwnP (prsL es) w) := by
  obtain ⟨i0, hi, hz0, hz1, hz2⟩ := info_parts infoP
  have Hr := Lib.hid hr
  clear hr
  go_enter Tryz.func128, Tryz.ntmps128
  go_wp2_with fail
  go_loopw [3, 11] (fun v i wr => ∃ k : Nat, k ≤ es.length ∧ i = .int .i64 k ∧ wr.ownsRow w.heap.size 87 2 v (rawP (es.take k)).length (prsC (rawP (es.take k))) ∧ Below w.heap.size w wr) (fun _ i _ => es.length - (intOf i).toNat)
  case atStart => exact ⟨0, Nat.zero_le _, rfl, World.ownsRow_nil _ _ _ _, (Below.refl _ _).alloc (Nat.le_refl _) _⟩
  case round =>
    obtain ⟨k, hk, rfl, hown, hbel⟩ := hrel
    by_cases hlt : k < es.length
    · obtain ⟨bb, o, rfl, hB, hc0, hc1, hc2⟩ := (Hr.out.on (Nat.le_refl _) hbel).edge hlt
      have hz := hbel.size
      have n1 : bb < wr.heap.size := by omega
      have hln : (rawP (es.take k)).length ≤ k := Nat.le_trans (rawP_len _) (by simp; omega)
      have h63 : (rawP (es.take k)).length + 1 ≤ maxLen := by unfold maxLen; omega
      have hby : ((rawP (es.take k)).length + 1) * 32 ≤ 140737488355328 := by omega
      have hft := rawP_succ hlt
      have Hbel := Lib.hid hbel
      have Hown := Lib.hid hown
      clear hbel hown
      generalize hx : es[k] = x at hc0 hc1 hc2 hft
      obtain ⟨s, d, r⟩ := x
      have Hft := Lib.hid hft
      clear hx hft
      simp only at hc0 hc1 hc2
      go_wp2_with fail
      refine (of_any s d r _).mono ?_
      rintro e w2 ⟨rfl, hb2⟩
      have hB2 : Below w.heap.size w w2 := Hbel.out.trans ((below_alloc (Nat.le_refl _) hb2).mono hz)
      have hO2 := own_on (own_alloc Hown.out _) hb2
      have h2z := hB2.size
      unfold ofV
      rw [pairOf_eq]
      cases hp : pairE (s, d, r) with
      | none =>
        have hft := Hft.out
        rw [hp] at hft
        simp only [List.append_nil] at hft
        have HB2 := Lib.hid hB2
        have HO2 := Lib.hid hO2
        have HF := Lib.hid hft
        clear hB2 hO2 hb2 hft hp
        simp only [Option.getD_none, Option.isSome_none]
        go_wp2_with fail
        go_roundw
        case rel => exact ⟨k + 1, by omega, by go_num, by rw [HF.out]; exact HO2.out.alloc _, HB2.out.alloc h2z _⟩
        case measure => simp [intOf]; omega
      | some p =>
        obtain ⟨x, y⟩ := p
        have hft := Hft.out
        rw [hp] at hft
        simp only at hft
        have HB2 := Lib.hid (hB2.alloc h2z (.cells #[sv x, sv y] 87))
        have HO2 := Lib.hid (hO2.alloc (.cells #[sv x, sv y] 87))
        have hsz : w.heap.size ≤ (w2.alloc (.cells #[sv x, sv y] 87)).heap.size := by simp; omega
        have HF := Lib.hid hft
        clear hB2 hO2 hb2 hft hp
        simp only [Option.getD_some, Option.isSome_some]
        go_wp2_with (at_builtin; refine wpList_pushm w (w2.alloc (.cells #[sv x, sv y] 87)) (by rfl) _ _ 152 (by rfl) w.heap.size 87 i0 _ 2 32 Tryz.underlying152 hi hz0 hz1 hz2 rfl (by decide) _ _ _ (by rfl) HO2.out [sv x, sv y] (w2.heap.size + 1) (by simp) (by rfl) rfl (by simp [Value.oneCell']) h63 hby hsz HB2.out ?_; intro A1 c1 w3 hown1 hbel1 hg1 hat1)
        go_roundw
        case rel => exact ⟨k + 1, by omega, by go_num, by rw [HF.out]; simpa [prsC, prC] using hown1, hbel1⟩
        case measure => simp [intOf]; omega
    · have hkl : k = es.length := by omega
      subst hkl
      rw [List.take_length] at hown
      obtain ⟨A, c, rfl, _⟩ := own_rd hown
      have Hown := Lib.hid hown
      have Hbel := Lib.hid hbel
      clear hown hbel
      have hln := rawP_len es
      go_wp2_with fail
      refine (sortP_own _ c A (rawP es) _ Hown.out (by omega)).mono ?_
      rintro e w2 ⟨rfl, h2, g2⟩
      have H2 := Lib.hid h2
      have G2 := Lib.hid g2
      clear h2 g2
      go_wp2_with fail
      have hl2 := sortP_len (rawP es)
      refine (show Calls Tryz.prog 153 #[.slice A (rawP es).length c] w2 _ from hl2 ▸ compactP_own w.heap.size c A (sortP (rawP es)) w2 (by rw [hl2]; exact H2.out) (by omega)).mono ?_
      rintro e w3 ⟨rfl, h3, g3⟩
      rw [compact_sort] at h3 ⊢
      have H3 := Lib.hid h3
      have G3 := Lib.hid g3
      clear h3 g3
      go_wp2_with fail
      go_ret
      exact ⟨A, c, rfl, H3.out, (Hbel.out.grown G2.out Hbel.out.size (fun j hj => (Hown.out.lt j hj).1)).grown G3.out (Nat.le_trans Hbel.out.size G2.out.size) (fun j hj => (Hown.out.lt j hj).1)⟩
end Od
end Go.Proofs.YtmlogmcnblgnbaaGreat
end

section
/- The walks of order.all, order.Is, order.Behind. -/
namespace Go.Proofs.YtmlogmcnblgnbaaGreat
open Go.RowKit Go.Maps Go.Sort

namespace Od
section
variable {X : Nat → Prop} {w w1 w2 : World}
theorem Keeps.refl (X : Nat → Prop) (w : World) : Keeps X w w := ⟨rfl, rfl, rfl, Nat.le_refl _, fun _ _ => rfl⟩
theorem Keeps.trans (h : Keeps X w w1) (h' : Keeps X w1 w2) : Keeps X w w2 :=
  ⟨h'.os.trans h.os, h'.tape.trans h.tape, h'.output.trans h.output, Nat.le_trans h.size h'.size, fun j hj => (h'.block j hj).trans (h.block j hj)⟩
theorem Keeps.of_below (hX : ∀ j, X j → j < w.heap.size) (h : Below w.heap.size w w1) : Keeps X w w1 := ⟨h.os, h.tape, h.output, h.size, fun j hj => h.block j (hX j hj)⟩
theorem Keeps.then (h : Keeps X w w1) (hX : ∀ j, X j → j < w.heap.size) (h' : Below w1.heap.size w1 w2) : Keeps X w w2 :=
  h.trans (Keeps.of_below (fun j hj => Nat.lt_of_lt_of_le (hX j hj) h.size) h')
theorem Keeps.own (h : Keeps X w w1) {base e k n : Nat} {v : Value} {xs : List Value} (ho : w.ownsRow base e k v n xs) (hX : ∀ g, v.ownBlock = some g → X g) : w1.ownsRow base e k v n xs := by
  obtain ⟨hl, ⟨rfl, rfl⟩ | ⟨g, cap, cur, rfl, hg, hh, r⟩⟩ := ho
  · exact ⟨hl, .inl ⟨rfl, rfl⟩⟩
  · exact ⟨hl, .inr ⟨g, cap, cur, rfl, hg, (h.block g (hX g rfl)).trans hh, r⟩⟩
theorem Keeps.map {k : TypeId} {α : Type} {κ : KeyKind Tryz.prog k α} {b n : Nat} {f : α → Option Value} (h : Keeps X w w1) (hm : MapIs κ w b n f) (hX : X b) : MapIs κ w1 b n f := hm.same (h.block b hX)
theorem Keeps.rd (h : Keeps X w w1) {B k n : Nat} {A : Option Addr} {xs : List Value} (hr : Rd w B k A n xs) (hX : ∀ j, j < B → X j) : Rd w1 B k A n xs := hr.keep fun p hp => World.cell?_of_block (h.block p.block (hX _ hp))
end
theorem WaysX.empty {w w' : World} (hb : Below (w.alloc (.map #[] 0)).heap.size (w.alloc (.map #[] 0)) w') : WaysX w' (fun j => j < w'.heap.size ∧ j ≠ w.heap.size) w.heap.size [] :=
  ⟨fun _ => none, ⟨(MapIs.made strK w).on hb, Nat.zero_le _, fun s _ => World.ownsRow_nil _ _ _ _, fun _ _ _ _ _ => .inl rfl, fun _ _ g h => by simp [Value.ownBlock] at h⟩, fun h => h.2 rfl, fun _ _ g h => by simp [Value.ownBlock] at h⟩

/-- Texts of edges are texts. -/
def OkE (es : List Ed) : Prop := ∀ e, e ∈ es → okS e.1 ∧ okS e.2.1
theorem OkE.prs {es : List Ed} (h : OkE es) : ∀ p, p ∈ prsL es → okS p.1 ∧ okS p.2 := by
  intro p hp
  obtain ⟨e, he, hpe⟩ := mem_prsL.1 hp
  have := h e he
  unfold pairE at hpe
  split at hpe
  · cases hpe; exact ⟨this.2, this.1⟩
  · split at hpe
    · cases hpe; exact this
    · cases hpe

/-- A call hands back a map of rows of its own. -/
def WaysRet (l : List Pr) (w : World) (e : Ending) (w' : World) : Prop := ∃ m, e = .returned (.map (some m)) ∧ WaysX w' (fun j => j < w.heap.size) m l ∧ Below w.heap.size w w'

set_option maxRecDepth 100000 in
set_option maxHeartbeats 4000000 in
theorem all_any (An Ae : Option Addr) (nn cn ce : Nat) (es : List Ed) (w : World) (hr : Rd w w.heap.size 3 Ae es.length (edsC es)) (hok : OkE es) (hl : es.length ≤ 300000) :
    Calls Tryz.prog 93 #[gV An nn cn Ae es.length ce] w (WaysRet (prsL es) w) := by
  have Hr := Lib.hid hr
  have HO := Lib.hid hok
  have hpl := prsL_len es
  clear hr hok
  have hmm : ∀ (t : TypeId) (w : World), (Instr.makeMap t none).run Tryz.prog w = .ok (.map (some w.heap.size)) (w.alloc (.map #[] 0)) := fun _ _ => rfl
  go_enter Tryz.func93, Tryz.ntmps93
  go_wp2_with fail
  refine (pairs_any An Ae nn cn ce es _ ?hr hl).mono ?_
  case hr => exact ((Hr.out.alloc (Nat.le_refl _) _).alloc (by simp) _).more (by simp; omega)
  rintro e w2 ⟨A, c, rfl, hown, hb2⟩
  have hx := WaysX.empty (w := w.alloc (.cells #[.slice An nn cn, .slice Ae es.length ce] 25)) hb2
  simp only [World.size_alloc] at hx
  have hz2 := hb2.size
  simp only [World.size_alloc] at hz2
  have hlo : ∀ g, (Value.slice A (prsL es).length c).ownBlock = some g → g < w2.heap.size ∧ g ≠ w.heap.size + 1 := fun g hg => by
    have := hown.lt g hg
    simp only [World.size_alloc] at this
    exact ⟨this.2, by omega⟩
  have HX := Lib.hid hx
  have HW := Lib.hid hown
  have HL := Lib.hid hlo
  have HB := Lib.hid (below_alloc (Nat.le_refl _) (below_alloc (Nat.le_refl _) hb2))
  clear hx hown hlo hb2
  go_wp2_with fail
  go_loopw [10] (fun i wr => ∃ k : Nat, k ≤ (prsL es).length ∧ i = .int .i64 k ∧ WaysX wr (fun j => j < w2.heap.size ∧ j ≠ w.heap.size + 1) (w.heap.size + 1) ((prsL es).take k) ∧ Keeps (fun j => j < w2.heap.size ∧ j ≠ w.heap.size + 1) w2 wr) (fun i _ => (prsL es).length - (intOf i).toNat)
  case atStart => exact ⟨0, Nat.zero_le _, rfl, HX.out, Keeps.refl _ _⟩
  case round =>
    obtain ⟨k, hk, rfl, hw, hkeep⟩ := hrel
    by_cases hlt : k < (prsL es).length
    · have hw3 := hkeep.own HW.out HL.out
      obtain ⟨bb, o, rfl, hB, hc0, hc1⟩ := (own_rd' hw3).pair hlt
      have hp := HO.out.prs _ (List.getElem_mem hlt)
      have hts := List.take_succ_eq_append_getElem hlt
      have hz := hkeep.size
      generalize hx : (prsL es)[k] = x at hc0 hc1 hp hts
      obtain ⟨x, y⟩ := x
      have HT := Lib.hid hts
      have HW3 := Lib.hid hw
      have HK := Lib.hid hkeep
      simp only at hc0 hc1 hp
      clear hw hkeep hx hts hw3
      go_wp2_with fail
      refine (put_any (fun j => j < w2.heap.size ∧ j ≠ w.heap.size + 1) (w.heap.size + 1) ((prsL es).take k) x y _ (HW3.out.on ((Below.refl _ _).alloc (Nat.le_refl _) _)) (fun j hj => by have := hj.1; simp; omega) hp.1 (by simp; omega)).mono ?_
      rintro e w3 ⟨rfl, h3, hk3⟩
      have H3 := Lib.hid h3
      have HK3 := Lib.hid ((HK.out.then (fun j hj => hj.1) ((Below.refl wr.heap.size wr).alloc (Nat.le_refl _) (.cells #[sv x, sv y] 87))).trans hk3)
      clear h3 hk3
      go_wp2_with fail
      go_roundw
      case rel => exact ⟨k + 1, by omega, by go_num, by rw [HT.out]; exact H3.out, HK3.out⟩
      case measure => simp [intOf]; omega
    · have hkl : k = (prsL es).length := by omega
      rw [List.take_of_length_le (by omega)] at hw
      have HW3 := Lib.hid hw
      have HK := Lib.hid hkeep
      clear hw hkeep
      go_wp2_with fail
      go_ret
      exact ⟨_, rfl, HW3.out.more (fun j _ hj => ⟨by omega, by omega⟩), HB.out.trans (HK.out.below (fun j hj => ⟨by omega, by omega⟩))⟩
end Od
end Go.Proofs.YtmlogmcnblgnbaaGreat
end

section
/- The walks of order.Is and order.Behind. -/
namespace Go.Proofs.YtmlogmcnblgnbaaGreat
open Go.RowKit Go.Maps Go.Sort

namespace Od
theorem WaysFn.some {w : World} {base m : Nat} {l : List Pr} {f : Str → Option Value} (h : WaysFn w base m l f) {s : Str} (hs : okS s) (hne : succ l s ≠ []) : (f s).isSome = true := by
  cases hf : f s with
  | some v => rfl
  | none =>
    have h1 := (h.row s hs).2
    rw [hf] at h1
    rcases h1 with ⟨_, h2⟩ | ⟨g, cap, cur, h2, _⟩
    · exact absurd (List.length_eq_zero_iff.1 h2) hne
    · cases h2
theorem acyclic_iff {l : List Pr} (hok : ∀ p, p ∈ l → okS p.1 ∧ okS p.2) : (∀ s, okS s → succ l s ≠ [] → ¬ s ∈ reachL l s) ↔ Acyclic l := by
  constructor
  · intro h a ha
    obtain ⟨b, hb, _⟩ := ha.head
    exact h a (hok _ hb).1 (fun e => by have := mem_succ.2 hb; rw [e] at this; simp at this) (mem_reachL.2 ha)
  · intro h s _ _ hs
    exact h s (mem_reachL.1 hs)
theorem isB_false {es : List Ed} (h : ¬ Acyclic (prsL es)) : isB es = false := by
  cases hb : isB es
  · rfl
  · exact absurd (isB_iff.1 hb) h

set_option maxRecDepth 100000 in
set_option maxHeartbeats 4000000 in
theorem Is_any (An Ae : Option Addr) (nn cn ce : Nat) (es : List Ed) (w : World) (hr : Rd w w.heap.size 3 Ae es.length (edsC es)) (hok : OkE es) (hl : es.length ≤ 300000) :
    Calls Tryz.prog 61 #[gV An nn cn Ae es.length ce] w fun e w' => e = .returned (.bool (isB es)) ∧ Below w.heap.size w w' := by
  have Hr := Lib.hid hr
  have hpo := hok.prs
  have HO := Lib.hid hok
  have hpl := prsL_len es
  clear hr hok
  go_enter Tryz.func61, Tryz.ntmps61
  go_wp2_with fail
  refine (all_any An Ae nn cn ce es _ ?hr HO.out hl).mono ?_
  case hr => exact (Hr.out.alloc (Nat.le_refl _) _).more (by simp)
  rintro e w2 ⟨m, rfl, ⟨f, hf, _, _⟩, hb2⟩
  have HF := Lib.hid hf
  have HB2 := Lib.hid (below_alloc (Nat.le_refl _) hb2)
  have HP := Lib.hid hpo
  have hml := hf.lt
  clear hf hb2 hpo
  have hA := HP.out
  go_wp2_with (first
    | (at_range; refine wpList_range_is _ (by rfl) (.tmp 7) 120 (by rfl) 27 Tryz.underlying120 m _ f (by rfl) HF.out.map ?_; intro w3 cnt hr3 hg3 hs3; have HR3 := Lib.hid hr3; have HG3 := Lib.hid hg3; clear hr3 hg3)
    | fail)
  go_frame
  go_loopw [4] (fun _ wr => ∃ (left : Str → Bool) (cnt : Nat), RangeIs strK wr m w2.heap.size (prsL es).length f left cnt ∧ (∀ s, okS s → (f s).isSome = true → left s = false → ¬ s ∈ reachL (prsL es) s) ∧ Below w2.heap.size w2 wr) (fun _ wr => wr.rangeLeft m w2.heap.size)
  case atStart => exact ⟨_, cnt, HR3.out, fun s _ h1 h2 => (by rw [h1] at h2; cases h2), (Below.refl _ _).grown HG3.out (Nat.le_refl _) (fun g hg => by cases hg)⟩
  case round =>
    obtain ⟨left, cnt', hrg, hall, hbel⟩ := hrel
    have hmz : wr.rangeLeft m w2.heap.size = cnt' := hrg.left_eq
    have HL := Lib.hid hall
    have HB := Lib.hid hbel
    have HM := Lib.hid hmz
    clear hall hbel hmz
    have HRg := Lib.hid hrg
    clear hrg
    go_wp2_with (first
      | (at_next; refine wpList_next_is _ (by rfl) (.tmp 8) (by rfl) m w2.heap.size _ f left cnt' (by rfl) HRg.out ?_ ?_)
      | fail)
    · intro hdone
      have HD := Lib.hid hdone
      clear hdone
      go_wp2_with fail
      go_ret
      refine ⟨ret_bool ?_, HB2.out.trans (HB.out.mono HB2.out.size)⟩
      symm
      exact isB_iff.2 ((acyclic_iff hA).1 fun s hs hne => HL.out s hs (HF.out.some hs hne) (HD.out s hs))
    · intro x v w3 cnt3 hx hlx hfx hrg3 hlt3 hg3 hs3 hen
      have hb3 : Below w2.heap.size w2 w3 := HB.out.grown hg3 HB.out.size (fun g hg => by cases hg; exact Nat.le_refl _)
      have HR4 := Lib.hid hrg3
      have HB4 := Lib.hid hb3
      have HG4 := Lib.hid (And.intro hlx hfx)
      clear hrg3 hb3 hg3 hlx hfx
      go_wp2_with fail
      refine (behind_any 0 m (prsL es) x w3 ⟨f, HF.out.on HB4.out⟩ hx hA (by omega)).mono ?_
      rintro e w5 ⟨b5, D, rfl, hm5, hD, hlo5, hle5, hb5⟩
      have HM5 := Lib.hid hm5
      have HB5 := Lib.hid hb5
      clear hm5 hb5
      by_cases hxd : x ∈ D
      · have hbs : (setF D x).getD (.bool false) = .bool true := by simp [setF, hxd]
        go_wp2_with (first
          | (at_lookup; refine wpList_lookup_is _ (by rfl) (.tmp 15) (.tmp 16) 122 (by rfl) 4 Tryz.underlying122 (.bool false) (zeroB _) b5 _ _ (by rfl) HM5.out x (by rfl) hx ?_; rw [hbs])
          | fail)
        go_ret
        refine ⟨ret_bool ?_, HB2.out.trans ((HB4.out.mono HB2.out.size).trans (HB5.out.mono (Nat.le_trans HB2.out.size HB4.out.size)))⟩
        symm
        exact isB_false (fun h => h x (mem_reachL.1 ((hD x).1 hxd)))
      · have hbs : (setF D x).getD (.bool false) = .bool false := by simp [setF, hxd]
        go_wp2_with (first
          | (at_lookup; refine wpList_lookup_is _ (by rfl) (.tmp 15) (.tmp 16) 122 (by rfl) 4 Tryz.underlying122 (.bool false) (zeroB _) b5 _ _ (by rfl) HM5.out x (by rfl) hx ?_; rw [hbs])
          | fail)
        go_frame
        go_roundw
        case rel =>
          refine ⟨_, cnt3, HR4.out.on HB5.out, fun s hs h1 h2 => ?_, HB4.out.trans (HB5.out.mono HB4.out.size)⟩
          by_cases e : s = x
          · subst e; exact fun h => hxd ((hD _).2 h)
          · exact HL.out s hs h1 (by simpa [e] using h2)
        case measure =>
          rw [HM.out]
          have := (HR4.out.on HB5.out).left_eq
          omega
end Od
end Go.Proofs.YtmlogmcnblgnbaaGreat
end

section
/- The walks of queue.Ready and queue.Sound. (bel2) -/
namespace Go.Proofs.YtmlogmcnblgnbaaGreat
open Go.RowKit Go.Sort
set_option linter.unusedSimpArgs false

namespace Od
theorem infoJ : (Tryz.prog.info? 48).map (fun i => (i.zero, i.size, i.bytes)) = some (some (.agg #[.string ⟨#[]⟩, .int .i64 0, .int .i64 0, .int .i64 0]), 4, 40) := by kernel_rfl
def readyL (es : List Ed) (q : List Jb) (m : Nat) : List Str := ((q.take m).filter (readyB es q)).map (·.1)
theorem readyL_succ {es : List Ed} {q : List Jb} {i : Nat} (hi : i < q.length) : readyL es q (i + 1) = readyL es q i ++ (if readyB es q q[i] = true then [q[i].1] else []) := by
  unfold readyL
  rw [filter_take_succ (p := readyB es q) hi, List.map_append]
  split <;> simp
theorem readyL_len (es : List Ed) (q : List Jb) (i : Nat) : (readyL es q i).length ≤ q.length := by
  unfold readyL; rw [List.length_map]; exact filter_take_le
theorem readyL_all {es : List Ed} {q : List Jb} (h : mayQ q = true) : readyL es q q.length = readyQ es q := by
  unfold readyL readyQ; rw [if_pos h, List.take_length]
set_option maxRecDepth 100000 in
set_option maxHeartbeats 16000000 in
theorem ReadyQ_any (An Ae : Option Addr) (nn cn ce : Nat) (es : List Ed) (A : Option Addr) (c : Nat) (q : List Jb) (w : World) (hr : Rd w w.heap.size 3 Ae es.length (edsC es)) (hq : Rd w w.heap.size 4 A q.length (jbsC q)) (hl : es.length ≤ 1000000) (hlq : q.length ≤ 1000000) (hok : OkJs q) :
    Calls Tryz.prog 50 #[gV An nn cn Ae es.length ce, .slice A q.length c] w (OwnS (readyQ es q) w) := by
  obtain ⟨i0, hi, hz0, hz1, hz2⟩ := info_parts infoS
  have Hr := Lib.hid hr
  have HQ := Lib.hid hq
  have HOk := Lib.hid hok
  clear hr hq hok
  go_enter Tryz.func50, Tryz.ntmps50
  go_wp2_with fail
  first | (refine wp_named ?_; intro W1 hW) | (refine calls_named ?_; intro W1 hW)
  have B1 : Below w.heap.size w W1 := by rw [hW]; exact (by repeat (first | exact Below.refl _ _ | assumption | refine Below.alloc ?_ (by first | omega | (simp <;> omega)) _ | refine Below.setCell ?_ (by first | omega | (simp <;> omega)) _ | refine Below.drew ?_))
  replace Hr := Lib.hid (Hr.out.at B1)
  replace HQ := Lib.hid (HQ.out.at B1)
  have n1 : w.heap.size < W1.heap.size := by rw [hW]; simp <;> omega
  have g0 : W1.cell? ⟨w.heap.size, 0, none⟩ = some (.slice An nn cn) := by rw [hW]; go_simp
  have g1 : W1.cell? ⟨w.heap.size, 1, none⟩ = some (.slice Ae es.length ce) := by rw [hW]; go_simp
  clear hW
  have HB := Lib.hid B1
  clear B1
  refine (MayQ_any A c q W1 HQ.out (by omega) HOk.out).mono ?_
  rintro e w3 ⟨rfl, hb⟩
  replace g0 := cellAt g0 hb (by omega)
  replace g1 := cellAt g1 hb (by omega)
  replace Hr := Lib.hid (Hr.out.at hb)
  replace HQ := Lib.hid (HQ.out.at hb)
  replace n1 : w.heap.size < w3.heap.size := ltAt n1 hb
  replace HB := Lib.hid (lift HB.out hb)
  clear hb
  cases hm : mayQ q
  · have HW := Lib.hid (show readyQ es q = [] by unfold readyQ; rw [hm]; simp)
    go_wp2_with fail
    go_ret
    rw [HW.out]
    exact OwnS.nil HB.out
  · have HM := Lib.hid hm
    clear hm
    have hzw : w.heap.size ≤ w3.heap.size := HB.out.size
    go_wp2_with fail
    go_loopw [5, 13] (fun v i wr => ∃ m : Nat, m ≤ q.length ∧ i = .int .i64 m ∧ wr.ownsRow w3.heap.size 9 1 v (readyL es q m).length (svs (readyL es q m)) ∧ Below w3.heap.size w3 wr) (fun _ i _ => q.length - (intOf i).toNat)
    case atStart => exact ⟨0, Nat.zero_le _, rfl, World.ownsRow_nil _ _ _ _, Below.refl _ _⟩
    case round =>
      obtain ⟨m, hm, rfl, hown, hb⟩ := hrel
      have HOut := Lib.hid hown
      have Hb := Lib.hid hb
      clear hown
      replace g0 := cellAt g0 hb (by omega)
      replace g1 := cellAt g1 hb (by omega)
      replace Hr := Lib.hid (Hr.out.at hb)
      replace HQ := Lib.hid (HQ.out.at hb)
      replace n1 : w.heap.size < wr.heap.size := ltAt n1 hb
      replace HB := Lib.hid (lift HB.out hb)
      clear hb
      by_cases hlt : m < q.length
      · obtain ⟨b2, o2, hA, hB2, x0, x1, x2, x3⟩ := HQ.out.job hlt
        subst hA
        have hsucc := readyL_succ (es := es) hlt
        have hln := readyL_len es q m
        generalize q[m] = x at x0 x1 x2 x3 hsucc
        obtain ⟨s, t, r, d⟩ := x
        simp only at x0 x1 x2 x3 hsucc
        have hrb : readyB es q (s, t, r, d) = (r == 1 && (waitsQ es q s).isEmpty) := rfl
        rw [hrb] at hsucc
        have m1 : (0 : Int) ≤ (m : Int) := by omega
        have m2 : (m : Int) < (q.length : Int) := by omega
        by_cases r1 : r = 1
        · subst r1
          have HS := Lib.hid hsucc
          clear hsucc hrb
          go_wp2_with fail
          first | (refine wp_named ?_; intro W2 hW) | (refine calls_named ?_; intro W2 hW)
          have B2 : Below wr.heap.size wr W2 := by rw [hW]; exact (by repeat (first | exact Below.refl _ _ | assumption | refine Below.alloc ?_ (by first | omega | (simp <;> omega)) _ | refine Below.setCell ?_ (by first | omega | (simp <;> omega)) _ | refine Below.drew ?_))
          replace g0 := cellAt g0 B2 (by omega)
          replace g1 := cellAt g1 B2 (by omega)
          replace Hr := Lib.hid (Hr.out.at B2)
          replace HQ := Lib.hid (HQ.out.at B2)
          replace n1 : w.heap.size < W2.heap.size := ltAt n1 B2
          replace HB := Lib.hid (lift HB.out B2)
          replace HOut := Lib.hid (own_on HOut.out B2)
          replace Hb := Lib.hid (lift Hb.out B2)
          have p1 : wr.heap.size < W2.heap.size := by rw [hW]; simp <;> omega
          have e0 : W2.cell? ⟨wr.heap.size, 0, none⟩ = some (sv s) := by rw [hW]; go_simp
          have e1 : W2.cell? ⟨wr.heap.size, 1, none⟩ = some (.int .i64 t) := by rw [hW]; go_simp
          have e2 : W2.cell? ⟨wr.heap.size, 2, none⟩ = some (.int .i64 1) := by rw [hW]; go_simp
          have e3 : W2.cell? ⟨wr.heap.size, 3, none⟩ = some (.int .i64 d) := by rw [hW]; go_simp
          clear hW
          clear B2
          go_wp2_with fail
          refine (WaitsQ_any An Ae nn cn ce es _ c q s W2 Hr.out HQ.out hl hlq HOk.out).mono ?_
          rintro e v3 ⟨A5, c5, rfl, _, hb⟩
          replace g0 := cellAt g0 hb (by omega)
          replace g1 := cellAt g1 hb (by omega)
          replace e0 := cellAt e0 hb (by omega)
          replace e1 := cellAt e1 hb (by omega)
          replace e2 := cellAt e2 hb (by omega)
          replace e3 := cellAt e3 hb (by omega)
          replace Hr := Lib.hid (Hr.out.at hb)
          replace HQ := Lib.hid (HQ.out.at hb)
          replace n1 : w.heap.size < v3.heap.size := ltAt n1 hb
          replace HB := Lib.hid (lift HB.out hb)
          replace HOut := Lib.hid (own_on HOut.out hb)
          replace Hb := Lib.hid (lift Hb.out hb)
          replace p1 : wr.heap.size < v3.heap.size := ltAt p1 hb
          clear hb
          have hzb : w3.heap.size ≤ v3.heap.size := Hb.out.size
          cases hW : waitsQ es q s with
          | nil =>
            have HS2 := Lib.hid (show readyL es q (m + 1) = readyL es q m ++ [s] by rw [HS.out, hW]; simp)
            have h63 : (readyL es q m).length + 1 ≤ maxLen := by unfold maxLen; omega
            have hby : ((readyL es q m).length + 1) * 16 ≤ 140737488355328 := by omega
            go_wp2_with (first | (at_builtin; refine wpList_pushm w3 v3 (by rfl) (.tmp 29) (.tmp 32) 27 (by rfl) w3.heap.size 9 i0 _ 1 16 Tryz.underlying27 hi hz0 hz1 hz2 rfl (by decide) _ _ _ (by rfl) HOut.out [sv s] v3.heap.size rfl (by rfl) rfl (one_sv s) h63 hby hzb Hb.out ?_; intro A8 c8 w4 hown4 hbel4 hg4 hat4) | fail)
            go_roundw
            case rel => exact ⟨m + 1, by omega, by go_num, by rw [HS2.out]; simpa [svs] using hown4, hbel4⟩
            case measure => simp [intOf]; omega
          | cons z zs =>
            have HS2 := Lib.hid (show readyL es q (m + 1) = readyL es q m by rw [HS.out, hW]; simp)
            have hne : ((((z :: zs).length : Nat) : Int) == 0) = false := by simp; omega
            go_wp2_with fail
            go_roundw
            case rel => exact ⟨m + 1, by omega, by go_num, by rw [HS2.out]; exact HOut.out, Hb.out⟩
            case measure => simp [intOf]; omega
        · have rb : (r == 1) = false := by simpa using r1
          rw [rb] at hsucc
          have HS2 := Lib.hid (show readyL es q (m + 1) = readyL es q m by rw [hsucc]; simp)
          clear hsucc hrb r1
          go_wp2_with fail
          go_roundw
          case rel => exact ⟨m + 1, by omega, by go_num, by rw [HS2.out]; exact HOut.out.alloc _, Hb.out.alloc Hb.out.size _⟩
          case measure => simp [intOf]; omega
      · have hmq : m = q.length := by omega
        have ho := HOut.out
        rw [hmq, readyL_all HM.out] at ho
        have HO2 := Lib.hid ho
        clear ho
        go_wp2_with fail
        go_ret
        exact OwnS.of HO2.out hzw HB.out
theorem noPair_drop {es : List Ed} {q : List Jb} {k : Nat} (hk : k < q.length) {y : Jb} (hy : y ∈ q.drop (k + 1)) (h : runPair es q[k] y = true) : noPair es q = false := by
  cases hn : noPair es q
  · rfl
  · have hp := List.Pairwise.sublist (List.drop_sublist k q) (noPair_iff.1 hn)
    rw [List.drop_eq_getElem_cons hk] at hp
    have := (List.pairwise_cons.1 hp).1 y hy
    rw [h] at this
    cases this
theorem noPair_all {es : List Ed} {q : List Jb} (h : ∀ k (hk : k < q.length), ∀ y ∈ q.drop (k + 1), runPair es q[k] y = false) : noPair es q = true := by
  refine noPair_iff.2 (List.pairwise_iff_getElem.2 fun i j hi hj hij => h i hi q[j] ?_)
  refine List.mem_iff_getElem.2 ⟨j - (i + 1), by rw [List.length_drop]; omega, ?_⟩
  rw [List.getElem_drop]
  congr 1
  omega
/-- What the walks on a queue start from. -/
structure QIn (w : World) (A : Option Addr) (c : Nat) (q : List Jb) : Prop where
  rq : Rd w w.heap.size 4 A q.length (jbsC q)
  ok : OkJs q
  cap : q.length ≤ c
theorem QIn.at {w w' : World} {A : Option Addr} {c : Nat} {q : List Jb} (h : QIn w A c q) (hb : Below w.heap.size w w') : QIn w' A c q := ⟨h.rq.at hb, h.ok, h.cap⟩
structure GIq (w : World) (An Ae : Option Addr) (ns : List Nd) (es : List Ed) : Prop where
  rn : Rd w w.heap.size 3 An ns.length (ndsC ns)
  re : Rd w w.heap.size 3 Ae es.length (edsC es)
  okn : OkNs ns
  oke : OkE es
  ln : ns.length ≤ 64
  le : es.length ≤ 200
theorem GIq.at {w w' : World} {An Ae : Option Addr} {ns : List Nd} {es : List Ed} (h : GIq w An Ae ns es) (hb : Below w.heap.size w w') : GIq w' An Ae ns es := ⟨h.rn.at hb, h.re.at hb, h.okn, h.oke, h.ln, h.le⟩
set_option maxRecDepth 100000 in
set_option maxHeartbeats 16000000 in
theorem SoundQ_any (An Ae : Option Addr) (cn ce : Nat) (ns : List Nd) (es : List Ed) (A : Option Addr) (c : Nat) (q : List Jb) (w : World) (hg : GIq w An Ae ns es) (hq : QIn w A c q) (hlq : q.length ≤ 140737488355328) :
    Calls Tryz.prog 29 #[gV An ns.length cn Ae es.length ce, .slice A q.length c] w fun e w' => e = .returned (.bool (soundQ ns es q)) ∧ Below w.heap.size w w' := by
  obtain ⟨i0, hi, hz0, hz1, hz2⟩ := info_parts infoJ
  have hln := hg.ln
  have hle := hg.le
  have HG := Lib.hid hg
  have HQ := Lib.hid hq
  have HM := Lib.hid (show soundQ ns es q = (mayG ns es && (isB es && (mayQ q && noPair es q))) from rfl)
  clear hg hq
  go_enter Tryz.func29, Tryz.ntmps29
  go_wp2_with fail
  first | (refine wp_named ?_; intro W1 hW) | (refine calls_named ?_; intro W1 hW)
  have B1 : Below w.heap.size w W1 := by rw [hW]; exact (by repeat (first | exact Below.refl _ _ | assumption | refine Below.alloc ?_ (by first | omega | (simp <;> omega)) _ | refine Below.setCell ?_ (by first | omega | (simp <;> omega)) _ | refine Below.drew ?_))
  replace HG := Lib.hid (HG.out.at B1)
  replace HQ := Lib.hid (HQ.out.at B1)
  have n1 : w.heap.size < W1.heap.size := by rw [hW]; simp <;> omega
  have g0 : W1.cell? ⟨w.heap.size, 0, none⟩ = some (.slice An ns.length cn) := by rw [hW]; go_simp
  have g1 : W1.cell? ⟨w.heap.size, 1, none⟩ = some (.slice Ae es.length ce) := by rw [hW]; go_simp
  clear hW
  have HB := Lib.hid B1
  clear B1
  refine (MayG_any An Ae cn ce ns es W1 HG.out.rn HG.out.re (by omega) (by omega) HG.out.okn).mono ?_
  rintro e w2 ⟨rfl, hb⟩
  replace g0 := cellAt g0 hb (by omega)
  replace g1 := cellAt g1 hb (by omega)
  replace HG := Lib.hid (HG.out.at hb)
  replace HQ := Lib.hid (HQ.out.at hb)
  replace n1 : w.heap.size < w2.heap.size := ltAt n1 hb
  replace HB := Lib.hid (lift HB.out hb)
  clear hb
  cases h1 : mayG ns es
  · have H1 := Lib.hid h1
    go_wp2_with fail
    go_ret
    exact ⟨ret_bool (by rw [HM.out]; simp [H1.out]), HB.out⟩
  · have H1 := Lib.hid h1
    go_wp2_with fail
    refine (Is_any An Ae ns.length cn ce es w2 HG.out.re HG.out.oke (by omega)).mono ?_
    rintro e w3 ⟨rfl, hb⟩
    replace g0 := cellAt g0 hb (by omega)
    replace g1 := cellAt g1 hb (by omega)
    replace HG := Lib.hid (HG.out.at hb)
    replace HQ := Lib.hid (HQ.out.at hb)
    replace n1 : w.heap.size < w3.heap.size := ltAt n1 hb
    replace HB := Lib.hid (lift HB.out hb)
    clear hb
    cases h2 : isB es
    · have H2 := Lib.hid h2
      go_wp2_with fail
      go_ret
      exact ⟨ret_bool (by rw [HM.out]; simp [H1.out, H2.out]), HB.out⟩
    · have H2 := Lib.hid h2
      go_wp2_with fail
      refine (MayQ_any A c q w3 HQ.out.rq hlq HQ.out.ok).mono ?_
      rintro e w4 ⟨rfl, hb⟩
      replace g0 := cellAt g0 hb (by omega)
      replace g1 := cellAt g1 hb (by omega)
      replace HG := Lib.hid (HG.out.at hb)
      replace HQ := Lib.hid (HQ.out.at hb)
      replace n1 : w.heap.size < w4.heap.size := ltAt n1 hb
      replace HB := Lib.hid (lift HB.out hb)
      clear hb
      cases h3 : mayQ q
      · have H3 := Lib.hid h3
        go_wp2_with fail
        go_ret
        exact ⟨ret_bool (by rw [HM.out]; simp [H1.out, H2.out, H3.out]), HB.out⟩
      · have H3 := Lib.hid h3
        have hlq2 : q.length ≤ 64 := (mayQ_iff.1 h3).1
        clear h3
        go_wp2_with fail
        go_loopw [24] (fun i wr => ∃ m : Nat, m ≤ q.length ∧ i = .int .i64 m ∧ Hid (∀ k (hk : k < q.length), k < m → ∀ y ∈ q.drop (k + 1), runPair es q[k] y = false) ∧ Below w4.heap.size w4 wr) (fun i _ => q.length - (intOf i).toNat)
        case atStart => exact ⟨0, Nat.zero_le _, rfl, fun _ _ h => absurd h (by omega), Below.refl _ _⟩
        case round =>
          obtain ⟨m, hm, rfl, hall, hb⟩ := hrel
          have Hall := Lib.hid hall.out
          clear hall
          have Hb := Lib.hid hb
          replace g0 := cellAt g0 hb (by omega)
          replace g1 := cellAt g1 hb (by omega)
          replace HG := Lib.hid (HG.out.at hb)
          replace HQ := Lib.hid (HQ.out.at hb)
          replace n1 : w.heap.size < wr.heap.size := ltAt n1 hb
          replace HB := Lib.hid (lift HB.out hb)
          clear hb
          by_cases hlt : m < q.length
          · obtain ⟨b2, o2, hA, hB2, x0, x1, x2, x3⟩ := HQ.out.rq.job hlt
            have hcap := HQ.out.cap
            have hrd := HQ.out.rq.dropA (m := m + 1) hlt hcap
            have hml : (q.drop (m + 1)).length = q.length - (m + 1) := List.length_drop
            have hs2 := run_slice_tail (P := Tryz.prog) Tryz.underlying26 hi A q.length c (m + 1) hlt
            rw [hz1] at hs2
            rw [show (((m + 1 : Nat)) : Int) = (m : Int) + 1 from by omega, ← hml] at hs2
            rw [← hml, ← jbsC_drop] at hrd
            have kw : IntKind.i64.wrap ((m : Int) + 1) = (m : Int) + 1 := IntWalk.i64_in _ (by omega)
            have hml2 : (q.drop (m + 1)).length ≤ 64 := by omega
            have hbad := fun y (hy : y ∈ q.drop (m + 1)) => noPair_drop (es := es) hlt hy
            generalize hx : q[m] = x at x0 x1 x2 x3 hbad
            obtain ⟨s, t, r, d⟩ := x
            have Hx := Lib.hid hx
            clear hx
            simp only at x0 x1 x2 x3
            generalize hAd : dropA A c (m + 1) 4 = Ad at hs2 hrd
            generalize hMd : q.drop (m + 1) = M at hs2 hrd hml2 hbad
            have HMd := Lib.hid hMd
            have Hbad := Lib.hid hbad
            have HRd := Lib.hid hrd
            clear hml hAd hMd hbad hrd
            have m1 : (0 : Int) ≤ (m : Int) := by omega
            have m2 : (m : Int) < (q.length : Int) := by omega
            subst hA
            obtain ⟨w9, rfl⟩ : ∃ wo : World, wo = wr := ⟨_, rfl⟩
            go_wp2_with fail
            first | (refine wp_named ?_; intro W2 hW) | (refine calls_named ?_; intro W2 hW)
            have B2 : Below w9.heap.size w9 W2 := by rw [hW]; exact (by repeat (first | exact Below.refl _ _ | assumption | refine Below.alloc ?_ (by first | omega | (simp <;> omega)) _ | refine Below.setCell ?_ (by first | omega | (simp <;> omega)) _ | refine Below.drew ?_))
            replace g0 := cellAt g0 B2 (by omega)
            replace g1 := cellAt g1 B2 (by omega)
            replace HG := Lib.hid (HG.out.at B2)
            replace HQ := Lib.hid (HQ.out.at B2)
            replace n1 : w.heap.size < W2.heap.size := ltAt n1 B2
            replace HB := Lib.hid (lift HB.out B2)
            replace Hb := Lib.hid (lift Hb.out B2)
            replace HRd := Lib.hid (HRd.out.at B2)
            have p1 : w9.heap.size < W2.heap.size := by rw [hW]; simp <;> omega
            have e0 : W2.cell? ⟨w9.heap.size, 0, none⟩ = some (sv s) := by rw [hW]; go_simp
            have e1 : W2.cell? ⟨w9.heap.size, 1, none⟩ = some (.int .i64 t) := by rw [hW]; go_simp
            have e2 : W2.cell? ⟨w9.heap.size, 2, none⟩ = some (.int .i64 r) := by rw [hW]; go_simp
            have e3 : W2.cell? ⟨w9.heap.size, 3, none⟩ = some (.int .i64 d) := by rw [hW]; go_simp
            clear hW
            clear B2
            have Hb9 := Hb
            go_loopw [34] (fun i wr => ∃ j : Nat, j ≤ M.length ∧ i = .int .i64 j ∧ Hid (∀ y ∈ M.take j, runPair es (s, t, r, d) y = false) ∧ Below W2.heap.size W2 wr) (fun i _ => M.length - (intOf i).toNat)
            case atStart => exact ⟨0, Nat.zero_le _, rfl, by simp [Hid], Below.refl _ _⟩
            case round =>
              obtain ⟨j, hj, rfl, hall2, hb⟩ := hrel
              have Hb7 := Lib.hid hb
              replace g0 := cellAt g0 hb (by omega)
              replace g1 := cellAt g1 hb (by omega)
              replace e0 := cellAt e0 hb (by omega)
              replace e1 := cellAt e1 hb (by omega)
              replace e2 := cellAt e2 hb (by omega)
              replace e3 := cellAt e3 hb (by omega)
              replace HG := Lib.hid (HG.out.at hb)
              replace HQ := Lib.hid (HQ.out.at hb)
              replace n1 : w.heap.size < wr.heap.size := ltAt n1 hb
              replace HB := Lib.hid (lift HB.out hb)
              replace HRd := Lib.hid (HRd.out.at hb)
              replace p1 : w9.heap.size < wr.heap.size := ltAt p1 hb
              clear hb
              by_cases hlt2 : j < M.length
              · obtain ⟨b3, o3, hA3, hB3, y0, y1, y2, y3⟩ := HRd.out.job hlt2
                have htake : ∀ p : Bool, runPair es (s, t, r, d) M[j] = p → p = false → ∀ y ∈ M.take (j + 1), runPair es (s, t, r, d) y = false := by
                  intro p h1 h2 y hy
                  rw [List.take_succ_eq_append_getElem hlt2, List.mem_append, List.mem_singleton] at hy
                  rcases hy with h | h
                  · exact hall2.out y h
                  · rw [h, h1, h2]
                have hbad2 := Hbad.out M[j] (List.getElem_mem hlt2)
                generalize M[j] = z at y0 y1 y2 y3 htake hbad2
                obtain ⟨s', t', r', d'⟩ := z
                simp only at y0 y1 y2 y3
                have hrp : runPair es (s, t, r, d) (s', t', r', d') = ((r == 2 && r' == 2) && (es.any (aheadB s s') || es.any (aheadB s' s))) := rfl
                have HT := Lib.hid htake
                have HN2 := Lib.hid hbad2
                have HRP := Lib.hid hrp
                clear htake hbad2 hrp
                have j1 : (0 : Int) ≤ (j : Int) := by omega
                have j2 : (j : Int) < (M.length : Int) := by omega
                subst hA3
                cases rb : (r == 2)
                · have HT2 := Lib.hid (HT.out false (HRP.out.trans (by rw [rb]; rfl)) rfl)
                  go_wp2_with fail
                  go_roundw
                  case rel => exact ⟨j + 1, by omega, by go_num, HT2.out, (Hb7.out.alloc Hb7.out.size _)⟩
                  case measure => simp [intOf]; omega
                · cases rb' : (r' == 2)
                  · have HT2 := Lib.hid (HT.out false (HRP.out.trans (by rw [rb, rb']; rfl)) rfl)
                    go_wp2_with fail
                    go_roundw
                    case rel => exact ⟨j + 1, by omega, by go_num, HT2.out, (Hb7.out.alloc Hb7.out.size _)⟩
                    case measure => simp [intOf]; omega
                  · go_wp2_with fail
                    first | (refine wp_named ?_; intro W3 hW) | (refine calls_named ?_; intro W3 hW)
                    have B3 : Below wr.heap.size wr W3 := by rw [hW]; exact (by repeat (first | exact Below.refl _ _ | assumption | refine Below.alloc ?_ (by first | omega | (simp <;> omega)) _ | refine Below.setCell ?_ (by first | omega | (simp <;> omega)) _ | refine Below.drew ?_))
                    replace g0 := cellAt g0 B3 (by omega)
                    replace g1 := cellAt g1 B3 (by omega)
                    replace e0 := cellAt e0 B3 (by omega)
                    replace e1 := cellAt e1 B3 (by omega)
                    replace e2 := cellAt e2 B3 (by omega)
                    replace e3 := cellAt e3 B3 (by omega)
                    replace HG := Lib.hid (HG.out.at B3)
                    replace HQ := Lib.hid (HQ.out.at B3)
                    replace n1 : w.heap.size < W3.heap.size := ltAt n1 B3
                    replace HB := Lib.hid (lift HB.out B3)
                    replace HRd := Lib.hid (HRd.out.at B3)
                    replace p1 : w9.heap.size < W3.heap.size := ltAt p1 B3
                    replace Hb7 := Lib.hid (lift Hb7.out B3)
                    have p2 : wr.heap.size < W3.heap.size := by rw [hW]; simp <;> omega
                    have f0 : W3.cell? ⟨wr.heap.size, 0, none⟩ = some (sv s') := by rw [hW]; go_simp
                    have f1 : W3.cell? ⟨wr.heap.size, 1, none⟩ = some (.int .i64 t') := by rw [hW]; go_simp
                    have f2 : W3.cell? ⟨wr.heap.size, 2, none⟩ = some (.int .i64 r') := by rw [hW]; go_simp
                    have f3 : W3.cell? ⟨wr.heap.size, 3, none⟩ = some (.int .i64 d') := by rw [hW]; go_simp
                    clear hW
                    clear B3
                    refine (Ahead_any An Ae ns.length cn ce es s s' W3 HG.out.re (by omega)).mono ?_
                    rintro e v5 ⟨rfl, hb⟩
                    replace g0 := cellAt g0 hb (by omega)
                    replace g1 := cellAt g1 hb (by omega)
                    replace e0 := cellAt e0 hb (by omega)
                    replace e1 := cellAt e1 hb (by omega)
                    replace e2 := cellAt e2 hb (by omega)
                    replace e3 := cellAt e3 hb (by omega)
                    replace f0 := cellAt f0 hb (by omega)
                    replace f1 := cellAt f1 hb (by omega)
                    replace f2 := cellAt f2 hb (by omega)
                    replace f3 := cellAt f3 hb (by omega)
                    replace HG := Lib.hid (HG.out.at hb)
                    replace HQ := Lib.hid (HQ.out.at hb)
                    replace n1 : w.heap.size < v5.heap.size := ltAt n1 hb
                    replace HB := Lib.hid (lift HB.out hb)
                    replace HRd := Lib.hid (HRd.out.at hb)
                    replace p1 : w9.heap.size < v5.heap.size := ltAt p1 hb
                    replace Hb7 := Lib.hid (lift Hb7.out hb)
                    replace p2 : wr.heap.size < v5.heap.size := ltAt p2 hb
                    clear hb
                    cases hp1 : es.any (aheadB s s')
                    · go_wp2_with fail
                      refine (Ahead_any An Ae ns.length cn ce es s' s v5 HG.out.re (by omega)).mono ?_
                      rintro e v6 ⟨rfl, hb⟩
                      replace g0 := cellAt g0 hb (by omega)
                      replace g1 := cellAt g1 hb (by omega)
                      replace e0 := cellAt e0 hb (by omega)
                      replace e1 := cellAt e1 hb (by omega)
                      replace e2 := cellAt e2 hb (by omega)
                      replace e3 := cellAt e3 hb (by omega)
                      replace f0 := cellAt f0 hb (by omega)
                      replace f1 := cellAt f1 hb (by omega)
                      replace f2 := cellAt f2 hb (by omega)
                      replace f3 := cellAt f3 hb (by omega)
                      replace HG := Lib.hid (HG.out.at hb)
                      replace HQ := Lib.hid (HQ.out.at hb)
                      replace n1 : w.heap.size < v6.heap.size := ltAt n1 hb
                      replace HB := Lib.hid (lift HB.out hb)
                      replace HRd := Lib.hid (HRd.out.at hb)
                      replace p1 : w9.heap.size < v6.heap.size := ltAt p1 hb
                      replace Hb7 := Lib.hid (lift Hb7.out hb)
                      replace p2 : wr.heap.size < v6.heap.size := ltAt p2 hb
                      clear hb
                      cases hp2 : es.any (aheadB s' s)
                      · have HT2 := Lib.hid (HT.out false (HRP.out.trans (by rw [rb, rb', hp1, hp2]; rfl)) rfl)
                        go_wp2_with fail
                        go_roundw
                        case rel => exact ⟨j + 1, by omega, by go_num, HT2.out, Hb7.out⟩
                        case measure => simp [intOf]; omega
                      · have HN3 := Lib.hid (HN2.out (HRP.out.trans (by rw [rb, rb', hp1, hp2]; rfl)))
                        go_wp2_with fail
                        go_ret
                        exact ⟨ret_bool (by rw [HM.out]; simp [H1.out, H2.out, H3.out, HN3.out]), HB.out⟩
                    · have HN3 := Lib.hid (HN2.out (HRP.out.trans (by rw [rb, rb', hp1]; rfl)))
                      go_wp2_with fail
                      go_ret
                      exact ⟨ret_bool (by rw [HM.out]; simp [H1.out, H2.out, H3.out, HN3.out]), HB.out⟩
              · have hjM : j = M.length := by omega
                have hfin := hall2.out
                rw [hjM, List.take_length] at hfin
                have HF := Lib.hid hfin
                clear hfin
                go_wp2_with fail
                go_roundw
                case rel =>
                  refine ⟨m + 1, by omega, by go_num, fun k hk hkm => ?_, Hb9.out.trans (Hb7.out.mono Hb9.out.size)⟩
                  by_cases e : k = m
                  · subst e
                    rw [Hx.out, HMd.out]
                    exact HF.out
                  · exact Hall.out k hk (by omega)
                case measure => simp [intOf]; omega
          · have HN := Lib.hid (noPair_all (es := es) fun k hk => Hall.out k hk (by omega))
            go_wp2_with fail
            go_ret
            exact ⟨ret_bool (by rw [HM.out]; simp [H1.out, H2.out, H3.out, HN.out]), HB.out⟩
end Od
end Go.Proofs.YtmlogmcnblgnbaaGreat
end

section
/- A graph that came in, of any size; the laws' own word for a small one. (bel2) -/
namespace Go.Proofs.YtmlogmcnblgnbaaGreat
open Go.RowKit Go.Sort
set_option linter.unusedSimpArgs false

namespace Od
structure GIw (w : World) (An Ae : Option Addr) (ns : List Nd) (es : List Ed) : Prop where
  rn : Rd w w.heap.size 3 An ns.length (ndsC ns)
  re : Rd w w.heap.size 3 Ae es.length (edsC es)
  okn : OkNs ns
  oke : OkE es
theorem GIw.at {w w' : World} {An Ae : Option Addr} {ns : List Nd} {es : List Ed} (h : GIw w An Ae ns es) (hb : Below w.heap.size w w') : GIw w' An Ae ns es := ⟨h.rn.at hb, h.re.at hb, h.okn, h.oke⟩
theorem GIw.q {w : World} {An Ae : Option Addr} {ns : List Nd} {es : List Ed} (h : GIw w An Ae ns es) (h1 : ns.length ≤ 64) (h2 : es.length ≤ 200) : GIq w An Ae ns es := ⟨h.rn, h.re, h.okn, h.oke, h1, h2⟩
theorem okS_of {s : Str} (h : s.length ≤ 140737488351232) : okS s := by unfold okS maxLen; omega
def nmA : Str := [97, 46, 116, 97, 114, 103, 101, 116]
def nmB : Str := [98, 46, 116, 97, 114, 103, 101, 116]
def nmC : Str := [99, 46, 116, 97, 114, 103, 101, 116]
end Od
end Go.Proofs.YtmlogmcnblgnbaaGreat
end

section
/- Rows and cells kept over what a call did to a row of its own; slices.Clone at texts. -/
namespace Go.Proofs.YtmlogmcnblgnbaaGreat
open Go.RowKit Go.Sort

theorem eql_slice_none {P : Program} {t e : TypeId} (h : P.underlying t = some (.slice e)) (a : Option Addr) (n c : Nat) (w : World) : (binOp .eql t (.slice a n c) (.slice none 0 0)).run P w = .ok (.bool a.isNone) w := by
  simp only [binOp]
  simp [run_equal_slice_nil w t e a n c h]
theorem ownBlock_len (A : Option Addr) (n c m d : Nat) : (Value.slice A n c).ownBlock = (Value.slice A m d).ownBlock := by cases A <;> rfl
theorem grownBy_setCell (w : World) (p : Addr) (u : Value) : w.grownBy (w.setCell p u) (some p.block) :=
  ⟨rfl, rfl, rfl, by simp [World.setCell], fun k _ hne => Below.heap_setCell _ _ _ _ (fun e => hne (by rw [e]))⟩
theorem cell_kept {w w' : World} {b o : Nat} {v : Value} {row : Option Nat} (c : w.cell? ⟨b, o, none⟩ = some v) (hg : w.grownBy w' row) (hb : b < w.heap.size) (hne : row ≠ some b) : w'.cell? ⟨b, o, none⟩ = some v :=
  (World.cell?_of_block (a := ⟨b, o, none⟩) (hg.block b hb (fun e => hne e.symm))).trans c
theorem fro_kept {w w' : World} {b o : Nat} {row : Option Nat} (c : w.frozen? ⟨b, o, none⟩ = false) (hg : w.grownBy w' row) (hb : b < w.heap.size) (hne : row ≠ some b) : w'.frozen? ⟨b, o, none⟩ = false :=
  (World.frozen?_of_block (a := ⟨b, o, none⟩) (hg.block b hb (fun e => hne e.symm))).trans c
namespace Od
set_option maxRecDepth 100000 in
set_option maxHeartbeats 1000000 in
theorem cloneS_own (A : Option Addr) (c : Nat) (ss : List Str) (w : World) (hr : Rd w w.heap.size 1 A ss.length (svs ss)) (hl : ss.length ≤ 1000000) :
    Calls Tryz.prog 130 #[.slice A ss.length c] w fun e w' => ∃ A' c', e = .returned (.slice A' ss.length c') ∧ w'.ownsRow w.heap.size 9 1 (.slice A' ss.length c') ss.length (svs ss) ∧ Below w.heap.size w w' := by
  cases A with
  | none =>
    have hn : ss = [] := by
      rcases Nat.eq_zero_or_pos ss.length with h | h
      · exact List.length_eq_zero_iff.1 h
      · obtain ⟨ad, h, _⟩ := hr.2 h; cases h
    subst hn
    refine (Tryz.slices_Clone_string_nil _ c w).mono ?_
    rintro e w' ⟨rfl, rfl⟩
    exact ⟨none, 0, rfl, World.ownsRow_nil _ _ _ _, Below.refl _ _⟩
  | some ad =>
    rcases Nat.eq_zero_or_pos ss.length with h | h
    · have hn := List.length_eq_zero_iff.1 h
      subst hn
      refine (Tryz.slices_Clone_string_zero ad c w).mono ?_
      rintro e w' ⟨v', rfl, ho, _, hb⟩
      obtain ⟨A', c', rfl, _⟩ := own_rd ho
      exact ⟨A', c', rfl, ho, hb⟩
    · obtain ⟨b, o, e, hb0, hc⟩ := hr.open h
      injection e with e
      subst e
      refine (Tryz.slices_Clone_string b o ss.length c (ss.map fun s => ⟨s.toArray⟩) w (by simp) (by omega) (fun j hj => ?_)).mono ?_
      · have hj' : j < ss.length := by simpa using hj
        rw [hc j (by omega)]
        simp [svs, hj']
      · rintro e w' ⟨v', rfl, ho, _, hb⟩
        have hx : (((ss.map fun s => (⟨s.toArray⟩ : ByteArray)).take ss.length).map Value.string) = svs ss := by
          rw [List.take_of_length_le (by simp)]; simp [svs]
        rw [hx] at ho
        obtain ⟨A', c', rfl, _⟩ := own_rd ho
        exact ⟨A', c', rfl, ho, hb⟩
end Od
end Go.Proofs.YtmlogmcnblgnbaaGreat
end

section
/- Rows of the call's own written into; slices.Clone at jobs. (bel2) -/
namespace Go.Proofs.YtmlogmcnblgnbaaGreat
open Go.RowKit Go.Sort
set_option linter.unusedSimpArgs false

section
variable {w : World} {base e k n c : Nat} {xs : List Value} {g : Nat}
theorem own_open {A : Option Addr} (h : w.ownsRow base e k (.slice A n c) n xs) (hn : 0 < n) : ∃ g, A = some ⟨g, 0, none⟩ ∧ base ≤ g ∧ g < w.heap.size ∧ n ≤ c := by
  have h' := h
  obtain ⟨_, ⟨_, h0⟩ | ⟨g, cap, cur, hv, hg, hh, h1, _⟩⟩ := h
  · omega
  · injection hv with h2 h3 h4
    subst h2 h4
    exact ⟨g, rfl, hg, (h'.lt g rfl).2, h1⟩
theorem own_fro (h : w.ownsRow base e k (.slice (some ⟨g, 0, none⟩) n c) n xs) {j : Nat} : w.frozen? ⟨g, j, none⟩ = false := by
  obtain ⟨_, ⟨hv, _⟩ | ⟨g', cap, cur, hv, hg, hh, _⟩⟩ := h
  · injection hv with h1; cases h1
  · injection hv with h1 _ _
    injection h1 with h1
    injection h1 with h1
    subst h1
    simp [World.frozen?, hh]
theorem own_cell (h : w.ownsRow base e k (.slice (some ⟨g, 0, none⟩) n c) n xs) {j : Nat} (hj : j < xs.length) : w.cell? ⟨g, j, none⟩ = some xs[j] := by
  have := h.cellAt (g := g) (cap := c) j (by rw [← h.1]; exact hj)
  simpa [hj] using this
/-- A cell of it turned. -/
theorem own_set (h : w.ownsRow base e k (.slice (some ⟨g, 0, none⟩) n c) n xs) {j : Nat} (u : Value) : (w.setCell ⟨g, j, none⟩ u).ownsRow base e k (.slice (some ⟨g, 0, none⟩) n c) n (xs.set j u) := by
  obtain ⟨hl, ⟨hv, _⟩ | ⟨g', cap, cur, hv, hg, hh, h1, h2, h3, h4⟩⟩ := h
  · injection hv with h1; cases h1
  · injection hv with e1 _ e3
    injection e1 with e1
    injection e1 with e1
    subst e1 e3
    refine ⟨by simpa using hl, .inr ⟨g, c, cur.setIfInBounds j u, rfl, hg, ?_, h1, h2, by simpa using h3, ?_⟩⟩
    · simp [World.setCell, Array.getElem?_modify, hh]
    · rw [Array.toList_setIfInBounds, List.take_set, h4]
end
theorem flat_set {α : Type} (c : α → List Value) (k : Nat) (hc : ∀ x, (c x).length = k) (u : Nat) (y : α) (v : Value) (hu : u < k) : ∀ (l : List α) (i : Nat) (hi : i < l.length), c y = (c l[i]).set u v → (l.flatMap c).set (i * k + u) v = (l.set i y).flatMap c
  | x :: l, 0, _, h => by
    simp only [List.getElem_cons_zero] at h
    simp only [List.flatMap_cons, Nat.zero_mul, Nat.zero_add, List.set_cons_zero]
    rw [List.set_append_left _ _ (by rw [hc]; exact hu), h]
  | x :: l, i + 1, hi, h => by
    simp only [List.getElem_cons_succ] at h
    simp only [List.flatMap_cons, List.set_cons_succ]
    rw [List.set_append_right _ _ (by rw [hc, Nat.add_mul]; omega), hc, show (i + 1) * k + u - k = i * k + u from by rw [Nat.add_mul]; omega]
    rw [flat_set c k hc u y v hu l i (by simpa using hi) h]
theorem jbsC_set {q : List Jb} {i : Nat} (hi : i < q.length) (u : Nat) (hu : u < 4) (y : Jb) (v : Value) (h : jbC y = (jbC q[i]).set u v) : (jbsC q).set (i * 4 + u) v = jbsC (q.set i y) := flat_set jbC 4 jbC_len u y v hu q i hi h
namespace Od
theorem infoJb : (Tryz.prog.info? 48).map (fun i => (i.zero, i.size, i.bytes)) = some (some (.agg #[.string ⟨#[]⟩, .int .i64 0, .int .i64 0, .int .i64 0]), 4, 40) := by kernel_rfl
section
variable {w : World} {base c : Nat} {q : List Jb} {g : Nat}
/-- A field of a job of its own turned. -/
theorem ownJ_set (h : w.ownsRow base 48 4 (.slice (some ⟨g, 0, none⟩) q.length c) q.length (jbsC q)) {i : Nat} (hi : i < q.length) (u : Nat) (hu : u < 4) (y : Jb) (v : Value) (hy : jbC y = (jbC q[i]).set u v) :
    (w.setCell ⟨g, i * 4 + u, none⟩ v).ownsRow base 48 4 (.slice (some ⟨g, 0, none⟩) (q.set i y).length c) (q.set i y).length (jbsC (q.set i y)) := by
  have := own_set h (j := i * 4 + u) v
  rw [jbsC_set hi u hu y v hy] at this
  rw [List.length_set]
  exact this
/-- A whole job of its own turned. -/
theorem ownJ_put (h : w.ownsRow base 48 4 (.slice (some ⟨g, 0, none⟩) q.length c) q.length (jbsC q)) {i : Nat} (hi : i < q.length) (s : Str) (t r d : Int) :
    ((((w.setCell ⟨g, i * 4, none⟩ (sv s)).setCell ⟨g, i * 4 + 1, none⟩ (.int .i64 t)).setCell ⟨g, i * 4 + 2, none⟩ (.int .i64 r)).setCell ⟨g, i * 4 + 3, none⟩ (.int .i64 d)).ownsRow base 48 4 (.slice (some ⟨g, 0, none⟩) q.length c) q.length (jbsC (q.set i (s, t, r, d))) := by
  have h0 := ownJ_set h hi 0 (by omega) (s, q[i].2.1, q[i].2.2.1, q[i].2.2.2) (sv s) rfl
  have h1 := ownJ_set h0 (i := i) (by simpa using hi) 1 (by omega) (s, t, q[i].2.2.1, q[i].2.2.2) (.int .i64 t) (by rw [List.getElem_set_self]; rfl)
  have h2 := ownJ_set h1 (i := i) (by simpa using hi) 2 (by omega) (s, t, r, q[i].2.2.2) (.int .i64 r) (by rw [List.getElem_set_self]; rfl)
  have h3 := ownJ_set h2 (i := i) (by simpa using hi) 3 (by omega) (s, t, r, d) (.int .i64 d) (by rw [List.getElem_set_self]; rfl)
  simpa using h3
end
def OwnJ (q : List Jb) (w : World) (e : Ending) (w' : World) : Prop := ∃ A c, e = .returned (.slice A q.length c) ∧ w'.ownsRow w.heap.size 48 4 (.slice A q.length c) q.length (jbsC q) ∧ Below w.heap.size w w'
set_option maxRecDepth 100000 in
set_option maxHeartbeats 1000000 in
theorem cloneJ_own (A : Option Addr) (c : Nat) (q : List Jb) (w : World) (hr : Rd w w.heap.size 4 A q.length (jbsC q)) (hl : q.length ≤ 1000000) :
    Calls Tryz.prog 71 #[.slice A q.length c] w (OwnJ q w) := by
  obtain ⟨i0, hi, hz0, hz1, hz2⟩ := info_parts infoJb
  have Hr := Lib.hid hr
  clear hr
  cases A with
  | none =>
    have hn : q.length = 0 := by
      rcases Nat.eq_zero_or_pos q.length with h | h
      · exact h
      · obtain ⟨ad, h, _⟩ := Hr.out.2 h; cases h
    have HN := Lib.hid hn
    clear hn
    have hq : ∀ w, (binOp .eql 26 (.slice none q.length c) (.slice none 0 0)).run Tryz.prog w = .ok (.bool true) w := eql_slice_none Tryz.underlying26 _ _ _
    go_enter Tryz.func71, Tryz.ntmps71
    go_wp2_with fail
    go_ret
    have h0 := List.length_eq_zero_iff.1 HN.out
    subst h0
    exact ⟨none, 0, rfl, World.ownsRow_nil _ _ _ _, Below.refl _ _⟩
  | some ad =>
    have h63 : 0 + q.length ≤ maxLen := by unfold maxLen; omega
    have hby : (0 + q.length) * 40 ≤ 140737488355328 := by omega
    have hq : ∀ w, (binOp .eql 26 (.slice (some ad) q.length c) (.slice none 0 0)).run Tryz.prog w = .ok (.bool false) w := eql_slice_none Tryz.underlying26 _ _ _
    have h0 : (w.alloc (.cells #[] 48)).ownsRow w.heap.size 48 4 (.slice (some ⟨w.heap.size, 0, none⟩) 0 0) 0 [] :=
      ⟨rfl, .inr ⟨w.heap.size, 0, #[], rfl, Nat.le_refl _, by show (w.heap.push _)[w.heap.size]? = _; simp, Nat.le_refl _, by decide, rfl, rfl⟩⟩
    have H0 := Lib.hid h0
    clear h0
    go_enter Tryz.func71, Tryz.ntmps71
    go_wp2_with (first
      | (at_builtin; refine wpList_append_rd _ (by rfl) (.tmp 5) (.tmp 6) 26 (by rfl) w.heap.size 48 i0 _ 4 40 Tryz.underlying26 hi hz0 hz1 hz2 rfl (by decide) (.slice (some ⟨w.heap.size, 0, none⟩) 0 0) 0 [] (by rfl) H0.out _ (some ad) q.length c (jbsC q) (by rfl) (Hr.out.alloc (Nat.le_refl _) _) (one_jbsC q) h63 hby (by simp) ?_; intro A1 c1 w1 ho1 hg1 hat1)
      | fail)
    go_ret
    exact ⟨A1, c1, rfl, by simpa using ho1, ((Below.refl _ _).alloc (Nat.le_refl _) _).grown hg1 (by simp) (fun j hj => by simp [Value.ownBlock] at hj; omega)⟩
end Od
end Go.Proofs.YtmlogmcnblgnbaaGreat
end
