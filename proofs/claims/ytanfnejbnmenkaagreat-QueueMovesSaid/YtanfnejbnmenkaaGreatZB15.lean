/- My texts, joined for the claim: QInstW LqShown QInst20M LqBase Frame Frame3 Frame5 FrameQ. -/
import Derived.Test.YtanfnejbnmenkaaGreatZB14
import Derived.Test.YtanfnejbnmenkaaGreatZB11
import Derived.Test.YtanfnejbnmenkaaGreatZB13
import Derived.Test.YtanfnejbnmenkaaGreatZB2
import Derived.Test.YtanfnejbnmenkaaGreatRows
import Derived.Test.YtanfnejbnmenkaaGreatZB1
import Derived.ProofKit
import Derived.OpenShut
import Derived.Deep.Slices
import Derived.Deep.Fields
import Derived.Lib.SmallJoins
import Derived.SizedLaws

section
/- The walk of queue.Install. (bel2) -/
namespace Go.Proofs.YtanfnejbnmenkaaGreat
open Go.RowKit Go.Sort
set_option linter.unusedSimpArgs false

namespace Od
/-- A call hands back jobs, ends, and a verdict. -/
def InstRet (r : (List Jb × List Nd) × Int) (w : World) (e : Ending) (w' : World) : Prop := ∃ A c A' c', e = .returned (.tuple #[.slice A r.1.1.length c, .slice A' r.1.2.length c', .int .i64 r.2]) ∧ r.1.1.length ≤ c ∧ Rd w' w'.heap.size 4 A r.1.1.length (jbsC r.1.1) ∧ Rd w' w'.heap.size 3 A' r.1.2.length (ndsC r.1.2) ∧ Below w.heap.size w w'
theorem InstRet.no {w w' : World} {v : Int} (hb : Below w.heap.size w w') : InstRet (([], []), v) w (.returned (.tuple #[.slice none 0 0, .slice none 0 0, .int .i64 v])) w' := ⟨none, 0, none, 0, rfl, Nat.le_refl _, Rd.none_, Rd.none_, hb⟩
set_option maxHeartbeats 1000000 in
theorem notwaits_any (s : Str) (t r d : Int) (w : World) : Calls Tryz.prog 58 #[jbV (s, t, r, d)] w fun e w' => e = .returned (.bool (r != 1)) ∧ Below w.heap.size w w' := by
  by_cases h : r = 1
  · subst h
    go_enter Tryz.func58, Tryz.ntmps58
    go_wp2_with fail
    go_ret
    exact ⟨ret_bool (by simp), (Below.refl _ _).alloc (Nat.le_refl _) _⟩
  · have hb : (r == 1) = false := by simpa using h
    go_enter Tryz.func58, Tryz.ntmps58
    go_wp2_with fail
    go_ret
    exact ⟨ret_bool (by simp [h, hb]), (Below.refl _ _).alloc (Nat.le_refl _) _⟩
theorem says_notwaits (w : World) : SaysJ 58 #[] (fun j => j.2.2.1 != 1) w where
  enters := enters_of Tryz.func58 (by kernel_rfl) rfl
  says := fun W s t r d _ => notwaits_any s t r d W
theorem okIn_no1 {q jobs : List Jb} (h : mayQ q = false) (mode : Int) : instQ q jobs mode = (([], []), 1) := by unfold instQ okIn; simp [h]
theorem okIn_no2 {q jobs : List Jb} (h : mayQ jobs = false) (mode : Int) : instQ q jobs mode = (([], []), 1) := by unfold instQ okIn; simp [h]
theorem okIn_no3 {q jobs : List Jb} (h : jobs.any (fun j => j.2.2.1 != 1) = true) (mode : Int) : instQ q jobs mode = (([], []), 1) := by
  have h2 : jobs.all (fun j => j.2.2.1 == 1) = false := by
    rw [List.any_eq_true] at h
    obtain ⟨j, hj, hj2⟩ := h
    rw [List.all_eq_false]
    exact ⟨j, hj, by simpa using hj2⟩
  unfold instQ okIn; rw [h2]; simp
theorem okIn_yes {q jobs : List Jb} (h1 : mayQ q = true) (h2 : mayQ jobs = true) (h3 : jobs.any (fun j => j.2.2.1 != 1) = false) : okIn q jobs = true := by
  unfold okIn
  rw [h1, h2]
  simp only [Bool.true_and, List.all_eq_true]
  intro j hj
  have := List.any_eq_false.1 h3 j hj
  simpa using this
theorem inst_mode {q jobs : List Jb} (h : okIn q jobs = true) {mode : Int} (h1 : mode ≠ 1) (h2 : mode ≠ 2) : instQ q jobs mode = (([], []), 3) := by unfold instQ; rw [if_neg (by simp [h]), if_pos ⟨h1, h2⟩]
theorem inst_clash {q jobs : List Jb} (h : okIn q jobs = true) (h2 : (togR q jobs).2 ≠ []) : instQ q jobs 2 = (([], []), 7) := by unfold instQ; rw [if_neg (by simp [h]), if_neg (by omega), if_pos ⟨rfl, h2⟩]
theorem inst_many {q jobs : List Jb} (h : okIn q jobs = true) {mode : Int} (hm : mode = 1 ∨ (mode = 2 ∧ (togR q jobs).2 = [])) (h4 : 64 < (togR q jobs).1.length) : instQ q jobs mode = (([], []), 8) := by
  unfold instQ
  rw [if_neg (by simp [h]), if_neg (by omega), if_neg (by rintro ⟨e1, e2⟩; rcases hm with e | ⟨_, e⟩; omega; exact e2 e), if_pos h4]
theorem inst_fine {q jobs : List Jb} (h : okIn q jobs = true) {mode : Int} (hm : mode = 1 ∨ (mode = 2 ∧ (togR q jobs).2 = [])) (h4 : ¬ 64 < (togR q jobs).1.length) : instQ q jobs mode = (togR q jobs, 0) := by
  unfold instQ
  rw [if_neg (by simp [h]), if_neg (by omega), if_neg (by rintro ⟨e1, e2⟩; rcases hm with e | ⟨_, e⟩; omega; exact e2 e), if_neg h4]
set_option maxRecDepth 100000 in
set_option maxHeartbeats 8000000 in
theorem InstallQ_any (A : Option Addr) (c : Nat) (q : List Jb) (A0 : Option Addr) (c0 : Nat) (jobs : List Jb) (mode0 : Int) (w : World) (hq : QIn w A c q) (hj : QIn w A0 c0 jobs) (hlq : q.length ≤ 100000) (hlj : jobs.length ≤ 100000) :
    Calls Tryz.prog 32 #[.slice A q.length c, .slice A0 jobs.length c0, .int .i64 mode0] w (InstRet (instQ q jobs mode0) w) := by
  have HQ := Lib.hid hq
  have HJ := Lib.hid hj
  have hlq' : q.length ≤ 140737488355328 := by omega
  have hlj' : jobs.length ≤ 140737488355328 := by omega
  clear hq hj
  go_enter Tryz.func32, Tryz.ntmps32
  go_wp2_with fail
  refine (MayQ_any A c q w HQ.out.rq hlq' HQ.out.ok).mono ?_
  rintro e w2 ⟨rfl, hb⟩
  have HB := Lib.hid hb
  replace HQ := Lib.hid (HQ.out.at hb)
  replace HJ := Lib.hid (HJ.out.at hb)
  clear hb
  cases hm : mayQ q
  · have HF := Lib.hid (okIn_no1 (jobs := jobs) hm mode0)
    go_wp2_with fail
    refine bodyPost_ret (v := .tuple #[.slice none 0 0, .slice none 0 0, .int .i64 1]) (by simp only [results, Tryz.results32]; go_simp) rfl ?_
    rw [HF.out]
    exact InstRet.no HB.out
  · have HM := Lib.hid hm
    clear hm
    go_wp2_with fail
    refine (MayQ_any A0 c0 jobs w2 HJ.out.rq hlj' HJ.out.ok).mono ?_
    rintro e w3 ⟨rfl, hb⟩
    replace HQ := Lib.hid (HQ.out.at hb)
    replace HJ := Lib.hid (HJ.out.at hb)
    replace HB := Lib.hid (lift HB.out hb)
    clear hb
    cases hm2 : mayQ jobs
    · have HF := Lib.hid (okIn_no2 (q := q) hm2 mode0)
      go_wp2_with fail
      refine bodyPost_ret (v := .tuple #[.slice none 0 0, .slice none 0 0, .int .i64 1]) (by simp only [results, Tryz.results32]; go_simp) rfl ?_
      rw [HF.out]
      exact InstRet.no HB.out
    · have HM2 := Lib.hid hm2
      clear hm2
      go_wp2_with fail
      refine (ContainsFuncJ A0 c0 jobs 58 #[] (fun j => j.2.2.1 != 1) w3 HJ.out.rq (by omega) (says_notwaits w3)).mono ?_
      rintro e w4 ⟨rfl, hb⟩
      replace HQ := Lib.hid (HQ.out.at hb)
      replace HJ := Lib.hid (HJ.out.at hb)
      replace HB := Lib.hid (lift HB.out hb)
      clear hb
      cases ha : jobs.any (fun j => j.2.2.1 != 1)
      · have HOk := Lib.hid (okIn_yes HM.out HM2.out ha)
        clear ha
        go_wp2_with fail
        refine (together_any A c q A0 c0 jobs w4 HQ.out.rq HJ.out.rq hlq hlj (mayQ_iff.1 HM.out).2.2).mono ?_
        rintro e w5 ⟨A5, c5, A6, c6, rfl, hc5, hr5, hr6, hb⟩
        rcases ht : togR q jobs with ⟨out, gone⟩
        rw [ht] at hc5 hr5 hr6
        simp only at hc5 hr5 hr6
        have HT := Lib.hid ht
        have HR1 := Lib.hid hr5
        have HR2 := Lib.hid hr6
        have HCap := Lib.hid hc5
        replace HQ := Lib.hid (HQ.out.at hb)
        replace HJ := Lib.hid (HJ.out.at hb)
        replace HB := Lib.hid (lift HB.out hb)
        clear hb ht hr5 hr6 hc5
        simp only
        by_cases h1 : mode0 = 1
        · subst h1
          have hm := Lib.hid (show (1 : Int) = 1 ∨ ((1 : Int) = 2 ∧ (togR q jobs).2 = []) from .inl rfl)
          by_cases h64 : 64 < out.length
          · have d64 : decide ((64 : Int) < (out.length : Int)) = true := by rw [decide_eq_true_eq]; omega
            have d64' : decide (64 < out.length) = true := by rw [decide_eq_true_eq]; exact h64
            have HF := Lib.hid (inst_many (mode := 1) HOk.out hm.out (by rw [HT.out]; exact h64))
            clear h64
            go_wp2_with fail
            refine bodyPost_ret (v := .tuple #[.slice none 0 0, .slice none 0 0, .int .i64 8]) (by simp only [results, Tryz.results32]; go_simp) rfl ?_
            rw [HF.out]
            exact InstRet.no HB.out
          · have d64 : decide ((64 : Int) < (out.length : Int)) = false := by rw [decide_eq_false_iff_not]; omega
            have d64' : decide (64 < out.length) = false := by rw [decide_eq_false_iff_not]; exact h64
            have HF := Lib.hid ((inst_fine (mode := 1) HOk.out hm.out (by rw [HT.out]; exact h64)).trans (by rw [HT.out]))
            clear h64
            go_wp2_with fail
            refine bodyPost_ret (v := .tuple #[.slice A5 out.length c5, .slice A6 gone.length c6, .int .i64 0]) (by simp only [results, Tryz.results32]; go_simp) rfl ?_
            rw [HF.out]
            exact ⟨A5, c5, A6, c6, rfl, HCap.out, HR1.out, HR2.out, HB.out⟩
        · by_cases h2 : mode0 = 2
          · subst h2
            clear h1
            by_cases hg : gone = []
            · have hm := Lib.hid (show (2 : Int) = 1 ∨ ((2 : Int) = 2 ∧ (togR q jobs).2 = []) from .inr ⟨rfl, by rw [HT.out]; exact hg⟩)
              have hg0 : gone.length = 0 := by rw [hg]; rfl
              have g1 : decide ((0 : Int) < (gone.length : Int)) = false := by rw [decide_eq_false_iff_not]; omega
              have g2 : decide (0 < gone.length) = false := by rw [decide_eq_false_iff_not]; omega
              clear hg hg0
              by_cases h64 : 64 < out.length
              · have d64 : decide ((64 : Int) < (out.length : Int)) = true := by rw [decide_eq_true_eq]; omega
                have d64' : decide (64 < out.length) = true := by rw [decide_eq_true_eq]; exact h64
                have HF := Lib.hid (inst_many (mode := 2) HOk.out hm.out (by rw [HT.out]; exact h64))
                clear h64
                go_wp2_with fail
                refine bodyPost_ret (v := .tuple #[.slice none 0 0, .slice none 0 0, .int .i64 8]) (by simp only [results, Tryz.results32]; go_simp) rfl ?_
                rw [HF.out]
                exact InstRet.no HB.out
              · have d64 : decide ((64 : Int) < (out.length : Int)) = false := by rw [decide_eq_false_iff_not]; omega
                have d64' : decide (64 < out.length) = false := by rw [decide_eq_false_iff_not]; exact h64
                have HF := Lib.hid ((inst_fine (mode := 2) HOk.out hm.out (by rw [HT.out]; exact h64)).trans (by rw [HT.out]))
                clear h64
                go_wp2_with fail
                refine bodyPost_ret (v := .tuple #[.slice A5 out.length c5, .slice A6 gone.length c6, .int .i64 0]) (by simp only [results, Tryz.results32]; go_simp) rfl ?_
                rw [HF.out]
                exact ⟨A5, c5, A6, c6, rfl, HCap.out, HR1.out, HR2.out, HB.out⟩
            · have hg0 : 0 < gone.length := List.length_pos_iff.2 hg
              have g1 : decide ((0 : Int) < (gone.length : Int)) = true := by rw [decide_eq_true_eq]; omega
              have g2 : decide (0 < gone.length) = true := by rw [decide_eq_true_eq]; omega
              have HF := Lib.hid (inst_clash HOk.out (by rw [HT.out]; exact hg))
              clear hg hg0
              go_wp2_with fail
              refine bodyPost_ret (v := .tuple #[.slice none 0 0, .slice none 0 0, .int .i64 7]) (by simp only [results, Tryz.results32]; go_simp) rfl ?_
              rw [HF.out]
              exact InstRet.no HB.out
          · have b1 : (mode0 == 1) = false := by simpa using h1
            have b2 : (mode0 == 2) = false := by simpa using h2
            have b3 : (mode0 != 1) = true := by simp [h1]
            have b4 : (mode0 != 2) = true := by simp [h2]
            have HF := Lib.hid (inst_mode HOk.out h1 h2)
            go_wp2_with fail
            refine bodyPost_ret (v := .tuple #[.slice none 0 0, .slice none 0 0, .int .i64 3]) (by simp only [results, Tryz.results32]; go_simp) rfl ?_
            rw [HF.out]
            exact InstRet.no HB.out
      · have HF := Lib.hid (okIn_no3 (q := q) ha mode0)
        go_wp2_with fail
        refine bodyPost_ret (v := .tuple #[.slice none 0 0, .slice none 0 0, .int .i64 1]) (by simp only [results, Tryz.results32]; go_simp) rfl ?_
        rw [HF.out]
        exact InstRet.no HB.out
end Od
end Go.Proofs.YtanfnejbnmenkaaGreat
end

section
/- What layer 20's laws begin with: the word shown. (bel2) -/
namespace Go.Proofs.YtanfnejbnmenkaaGreat
open Go.RowKit Go.Sort
set_option linter.unusedSimpArgs false

namespace Od
theorem clear_len (q : List Jb) : (clearQ q).1.length ≤ q.length ∧ (clearQ q).2.length ≤ q.length := by
  unfold clearQ
  split
  · simp only [List.length_map]; exact ⟨List.length_filter_le _ _, List.length_filter_le _ _⟩
  · simp
theorem waitsQ_len (es : List Ed) (q : List Jb) (u : Str) : (waitsQ es q u).length ≤ q.length := by
  unfold waitsQ
  split
  · simp
  · split
    · unfold waitsJ; rw [List.length_map]; exact List.length_filter_le _ _
    · simp
theorem begin_len (es : List Ed) (q : List Jb) (u : Str) : ((beginQ es q u).getD []).length ≤ q.length := by
  unfold beginQ
  split
  · simp [updJ_len]
  · simp
theorem finish_len (q : List Jb) (u : Str) (e : Int) : ((finishQ q u e).getD []).length ≤ q.length := by
  unfold finishQ
  split
  · simp
  · split
    · simp [updJ_len]
    · simp
def pj1 : List Jb := [(nmA, 1, 2, 0), (nmB, 1, 1, 0)]
def pj2 : List Jb := [(nmA, 1, 3, 2), (nmB, 1, 1, 0)]
def pj3 : List Jb := [(nmA, 1, 3, 2), (nmB, 1, 3, 3)]
def pj4 : List Jb := [(nmB, 2, 1, 0)]
def pj5 : List Jb := [(nmA, 1, 1, 0), (nmB, 2, 1, 0)]
def ov3 : List Nd := [(nmA, 1, 2), (nmB, 1, 3)]
def gn5 : List Nd := [(nmB, 1, 4)]
theorem sh1 : beginQ someEs (twoJ 1 1) nmA = some pj1 := by decide +kernel
theorem sh2 : finishQ pj1 nmA 2 = some pj2 := by decide +kernel
theorem sh3 : beginQ someEs pj2 nmB = some pj3 := by decide +kernel
theorem sh4 : clearQ pj3 = ([], ov3) := by decide +kernel
theorem sh5 : instQ (twoJ 1 1) pj4 1 = ((pj5, gn5), 0) :=
  Prod.ext (Prod.ext (show (instQ (twoJ 1 1) pj4 1).1.1 = pj5 by decide +kernel) (show (instQ (twoJ 1 1) pj4 1).1.2 = gn5 by decide +kernel)) (show (instQ (twoJ 1 1) pj4 1).2 = 0 by decide +kernel)
theorem sh6 : mayQ (twoJ 1 1) = true := by decide +kernel
theorem sh7 : soundQ someNs someEs (twoJ 1 1) = true := by decide +kernel
theorem sh8 : readyQ someEs (twoJ 1 1) = [nmA] := by decide +kernel
theorem sh9 : readyQ someEs (twoJ 2 2) = [nmB] := by decide +kernel
theorem sh10 : waitsQ someEs (twoJ 1 1) nmB = [nmA] := by decide +kernel
theorem okSome : OkE someEs := by
  intro e he
  simp only [someEs, List.mem_cons, List.not_mem_nil, or_false] at he
  rcases he with rfl | rfl <;> exact ⟨by unfold okS maxLen; decide, by unfold okS maxLen; decide⟩
theorem okSomeN : OkNs someNs := by
  intro e he
  simp only [someNs, List.mem_cons, List.not_mem_nil, or_false] at he
  rcases he with rfl | rfl <;> decide
theorem ok2 {a b : Jb} (ha : a.1.length ≤ 140737488355328) (hb : b.1.length ≤ 140737488355328) : OkJs [a, b] := by
  intro j hj
  simp only [List.mem_cons, List.not_mem_nil, or_false] at hj
  rcases hj with rfl | rfl
  · exact ha
  · exact hb
theorem ok1 {a : Jb} (ha : a.1.length ≤ 140737488355328) : OkJs [a] := by
  intro j hj
  simp only [List.mem_cons, List.not_mem_nil, or_false] at hj
  subst hj
  exact ha
set_option maxRecDepth 100000 in
set_option maxHeartbeats 8000000 in
theorem shown_any (w : World) : Calls Tryz.prog 13 #[] w fun e w' => e = .returned (.bool true) ∧ Below w.heap.size w w' := by
  have hq := dn_eql
  go_enter Tryz.func13, Tryz.ntmps13
  go_wp2_with fail
  refine (two_any 1 1 w).mono ?_
  rintro e w1 ⟨A1, c1, rfl, hc1, hr1, hb⟩
  have HQ1 : Hid (QIn w1 A1 c1 (twoJ 1 1)) := ⟨hr1, ok2 (by decide) (by decide), hc1⟩
  have HB := Lib.hid hb
  clear hr1 hb
  go_wp2_with fail
  refine (two_any 2 2 w1).mono ?_
  rintro e w2 ⟨A2, c2, rfl, hc2, hr2, hb⟩
  have HQ2 : Hid (QIn w2 A2 c2 (twoJ 2 2)) := ⟨hr2, ok2 (by decide) (by decide), hc2⟩
  replace HQ1 := Lib.hid (HQ1.out.at hb)
  replace HB := Lib.hid (lift HB.out hb)
  clear hr2 hb
  go_wp2_with fail
  refine (some_any w2).mono ?_
  rintro e w3 ⟨An, cn, Ae, ce, rfl, hcn, hce, hrn, hre, hb⟩
  have HGi : Hid (GIq w3 An Ae someNs someEs) := ⟨hrn, hre, okSomeN, okSome, by decide, by decide⟩
  replace HQ1 := Lib.hid (HQ1.out.at hb)
  replace HB := Lib.hid (lift HB.out hb)
  replace HQ2 := Lib.hid (HQ2.out.at hb)
  clear hrn hre hb
  go_wp2_with fail
  refine (BeginQ_any An Ae someNs.length cn ce someEs A1 c1 (twoJ 1 1) nmA w3 HGi.out.re HQ1.out (by decide) (by decide)).mono ?_
  rw [sh1]
  rintro e w4 ⟨A3, c3, rfl, hc3, hr3, hb⟩
  simp only [Option.getD_some, Option.isSome_some] at hc3 hr3 ⊢
  have HQ3 : Hid (QIn w4 A3 c3 pj1) := ⟨hr3, ok2 (by decide) (by decide), hc3⟩
  replace HQ1 := Lib.hid (HQ1.out.at hb)
  replace HB := Lib.hid (lift HB.out hb)
  replace HQ2 := Lib.hid (HQ2.out.at hb)
  replace HGi := Lib.hid (HGi.out.at hb)
  clear hr3 hb
  go_wp2_with fail
  refine (FinishQ_any A3 c3 pj1 nmA 2 w4 HQ3.out (by decide)).mono ?_
  rw [sh2]
  rintro e w5 ⟨A4, c4, rfl, hc4, hr4, hb⟩
  simp only [Option.getD_some, Option.isSome_some] at hc4 hr4 ⊢
  have HQ4 : Hid (QIn w5 A4 c4 pj2) := ⟨hr4, ok2 (by decide) (by decide), hc4⟩
  replace HQ1 := Lib.hid (HQ1.out.at hb)
  replace HB := Lib.hid (lift HB.out hb)
  replace HQ2 := Lib.hid (HQ2.out.at hb)
  replace HGi := Lib.hid (HGi.out.at hb)
  clear hr4 hb
  go_wp2_with fail
  refine (some_any w5).mono ?_
  rintro e w6 ⟨An, cn, Ae, ce, rfl, hcn, hce, hrn, hre, hb⟩
  have HGi : Hid (GIq w6 An Ae someNs someEs) := ⟨hrn, hre, okSomeN, okSome, by decide, by decide⟩
  replace HQ1 := Lib.hid (HQ1.out.at hb)
  replace HB := Lib.hid (lift HB.out hb)
  replace HQ2 := Lib.hid (HQ2.out.at hb)
  replace HQ4 := Lib.hid (HQ4.out.at hb)
  clear hrn hre hb
  go_wp2_with fail
  refine (BeginQ_any An Ae someNs.length cn ce someEs A4 c4 pj2 nmB w6 HGi.out.re HQ4.out (by decide) (by decide)).mono ?_
  rw [sh3]
  rintro e w7 ⟨A5, c5, rfl, hc5, hr5, hb⟩
  simp only [Option.getD_some, Option.isSome_some] at hc5 hr5 ⊢
  have HQ5 : Hid (QIn w7 A5 c5 pj3) := ⟨hr5, ok2 (by decide) (by decide), hc5⟩
  replace HQ1 := Lib.hid (HQ1.out.at hb)
  replace HB := Lib.hid (lift HB.out hb)
  replace HQ2 := Lib.hid (HQ2.out.at hb)
  replace HQ4 := Lib.hid (HQ4.out.at hb)
  replace HGi := Lib.hid (HGi.out.at hb)
  clear hr5 hb
  go_wp2_with fail
  refine (ClearQ_any A5 c5 pj3 w7 HQ5.out (by decide)).mono ?_
  rw [sh4]
  rintro e w8 ⟨A6, c6, A7, c7, rfl, hc6, hr6, hr7, hb⟩
  simp only at hr6 hr7 ⊢
  have HR7 := Lib.hid hr7
  replace HQ1 := Lib.hid (HQ1.out.at hb)
  replace HB := Lib.hid (lift HB.out hb)
  replace HQ2 := Lib.hid (HQ2.out.at hb)
  replace HQ4 := Lib.hid (HQ4.out.at hb)
  replace HGi := Lib.hid (HGi.out.at hb)
  clear hr6 hr7 hb
  go_wp2_with fail
  first | (refine wp_named ?_; intro W9 hW) | (refine calls_named ?_; intro W9 hW)
  have B9 : Below w8.heap.size w8 W9 := by rw [hW]; exact (by repeat (first | exact Below.refl _ _ | assumption | refine Below.alloc ?_ (by first | omega | (simp <;> omega)) _ | refine Below.setCell ?_ (by first | omega | (simp <;> omega)) _ | refine Below.drew ?_))
  replace HQ1 := Lib.hid (HQ1.out.at B9)
  replace HB := Lib.hid (lift HB.out B9)
  replace HQ2 := Lib.hid (HQ2.out.at B9)
  replace HQ4 := Lib.hid (HQ4.out.at B9)
  replace HGi := Lib.hid (HGi.out.at B9)
  replace HR7 := Lib.hid (HR7.out.at B9)
  have hu9 : Rd W9 W9.heap.size 4 (some ⟨w8.heap.size, 0, none⟩) 1 (jbsC pj4) := by rw [hW]; exact Rd.lit w8 (jbsC pj4) 50 4 1 rfl
  clear hW
  have HQ9 : Hid (QIn W9 (some ⟨w8.heap.size, 0, none⟩) 1 pj4) := ⟨hu9, ok1 (by decide), Nat.le_refl _⟩
  clear B9 hu9
  refine (InstallQ_any A1 c1 (twoJ 1 1) (some ⟨w8.heap.size, 0, none⟩) 1 pj4 1 W9 HQ1.out HQ9.out (by decide) (by decide)).mono ?_
  rw [sh5]
  rintro e v1 ⟨B1, d1, B2, d2, rfl, hd1, hs1, hs2, hb⟩
  simp only at hs1 hs2 ⊢
  have HS1 := Lib.hid hs1
  have HS2 := Lib.hid hs2
  replace HQ1 := Lib.hid (HQ1.out.at hb)
  replace HB := Lib.hid (lift HB.out hb)
  replace HQ2 := Lib.hid (HQ2.out.at hb)
  replace HQ4 := Lib.hid (HQ4.out.at hb)
  replace HGi := Lib.hid (HGi.out.at hb)
  replace HR7 := Lib.hid (HR7.out.at hb)
  clear hs1 hs2 hb
  go_wp2_with fail
  refine (MayQ_any A1 c1 (twoJ 1 1) v1 HQ1.out.rq (by decide) HQ1.out.ok).mono ?_
  rw [sh6]
  rintro e v2 ⟨rfl, hb⟩
  replace HQ1 := Lib.hid (HQ1.out.at hb)
  replace HB := Lib.hid (lift HB.out hb)
  replace HQ2 := Lib.hid (HQ2.out.at hb)
  replace HQ4 := Lib.hid (HQ4.out.at hb)
  replace HGi := Lib.hid (HGi.out.at hb)
  replace HR7 := Lib.hid (HR7.out.at hb)
  replace HS1 := Lib.hid (HS1.out.at hb)
  replace HS2 := Lib.hid (HS2.out.at hb)
  clear hb
  go_wp2_with fail
  refine (some_any v2).mono ?_
  rintro e v3 ⟨An, cn, Ae, ce, rfl, hcn, hce, hrn, hre, hb⟩
  have HGi : Hid (GIq v3 An Ae someNs someEs) := ⟨hrn, hre, okSomeN, okSome, by decide, by decide⟩
  replace HQ1 := Lib.hid (HQ1.out.at hb)
  replace HB := Lib.hid (lift HB.out hb)
  replace HQ2 := Lib.hid (HQ2.out.at hb)
  replace HQ4 := Lib.hid (HQ4.out.at hb)
  replace HR7 := Lib.hid (HR7.out.at hb)
  replace HS1 := Lib.hid (HS1.out.at hb)
  replace HS2 := Lib.hid (HS2.out.at hb)
  clear hrn hre hb
  go_wp2_with fail
  refine (SoundQ_any An Ae cn ce someNs someEs A1 c1 (twoJ 1 1) v3 HGi.out HQ1.out (by decide)).mono ?_
  rw [sh7]
  rintro e v4 ⟨rfl, hb⟩
  replace HQ1 := Lib.hid (HQ1.out.at hb)
  replace HB := Lib.hid (lift HB.out hb)
  replace HQ2 := Lib.hid (HQ2.out.at hb)
  replace HQ4 := Lib.hid (HQ4.out.at hb)
  replace HR7 := Lib.hid (HR7.out.at hb)
  replace HS1 := Lib.hid (HS1.out.at hb)
  replace HS2 := Lib.hid (HS2.out.at hb)
  replace HGi := Lib.hid (HGi.out.at hb)
  clear hb
  go_wp2_with fail
  refine (some_any v4).mono ?_
  rintro e v5 ⟨An, cn, Ae, ce, rfl, hcn, hce, hrn, hre, hb⟩
  have HGi : Hid (GIq v5 An Ae someNs someEs) := ⟨hrn, hre, okSomeN, okSome, by decide, by decide⟩
  replace HQ1 := Lib.hid (HQ1.out.at hb)
  replace HB := Lib.hid (lift HB.out hb)
  replace HQ2 := Lib.hid (HQ2.out.at hb)
  replace HQ4 := Lib.hid (HQ4.out.at hb)
  replace HR7 := Lib.hid (HR7.out.at hb)
  replace HS1 := Lib.hid (HS1.out.at hb)
  replace HS2 := Lib.hid (HS2.out.at hb)
  clear hrn hre hb
  go_wp2_with fail
  refine (ReadyQ_any An Ae someNs.length cn ce someEs A1 c1 (twoJ 1 1) v5 HGi.out.re HQ1.out.rq (by decide) (by decide) HQ1.out.ok).mono ?_
  rw [sh8]
  rintro e v6 ⟨Ar, cr, rfl, hor, hb⟩
  have HRr := Lib.hid (own_rd' hor)
  replace HQ1 := Lib.hid (HQ1.out.at hb)
  replace HB := Lib.hid (lift HB.out hb)
  replace HQ2 := Lib.hid (HQ2.out.at hb)
  replace HQ4 := Lib.hid (HQ4.out.at hb)
  replace HR7 := Lib.hid (HR7.out.at hb)
  replace HS1 := Lib.hid (HS1.out.at hb)
  replace HS2 := Lib.hid (HS2.out.at hb)
  replace HGi := Lib.hid (HGi.out.at hb)
  clear hor hb
  go_wp2_with fail
  first | (refine wp_named ?_; intro V7 hW) | (refine calls_named ?_; intro V7 hW)
  have BB : Below v6.heap.size v6 V7 := by rw [hW]; exact (by repeat (first | exact Below.refl _ _ | assumption | refine Below.alloc ?_ (by first | omega | (simp <;> omega)) _ | refine Below.setCell ?_ (by first | omega | (simp <;> omega)) _ | refine Below.drew ?_))
  replace HQ1 := Lib.hid (HQ1.out.at BB)
  replace HB := Lib.hid (lift HB.out BB)
  replace HQ2 := Lib.hid (HQ2.out.at BB)
  replace HQ4 := Lib.hid (HQ4.out.at BB)
  replace HR7 := Lib.hid (HR7.out.at BB)
  replace HS1 := Lib.hid (HS1.out.at BB)
  replace HS2 := Lib.hid (HS2.out.at BB)
  replace HGi := Lib.hid (HGi.out.at BB)
  replace HRr := Lib.hid (HRr.out.at BB)
  have huu : Rd V7 V7.heap.size 1 (some ⟨v6.heap.size, 0, none⟩) 1 (svs [nmA]) := by rw [hW]; exact Rd.lit v6 (svs [nmA]) 9 1 1 rfl
  clear hW
  have HUU := Lib.hid huu
  clear BB huu
  refine (Same_any Ar _ cr 1 [nmA] [nmA] V7 HRr.out HUU.out (by decide)).mono ?_
  rw [decide_eq_true rfl]
  rintro e v8 ⟨rfl, hb⟩
  replace HQ1 := Lib.hid (HQ1.out.at hb)
  replace HB := Lib.hid (lift HB.out hb)
  replace HQ2 := Lib.hid (HQ2.out.at hb)
  replace HQ4 := Lib.hid (HQ4.out.at hb)
  replace HR7 := Lib.hid (HR7.out.at hb)
  replace HS1 := Lib.hid (HS1.out.at hb)
  replace HS2 := Lib.hid (HS2.out.at hb)
  replace HGi := Lib.hid (HGi.out.at hb)
  replace HRr := Lib.hid (HRr.out.at hb)
  clear hb HUU
  go_wp2_with fail
  refine (some_any v8).mono ?_
  rintro e v9 ⟨An, cn, Ae, ce, rfl, hcn, hce, hrn, hre, hb⟩
  have HGi : Hid (GIq v9 An Ae someNs someEs) := ⟨hrn, hre, okSomeN, okSome, by decide, by decide⟩
  replace HQ1 := Lib.hid (HQ1.out.at hb)
  replace HB := Lib.hid (lift HB.out hb)
  replace HQ2 := Lib.hid (HQ2.out.at hb)
  replace HQ4 := Lib.hid (HQ4.out.at hb)
  replace HR7 := Lib.hid (HR7.out.at hb)
  replace HS1 := Lib.hid (HS1.out.at hb)
  replace HS2 := Lib.hid (HS2.out.at hb)
  clear hrn hre hb
  go_wp2_with fail
  refine (ReadyQ_any An Ae someNs.length cn ce someEs A2 c2 (twoJ 2 2) v9 HGi.out.re HQ2.out.rq (by decide) (by decide) HQ2.out.ok).mono ?_
  rw [sh9]
  rintro e u1 ⟨Ar, cr, rfl, hor, hb⟩
  have HRr := Lib.hid (own_rd' hor)
  replace HQ1 := Lib.hid (HQ1.out.at hb)
  replace HB := Lib.hid (lift HB.out hb)
  replace HQ2 := Lib.hid (HQ2.out.at hb)
  replace HQ4 := Lib.hid (HQ4.out.at hb)
  replace HR7 := Lib.hid (HR7.out.at hb)
  replace HS1 := Lib.hid (HS1.out.at hb)
  replace HS2 := Lib.hid (HS2.out.at hb)
  replace HGi := Lib.hid (HGi.out.at hb)
  clear hor hb
  go_wp2_with fail
  first | (refine wp_named ?_; intro U2 hW) | (refine calls_named ?_; intro U2 hW)
  have BB : Below u1.heap.size u1 U2 := by rw [hW]; exact (by repeat (first | exact Below.refl _ _ | assumption | refine Below.alloc ?_ (by first | omega | (simp <;> omega)) _ | refine Below.setCell ?_ (by first | omega | (simp <;> omega)) _ | refine Below.drew ?_))
  replace HQ1 := Lib.hid (HQ1.out.at BB)
  replace HB := Lib.hid (lift HB.out BB)
  replace HQ2 := Lib.hid (HQ2.out.at BB)
  replace HQ4 := Lib.hid (HQ4.out.at BB)
  replace HR7 := Lib.hid (HR7.out.at BB)
  replace HS1 := Lib.hid (HS1.out.at BB)
  replace HS2 := Lib.hid (HS2.out.at BB)
  replace HGi := Lib.hid (HGi.out.at BB)
  replace HRr := Lib.hid (HRr.out.at BB)
  have huu : Rd U2 U2.heap.size 1 (some ⟨u1.heap.size, 0, none⟩) 1 (svs [nmB]) := by rw [hW]; exact Rd.lit u1 (svs [nmB]) 9 1 1 rfl
  clear hW
  have HUU := Lib.hid huu
  clear BB huu
  refine (Same_any Ar _ cr 1 [nmB] [nmB] U2 HRr.out HUU.out (by decide)).mono ?_
  rw [decide_eq_true rfl]
  rintro e u3 ⟨rfl, hb⟩
  replace HQ1 := Lib.hid (HQ1.out.at hb)
  replace HB := Lib.hid (lift HB.out hb)
  replace HQ2 := Lib.hid (HQ2.out.at hb)
  replace HQ4 := Lib.hid (HQ4.out.at hb)
  replace HR7 := Lib.hid (HR7.out.at hb)
  replace HS1 := Lib.hid (HS1.out.at hb)
  replace HS2 := Lib.hid (HS2.out.at hb)
  replace HGi := Lib.hid (HGi.out.at hb)
  replace HRr := Lib.hid (HRr.out.at hb)
  clear hb HUU
  go_wp2_with fail
  refine (some_any u3).mono ?_
  rintro e u4 ⟨An, cn, Ae, ce, rfl, hcn, hce, hrn, hre, hb⟩
  have HGi : Hid (GIq u4 An Ae someNs someEs) := ⟨hrn, hre, okSomeN, okSome, by decide, by decide⟩
  replace HQ1 := Lib.hid (HQ1.out.at hb)
  replace HB := Lib.hid (lift HB.out hb)
  replace HQ2 := Lib.hid (HQ2.out.at hb)
  replace HQ4 := Lib.hid (HQ4.out.at hb)
  replace HR7 := Lib.hid (HR7.out.at hb)
  replace HS1 := Lib.hid (HS1.out.at hb)
  replace HS2 := Lib.hid (HS2.out.at hb)
  clear hrn hre hb
  go_wp2_with fail
  refine (WaitsQ_any An Ae someNs.length cn ce someEs A1 c1 (twoJ 1 1) nmB u4 HGi.out.re HQ1.out.rq (by decide) (by decide) HQ1.out.ok).mono ?_
  rw [sh10]
  rintro e u5 ⟨Ar, cr, rfl, hor, hb⟩
  have HRr := Lib.hid (own_rd' hor)
  replace HQ1 := Lib.hid (HQ1.out.at hb)
  replace HB := Lib.hid (lift HB.out hb)
  replace HQ2 := Lib.hid (HQ2.out.at hb)
  replace HQ4 := Lib.hid (HQ4.out.at hb)
  replace HR7 := Lib.hid (HR7.out.at hb)
  replace HS1 := Lib.hid (HS1.out.at hb)
  replace HS2 := Lib.hid (HS2.out.at hb)
  replace HGi := Lib.hid (HGi.out.at hb)
  clear hor hb
  go_wp2_with fail
  first | (refine wp_named ?_; intro U6 hW) | (refine calls_named ?_; intro U6 hW)
  have BB : Below u5.heap.size u5 U6 := by rw [hW]; exact (by repeat (first | exact Below.refl _ _ | assumption | refine Below.alloc ?_ (by first | omega | (simp <;> omega)) _ | refine Below.setCell ?_ (by first | omega | (simp <;> omega)) _ | refine Below.drew ?_))
  replace HQ1 := Lib.hid (HQ1.out.at BB)
  replace HB := Lib.hid (lift HB.out BB)
  replace HQ2 := Lib.hid (HQ2.out.at BB)
  replace HQ4 := Lib.hid (HQ4.out.at BB)
  replace HR7 := Lib.hid (HR7.out.at BB)
  replace HS1 := Lib.hid (HS1.out.at BB)
  replace HS2 := Lib.hid (HS2.out.at BB)
  replace HGi := Lib.hid (HGi.out.at BB)
  replace HRr := Lib.hid (HRr.out.at BB)
  have huu : Rd U6 U6.heap.size 1 (some ⟨u5.heap.size, 0, none⟩) 1 (svs [nmA]) := by rw [hW]; exact Rd.lit u5 (svs [nmA]) 9 1 1 rfl
  clear hW
  have HUU := Lib.hid huu
  clear BB huu
  refine (Same_any Ar _ cr 1 [nmA] [nmA] U6 HRr.out HUU.out (by decide)).mono ?_
  rw [decide_eq_true rfl]
  rintro e u7 ⟨rfl, hb⟩
  replace HQ1 := Lib.hid (HQ1.out.at hb)
  replace HB := Lib.hid (lift HB.out hb)
  replace HQ2 := Lib.hid (HQ2.out.at hb)
  replace HQ4 := Lib.hid (HQ4.out.at hb)
  replace HR7 := Lib.hid (HR7.out.at hb)
  replace HS1 := Lib.hid (HS1.out.at hb)
  replace HS2 := Lib.hid (HS2.out.at hb)
  replace HGi := Lib.hid (HGi.out.at hb)
  replace HRr := Lib.hid (HRr.out.at hb)
  clear hb HUU
  obtain ⟨b7, o7, hA7, hB7, x0, x1, x2⟩ := HR7.out.node (i := 1) (by decide)
  obtain ⟨b8, o8, hA8, hB8, y0, y1, y2, y3⟩ := HS1.out.job (i := 1) (by decide)
  subst hA7 hA8
  go_wp2_with fail
  go_ret
  exact ⟨rfl, HB.out⟩
end Od
end Go.Proofs.YtanfnejbnmenkaaGreat
end

section
/- Plain words for the walk of matinsref20.Install. No program. -/
namespace Go.Proofs.YtanfnejbnmenkaaGreat
set_option linter.unusedSimpArgs false
namespace Od
/-- How many of the new jobs stand for no job that is there. -/
def newN (q jobs : List Jb) : Nat := (jobs.filter (fun j => (jobOf q j.1).isNone)).length
theorem newN_succ {q jobs : List Jb} {m : Nat} (h : m < jobs.length) : newN q (jobs.take (m + 1)) = newN q (jobs.take m) + (if (jobOf q jobs[m].1).isNone = true then 1 else 0) := by
  unfold newN
  rw [filter_take_succ h, List.length_append]
  split <;> simp
theorem newN_le (q jobs : List Jb) : newN q jobs ≤ jobs.length := List.length_filter_le _ _
theorem tog_len {q jobs : List Jb} (hq : upQ q) (hd : DQ jobs) : (togR q jobs).1.length = q.length + newN q jobs := (merged hq hd).len
theorem tog_gone {q jobs : List Jb} (hq : upQ q) (hd : DQ jobs) : (togR q jobs).2 = [] ↔ ∀ j ∈ jobs, goneOf q j = none := by
  rw [(merged hq hd).gone, List.filterMap_eq_nil_iff]
theorem gone_succ {q jobs : List Jb} {m : Nat} (h : m < jobs.length) (h1 : ∀ j ∈ jobs.take m, goneOf q j = none) (h2 : goneOf q jobs[m] = none) : ∀ j ∈ jobs.take (m + 1), goneOf q j = none := by
  intro j hj
  rw [List.take_succ_eq_append_getElem h] at hj
  rcases List.mem_append.1 hj with h3 | h3
  · exact h1 j h3
  · rw [List.mem_singleton.1 h3]; exact h2
theorem goneOf_new {q : List Jb} {j : Jb} (h : jobOf q j.1 = none) : goneOf q j = none := by unfold goneOf; rw [h]
theorem goneOf_over {q : List Jb} {j o : Jb} (h : jobOf q j.1 = some o) (ho : openB o = false) : goneOf q j = none := by unfold goneOf; rw [h]; simp [ho]
theorem goneOf_fine {q : List Jb} {j o : Jb} (h : jobOf q j.1 = some o) (hm : (meetQ o j).2 = false) : goneOf q j = none := by unfold goneOf; rw [h]; simp [hm]
theorem goneOf_clash {q : List Jb} {j o : Jb} (h : jobOf q j.1 = some o) (ho : openB o = true) (hm : (meetQ o j).2 = true) : goneOf q j = some (goneD o j) := by unfold goneOf; rw [h]; simp [ho, hm]
theorem togR_succ {q jobs : List Jb} {m : Nat} (h : m < jobs.length) : togR q (jobs.take (m + 1)) = stepT insJ (togR q (jobs.take m)) jobs[m] := by
  unfold togR
  rw [List.take_succ_eq_append_getElem h, List.foldl_append]
  rfl
theorem stepI_len (s : List Jb × List Nd) (j : Jb) : (stepT insJ s j).1.length ≤ s.1.length + 1 ∧ (stepT insJ s j).2.length ≤ s.2.length + 1 := by
  unfold stepT
  split
  · simp [insJ_len]
  · split
    · simp only [updJ_len]
      refine ⟨by omega, ?_⟩
      split <;> simp
    · simp only [updJ_len]; omega
theorem togR_len (q jobs : List Jb) : ∀ m, m ≤ jobs.length → (togR q (jobs.take m)).1.length ≤ q.length + m ∧ (togR q (jobs.take m)).2.length ≤ m
  | 0, _ => by simp [togR]
  | m + 1, h => by
    have ih := togR_len q jobs m (by omega)
    rw [togR_succ (by omega)]
    have := stepI_len (togR q (jobs.take m)) (jobs[m]'(by omega))
    omega
theorem togR_up {q jobs : List Jb} (h : upQ q) : upQ (togR q jobs).1 := (tog_perm (jobs := jobs) h).2.2
theorem stepI_new {s : List Jb × List Nd} {j : Jb} (h : jobOf s.1 j.1 = none) : stepT insJ s j = (insJ j s.1, s.2) := by unfold stepT; rw [h]
theorem stepI_over {s : List Jb × List Nd} {j o : Jb} {k : Nat} (hd : DQ s.1) (hk : k < s.1.length) (hx : s.1[k] = o) (hu : o.1 = j.1) (ho : openB o = false) : stepT insJ s j = (s.1.set k j, s.2) := by
  have h : jobOf s.1 j.1 = some o := (jobOf_iff hd).2 ⟨hx ▸ List.getElem_mem hk, hu⟩
  unfold stepT; rw [h]; simp only [ho, Bool.false_eq_true, if_false]
  rw [set_updf hd hk (u := j.1) (f := fun _ => j) (by rw [hx, hu]) rfl]
theorem stepI_meet {s : List Jb × List Nd} {j o : Jb} {k : Nat} (hd : DQ s.1) (hk : k < s.1.length) (hx : s.1[k] = o) (hu : o.1 = j.1) (ho : openB o = true) : stepT insJ s j = (s.1.set k (meetQ o j).1, if (meetQ o j).2 = true then s.2 ++ [goneD o j] else s.2) := by
  have h : jobOf s.1 j.1 = some o := (jobOf_iff hd).2 ⟨hx ▸ List.getElem_mem hk, hu⟩
  unfold stepT; rw [h]; simp only [ho, if_true]
  rw [set_updf hd hk (u := j.1) (f := fun _ => (meetQ o j).1) (by rw [hx, hu]) rfl]
theorem meet_clash {o j : Jb} (h : (meetQ o j).2 = true) : meetQ o j = (j, true) := by
  unfold meetQ at h ⊢
  split
  · rfl
  · rename_i h1
    rw [if_neg h1] at h
    split at h <;> cases h
theorem meet_wait {o j : Jb} (h : (meetQ o j).2 = false) (h1 : o.2.2.1 = 1) : meetQ o j = ((o.1, (Pr.jn o.2.1 j.2.1 false).1, 1, o.2.2.2), false) := by
  unfold meetQ at h ⊢
  split
  · rename_i h2; rw [if_pos h2] at h; cases h
  · first | rw [h1] | rw [if_pos h1, h1]
theorem meet_run {o j : Jb} (h : (meetQ o j).2 = false) (h1 : o.2.2.1 ≠ 1) : meetQ o j = (o, false) := by
  unfold meetQ at h ⊢
  split
  · rename_i h2; rw [if_pos h2] at h; cases h
  · first | rfl | rw [if_neg h1]
end Od
end Go.Proofs.YtanfnejbnmenkaaGreat
end

section
/- Install of jobs in any number; lengths of what comes out. (bel2) -/
namespace Go.Proofs.YtanfnejbnmenkaaGreat
open Go.RowKit Go.Sort
set_option linter.unusedSimpArgs false

namespace Od
theorem mayQ_long {q : List Jb} (h : 64 < q.length) : mayQ q = false := by
  cases hm : mayQ q
  · rfl
  · have := (mayQ_iff.1 hm).1; omega
theorem mayQ.ok {q : List Jb} (h : mayQ q = true) : OkJs q := fun j hj => by
  have h1 := (mayJ_iff.1 ((mayQ_iff.1 h).2.1 j hj)).1
  unfold kindS at h1
  split at h1
  · exact absurd rfl h1
  · rename_i hb
    unfold badName at hb
    simp only [Bool.or_eq_true, not_or, decide_eq_true_eq] at hb
    have := hb.1
    omega
theorem soundQ.ok {ns : List Nd} {es : List Ed} {q : List Jb} (h : soundQ ns es q = true) : OkJs q := mayQ.ok (soundQ_iff.1 h).2.2.1
theorem soundQ.len {ns : List Nd} {es : List Ed} {q : List Jb} (h : soundQ ns es q = true) : q.length ≤ 64 := (mayQ_iff.1 (soundQ_iff.1 h).2.2.1).1
theorem inst_len (q jobs : List Jb) (mode : Int) : (instQ q jobs mode).1.1.length ≤ 64 ∧ (instQ q jobs mode).1.2.length ≤ 64 := by
  by_cases h : (instQ q jobs mode).2 = 0
  · obtain ⟨h1, _, h3, h4⟩ := inst_ok h
    rw [h4]
    have h5 := (togR_len q jobs jobs.length (Nat.le_refl _)).2
    rw [List.take_length] at h5
    have h6 := (mayQ_iff.1 (okIn_iff.1 h1).2.1).1
    show (togR q jobs).1.length ≤ 64 ∧ (togR q jobs).2.length ≤ 64
    exact ⟨h3, by omega⟩
  · rw [inst_bad h]; simp
set_option maxRecDepth 100000 in
set_option maxHeartbeats 4000000 in
theorem InstallQ_no (A : Option Addr) (c : Nat) (q : List Jb) (A0 : Option Addr) (c0 : Nat) (jobs : List Jb) (mode0 : Int) (w : World) (hq : QIn w A c q) (hj : QIn w A0 c0 jobs) (hlq : q.length ≤ 140737488355328) (hlj : jobs.length ≤ 140737488355328) (hno : mayQ q = false ∨ mayQ jobs = false) :
    Calls Tryz.prog 32 #[.slice A q.length c, .slice A0 jobs.length c0, .int .i64 mode0] w (InstRet (instQ q jobs mode0) w) := by
  have HQ := Lib.hid hq
  have HJ := Lib.hid hj
  have HNo := Lib.hid hno
  clear hq hj hno
  go_enter Tryz.func32, Tryz.ntmps32
  go_wp2_with fail
  refine (MayQ_any A c q w HQ.out.rq hlq HQ.out.ok).mono ?_
  rintro e w2 ⟨rfl, hb⟩
  have HB := Lib.hid hb
  replace HQ := Lib.hid (HQ.out.at hb)
  replace HJ := Lib.hid (HJ.out.at hb)
  clear hb
  cases hm : mayQ q
  · have HF := Lib.hid (okIn_no1 (jobs := jobs) hm mode0)
    go_wp2_with fail
    refine bodyPost_ret (v := .tuple #[.slice none 0 0, .slice none 0 0, .int .i64 1]) (by simp only [results, Tryz.results32]; go_simp) rfl ?_
    rw [HF.out]
    exact InstRet.no HB.out
  · have HM := Lib.hid hm
    clear hm
    go_wp2_with fail
    refine (MayQ_any A0 c0 jobs w2 HJ.out.rq hlj HJ.out.ok).mono ?_
    have hm2 : mayQ jobs = false := HNo.out.resolve_left (by rw [HM.out]; simp)
    rw [hm2]
    have HF := Lib.hid (okIn_no2 (q := q) hm2 mode0)
    rintro e w3 ⟨rfl, hb⟩
    replace HQ := Lib.hid (HQ.out.at hb)
    replace HJ := Lib.hid (HJ.out.at hb)
    replace HB := Lib.hid (lift HB.out hb)
    clear hb hm2
    go_wp2_with fail
    refine bodyPost_ret (v := .tuple #[.slice none 0 0, .slice none 0 0, .int .i64 1]) (by simp only [results, Tryz.results32]; go_simp) rfl ?_
    rw [HF.out]
    exact InstRet.no HB.out
theorem InstallQ_all (A : Option Addr) (c : Nat) (q : List Jb) (A0 : Option Addr) (c0 : Nat) (jobs : List Jb) (mode0 : Int) (w : World) (hq : QIn w A c q) (hj : QIn w A0 c0 jobs) (hlq : q.length ≤ 140737488355328) (hlj : jobs.length ≤ 140737488355328) :
    Calls Tryz.prog 32 #[.slice A q.length c, .slice A0 jobs.length c0, .int .i64 mode0] w (InstRet (instQ q jobs mode0) w) := by
  by_cases h1 : q.length ≤ 64
  · by_cases h2 : jobs.length ≤ 64
    · exact InstallQ_any A c q A0 c0 jobs mode0 w hq hj (by omega) (by omega)
    · exact InstallQ_no A c q A0 c0 jobs mode0 w hq hj hlq hlj (.inr (mayQ_long (by omega)))
  · exact InstallQ_no A c q A0 c0 jobs mode0 w hq hj hlq hlj (.inl (mayQ_long (by omega)))
end Od
end Go.Proofs.YtanfnejbnmenkaaGreat
end

section
/- What every law's row asks behind the walk: the result is true, and each argument reads as it did, since nothing that was there has turned. -/
namespace Go.Proofs.YtanfnejbnmenkaaGreat
open Go.ChangeShapes Go.WideShapes Go.ChangeAt Go.RowKit

theorem own : ownKnob Tryz.prog.godebug = none := by kernel_rfl
theorem laid : laidOutB Tryz.prog = true := by kernel_rfl

section
variable {H : Type} {enc : TypeId × Value → H} {P : Program}

theorem trodAll_stays (hl : laidOutB P = true) {W W' : World} (hb : Below W.heap.size W W') :
    ∀ {ts : List TypeId} {vs : List Value} {ds : List (DataW H)} {p : List MemPlace}, (∀ t ∈ ts, P.readableRec t = true ∧ t < P.types.size) → (∀ x ∈ p, x.block < W.heap.size) →
      DataW.TrodAll enc P W 0 (fun _ => true) true ts vs ds p → DataW.TrodAll enc P W' 0 (fun b => decide (b < W.heap.size)) true ts vs ds p
  | [], _, _, _, _, _, h => by
    obtain ⟨rfl, rfl, rfl⟩ := trodAll_nil h
    exact trodAll_mk0
  | t :: _, _, _, _, hr, hlt, h => by
    obtain ⟨v, vs1, d, ds1, a, b, rfl, rfl, rfl, h1, h2⟩ := trodAll_cons h
    have ht := hr t List.mem_cons_self
    exact trodAll_cons_mk (Below.trod hl ht.1 ht.2 h1 hb (fun x hx => hlt x (List.mem_append.2 (.inl hx))))
      (trodAll_stays hl hb (fun u hu => hr u (List.mem_cons_of_mem _ hu)) (fun x hx => hlt x (List.mem_append.2 (.inr hx))) h2)

/-- The row's post, for a law: it returned true, and nothing that was there has turned. -/
theorem law_post (hl : laidOutB P = true) {f : Func} {s : ChangeSpec} {W W' : World} {args : Array Value} {ds gs : List (DataW H)} {before : List MemPlace} {tb : TypeId}
    (hr : ∀ t ∈ f.params.toList, P.readableRec t = true ∧ t < P.types.size) (hv : s.vars = []) (hres : f.resultTypes = #[tb]) (htb : P.underlying tb = some .bool)
    (hW : DataW.Whole enc P f.params.toList s.vars false W args.toList ds gs before) (hs : s.fn H (ds ++ gs) = { results := [.lit (.bool true)], args := ds }) (hb : Below W.heap.size W W') :
    s.post enc P f false true false false W args (.bool true) W' := by
  have hlt : ∀ p ∈ before, p.block < W.heap.size := fun p hp => hW.lt p hp
  have hW0 := hW
  obtain ⟨p, q, hA, hV, rfl, _, _⟩ := hW0
  rw [hv] at hV
  obtain ⟨rfl, rfl⟩ := trodVars_none hV
  rw [List.append_nil] at hlt
  refine ⟨ds, [], _, [], p, [], hW, ?_, ?_, ?_, hb.frame _, fun h => by cases h⟩
  · rw [hs, hres]
    exact trodAll_cons_mk (shut_bool htb true) trodAll_mk0
  · rw [hs]
    exact trodAll_stays hl hb hr hlt hA
  · rw [hs, hv]
    exact rfl

theorem cell_lt {w : World} {a : Addr} {v : Value} (h : w.cell? a = some v) : a.block < w.heap.size := by
  rcases Nat.lt_or_ge a.block w.heap.size with h1 | h1
  · exact h1
  · unfold World.cell? at h
    rw [Array.getElem?_eq_none h1] at h
    cases h

/-- An argument that is a slice of numbers. -/
theorem open_rd_ints {W : World} {base : Nat} {t e : TypeId} {v : Value} {d : DataW H} {p : List MemPlace} (ht : P.underlying t = some (.slice e)) (he : P.underlying e = some (.int .i64)) (hc : P.cellsOf e = 1)
    (hok : Value.okWide P W .any base t v) (h : DataW.Trod enc P W 0 (fun _ => true) true t v d p) : ∃ (A : Option Addr) (c : Nat) (xs : List Int), v = .slice A xs.length c ∧ Rd W W.heap.size 1 A xs.length (ints xs) ∧ ∀ x ∈ xs, (Lit.int .i64 x).wf = true := by
  obtain ⟨a0, len, cap, rfl⟩ := okWide_slice ht hok
  obtain ⟨fuel, hf⟩ := h
  rcases open_ints ht he hc hf with ⟨hcs, _⟩ | ⟨a, len', cap', zs, hcs, _, hl, hm, hz, hx, hcell, hwz⟩
  · simp only [Value.cells, List.cons.injEq, and_true] at hcs
    injection hcs with h1 h2 h3
    subst h1 h2 h3
    exact ⟨none, 0, [], rfl, Rd.none_, fun x hx => by cases hx⟩
  · simp only [Value.cells, List.cons.injEq, and_true] at hcs
    injection hcs with h1 h2 h3
    subst h1 h2 h3
    have hz' : zs.length = cap := hz
    have hlen : (zs.take len).length = len := by simp; omega
    refine ⟨some a, cap, zs.take len, by rw [hlen], ⟨by simp, fun hn => ?_⟩, fun x hx => hwz x (List.mem_of_mem_take hx)⟩
    rw [hlen] at hn
    have hc0 := hcell 0 (by omega)
    have hb : a.block < W.heap.size := by simpa [Addr.add] using cell_lt hc0
    have hsp : a.spot = none := by
      cases hs : a.spot with
      | none => rfl
      | some s =>
        exfalso
        simp only [Addr.add, if_pos, World.cell?, hs] at hc0
        revert hc0
        split <;> simp
    refine ⟨a, rfl, hb, hsp, fun j hj => ?_⟩
    have hj' : j < len := by rw [hlen] at hj; omega
    have := hcell j (by omega)
    have hadd : a.add j = ⟨a.block, a.off + j, none⟩ := by
      unfold Addr.add
      split
      · rename_i h0; subst h0; cases a; simp_all
      · rfl
    rw [hadd] at this
    rw [this]
    simp [ints, hj', List.getD, show j < zs.length from by omega]
end

end Go.Proofs.YtanfnejbnmenkaaGreat
end

section
/- What a law with graphs and texts as arguments asks ahead of its walk: that they read as lists. -/
namespace Go.Proofs.YtanfnejbnmenkaaGreat
open Go.ChangeShapes Go.WideShapes Go.ChangeAt Go.RowKit Go.Deep

section
variable {H : Type} {enc : TypeId × Value → H} {P : Program}
/-- All that a datum weighs is within reach. -/
def Light (P : Program) (t : TypeId) (d : DataW H) : Prop := ∀ n ∈ d.weights P t, n ≤ reachBytes
theorem light_arg {ts : List TypeId} {ds : List (DataW H)} (h : (DataW.weightsEach P ts ds).all (· ≤ reachBytes) = true) {j : Nat} {t : TypeId} {d : DataW H} (ht : ts[j]? = some t) (hd : ds[j]? = some d) : Light P t d := fun n hn => by
  have := List.all_eq_true.1 h n (DataW.weights_mem_each ht hd n hn)
  simpa using this
theorem weightsAll_mem {e : TypeId} : ∀ {l : List (DataW H)} {d : DataW H}, d ∈ l → ∀ n ∈ d.weights P e, n ∈ DataW.weightsAll P e l
  | d0 :: l, d, h, n, hn => by
    rw [DataW.weightsAll]
    rcases List.mem_cons.1 h with e | e
    · exact List.mem_append_left _ (e ▸ hn)
    · exact List.mem_append_right _ (weightsAll_mem e n hn)
theorem light_elem {t e : TypeId} {elems spare : List (DataW H)} (ht : P.underlying t = some (.slice e)) (h : Light P t (.slice elems spare)) {d : DataW H} (hd : d ∈ elems) : Light P e d := fun n hn => h n (by
  rw [DataW.weights, ht]
  exact List.mem_cons_of_mem _ (List.mem_append_left _ (weightsAll_mem hd n hn)))
theorem light_part {t : TypeId} {fs : Array Field} {parts : List (DataW H)} (ht : P.underlying t = some (.struct fs)) (h : Light P t (.agg parts)) {j : Nat} {f : Field} {d : DataW H} (hf : fs[j]? = some f) (hd : parts[j]? = some d) : Light P f.type d := fun n hn => h n (by
  rw [DataW.weights, ht]
  refine DataW.weights_mem_each (j := j) ?_ hd n hn
  simp [hf])

theorem list_of {α : Type} (f : Nat → Option α) : ∀ n, (∀ i, i < n → ∃ x, f i = some x) → ∃ xs : List α, xs.length = n ∧ ∀ i (hi : i < xs.length), f i = some xs[i]
  | 0, _ => ⟨[], rfl, fun i hi => by simp at hi⟩
  | q + 1, h => by
    obtain ⟨xs, h1, h2⟩ := list_of f q (fun i hil => h i (by omega))
    obtain ⟨x, hx⟩ := h q (by omega)
    refine ⟨xs ++ [x], by simp [h1], fun i hi => ?_⟩
    by_cases e : i < xs.length
    · rw [List.getElem_append_left e]; exact h2 i e
    · have : i = xs.length := by simp at hi; omega
      subst this
      have hx' : f xs.length = some x := by rw [h1]; exact hx
      rw [hx']
      simp
/-- A slice whose elements are rows of k cells that say an α. -/
theorem open_rd_rows {α : Type} (en : α → List Value) (k : Nat) (ok : α → Prop) {W : World} {t e : TypeId} {fuel : Nat} {v : Value} {y : DataW H × List MemPlace} (ht : P.underlying t = some (.slice e)) (hC : P.cellsOf e = k) (hk : 0 < k) (hlen : ∀ x, (en x).length = k)
    (hdec : ∀ n cs y, DataW.trod enc P W 0 (fun _ => true) true n e cs = some y → Light P e y.1 → ∃ x : α, en x = cs ∧ ok x)
    (h : DataW.trod enc P W 0 (fun _ => true) true fuel t [v] = some y) (hs : Light P t y.1) :
    ∃ (A : Option Addr) (c : Nat) (xs : List α), v = .slice A xs.length c ∧ xs.length ≤ c ∧ Rd W W.heap.size k A xs.length (xs.flatMap en) ∧ ∀ x ∈ xs, ok x := by
  rcases open_slice ht h with ⟨hcs, _⟩ | ⟨a, len, cap, m, n, D, Pl, hcs, _, hl, hm, hmm, hx, hi⟩
  · simp only [List.cons.injEq, and_true] at hcs
    subst hcs
    exact ⟨none, 0, [], rfl, Nat.le_refl _, by simpa using Rd.none_, fun x hx => by cases hx⟩
  · simp only [List.cons.injEq, and_true] at hcs
    subst hcs
    simp only [if_true] at hmm
    subst hmm
    rw [hC] at hi
    have hall : ∀ i, i < len → ∃ x : α, ok x ∧ ∀ j, j < k → W.cell? ((a.add (i * k)).add j) = (en x)[j]? := by
      intro i hil
      obtain ⟨cs', hc, htr⟩ := hi i (by omega)
      obtain ⟨_, hcl, hat⟩ := World.cells?_some hc
      have hlt : Light P e (D i) := light_elem ht (by rw [hx] at hs; exact hs) (List.mem_map.2 ⟨i, List.mem_range.2 hil, rfl⟩)
      obtain ⟨x, hx1, hx2⟩ := hdec _ _ _ htr hlt
      exact ⟨x, hx2, fun j hj => by rw [hx1]; exact hat j hj⟩
    obtain ⟨f, hf⟩ : ∃ f : Nat → Option α, ∀ i, i < len → ∃ x, f i = some x ∧ ok x ∧ ∀ j, j < k → W.cell? ((a.add (i * k)).add j) = (en x)[j]? := by
      classical
      exact ⟨fun i => if h : i < len then some (Classical.choose (hall i h)) else none, fun i hil => ⟨_, by simp only [hil, dif_pos], (Classical.choose_spec (hall i hil)).1, (Classical.choose_spec (hall i hil)).2⟩⟩
    have hxs := list_of f len (fun i hil => by obtain ⟨x, h, _⟩ := hf i hil; exact ⟨x, h⟩)
    obtain ⟨xs, hxl, hxf⟩ := hxs
    have hat : ∀ i (hi : i < xs.length), ok xs[i] ∧ ∀ j, j < k → W.cell? ((a.add (i * k)).add j) = (en xs[i])[j]? := by
      intro i hi
      obtain ⟨x, h1, h2, h3⟩ := hf i (by omega)
      have : xs[i] = x := by have := hxf i hi; rw [h1] at this; exact (Option.some.inj this).symm
      rw [this]; exact ⟨h2, h3⟩
    refine ⟨some a, m, xs, by rw [hxl], by omega, ⟨flat_len en k hlen xs, fun hn => ?_⟩, fun x hx => ?_⟩
    · have h0 := (hat 0 hn).2 0 hk
      have hne : (en xs[0])[0]? = some ((en xs[0])[0]'(by rw [hlen]; exact hk)) := List.getElem?_eq_getElem _
      rw [hne] at h0
      have hb : a.block < W.heap.size := by
        have := cell_lt h0
        simpa [Addr.add] using this
      have hsp : a.spot = none := by
        cases hs : a.spot with
        | none => rfl
        | some s =>
          exfalso
          simp only [Addr.add, Nat.zero_mul, if_pos, World.cell?, hs] at h0
          revert h0
          split <;> simp
      have hadd : ∀ q r : Nat, (a.add q).add r = ⟨a.block, a.off + (q + r), none⟩ := by
        intro q r
        unfold Addr.add
        by_cases h1 : q = 0
        · subst h1
          by_cases h2 : r = 0
          · subst h2; cases a; simp_all
          · simp [h2]
        · by_cases h2 : r = 0
          · subst h2; simp [h1]
          · simp [h1, h2, Nat.add_assoc]
      refine ⟨a, rfl, hb, hsp, fun j hj => ?_⟩
      have hq : j / k < xs.length := by rw [Nat.div_lt_iff_lt_mul hk]; exact hj
      have hm : j % k < k := Nat.mod_lt _ hk
      have h1 := (hat (j / k) hq).2 (j % k) hm
      have hdm : j / k * k + j % k = j := by rw [Nat.mul_comm]; exact Nat.div_add_mod j k
      rw [hadd, hdm] at h1
      rw [h1, ← flat_at en k hlen xs (j / k) (j % k) hq hm, hdm]
    · obtain ⟨i, hi, e⟩ := List.mem_iff_getElem.1 hx
      rw [← e]; exact (hat i hi).1
end

/-- Of a length that any machine has. -/
def okS47 (s : Str) : Prop := s.length ≤ 140737488351232
section
variable {H : Type} {enc : TypeId × Value → H} {W : World}
theorem open_str {n : Nat} {cs : List Value} {y : DataW H × List MemPlace} (h : DataW.trod enc Tryz.prog W 0 (fun _ => true) true n 9 cs = some y) (hs : Light Tryz.prog 9 y.1) : ∃ s : Str, cs = [sv s] ∧ okS47 s := by
  obtain ⟨s, h1, h2, _⟩ := DataW.trod_string Tryz.underlying9 h
  refine ⟨s.data.toList, by rw [h1], ?_⟩
  have h3 := hs s.data.toList.length (by rw [h2, DataW.weights]; simp)
  exact h3
theorem svs_flat (xs : List Str) : svs xs = xs.flatMap (fun s => [sv s]) := by
  induction xs with
  | nil => rfl
  | cons x xs ih => simp only [svs, List.map_cons, List.flatMap_cons, List.singleton_append] at ih ⊢; rw [ih]
theorem open_rd_strs {fuel : Nat} {v : Value} {y : DataW H × List MemPlace} (h : DataW.trod enc Tryz.prog W 0 (fun _ => true) true fuel 37 [v] = some y) (hs : Light Tryz.prog 37 y.1) :
    ∃ (A : Option Addr) (c : Nat) (ss : List Str), v = .slice A ss.length c ∧ ss.length ≤ c ∧ Rd W W.heap.size 1 A ss.length (svs ss) ∧ ∀ s ∈ ss, okS47 s := by
  obtain ⟨A, c, xs, h1, h2, h3, h4⟩ := open_rd_rows (fun s : Str => [sv s]) 1 okS47 Tryz.underlying37 (by kernel_rfl) (by omega) (fun _ => rfl) (fun n cs y hy hl => by
    obtain ⟨s, h1, h2⟩ := open_str hy hl
    exact ⟨s, h1.symm, h2⟩) h hs
  exact ⟨A, c, xs, h1, h2, by rw [svs_flat]; exact h3, h4⟩
theorem take1 {cs : List Value} {j : Nat} (h : j < cs.length) : (cs.drop j).take 1 = [cs[j]] := by
  rw [List.drop_eq_getElem_cons h]; rfl
theorem cs3 {cs : List Value} (h : cs.length = 3) : cs = [cs[0], cs[1], cs[2]] := by
  match cs, h with
  | [a, b, c], _ => rfl
set_option maxRecDepth 100000 in
/-- The three fields of a row. -/
theorem fields3 {t : TypeId} {f0 f1 f2 : Field} {n : Nat} {cs : List Value} {y : DataW H × List MemPlace} (hu : Tryz.prog.underlying t = some (.struct #[f0, f1, f2])) (hone : oneCellFields Tryz.prog #[f0, f1, f2] = true) (hC : Tryz.prog.cellsOf t = 3) (h : DataW.trod enc Tryz.prog W 0 (fun _ => true) true n t cs = some y) (hs : Light Tryz.prog t y.1) :
    ∃ (c0 c1 c2 : Value) (y0 y1 y2 : DataW H × List MemPlace) (m : Nat), cs = [c0, c1, c2] ∧ DataW.trod enc Tryz.prog W 0 (fun _ => true) true m f0.type [c0] = some y0 ∧ DataW.trod enc Tryz.prog W 0 (fun _ => true) true m f1.type [c1] = some y1 ∧ DataW.trod enc Tryz.prog W 0 (fun _ => true) true m f2.type [c2] = some y2 ∧
      Light Tryz.prog f0.type y0.1 ∧ Light Tryz.prog f1.type y1.1 ∧ Light Tryz.prog f2.type y2.1 := by
  obtain ⟨xs, m, _, rfl, hl, hxl, hf⟩ := DataW.trod_struct hu h
  have hl3 : cs.length = 3 := hl.trans hC
  have hx3 : xs.length = 3 := hxl
  obtain ⟨o0, k0⟩ := hone_of hone 0 f0 rfl
  obtain ⟨o1, k1⟩ := hone_of hone 1 f1 rfl
  obtain ⟨o2, k2⟩ := hone_of hone 2 f2 rfl
  match xs, hx3, cs, hl3 with
  | [x0, x1, x2], _, [c0, c1, c2], _ =>
    exact ⟨c0, c1, c2, x0, x1, x2, m, rfl, by simpa [o0, k0] using hf 0 f0 rfl, by simpa [o1, k1] using hf 1 f1 rfl, by simpa [o2, k2] using hf 2 f2 rfl,
      light_part (j := 0) (d := x0.1) hu hs rfl rfl, light_part (j := 1) (d := x1.1) hu hs rfl rfl, light_part (j := 2) (d := x2.1) hu hs rfl rfl⟩
set_option maxRecDepth 100000 in
theorem open_ed {n : Nat} {cs : List Value} {y : DataW H × List MemPlace} (h : DataW.trod enc Tryz.prog W 0 (fun _ => true) true n 77 cs = some y) (hs : Light Tryz.prog 77 y.1) : ∃ e : Ed, edC e = cs ∧ okS47 e.1 ∧ okS47 e.2.1 := by
  obtain ⟨c0, c1, c2, y0, y1, y2, m, rfl, h0, h1, h2, l0, l1, _⟩ := fields3 Tryz.underlying77 (by kernel_rfl) (by kernel_rfl) h hs
  obtain ⟨s, e0, k0⟩ := open_str h0 l0
  obtain ⟨d, e1, k1⟩ := open_str h1 l1
  obtain ⟨r, e2, _⟩ := DataW.trod_int Tryz.underlying3 h2
  simp only [List.cons.injEq, and_true] at e0 e1 e2
  subst e0 e1 e2
  exact ⟨(s, d, r), rfl, k0, k1⟩
set_option maxRecDepth 100000 in
theorem open_nd {n : Nat} {cs : List Value} {y : DataW H × List MemPlace} (h : DataW.trod enc Tryz.prog W 0 (fun _ => true) true n 84 cs = some y) (hs : Light Tryz.prog 84 y.1) : ∃ e : Nd, ndC e = cs ∧ okS47 e.1 := by
  obtain ⟨c0, c1, c2, y0, y1, y2, m, rfl, h0, h1, h2, l0, _, _⟩ := fields3 Tryz.underlying84 (by kernel_rfl) (by kernel_rfl) h hs
  obtain ⟨s, e0, k0⟩ := open_str h0 l0
  obtain ⟨d, e1, _⟩ := DataW.trod_int Tryz.underlying3 h1
  obtain ⟨r, e2, _⟩ := DataW.trod_int Tryz.underlying3 h2
  simp only [List.cons.injEq, and_true] at e0 e1 e2
  subst e0 e1 e2
  exact ⟨(s, d, r), rfl, k0⟩
/-- A graph that came in. -/
def GraphIn (W : World) (v : Value) (ns : List Nd) (es : List Ed) : Prop := ∃ An cn Ae ce, v = .agg #[.slice An ns.length cn, .slice Ae es.length ce] ∧ ns.length ≤ cn ∧ es.length ≤ ce ∧ Rd W W.heap.size 3 An ns.length (ndsC ns) ∧ Rd W W.heap.size 3 Ae es.length (edsC es)
set_option maxRecDepth 100000 in
theorem open_graph {r : Reach} {b0 : Nat} {v : Value} {d : DataW H} {p : List MemPlace} (hv : Value.okWide Tryz.prog W r b0 25 v) (h : DataW.Trod enc Tryz.prog W 0 (fun _ => true) true 25 v d p) (hs : Light Tryz.prog 25 d) :
    ∃ ns es, GraphIn W v ns es ∧ (∀ n ∈ ns, okS47 n.1) ∧ ∀ e ∈ es, okS47 e.1 ∧ okS47 e.2.1 := by
  have hu := Tryz.underlying25
  obtain ⟨v0, v1, y0, y1, n, rfl, rfl, rfl, h0, h1⟩ := Joins.open_agg2 hu (by kernel_rfl) (by kernel_rfl) hv h
  have l0 := light_part (j := 0) (d := y0.1) hu hs rfl rfl
  have l1 := light_part (j := 1) (d := y1.1) hu hs rfl rfl
  obtain ⟨An, cn, ns, rfl, hc0, hr0, k0⟩ := open_rd_rows ndC 3 (fun n => okS47 n.1) Tryz.underlying22 (by kernel_rfl) (by omega) ndC_len (fun n cs y hy hl => open_nd hy hl) h0 l0
  obtain ⟨Ae, ce, es, rfl, hc1, hr1, k1⟩ := open_rd_rows edC 3 (fun e => okS47 e.1 ∧ okS47 e.2.1) Tryz.underlying23 (by kernel_rfl) (by omega) edC_len (fun n cs y hy hl => open_ed hy hl) h1 l1
  exact ⟨ns, es, ⟨An, cn, Ae, ce, rfl, hc0, hc1, hr0, hr1⟩, k0, k1⟩
end
end Go.Proofs.YtanfnejbnmenkaaGreat
end

section
/- The length of a graph's nodes, an argument. -/
namespace Go.Proofs.YtanfnejbnmenkaaGreat
open Go.ChangeShapes Go.WideShapes Go.ChangeAt Go.RowKit Go.Deep

section
variable {H : Type} {enc : TypeId × Value → H} {P : Program}
theorem open_rd_len {W : World} {t e : TypeId} {fuel : Nat} {A : Option Addr} {len c : Nat} {y : DataW H × List MemPlace} (ht : P.underlying t = some (.slice e)) (hB : 0 < P.bytesOf e)
    (h : DataW.trod enc P W 0 (fun _ => true) true fuel t [.slice A len c] = some y) (hs : Light P t y.1) : len ≤ reachBytes := by
  rcases open_slice ht h with ⟨hcs, _⟩ | ⟨a, len', cap, m, n, D, Pl, hcs, _, hl, hm, hmm, hx, hi⟩
  · simp only [List.cons.injEq, and_true, Value.slice.injEq] at hcs
    omega
  · simp only [List.cons.injEq, and_true, Value.slice.injEq] at hcs
    obtain ⟨_, rfl, _⟩ := hcs
    have h1 := hs _ (by rw [hx, DataW.weights, ht]; exact List.mem_cons_self)
    simp only [List.length_map, List.length_range] at h1
    refine Nat.le_trans ?_ h1
    exact Nat.le_trans (Nat.le_add_right _ _) (Nat.le_mul_of_pos_right _ hB)
end
section
variable {H : Type} {enc : TypeId × Value → H} {W : World}
set_option maxRecDepth 100000 in
theorem graph_len {r : Reach} {b0 : Nat} {v : Value} {d : DataW H} {p : List MemPlace} {An Ae : Option Addr} {n cn m ce : Nat} (hv : Value.okWide Tryz.prog W r b0 25 v) (h : DataW.Trod enc Tryz.prog W 0 (fun _ => true) true 25 v d p) (hs : Light Tryz.prog 25 d)
    (he : v = .agg #[.slice An n cn, .slice Ae m ce]) : n ≤ reachBytes ∧ m ≤ reachBytes := by
  have hu := Tryz.underlying25
  obtain ⟨v0, v1, y0, y1, k, hvv, rfl, rfl, h0, h1⟩ := Joins.open_agg2 hu (by kernel_rfl) (by kernel_rfl) hv h
  have l0 := light_part (j := 0) (d := y0.1) hu hs rfl rfl
  have l1 := light_part (j := 1) (d := y1.1) hu hs rfl rfl
  rw [he] at hvv
  simp only [Value.agg.injEq, Array.mk.injEq, List.cons.injEq, and_true] at hvv
  obtain ⟨rfl, rfl⟩ := hvv
  exact ⟨open_rd_len Tryz.underlying22 (by decide +kernel) h0 l0, open_rd_len Tryz.underlying23 (by decide +kernel) h1 l1⟩
end
end Go.Proofs.YtanfnejbnmenkaaGreat
end

section
/- A law's arguments opened for its walk: jobs, a graph, texts, two numbers. -/
namespace Go.Proofs.YtanfnejbnmenkaaGreat
open Go.ChangeShapes Go.WideShapes Go.ChangeAt Go.RowKit Go.Deep

section
variable {H : Type} {enc : TypeId × Value → H} {W : World}
set_option maxRecDepth 100000 in
/-- The four fields of a row. -/
theorem fields4 {t : TypeId} {f0 f1 f2 f3 : Field} {n : Nat} {cs : List Value} {y : DataW H × List MemPlace} (hu : Tryz.prog.underlying t = some (.struct #[f0, f1, f2, f3])) (hone : oneCellFields Tryz.prog #[f0, f1, f2, f3] = true) (hC : Tryz.prog.cellsOf t = 4) (h : DataW.trod enc Tryz.prog W 0 (fun _ => true) true n t cs = some y) (hs : Light Tryz.prog t y.1) :
    ∃ (c0 c1 c2 c3 : Value) (y0 y1 y2 y3 : DataW H × List MemPlace) (m : Nat), cs = [c0, c1, c2, c3] ∧ DataW.trod enc Tryz.prog W 0 (fun _ => true) true m f0.type [c0] = some y0 ∧ DataW.trod enc Tryz.prog W 0 (fun _ => true) true m f1.type [c1] = some y1 ∧ DataW.trod enc Tryz.prog W 0 (fun _ => true) true m f2.type [c2] = some y2 ∧ DataW.trod enc Tryz.prog W 0 (fun _ => true) true m f3.type [c3] = some y3 ∧
      Light Tryz.prog f0.type y0.1 ∧ Light Tryz.prog f1.type y1.1 ∧ Light Tryz.prog f2.type y2.1 ∧ Light Tryz.prog f3.type y3.1 := by
  obtain ⟨xs, m, _, rfl, hl, hxl, hf⟩ := DataW.trod_struct hu h
  have hl4 : cs.length = 4 := hl.trans hC
  have hx4 : xs.length = 4 := hxl
  obtain ⟨o0, k0⟩ := hone_of hone 0 f0 rfl
  obtain ⟨o1, k1⟩ := hone_of hone 1 f1 rfl
  obtain ⟨o2, k2⟩ := hone_of hone 2 f2 rfl
  obtain ⟨o3, k3⟩ := hone_of hone 3 f3 rfl
  match xs, hx4, cs, hl4 with
  | [x0, x1, x2, x3], _, [c0, c1, c2, c3], _ =>
    exact ⟨c0, c1, c2, c3, x0, x1, x2, x3, m, rfl, by simpa [o0, k0] using hf 0 f0 rfl, by simpa [o1, k1] using hf 1 f1 rfl, by simpa [o2, k2] using hf 2 f2 rfl, by simpa [o3, k3] using hf 3 f3 rfl,
      light_part (j := 0) (d := x0.1) hu hs rfl rfl, light_part (j := 1) (d := x1.1) hu hs rfl rfl, light_part (j := 2) (d := x2.1) hu hs rfl rfl, light_part (j := 3) (d := x3.1) hu hs rfl rfl⟩
set_option maxRecDepth 100000 in
theorem open_jb {n : Nat} {cs : List Value} {y : DataW H × List MemPlace} (h : DataW.trod enc Tryz.prog W 0 (fun _ => true) true n 50 cs = some y) (hs : Light Tryz.prog 50 y.1) : ∃ e : Jb, jbC e = cs ∧ okS47 e.1 := by
  obtain ⟨c0, c1, c2, c3, y0, y1, y2, y3, m, rfl, h0, h1, h2, h3, l0, _, _, _⟩ := fields4 Tryz.underlying50 (by kernel_rfl) (by kernel_rfl) h hs
  obtain ⟨s, e0, k0⟩ := open_str h0 l0
  obtain ⟨t, e1, _⟩ := DataW.trod_int Tryz.underlying3 h1
  obtain ⟨r, e2, _⟩ := DataW.trod_int Tryz.underlying3 h2
  obtain ⟨d, e3, _⟩ := DataW.trod_int Tryz.underlying3 h3
  simp only [List.cons.injEq, and_true] at e0 e1 e2 e3
  subst e0 e1 e2 e3
  exact ⟨(s, t, r, d), rfl, k0⟩
set_option maxRecDepth 100000 in
theorem open_jobs {r : Reach} {b0 : Nat} {v : Value} {d : DataW H} {p : List MemPlace} (hv : Value.okWide Tryz.prog W r b0 26 v) (h : DataW.Trod enc Tryz.prog W 0 (fun _ => true) true 26 v d p) (hs : Light Tryz.prog 26 d) :
    ∃ (A : Option Addr) (c : Nat) (q : List Jb), v = .slice A q.length c ∧ Od.QIn W A c q ∧ q.length ≤ 140737488351232 := by
  obtain ⟨a, l, c, rfl⟩ := okWide_slice Tryz.underlying26 hv
  obtain ⟨fuel, hf⟩ := h
  have hlen := open_rd_len Tryz.underlying26 (by decide +kernel) hf hs
  obtain ⟨A, c', q, hv', hc, hr, hk⟩ := open_rd_rows jbC 4 (fun e => okS47 e.1) Tryz.underlying26 (by kernel_rfl) (by omega) jbC_len (fun n cs y hy hl => open_jb hy hl) hf hs
  obtain ⟨rfl, rfl, rfl⟩ : a = A ∧ l = q.length ∧ c = c' := by injection hv' with h1 h2 h3; exact ⟨h1, h2, h3⟩
  exact ⟨a, c, q, rfl, ⟨hr, fun j hj => by have := hk j hj; unfold okS47 at this; omega, hc⟩, Nat.le_trans hlen (by decide)⟩
set_option maxRecDepth 100000 in
theorem open_strs {r : Reach} {b0 : Nat} {v : Value} {d : DataW H} {p : List MemPlace} (hv : Value.okWide Tryz.prog W r b0 37 v) (h : DataW.Trod enc Tryz.prog W 0 (fun _ => true) true 37 v d p) (hs : Light Tryz.prog 37 d) :
    ∃ (A : Option Addr) (c : Nat) (ss : List Str), v = .slice A ss.length c ∧ ss.length ≤ c ∧ Rd W W.heap.size 1 A ss.length (svs ss) ∧ (∀ s ∈ ss, okS47 s) ∧ ss.length ≤ 140737488351232 := by
  obtain ⟨a, l, c, rfl⟩ := okWide_slice Tryz.underlying37 hv
  obtain ⟨fuel, hf⟩ := h
  have hlen := open_rd_len Tryz.underlying37 (by decide +kernel) hf hs
  obtain ⟨A, c', ss, hv', hc, hr, hk⟩ := open_rd_strs hf hs
  obtain ⟨rfl, rfl, rfl⟩ : a = A ∧ l = ss.length ∧ c = c' := by injection hv' with h1 h2 h3; exact ⟨h1, h2, h3⟩
  exact ⟨a, c, ss, rfl, hc, hr, hk, Nat.le_trans hlen (by decide)⟩
set_option maxRecDepth 100000 in
theorem open_str_arg {r : Reach} {b0 : Nat} {v : Value} {d : DataW H} {p : List MemPlace} (hv : Value.okWide Tryz.prog W r b0 9 v) (h : DataW.Trod enc Tryz.prog W 0 (fun _ => true) true 9 v d p) (hs : Light Tryz.prog 9 d) : ∃ s : Str, v = sv s ∧ okS47 s := by
  obtain ⟨s, rfl⟩ := okWide_string Tryz.underlying9 hv
  obtain ⟨fuel, hf⟩ := h
  obtain ⟨s', h1, h2⟩ := open_str (cs := [.string s]) hf hs
  simp only [List.cons.injEq, and_true] at h1
  exact ⟨s', h1, h2⟩
set_option maxRecDepth 100000 in
/-- A graph that came in. -/
theorem open_gi {r : Reach} {b0 : Nat} {v : Value} {d : DataW H} {p : List MemPlace} (hv : Value.okWide Tryz.prog W r b0 25 v) (h : DataW.Trod enc Tryz.prog W 0 (fun _ => true) true 25 v d p) (hs : Light Tryz.prog 25 d) :
    ∃ (An Ae : Option Addr) (cn ce : Nat) (ns : List Nd) (es : List Ed), v = Od.gV An ns.length cn Ae es.length ce ∧ Od.GIw W An Ae ns es := by
  obtain ⟨ns, es, ⟨An, cn, Ae, ce, rfl, hcn, hce, hrn, hre⟩, kn, ke⟩ := open_graph hv h hs
  obtain ⟨h1, h2⟩ := graph_len hv h hs rfl
  exact ⟨An, Ae, cn, ce, ns, es, rfl, hrn, hre, fun n hn => by have := kn n hn; unfold okS47 at this; omega, fun e he => ⟨Od.okS_of (ke e he).1, Od.okS_of (ke e he).2⟩⟩
theorem okWide_arr {P : Program} {w : World} {r : Reach} {b0 n : Nat} {t e : TypeId} {v : Value} (ht : P.underlying t = some (.array n e)) (h : Value.okWide P w r b0 t v) : ∃ cs, v = .agg cs ∧ cs.size = P.cellsOf t := by
  simp only [Value.okWide, ht] at h
  obtain ⟨cs, h1, h2, _⟩ := h
  exact ⟨cs, h1, h2⟩
set_option maxRecDepth 100000 in
/-- Two numbers that came in. -/
theorem open_arr2 {r : Reach} {b0 : Nat} {v : Value} {d : DataW H} {p : List MemPlace} (hv : Value.okWide Tryz.prog W r b0 54 v) (h : DataW.Trod enc Tryz.prog W 0 (fun _ => true) true 54 v d p) : ∃ x y : Int, v = .agg #[.int .i64 x, .int .i64 y] := by
  have hu := Tryz.underlying54
  obtain ⟨cs, rfl, hsz⟩ := okWide_arr hu hv
  have h2 : cs.size = 2 := hsz.trans (by kernel_rfl)
  obtain ⟨fuel, hf⟩ := h
  obtain ⟨xs, m, _, _, _, hxl, hi⟩ := DataW.trod_array hu hf
  obtain ⟨cs⟩ := cs
  have h3 : Tryz.prog.cellsOf 3 = 1 := by kernel_rfl
  match xs, hxl, cs, h2 with
  | [x0, x1], _, [c0, c1], _ =>
    have a0 := hi 0 (by omega)
    have a1 := hi 1 (by omega)
    simp only [h3, Value.cells, Nat.zero_mul, List.drop_zero, List.take_succ_cons, List.take_zero, Nat.one_mul, List.drop_succ_cons, List.getElem?_cons_zero, List.getElem?_cons_succ] at a0 a1
    obtain ⟨x, e0, _⟩ := DataW.trod_int Tryz.underlying3 a0
    obtain ⟨y, e1, _⟩ := DataW.trod_int Tryz.underlying3 a1
    simp only [List.cons.injEq, and_true] at e0 e1
    exact ⟨x, y, by rw [e0, e1]⟩
end
end Go.Proofs.YtanfnejbnmenkaaGreat
end
