/- My texts, joined for the claim: QMeet SortJob QSortJ QTogW. -/
import Derived.Test.YtanfnejbnmenkaaGreatZB13
import Derived.Test.YtanfnejbnmenkaaGreatZB0
import Derived.Shelf.SlSortCmp.NoneTotal
import Derived.Ground.SlsfProg
import Derived.Test.YtanfnejbnmenkaaGreatProg
import Derived.Test.YtanfnejbnmenkaaGreatZB11
import Derived.Test.YtanfnejbnmenkaaGreatZB9

section
/- The walk of queue.meet. (bel2) -/
namespace Go.Proofs.YtanfnejbnmenkaaGreat
open Go.RowKit Go.Sort
set_option linter.unusedSimpArgs false

namespace Od
set_option maxRecDepth 100000 in
set_option maxHeartbeats 4000000 in
theorem meet_any (s : Str) (t r d : Int) (s2 : Str) (t2 r2 d2 : Int) (w : World) :
    Calls Tryz.prog 90 #[.agg #[sv s, .int .i64 t, .int .i64 r, .int .i64 d], .agg #[sv s2, .int .i64 t2, .int .i64 r2, .int .i64 d2]] w fun e w' => e = .returned (.tuple #[jbV (meetQ (s, t, r, d) (s2, t2, r2, d2)).1, .bool (meetQ (s, t, r, d) (s2, t2, r2, d2)).2]) ∧ Below w.heap.size w w' := by
  obtain ⟨nt, fit, hj⟩ : ∃ nt fit, Pr.jn t t2 false = (nt, fit) := ⟨_, _, rfl⟩
  have hm : meetQ (s, t, r, d) (s2, t2, r2, d2) = if (!fit || (r == 2 && nt != t)) = true then ((s2, t2, r2, d2), true) else if r = 1 then ((s, nt, r, d), false) else ((s, t, r, d), false) := by
    simp only [meetQ, hj]
  have HJ := Lib.hid hj
  clear hj
  go_enter Tryz.func90, Tryz.ntmps90
  go_wp2_with fail
  refine (Pr.join_any t t2 false _).mono ?_
  rintro e v3 ⟨rfl, rfl⟩
  rw [HJ.out]
  simp only
  cases fit
  · have HM := Lib.hid (hm.trans (if_pos (by simp)))
    clear hm
    go_wp2_with fail
    refine bodyPost_ret (v := .tuple #[(jbV (s2, t2, r2, d2)), .bool true]) (by simp only [results, Tryz.results90]; go_simp; try rfl) rfl ⟨by rw [HM.out], (by repeat (first | exact Below.refl _ _ | assumption | refine Below.alloc ?_ (by first | omega | (simp <;> omega)) _ | refine Below.setCell ?_ (by first | omega | (simp <;> omega)) _ | refine Below.drew ?_))⟩
  · by_cases h2 : r = 2
    · subst h2
      by_cases hn : nt = t
      · subst hn
        have HM := Lib.hid ((hm.trans (if_neg (by simp))).trans (if_neg (by decide)))
        clear hm
        go_wp2_with fail
        refine bodyPost_ret (v := .tuple #[(jbV (s, nt, 2, d)), .bool false]) (by simp only [results, Tryz.results90]; go_simp; try rfl) rfl ⟨by rw [HM.out], (by repeat (first | exact Below.refl _ _ | assumption | refine Below.alloc ?_ (by first | omega | (simp <;> omega)) _ | refine Below.setCell ?_ (by first | omega | (simp <;> omega)) _ | refine Below.drew ?_))⟩
      · have hnb : (nt == t) = false := by simpa using hn
        have HM := Lib.hid (hm.trans (if_pos (by simp [hn])))
        clear hm
        go_wp2_with fail
        refine bodyPost_ret (v := .tuple #[(jbV (s2, t2, r2, d2)), .bool true]) (by simp only [results, Tryz.results90]; go_simp; try rfl) rfl ⟨by rw [HM.out], (by repeat (first | exact Below.refl _ _ | assumption | refine Below.alloc ?_ (by first | omega | (simp <;> omega)) _ | refine Below.setCell ?_ (by first | omega | (simp <;> omega)) _ | refine Below.drew ?_))⟩
    · have h2b : (r == 2) = false := by simpa using h2
      by_cases h1 : r = 1
      · subst h1
        have HM := Lib.hid ((hm.trans (if_neg (by simp))).trans (if_pos rfl))
        clear hm
        go_wp2_with fail
        refine bodyPost_ret (v := .tuple #[(jbV (s, nt, 1, d)), .bool false]) (by simp only [results, Tryz.results90]; go_simp; try rfl) rfl ⟨by rw [HM.out], (by repeat (first | exact Below.refl _ _ | assumption | refine Below.alloc ?_ (by first | omega | (simp <;> omega)) _ | refine Below.setCell ?_ (by first | omega | (simp <;> omega)) _ | refine Below.drew ?_))⟩
      · have h1b : (r == 1) = false := by simpa using h1
        have HM := Lib.hid ((hm.trans (if_neg (by simp [h2]))).trans (if_neg h1))
        clear hm
        go_wp2_with fail
        refine bodyPost_ret (v := .tuple #[(jbV (s, t, r, d)), .bool false]) (by simp only [results, Tryz.results90]; go_simp; try rfl) rfl ⟨by rw [HM.out], (by repeat (first | exact Below.refl _ _ | assumption | refine Below.alloc ?_ (by first | omega | (simp <;> omega)) _ | refine Below.setCell ?_ (by first | omega | (simp <;> omega)) _ | refine Below.drew ?_))⟩
end Od
end Go.Proofs.YtanfnejbnmenkaaGreat
end

section
/-
  DERIVED: THE SHELF's CONTRACTS AT THIS DUMP, IN PLAIN WORDS (tools/lay-plain.mjs out of 'TryzSortJob.lean', which tools/lay-shelf.mjs wrote): THE SAME DECLARATIONS UNDER THE SAME NAMES: 'import', 'namespace', 'open', 'def', 'theorem' AND NOTHING ELSE: no command of the shelf's: FOR A HAND-IN. Each laying: the table of numbers ('.._ren') and one theorem, a field a fact of the dump's own or the kernel's comparison; each contract: ONE APPLICATION.
-/
namespace Go.Proofs.YtanfnejbnmenkaaGreat
open Go.Shelf
def Tryz.sortJob_ren : Go.Shelf.Ren := ⟨fun | 6 => 91 | 15 => 113 | 14 => 112 | 28 => 137 | 29 => 138 | 20 => 129 | 21 => 130 | 22 => 131 | 23 => 132 | 24 => 133 | 25 => 134 | 26 => 135 | 27 => 136 | 46 => 149 | 47 => 150 | 48 => 151 | 49 => 152 | 50 => 153 | 57 => 169 | n => n, fun | 22 => 26 | 24 => 50 | 25 => 115 | 3 => 3 | 39 => 133 | 0 => 0 | 53 => 154 | 55 => 156 | 4 => 4 | 46 => 148 | 45 => 147 | 50 => 73 | 5 => 5 | 9 => 9 | 66 => 162 | 70 => 166 | 76 => 176 | 77 => 177 | n => n, fun | n => n⟩
theorem Tryz.sortJob : Go.Proofs.SlLaysF0.n6 Tryz.prog Tryz.sortJob_ren := {
  mixed := by kernel_rfl
  f6 := ⟨Tryz.f91.name, by decide, Tryz.func91.trans (congrArg some (by kernel_rfl))⟩
  f14 := ⟨Tryz.f112.name, by decide, Tryz.func112.trans (congrArg some (by kernel_rfl))⟩
  f15 := Tryz.func113.trans (congrArg some (by kernel_rfl))
  f20 := ⟨Tryz.f129.name, by decide, Tryz.func129.trans (congrArg some (by kernel_rfl))⟩
  f21 := ⟨Tryz.f130.name, by decide, Tryz.func130.trans (congrArg some (by kernel_rfl))⟩
  f22 := ⟨Tryz.f131.name, by decide, Tryz.func131.trans (congrArg some (by kernel_rfl))⟩
  f23 := ⟨Tryz.f132.name, by decide, Tryz.func132.trans (congrArg some (by kernel_rfl))⟩
  f24 := ⟨Tryz.f133.name, by decide, Tryz.func133.trans (congrArg some (by kernel_rfl))⟩
  f25 := ⟨Tryz.f134.name, by decide, Tryz.func134.trans (congrArg some (by kernel_rfl))⟩
  f26 := ⟨Tryz.f135.name, by decide, Tryz.func135.trans (congrArg some (by kernel_rfl))⟩
  f27 := ⟨Tryz.f136.name, by decide, Tryz.func136.trans (congrArg some (by kernel_rfl))⟩
  f28 := Tryz.func137.trans (congrArg some (by kernel_rfl))
  f29 := Tryz.func138.trans (congrArg some (by kernel_rfl))
  f46 := ⟨Tryz.f149.name, by decide, Tryz.func149.trans (congrArg some (by kernel_rfl))⟩
  f47 := Tryz.func150.trans (congrArg some (by kernel_rfl))
  f48 := Tryz.func151.trans (congrArg some (by kernel_rfl))
  f49 := ⟨Tryz.f152.name, by decide, Tryz.func152.trans (congrArg some (by kernel_rfl))⟩
  f50 := ⟨Tryz.f153.name, by decide, Tryz.func153.trans (congrArg some (by kernel_rfl))⟩
  f57 := ⟨Tryz.f169.name, by decide, Tryz.func169.trans (congrArg some (by kernel_rfl))⟩
  t0 := Tryz.underlying0
  a0 := Tryz.isAgg0
  z0 := Tryz.sizeOf0
  v0 := Tryz.zeroValue0
  t3 := Tryz.underlying3
  a3 := Tryz.isAgg3
  z3 := Tryz.sizeOf3
  v3 := Tryz.zeroValue3
  t4 := Tryz.underlying4
  a4 := Tryz.isAgg4
  z4 := Tryz.sizeOf4
  v4 := Tryz.zeroValue4
  t5 := Tryz.underlying5
  a5 := Tryz.isAgg5
  z5 := Tryz.sizeOf5
  v5 := Tryz.zeroValue5
  t9 := Tryz.underlying9
  a9 := Tryz.isAgg9
  z9 := Tryz.sizeOf9
  v9 := Tryz.zeroValue9
  t22 := Tryz.underlying26
  a22 := Tryz.isAgg26
  z22 := Tryz.sizeOf26
  v22 := Tryz.zeroValue26
  t25 := Tryz.underlying115
  a25 := Tryz.isAgg115
  z25 := Tryz.sizeOf115
  v25 := Tryz.zeroValue115
  t39 := Tryz.underlying133
  a39 := Tryz.isAgg133
  z39 := Tryz.sizeOf133
  v39 := Tryz.zeroValue133
  t45 := Tryz.underlying147
  a45 := Tryz.isAgg147
  z45 := Tryz.sizeOf147
  v45 := Tryz.zeroValue147
  t46 := Tryz.underlying148
  a46 := Tryz.isAgg148
  z46 := Tryz.sizeOf148
  v46 := Tryz.zeroValue148
  t50 := Tryz.underlying73
  a50 := Tryz.isAgg73
  z50 := Tryz.sizeOf73
  v50 := Tryz.zeroValue73
  t53 := Tryz.underlying154
  a53 := Tryz.isAgg154
  z53 := Tryz.sizeOf154
  v53 := Tryz.zeroValue154
  t55 := Tryz.underlying156
  a55 := Tryz.isAgg156
  z55 := Tryz.sizeOf156
  v55 := Tryz.zeroValue156
  t66 := Tryz.underlying162
  a66 := Tryz.isAgg162
  z66 := Tryz.sizeOf162
  v66 := Tryz.zeroValue162
  t70 := Tryz.underlying166
  a70 := Tryz.isAgg166
  z70 := Tryz.sizeOf166
  v70 := Tryz.zeroValue166
  t76 := Tryz.underlying176
  a76 := Tryz.isAgg176
  z76 := Tryz.sizeOf176
  v76 := Tryz.zeroValue176
  t77 := Tryz.underlying177
  a77 := Tryz.isAgg177
  z77 := Tryz.sizeOf177
  v77 := Tryz.zeroValue177 }
end Go.Proofs.YtanfnejbnmenkaaGreat
end

section
/- slices.SortFunc at jobs of the call's own, by their units. (bel2) -/
namespace Go.Proofs.YtanfnejbnmenkaaGreat
open Go.RowKit Go.Sort Go.Lib Go.Shelf
set_option linter.unusedSimpArgs false

namespace Od
set_option maxRecDepth 100000 in
set_option maxHeartbeats 1000000 in
theorem tog1_any (a a' : Str) (t r d t' r' d' : Int) (w : World) :
    Calls Tryz.prog 92 #[jbV (a, t, r, d), jbV (a', t', r', d')] w (GrowInt (cmpS a a') w) := by
  go_enter Tryz.func92, Tryz.ntmps92
  go_wp2_with fail
  refine (CompareS_any a a' _).mono ?_
  rintro e w' ⟨rfl, rfl⟩
  go_wp2_with fail
  go_ret
  exact ⟨rfl, 0, _, by rw [alloc_eq_grow, alloc_eq_grow, grow_grow]; rfl⟩
theorem flatK_jbs (ps : List Jb) : flatK jbC 4 ps.toArray = (jbsC ps).toArray := by
  refine ext_get! (by simp [jbsC_len]) fun t ht => ?_
  have ht' : t < ps.length * 4 := by simpa using ht
  rw [get_flatK _ _ _ t (by simpa using ht')]
  have hi : t / 4 < ps.length := by omega
  have h := flat_at jbC 4 jbC_len ps (t / 4) (t % 4) hi (by omega)
  rw [show t / 4 * 4 + t % 4 = t by omega] at h
  have e1 : ps.toArray[t / 4]! = ps[t / 4] := by simp [hi]
  rw [e1]
  have e2 : (jbsC ps).toArray[t]! = ((jbsC ps)[t]?).getD default := by simp [List.getElem!_eq_getElem?_getD]
  rw [e2, show (jbsC ps)[t]? = (jbC ps[t / 4])[t % 4]? from h]
  simp [List.getElem!_eq_getElem?_getD]
theorem ltOf_job : ltOf jobCmp = fun p q : Jb => ltS p.1 q.1 := by
  funext p q
  unfold ltOf jobCmp
  rw [Bool.eq_iff_iff, decide_eq_true_eq]
  exact cmpS_lt
theorem swoJ : SWO (ltOf jobCmp) where
  irrefl x := by rw [ltOf_job]; exact toS.irrefl _
  trans x y z h1 h2 := by rw [ltOf_job] at *; exact toS.trans h1 h2
  ntrans x y z h1 h2 := by
    rw [ltOf_job] at *
    simp only [ltS_false] at *
    exact List.not_lt.2 (List.le_trans (List.not_lt.1 h2) (List.not_lt.1 h1))
set_option maxHeartbeats 1000000 in
theorem sortJ_own (base c : Nat) (A : Option Addr) (ps : List Jb) (w : World) (h : w.ownsRow base 50 4 (.slice A ps.length c) ps.length (jbsC ps)) (hsz : ps.length ≤ 1000000) (hd : DQ ps) :
    Calls Tryz.prog 91 #[.slice A ps.length c, .func (.func 92) #[] #[]] w fun e w' => e = .returned (.tuple #[]) ∧ w'.ownsRow base 50 4 (.slice A ps.length c) ps.length (jbsC (sortJ ps)) ∧ w.grownBy w' (Value.slice A ps.length c).ownBlock := by
  rcases h.2 with ⟨hv, hn⟩ | ⟨g, cap, cur, hv, hg, hb, h1, h2, h3, h4⟩
  · have hnil : ps = [] := List.length_eq_zero_iff.1 hn
    subst hnil
    refine (show Calls Tryz.prog 91 _ w _ from AnyF.slices_SortFunc_none Tryz.sortJob A c _ w).mono ?_
    rintro e w' ⟨rfl, rfl⟩
    exact ⟨rfl, by simpa [sortJ] using h, World.grownBy.refl _ _⟩
  · injection hv with e1 _ e3
    subst e1 e3
    have hgl : g < w.heap.size := (Array.getElem?_eq_some_iff.1 hb).1
    have hlen := jbsC_len ps
    have eg : ∀ args w, (callFunc 92 args).run Tryz.prog w = .ok (.enter 92 args) w := enters_of Tryz.func92 (by kernel_rfl) rfl
    have hH : HoldsK jbC 4 w g 0 ps.toArray := by
      unfold HoldsK
      rw [flatK_jbs]
      exact holds_row hb (by rw [hlen]; exact h4)
    have hcon := AnyQ.slices_SortFunc (P := Tryz.prog) Tryz.sortJob 4 (by intro w; exact Tryz.isAgg50 w) (by intro w; exact Tryz.sizeOf50 w) jbC jbC_len (fun x v hv => one_jbC x v hv) jobCmp swoJ 92 #[] g 0 c ps.toArray w eg
      (fun _ _ _ _ x y => tog1_any x.1 y.1 x.2.1 x.2.2.1 x.2.2.2 y.2.1 y.2.2.1 y.2.2.2 _) hH hgl (by simp; omega)
    change Calls Tryz.prog 91 _ _ _ at hcon
    simp only [List.size_toArray] at hcon
    refine hcon.mono ?_
    rintro e w' ⟨rfl, d', n, os, ⟨hs1, _, hs2⟩, hso, rfl⟩
    have hs1' : d'.size = ps.length := by simpa using hs1
    have hperm : d'.toList.Perm ps := by
      have a1 : d'.extract 0 ps.length = d' := by rw [← hs1']; exact Array.extract_size
      have a2 : (ps.toArray).extract 0 ps.length = ps.toArray := by
        simp
      rw [a1, a2] at hs2
      exact hs2
    have hdd : DQ d'.toList := hd.perm hperm.symm
    have hup : upQ d'.toList := by
      unfold upQ
      refine List.pairwise_iff_getElem.2 fun i j hi hj hij => ?_
      have hi' : i < d'.size := by simpa using hi
      have hj' : j < d'.size := by simpa using hj
      have h5 := hso i j (Nat.zero_le _) hij (by omega)
      rw [getElem!_pos d' j hj', getElem!_pos d' i hi', ltOf_job] at h5
      have h5' : ltS d'.toList[j].1 d'.toList[i].1 = false := h5
      have hp := List.pairwise_iff_getElem.1 (show (d'.toList.map (·.1)).Pairwise (· ≠ ·) from hdd) i j (by simpa using hi') (by simpa using hj') hij
      simp only [List.getElem_map] at hp
      cases h6 : ltS d'.toList[i].1 d'.toList[j].1
      · exact absurd (toS.total h6 h5') hp
      · rfl
    have hd' : d' = (sortJ ps).toArray := by
      have : d'.toList = sortJ ps := upQ_ext hup (sortJ_up hd) fun y => by rw [hperm.mem_iff, (sortJ_perm ps).mem_iff]
      rw [← this]
    rw [hd']
    unfold sortWorldK putRowK
    rw [flatK_jbs]
    have hl2 : (jbsC (sortJ ps)).length = ps.length * 4 := by rw [jbsC_len, (sortJ_perm ps).length_eq]
    refine ⟨rfl, ⟨hl2, .inr ⟨g, c, _, rfl, hg, heap_row _ hb, h1, h2, by simp [putCells, h3], ?_⟩⟩, grownBy_row _⟩
    rw [← hl2]
    exact take_putCellsI cur _ (by omega)
end Od
end Go.Proofs.YtanfnejbnmenkaaGreat
end

section
/- The walk of queue.together. (bel2) -/
namespace Go.Proofs.YtanfnejbnmenkaaGreat
open Go.RowKit Go.Sort
set_option linter.unusedSimpArgs false

namespace Od
theorem togT_succ {q jobs : List Jb} {m : Nat} (h : m < jobs.length) : togT q (jobs.take (m + 1)) = stepT (fun j l => l ++ [j]) (togT q (jobs.take m)) jobs[m] := by
  unfold togT
  rw [List.take_succ_eq_append_getElem h, List.foldl_append]
  rfl
theorem stepT_len (s : List Jb × List Nd) (j : Jb) : (stepT (fun j l => l ++ [j]) s j).1.length ≤ s.1.length + 1 ∧ (stepT (fun j l => l ++ [j]) s j).2.length ≤ s.2.length + 1 := by
  unfold stepT
  split
  · simp
  · split
    · simp only [updJ_len]
      refine ⟨by omega, ?_⟩
      split <;> simp
    · simp only [updJ_len]; omega
theorem togT_len (q jobs : List Jb) : ∀ m, m ≤ jobs.length → (togT q (jobs.take m)).1.length ≤ q.length + m ∧ (togT q (jobs.take m)).2.length ≤ m
  | 0, _ => by simp [togT]
  | m + 1, h => by
    have ih := togT_len q jobs m (by omega)
    rw [togT_succ (by omega)]
    have := stepT_len (togT q (jobs.take m)) (jobs[m]'(by omega))
    omega
theorem stepT_new {s : List Jb × List Nd} {j : Jb} (h : jobOf s.1 j.1 = none) : stepT (fun j l => l ++ [j]) s j = (s.1 ++ [j], s.2) := by unfold stepT; rw [h]
theorem stepT_over {s : List Jb × List Nd} {j o : Jb} {k : Nat} (hd : DQ s.1) (hk : k < s.1.length) (hx : s.1[k] = o) (hu : o.1 = j.1) (ho : openB o = false) : stepT (fun j l => l ++ [j]) s j = (s.1.set k j, s.2) := by
  have h : jobOf s.1 j.1 = some o := (jobOf_iff hd).2 ⟨hx ▸ List.getElem_mem hk, hu⟩
  unfold stepT; rw [h]; simp only [ho, Bool.false_eq_true, if_false]
  rw [set_updf hd hk (u := j.1) (f := fun _ => j) (by rw [hx, hu]) rfl]
theorem stepT_meet {s : List Jb × List Nd} {j o : Jb} {k : Nat} (hd : DQ s.1) (hk : k < s.1.length) (hx : s.1[k] = o) (hu : o.1 = j.1) (ho : openB o = true) : stepT (fun j l => l ++ [j]) s j = (s.1.set k (meetQ o j).1, if (meetQ o j).2 = true then s.2 ++ [goneD o j] else s.2) := by
  have h : jobOf s.1 j.1 = some o := (jobOf_iff hd).2 ⟨hx ▸ List.getElem_mem hk, hu⟩
  unfold stepT; rw [h]; simp only [ho, if_true]
  rw [set_updf hd hk (u := j.1) (f := fun _ => (meetQ o j).1) (by rw [hx, hu]) rfl]
theorem put_grown (w : World) (g a b c d : Nat) (x y z u : Value) : w.grownBy ((((w.setCell ⟨g, a, none⟩ x).setCell ⟨g, b, none⟩ y).setCell ⟨g, c, none⟩ z).setCell ⟨g, d, none⟩ u) (some g) :=
  (((grownBy_setCell w ⟨g, a, none⟩ x).trans (grownBy_setCell _ ⟨g, b, none⟩ y)).trans (grownBy_setCell _ ⟨g, c, none⟩ z)).trans (grownBy_setCell _ ⟨g, d, none⟩ u)
section
variable {P : Program} {ops : Array Oper} {Q : Exit → Act → World → Prop} {md : Region.Mode} {S : World → Prop}
variable {i j : Nat} {dst dst2 : Option Tmp} {op op2 : Op} {ty ty2 : TypeId} {pos pos2 : String} {aft aft2 : Array Edge} {grd grd2 : Option (Nat × Bool)} {fuel : Nat} {listed : Array Bool} {a : Act} {w : World}
/-- Two may come up. -/
theorem ready_two (hi : ops[i]? = some ⟨dst, op, ty, pos, aft, grd⟩) (hj : ops[j]? = some ⟨dst2, op2, ty2, pos2, aft2, grd2⟩) (hr : Region.ready md ops listed = [i, j])
    (h : ∀ K' : Act → World → Prop, Shut (∀ a w, S w → (S w → wpAnyH P md ops Q S fuel (listed.setIfInBounds i true) a w) → K' a w) → if Region.wanted ⟨dst, op, ty, pos, aft, grd⟩ (yielded ops a.tmps) = true then Oper.wp P ⟨dst, op, ty, pos, aft, grd⟩ a w K' Q else K' (a.put dst undef) w)
    (h2 : ∀ K' : Act → World → Prop, Shut (∀ a w, S w → (S w → wpAnyH P md ops Q S fuel (listed.setIfInBounds j true) a w) → K' a w) → if Region.wanted ⟨dst2, op2, ty2, pos2, aft2, grd2⟩ (yielded ops a.tmps) = true then Oper.wp P ⟨dst2, op2, ty2, pos2, aft2, grd2⟩ a w K' Q else K' (a.put dst2 undef) w) :
    wpAnyH P md ops Q S (fuel + 1) listed a w :=
  wpAnyH_ready hr (by simp) (AllReadyH.cons hi h (AllReadyH.cons hj h2 AllReadyH.nil))
end
theorem step_pushm {P : Program} (w0 w : World) {ops : Array Oper} {o : Oper} {a : Act} {K : Act → World → Prop} {Q : Exit → Act → World → Prop} {E : Prop} (hw : Region.wanted o (yielded ops a.tmps) = true) (s x : Operand) (t : TypeId)
    (ho : o.op = .call { callee := .builtin .append, args := #[s, x], argTypes := #[t, t] })
    (base : Nat) (e : TypeId) (i : TypeInfo) (z : Value) (size bytes : Nat) (ht : P.underlying t = some (.slice e)) (hi : P.info? e = some i) (hz : i.zero = some z)
    (hsize : i.size = size) (hby : i.bytes = bytes) (hzs : z.cells.size = size) (hsz : 0 < size)
    (v : Value) (n : Nat) (xs : List Value) (hs : a.eval s = v) (hown : w.ownsRow base e size v n xs)
    (news : List Value) (m : Nat) (hm : w.heap.size = m) (hx : a.eval x = .slice (some ⟨m, 0, none⟩) 1 1) (hl : news.length = size) (h1 : ∀ u ∈ news, u.oneCell' = true)
    (h63 : n + 1 ≤ maxLen) (hbytes : (n + 1) * bytes ≤ 140737488355328) (hbase : base ≤ w.heap.size) (hbel : Below base w0 w)
    (h : ∀ A' c' w', w'.ownsRow base e size (.slice A' (n + 1) c') (n + 1) (xs ++ news) → Below base w0 w' → w.grownBy w' v.ownBlock →
      ((Value.slice A' (n + 1) c').ownBlock = v.ownBlock ∨ (Value.slice A' (n + 1) c').ownBlock = some (w.heap.size + 1)) → K (a.put o.dst (.slice A' (n + 1) c')) w') :
    if Region.wanted o (yielded ops a.tmps) = true then Oper.wp P o a (w.alloc (.cells news.toArray e)) K Q else E := by
  rw [if_pos hw]
  subst hm
  have hlt := hown.lt
  obtain ⟨v', w', hrun, hown', hgrow, _, hat⟩ := run_append_own_at (P := P) (w := w.alloc (.cells news.toArray e)) base t o.type e i z size bytes ht hi hz hsize hby hzs hsz v n xs (hown.alloc _) ⟨w.heap.size, 0, none⟩ 1 1 news (by simpa using hl) (cells_new w news e) h1 h63 hbytes (by simp; omega)
  obtain ⟨A', c', hv, _⟩ := own_rd hown'
  subst hv
  have hg : w.grownBy w' v.ownBlock := World.grownBy.trans (World.grownBy_alloc w _ _) hgrow
  unfold Oper.wp execOp
  simp only [ho, resolve, invoke, builtin, Sem.run_bind, Sem.run_pure, Result.andThen_ok, List.map_toArray, List.map_cons, List.map_nil, hs, hx, hrun]
  exact h A' c' w' hown' (hbel.grown hg hbase (fun k hk => (hlt k hk).1)) hg (by simpa using hat)
set_option maxRecDepth 100000 in
set_option maxHeartbeats 16000000 in
theorem together_any (A : Option Addr) (c : Nat) (q : List Jb) (A0 : Option Addr) (c0 : Nat) (jobs : List Jb) (w : World) (hq : Rd w w.heap.size 4 A q.length (jbsC q)) (hj : Rd w w.heap.size 4 A0 jobs.length (jbsC jobs)) (hlq : q.length ≤ 100000) (hlj : jobs.length ≤ 100000) (hup : upQ q) :
    Calls Tryz.prog 59 #[.slice A q.length c, .slice A0 jobs.length c0] w (ClearRet (togR q jobs) w) := by
  obtain ⟨i0, hi, hz0, hz1, hz2⟩ := info_parts infoJb
  obtain ⟨k0, ki, kz0, kz1, kz2⟩ := info_parts infoD
  have HJs := Lib.hid hj
  have HUp := Lib.hid hup
  clear hj hup
  go_enter Tryz.func59, Tryz.ntmps59
  go_wp2_with fail
  refine (cloneJ_own A c q w hq (by omega)).mono ?_
  rintro e w3 ⟨A3, c3, rfl, ho3, hb⟩
  have HO3 := Lib.hid ho3
  have HB := Lib.hid hb
  clear ho3 hb hq
  go_wp2_with fail
  go_loopw [6, 7, 17] (fun v1 v2 i wr => ∃ m : Nat, m ≤ jobs.length ∧ i = .int .i64 m ∧ wr.ownsRow w.heap.size 50 4 v1 (togT q (jobs.take m)).1.length (jbsC (togT q (jobs.take m)).1) ∧ wr.ownsRow w.heap.size 59 3 v2 (togT q (jobs.take m)).2.length (ndsC (togT q (jobs.take m)).2) ∧ Sep v1 v2 ∧ Below w.heap.size w wr) (fun _ _ i _ => jobs.length - (intOf i).toNat)
  case atStart => exact ⟨0, Nat.zero_le _, rfl, HO3.out, World.ownsRow_nil _ _ _ _, .inr (.inl rfl), HB.out⟩
  case round =>
    obtain ⟨m, hm, rfl, hown1, hown2, hsep, hb⟩ := hrel
    obtain ⟨A1, c1, hv1, _⟩ := own_rd hown1
    obtain ⟨A2, c2, hv2, _⟩ := own_rd hown2
    subst hv1 hv2
    by_cases hlt : m < jobs.length
    · have hst := togT_succ (q := q) hlt
      have hdq : DQ (togT q (jobs.take m)).1 := togT_dq HUp.out
      have hln := togT_len q jobs m hm
      rcases hog : togT q (jobs.take m) with ⟨out, gone⟩
      simp only [hog] at hst hdq hln hown1 hown2 hsep ⊢
      clear hog
      have HO1 := Lib.hid hown1
      have HO2 := Lib.hid hown2
      have HSp := Lib.hid hsep
      have Hb := Lib.hid hb
      have HDq := Lib.hid hdq
      have hpw0 : (Value.slice A2 gone.length c2).ownBlock ≠ some wr.heap.size := fun e => by have h1 := (hown2.lt _ e).2; omega
      clear hown1 hown2 hsep hdq
      obtain ⟨b2, o2, hA, hB2, x0, x1, x2, x3⟩ := (HJs.out.on (Nat.le_refl _) hb).job hlt
      have hB2' : b2 < wr.heap.size := by have := hb.size; omega
      clear hb
      generalize jobs[m] = x at x0 x1 x2 x3 hst
      obtain ⟨s, t, r, d⟩ := x
      simp only at x0 x1 x2 x3
      subst hA
      have HS := Lib.hid hst
      clear hst
      have m1 : (0 : Int) ≤ (m : Int) := by omega
      have m2 : (m : Int) < (jobs.length : Int) := by omega
      have h63 := Lib.hid (show out.length + 1 ≤ maxLen by unfold maxLen; omega)
      have hby := Lib.hid (show (out.length + 1) * 40 ≤ 140737488355328 by omega)
      have h63d := Lib.hid (show gone.length + 1 ≤ maxLen by unfold maxLen; omega)
      have hbyd := Lib.hid (show (gone.length + 1) * 32 ≤ 140737488355328 by omega)
      go_wp2_with fail
      first | (refine wp_named ?_; intro W2 hW) | (refine calls_named ?_; intro W2 hW)
      have B2 : Below wr.heap.size wr W2 := by rw [hW]; exact (by repeat (first | exact Below.refl _ _ | assumption | refine Below.alloc ?_ (by first | omega | (simp <;> omega)) _ | refine Below.setCell ?_ (by first | omega | (simp <;> omega)) _ | refine Below.drew ?_))
      replace HO1 := Lib.hid (own_on HO1.out B2)
      replace HO2 := Lib.hid (own_on HO2.out B2)
      replace Hb := Lib.hid (lift Hb.out B2)
      have p1 : wr.heap.size < W2.heap.size := by rw [hW]; simp <;> omega
      have e0 : W2.cell? ⟨wr.heap.size, 0, none⟩ = some (sv s) := by rw [hW]; go_simp
      have e1 : W2.cell? ⟨wr.heap.size, 1, none⟩ = some (.int .i64 t) := by rw [hW]; go_simp
      have e2 : W2.cell? ⟨wr.heap.size, 2, none⟩ = some (.int .i64 r) := by rw [hW]; go_simp
      have e3 : W2.cell? ⟨wr.heap.size, 3, none⟩ = some (.int .i64 d) := by rw [hW]; go_simp
      clear hW
      clear B2 x0 x1 x2 x3 hB2'
      refine (find_any A1 c1 out s W2 (own_rd' HO1.out) (by omega)).mono ?_
      rintro e v3 ⟨rr, rfl, hcase, hb⟩
      replace e0 := cellAt e0 hb (by omega)
      replace e1 := cellAt e1 hb (by omega)
      replace e2 := cellAt e2 hb (by omega)
      replace e3 := cellAt e3 hb (by omega)
      replace HO1 := Lib.hid (own_on HO1.out hb)
      replace HO2 := Lib.hid (own_on HO2.out hb)
      replace Hb := Lib.hid (lift Hb.out hb)
      replace p1 : wr.heap.size < v3.heap.size := ltAt p1 hb
      clear hb
      have hzb : w.heap.size ≤ v3.heap.size := Hb.out.size
      rcases hcase with ⟨rfl, hnone⟩ | ⟨k, hk, rfl, hfind, hpk, _⟩
      · have hn0 : jobOf out s = none := hnone
        have HN := Lib.hid (HS.out.trans (stepT_new (s := (out, gone)) (j := (s, t, r, d)) hn0))
        clear hn0 hnone
        go_wp2_with (first | (at_builtin; refine wpList_pushm w v3 (by rfl) (.tmp 27) (.tmp 29) 26 (by rfl) w.heap.size 50 i0 _ 4 40 Tryz.underlying26 hi hz0 hz1 hz2 rfl (by decide) _ _ _ (by rfl) HO1.out (jbC (s, t, r, d)) v3.heap.size rfl (by rfl) rfl (one_jbC (s, t, r, d)) h63.out hby.out hzb Hb.out ?_; intro A8 c8 w4 hown4 hbel4 hg4 hat4) | fail)
        go_roundw
        case rel =>
          refine ⟨m + 1, by omega, by go_num, ?_, ?_, ?_, hbel4⟩ <;> (try rw [HN.out])
          · simp only [List.length_append, jbsC_app, jbsC_one]; exact hown4
          · exact HSp.out.kept HO2.out hg4
          · exact HSp.out.push HO2.out hat4
        case measure => simp [intOf]; omega
      · have hneg : decide ((k : Int) < 0) = false := by simp
        obtain ⟨gb, rfl, hgb, hgl, hcap⟩ := own_open HO1.out (by omega)
        obtain ⟨y0, y1, y2, y3, yf⟩ := ownJ_cells HO1.out hk
        have hku : out[k].1 = s := by simpa using hpk
        obtain ⟨s', t', r', d', hx⟩ : ∃ s t r d, out[k] = (s, t, r, d) := ⟨_, _, _, _, rfl⟩
        rw [hx] at y0 y1 y2 y3 hku
        simp only at y0 y1 y2 y3 hku
        subst hku
        have k1 : (0 : Int) ≤ (k : Int) := by omega
        have k2 : (k : Int) < (out.length : Int) := by omega
        have Hx := Lib.hid hx
        have HG := Lib.hid hgb
        clear hx hfind hpk hgb yf
        go_wp2_with fail
        refine (open_any s' t' r' d' v3).mono ?_
        rintro e v4 ⟨rfl, hb⟩
        replace e0 := cellAt e0 hb (by omega)
        replace e1 := cellAt e1 hb (by omega)
        replace e2 := cellAt e2 hb (by omega)
        replace e3 := cellAt e3 hb (by omega)
        replace HO1 := Lib.hid (own_on HO1.out hb)
        replace HO2 := Lib.hid (own_on HO2.out hb)
        replace Hb := Lib.hid (lift Hb.out hb)
        replace p1 : wr.heap.size < v4.heap.size := ltAt p1 hb
        replace hgl : gb < v4.heap.size := ltAt hgl hb
        clear hb hzb y0 y1 y2 y3
        obtain ⟨y0, y1, y2, y3, yf⟩ := ownJ_cells HO1.out hk
        rw [Hx.out] at y0 y1 y2 y3
        simp only at y0 y1 y2 y3
        have yf0 := yf (k * 4)
        have yf1 := yf (k * 4 + 1)
        have yf2 := yf (k * 4 + 2)
        have yf3 := yf (k * 4 + 3)
        cases ho : openB (s', t', r', d')
        · have HN := Lib.hid (HS.out.trans (stepT_over (s := (out, gone)) (j := (s', t, r, d)) HDq.out hk Hx.out rfl ho))
          clear ho yf
          go_wp2_with fail
          go_roundw
          case rel =>
            refine ⟨m + 1, by omega, by go_num, ?_, ?_, ?_, ?_⟩ <;> (try rw [HN.out])
            · simp only [List.length_set]; exact ownJ_put HO1.out hk s' t r d
            · exact HSp.out.kept HO2.out (put_grown _ _ _ _ _ _ _ _ _ _)
            · exact HSp.out
            · exact (((Hb.out.setCell HG.out _).setCell HG.out _).setCell HG.out _).setCell HG.out _
          case measure => simp [intOf]; omega
        · have HN := Lib.hid (HS.out.trans (stepT_meet (s := (out, gone)) (j := (s', t, r, d)) HDq.out hk Hx.out rfl ho))
          rcases hmq : meetQ (s', t', r', d') (s', t, r, d) with ⟨⟨ms, mt, mr, md⟩, mb⟩
          have HMq := Lib.hid hmq
          clear ho hmq
          go_wp2_with fail
          refine wp_region_held_drew (S := fun w' => Below v4.heap.size v4 w') (by kernel_rfl) (Below.drew (Below.refl _ _)) (fun hHeld => ?_)
          refine take_yield (i := 0) (v := ?_) rfl (by kernel_rfl) (by kernel_rfl) (by kernel_rfl) (fun _ _ _ h => h) (by rfl) ?_ hHeld ?_
          rotate_left 1
          · (intro w' hSw; clear hSw; go_simp; try with_reducible rfl)
          (try simp only [Act.put, List.setIfInBounds_toArray, List.set_cons_zero, List.set_cons_succ])
          refine take_yield (i := 1) (v := ?_) rfl (by kernel_rfl) (by kernel_rfl) (by kernel_rfl) (fun _ _ _ h => h) (by rfl) ?_ hHeld ?_
          rotate_left 1
          · (intro w' hSw; clear hSw; go_simp; try with_reducible rfl)
          (try simp only [Act.put, List.setIfInBounds_toArray, List.set_cons_zero, List.set_cons_succ])
          refine take_yield (i := 2) (v := ?_) rfl (by kernel_rfl) (by kernel_rfl) (by kernel_rfl) (fun _ _ _ h => h) (by rfl) ?_ hHeld ?_
          rotate_left 1
          · (intro w' hSw; clear hSw; go_simp; try with_reducible rfl)
          (try simp only [Act.put, List.setIfInBounds_toArray, List.set_cons_zero, List.set_cons_succ])
          refine take_yield (i := 3) (v := ?_) rfl (by kernel_rfl) (by kernel_rfl) (by kernel_rfl) (fun _ _ _ h => h) (by rfl) ?_ hHeld ?_
          rotate_left 1
          · (intro w' hSw; have hCell := fun (b o : Nat) (h : b < v4.heap.size) => hSw.cell (p := ⟨b, o, none⟩) h; clear hSw; go_simp; try with_reducible rfl)
          (try simp only [Act.put, List.setIfInBounds_toArray, List.set_cons_zero, List.set_cons_succ])
          refine take_yield (i := 4) (v := ?_) rfl (by kernel_rfl) (by kernel_rfl) (by kernel_rfl) (fun _ _ _ h => h) (by rfl) ?_ hHeld ?_
          rotate_left 1
          · (intro w' hSw; have hCell := fun (b o : Nat) (h : b < v4.heap.size) => hSw.cell (p := ⟨b, o, none⟩) h; clear hSw; go_simp; try with_reducible rfl)
          (try simp only [Act.put, List.setIfInBounds_toArray, List.set_cons_zero, List.set_cons_succ])
          refine ready_two (i := 5) (j := 9) rfl rfl (by kernel_rfl) (fun K hK => ?_) (fun K hK => ?_)
          · go_simp
            refine (meet_any s' t' r' d' s' t r d _).mono ?_
            rw [HMq.out]
            simp only [jbV]
            rintro e v5 ⟨rfl, hb⟩
            have hb45 := Below.trans hHeld (Below.mono hb hHeld.size)
            have hz5 := hb45.size
            clear hb
            refine hK.out _ _ ?_ (fun hHeld2 => ?_)
            · (try dsimp only); exact hb45
            clear hK K hHeld
            have hHeld := hHeld2
            clear hHeld2
            (try simp only [Act.put, List.setIfInBounds_toArray, List.set_cons_zero, List.set_cons_succ])
            refine take_yield (i := 6) (v := ?_) rfl (by kernel_rfl) (by kernel_rfl) (by kernel_rfl) (fun _ _ _ h => h) (by rfl) ?_ hHeld ?_
            rotate_left 1
            · (intro w' hSw; clear hSw; go_simp; try with_reducible rfl)
            (try simp only [Act.put, List.setIfInBounds_toArray, List.set_cons_zero, List.set_cons_succ])
            refine take_yield (i := 7) (v := ?_) rfl (by kernel_rfl) (by kernel_rfl) (by kernel_rfl) (fun _ _ _ h => h) (by rfl) ?_ hHeld ?_
            rotate_left 1
            · (intro w' hSw; clear hSw; go_simp; try with_reducible rfl)
            (try simp only [Act.put, List.setIfInBounds_toArray, List.set_cons_zero, List.set_cons_succ])
            refine take_yield (i := 8) (v := ?_) rfl (by kernel_rfl) (by kernel_rfl) (by kernel_rfl) (fun _ _ _ h => h) (by rfl) ?_ hHeld ?_
            rotate_left 1
            · (intro w' hSw; clear hSw; go_simp; try with_reducible rfl)
            (try simp only [Act.put, List.setIfInBounds_toArray, List.set_cons_zero, List.set_cons_succ])
            refine ready_one (i := 9) rfl (by kernel_rfl) (fun K hK => ?_)
            go_simp
            refine hK.out _ _ ?_ (fun hHeld2 => ?_)
            · (try dsimp only); exact (hb45.alloc hz5 _)
            clear hK K hHeld
            have hHeld := hHeld2
            clear hHeld2
            (try simp only [Act.put, List.setIfInBounds_toArray, List.set_cons_zero, List.set_cons_succ])
            refine ready_one (i := 10) rfl (by kernel_rfl) (fun K hK => ?_)
            go_simp
            refine hK.out _ _ ?_ (fun hHeld2 => ?_)
            · (try dsimp only); exact ((by repeat (first | exact Below.refl _ _ | assumption | refine Below.alloc ?_ (by first | omega | (simp <;> omega)) _ | refine Below.setCell ?_ (by first | omega | (simp <;> omega)) _ | refine Below.drew ?_)))
            clear hK K hHeld
            have hHeld := hHeld2
            clear hHeld2
            (try simp only [Act.put, List.setIfInBounds_toArray, List.set_cons_zero, List.set_cons_succ])
            refine take_yield (i := 11) (v := ?_) rfl (by kernel_rfl) (by kernel_rfl) (by kernel_rfl) (fun _ _ _ h => h) (by rfl) ?_ hHeld ?_
            rotate_left 1
            · (intro w' hSw; clear hSw; go_simp; try with_reducible rfl)
            (try simp only [Act.put, List.setIfInBounds_toArray, List.set_cons_zero, List.set_cons_succ])
            refine wpAnyH_done (by kernel_rfl) ?_ _
            refine exit_named ?_
            intro W6 hW6
            have hb46 : Below v4.heap.size v4 W6 := by rw [hW6]; exact hHeld
            have b0 : W6.cell? ⟨v5.heap.size, 0, none⟩ = some (sv ms) := by rw [hW6]; go_simp
            have b1 : W6.cell? ⟨v5.heap.size, 1, none⟩ = some (.int .i64 mt) := by rw [hW6]; go_simp
            have b2 : W6.cell? ⟨v5.heap.size, 2, none⟩ = some (.int .i64 mr) := by rw [hW6]; go_simp
            have b3 : W6.cell? ⟨v5.heap.size, 3, none⟩ = some (.int .i64 md) := by rw [hW6]; go_simp
            have bl : v5.heap.size < W6.heap.size := by rw [hW6]; simp <;> omega
            have hpw : (Value.slice A2 gone.length c2).ownBlock ≠ some wr.heap.size := hpw0
            have hpo : (Value.slice A2 gone.length c2).ownBlock ≠ some (v5.heap.size) := fun e => by have h1 := (HO2.out.lt _ e).2; omega
            clear hW6 hHeld
            have HO16 := Lib.hid (own_on HO1.out hb46)
            have HO26 := Lib.hid (own_on HO2.out hb46)
            have Hb6 := Lib.hid (lift Hb.out hb46)
            have e06 := cellAt e0 hb46 p1
            have p16 := ltAt p1 hb46
            have hgl6 := ltAt hgl hb46
            have hzb6 : w.heap.size ≤ W6.heap.size := Hb6.out.size
            clear e0 e1 e2 e3 y0 y1 y2 y3 yf yf0 yf1 yf2 yf3 hb46
            obtain ⟨y0, y1, y2, y3, yf⟩ := ownJ_cells HO16.out hk
            rw [Hx.out] at y0 y1 y2 y3
            simp only at y0 y1 y2 y3
            have yf0 := yf (k * 4)
            have yf1 := yf (k * 4 + 1)
            have yf2 := yf (k * 4 + 2)
            have yf3 := yf (k * 4 + 3)
            clear yf
            cases mb
            · go_wp2_with fail
              go_roundw
              case rel =>
                refine ⟨m + 1, by omega, by go_num, ?_, ?_, ?_, ?_⟩ <;> (try rw [HN.out, HMq.out])
                · simp only [List.length_set]; exact ownJ_put HO16.out hk ms mt mr md
                · exact HSp.out.kept HO26.out (put_grown _ _ _ _ _ _ _ _ _ _)
                · exact HSp.out
                · exact (((Hb6.out.setCell HG.out _).setCell HG.out _).setCell HG.out _).setCell HG.out _
              case measure => simp [intOf]; omega
            · go_wp2_with fail
              have HO1d := Lib.hid (own_on HO16.out (Below.drew (Below.refl _ _)))
              have HO2d := Lib.hid (own_on HO26.out (Below.drew (Below.refl _ _)))
              have hHb : Below w.heap.size w W6.drew := Hb6.out.drew
              refine wp_region_held_drew (S := fun w' => Below w.heap.size w w' ∧ w'.cell? ⟨wr.heap.size, 0, none⟩ = some (sv s') ∧ w'.cell? ⟨gb, k * 4 + 1, none⟩ = some (.int .i64 t')) (by kernel_rfl) ⟨hHb, e06, y1⟩ (fun hHeld => ?_)
              refine take_yield (i := 0) (v := ?_) rfl (by kernel_rfl) (by kernel_rfl) (by kernel_rfl) (fun _ _ _ h => h) (by rfl) ?_ hHeld ?_
              rotate_left 1
              · (intro w' hSw; clear hSw; go_simp; try with_reducible rfl)
              (try simp only [Act.put, List.setIfInBounds_toArray, List.set_cons_zero, List.set_cons_succ])
              refine take_yield (i := 1) (v := ?_) rfl (by kernel_rfl) (by kernel_rfl) (by kernel_rfl) (fun _ _ _ h => h) (by rfl) ?_ hHeld ?_
              rotate_left 1
              · (intro w' hSw; clear hSw; go_simp; try with_reducible rfl)
              (try simp only [Act.put, List.setIfInBounds_toArray, List.set_cons_zero, List.set_cons_succ])
              refine take_yield (i := 2) (v := ?_) rfl (by kernel_rfl) (by kernel_rfl) (by kernel_rfl) (fun _ _ _ h => h) (by rfl) ?_ hHeld ?_
              rotate_left 1
              · (intro w' hSw; have hCe := hSw.2.1; have hCy := hSw.2.2; clear hSw; go_simp; try with_reducible rfl)
              (try simp only [Act.put, List.setIfInBounds_toArray, List.set_cons_zero, List.set_cons_succ])
              refine take_yield (i := 3) (v := ?_) rfl (by kernel_rfl) (by kernel_rfl) (by kernel_rfl) (fun _ _ _ h => h) (by rfl) ?_ hHeld ?_
              rotate_left 1
              · (intro w' hSw; clear hSw; go_simp; try with_reducible rfl)
              (try simp only [Act.put, List.setIfInBounds_toArray, List.set_cons_zero, List.set_cons_succ])
              refine take_yield (i := 4) (v := ?_) rfl (by kernel_rfl) (by kernel_rfl) (by kernel_rfl) (fun _ _ _ h => h) (by rfl) ?_ hHeld ?_
              rotate_left 1
              · (intro w' hSw; clear hSw; go_simp; try with_reducible rfl)
              (try simp only [Act.put, List.setIfInBounds_toArray, List.set_cons_zero, List.set_cons_succ])
              refine take_yield (i := 5) (v := ?_) rfl (by kernel_rfl) (by kernel_rfl) (by kernel_rfl) (fun _ _ _ h => h) (by rfl) ?_ hHeld ?_
              rotate_left 1
              · (intro w' hSw; clear hSw; go_simp; try with_reducible rfl)
              (try simp only [Act.put, List.setIfInBounds_toArray, List.set_cons_zero, List.set_cons_succ])
              refine take_yield (i := 6) (v := ?_) rfl (by kernel_rfl) (by kernel_rfl) (by kernel_rfl) (fun _ _ _ h => h) (by rfl) ?_ hHeld ?_
              rotate_left 1
              · (intro w' hSw; clear hSw; go_simp; try with_reducible rfl)
              (try simp only [Act.put, List.setIfInBounds_toArray, List.set_cons_zero, List.set_cons_succ])
              refine take_yield (i := 7) (v := ?_) rfl (by kernel_rfl) (by kernel_rfl) (by kernel_rfl) (fun _ _ _ h => h) (by rfl) ?_ hHeld ?_
              rotate_left 1
              · (intro w' hSw; have hCe := hSw.2.1; have hCy := hSw.2.2; clear hSw; go_simp; try with_reducible rfl)
              (try simp only [Act.put, List.setIfInBounds_toArray, List.set_cons_zero, List.set_cons_succ])
              refine take_yield (i := 8) (v := ?_) rfl (by kernel_rfl) (by kernel_rfl) (by kernel_rfl) (fun _ _ _ h => h) (by rfl) ?_ hHeld ?_
              rotate_left 1
              · (intro w' hSw; clear hSw; go_simp; try with_reducible rfl)
              (try simp only [Act.put, List.setIfInBounds_toArray, List.set_cons_zero, List.set_cons_succ])
              refine ready_one (i := 9) rfl (by kernel_rfl) (fun K hK => ?_)
              go_simp
              refine hK.out _ _ ?_ (fun hHeld2 => ?_)
              · (try dsimp only); exact ⟨Hb6.out.drew.alloc hzb6 _, (cellAt (w := W6.drew) e06 ((Below.refl _ _).alloc (Nat.le_refl _) _) p16), (cellAt (w := W6.drew) y1 ((Below.refl _ _).alloc (Nat.le_refl _) _) hgl6)⟩
              clear hK K hHeld
              have hHeld := hHeld2
              clear hHeld2
              (try simp only [Act.put, List.setIfInBounds_toArray, List.set_cons_zero, List.set_cons_succ])
              refine ready_one (i := 10) rfl (by kernel_rfl) (fun K hK => ?_)
              refine step_pushm w W6.drew (by first | rfl | kernel_rfl) (.tmp 51) (.tmp 60) 30 (by rfl) w.heap.size 59 k0 _ 3 32 Tryz.underlying30 ki kz0 kz1 kz2 rfl (by decide) _ _ _ (by rfl) HO2d.out (ndC (s', t', 4)) W6.heap.size rfl (by rfl) rfl (one_ndC (s', t', 4)) h63d.out hbyd.out hzb6 hHb ?_
              intro A8 c8 w4 hown4 hbel4 hg4 hat4
              have e07 := cell_kept (w := W6.drew) e06 hg4 p16 hpw
              have hpg : (Value.slice A2 gone.length c2).ownBlock ≠ some gb := fun e => by
                rcases HSp.out with h | h | h
                · cases h
                · rw [h] at e; cases e
                · exact h (by rw [e]; rfl)
              have y17 := cell_kept (w := W6.drew) y1 hg4 hgl6 hpg
              refine hK.out _ _ ?_ (fun hHeld2 => ?_)
              · (try dsimp only); exact ⟨hbel4, e07, y17⟩
              clear hK K hHeld
              have hHeld := hHeld2
              clear hHeld2
              (try simp only [Act.put, List.setIfInBounds_toArray, List.set_cons_zero, List.set_cons_succ])
              refine take_yield (i := 11) (v := ?_) rfl (by kernel_rfl) (by kernel_rfl) (by kernel_rfl) (fun _ _ _ h => h) (by rfl) ?_ hHeld ?_
              rotate_left 1
              · (intro w' hSw; clear hSw; go_simp; try with_reducible rfl)
              (try simp only [Act.put, List.setIfInBounds_toArray, List.set_cons_zero, List.set_cons_succ])
              refine wpAnyH_done (by kernel_rfl) ?_ _
              have b07 := cell_kept (w := W6.drew) b0 hg4 bl hpo
              have b17 := cell_kept (w := W6.drew) b1 hg4 bl hpo
              have b27 := cell_kept (w := W6.drew) b2 hg4 bl hpo
              have b37 := cell_kept (w := W6.drew) b3 hg4 bl hpo
              have HO17 := Lib.hid (HSp.out.symm.kept HO1d.out hg4)
              have HSp7 := Lib.hid (HSp.out.symm.push HO1d.out hat4).symm
              clear y0 y1 y2 y3 yf0 yf1 yf2 yf3 b0 b1 b2 b3 hHeld
              obtain ⟨y0, y1, y2, y3, yf⟩ := ownJ_cells HO17.out hk
              rw [Hx.out] at y0 y1 y2 y3
              simp only at y0 y1 y2 y3
              have yf0 := yf (k * 4)
              have yf1 := yf (k * 4 + 1)
              have yf2 := yf (k * 4 + 2)
              have yf3 := yf (k * 4 + 3)
              clear yf
              go_wp2_with fail
              go_roundw
              case rel =>
                refine ⟨m + 1, by omega, by go_num, ?_, ?_, ?_, ?_⟩ <;> (try rw [HN.out, HMq.out])
                · simp only [List.length_set]; exact ownJ_put HO17.out hk ms mt mr md
                · rw [if_pos rfl]
                  have h4 : w4.ownsRow w.heap.size 59 3 (.slice A8 (gone.length + 1) c8) (gone ++ [goneD (s', t', r', d') (s', t, r, d)]).length (ndsC (gone ++ [goneD (s', t', r', d') (s', t, r, d)])) := by simpa [ndsC, goneD] using hown4
                  exact HSp7.out.kept h4 (put_grown _ _ _ _ _ _ _ _ _ _)
                · exact HSp7.out
                · exact (((hbel4.setCell HG.out _).setCell HG.out _).setCell HG.out _).setCell HG.out _
              case measure => simp [intOf]; omega
          · go_simp
            refine hK.out _ _ ?_ (fun hHeld2 => ?_)
            · (try dsimp only); exact ((by repeat (first | exact Below.refl _ _ | assumption | refine Below.alloc ?_ (by first | omega | (simp <;> omega)) _ | refine Below.setCell ?_ (by first | omega | (simp <;> omega)) _ | refine Below.drew ?_)))
            clear hK K hHeld
            have hHeld := hHeld2
            clear hHeld2
            (try simp only [Act.put, List.setIfInBounds_toArray, List.set_cons_zero, List.set_cons_succ])
            refine ready_one (i := 5) rfl (by kernel_rfl) (fun K hK => ?_)
            go_simp
            refine (meet_any s' t' r' d' s' t r d _).mono ?_
            rw [HMq.out]
            simp only [jbV]
            rintro e v5 ⟨rfl, hb⟩
            have n0 : v4.heap.size < (v4.drew.alloc (.cells #[.string ⟨#[]⟩, .int .i64 0, .int .i64 0, .int .i64 0] 50)).heap.size := by simp
            have c0 := cellAt (o := 0) (v := .string ⟨#[]⟩) (by go_simp) hb n0
            have c1 := cellAt (o := 1) (v := .int .i64 0) (by go_simp) hb n0
            have c2' := cellAt (o := 2) (v := .int .i64 0) (by go_simp) hb n0
            have c3' := cellAt (o := 3) (v := .int .i64 0) (by go_simp) hb n0
            have z0 := froAt (o := 0) (by go_simp) hb n0
            have z1 := froAt (o := 1) (by go_simp) hb n0
            have z2 := froAt (o := 2) (by go_simp) hb n0
            have z3 := froAt (o := 3) (by go_simp) hb n0
            have n1 := ltAt n0 hb
            have hb45 := Below.trans hHeld (Below.mono hb hHeld.size)
            clear hb n0
            refine hK.out _ _ ?_ (fun hHeld2 => ?_)
            · (try dsimp only); exact hb45
            clear hK K hHeld
            have hHeld := hHeld2
            clear hHeld2
            (try simp only [Act.put, List.setIfInBounds_toArray, List.set_cons_zero, List.set_cons_succ])
            refine take_yield (i := 6) (v := ?_) rfl (by kernel_rfl) (by kernel_rfl) (by kernel_rfl) (fun _ _ _ h => h) (by rfl) ?_ hHeld ?_
            rotate_left 1
            · (intro w' hSw; clear hSw; go_simp; try with_reducible rfl)
            (try simp only [Act.put, List.setIfInBounds_toArray, List.set_cons_zero, List.set_cons_succ])
            refine take_yield (i := 7) (v := ?_) rfl (by kernel_rfl) (by kernel_rfl) (by kernel_rfl) (fun _ _ _ h => h) (by rfl) ?_ hHeld ?_
            rotate_left 1
            · (intro w' hSw; clear hSw; go_simp; try with_reducible rfl)
            (try simp only [Act.put, List.setIfInBounds_toArray, List.set_cons_zero, List.set_cons_succ])
            refine take_yield (i := 8) (v := ?_) rfl (by kernel_rfl) (by kernel_rfl) (by kernel_rfl) (fun _ _ _ h => h) (by rfl) ?_ hHeld ?_
            rotate_left 1
            · (intro w' hSw; clear hSw; go_simp; try with_reducible rfl)
            (try simp only [Act.put, List.setIfInBounds_toArray, List.set_cons_zero, List.set_cons_succ])
            refine ready_one (i := 10) rfl (by kernel_rfl) (fun K hK => ?_)
            go_simp
            refine hK.out _ _ ?_ (fun hHeld2 => ?_)
            · (try dsimp only); exact ((by repeat (first | exact Below.refl _ _ | assumption | refine Below.alloc ?_ (by first | omega | (simp <;> omega)) _ | refine Below.setCell ?_ (by first | omega | (simp <;> omega)) _ | refine Below.drew ?_)))
            clear hK K hHeld
            have hHeld := hHeld2
            clear hHeld2
            (try simp only [Act.put, List.setIfInBounds_toArray, List.set_cons_zero, List.set_cons_succ])
            refine take_yield (i := 11) (v := ?_) rfl (by kernel_rfl) (by kernel_rfl) (by kernel_rfl) (fun _ _ _ h => h) (by rfl) ?_ hHeld ?_
            rotate_left 1
            · (intro w' hSw; clear hSw; go_simp; try with_reducible rfl)
            (try simp only [Act.put, List.setIfInBounds_toArray, List.set_cons_zero, List.set_cons_succ])
            refine wpAnyH_done (by kernel_rfl) ?_ _
            refine exit_named ?_
            intro W6 hW6
            have hb46 : Below v4.heap.size v4 W6 := by rw [hW6]; exact hHeld
            have b0 : W6.cell? ⟨v4.heap.size, 0, none⟩ = some (sv ms) := by rw [hW6]; go_simp
            have b1 : W6.cell? ⟨v4.heap.size, 1, none⟩ = some (.int .i64 mt) := by rw [hW6]; go_simp
            have b2 : W6.cell? ⟨v4.heap.size, 2, none⟩ = some (.int .i64 mr) := by rw [hW6]; go_simp
            have b3 : W6.cell? ⟨v4.heap.size, 3, none⟩ = some (.int .i64 md) := by rw [hW6]; go_simp
            have bl : v4.heap.size < W6.heap.size := by rw [hW6]; simp <;> omega
            have hpw : (Value.slice A2 gone.length c2).ownBlock ≠ some wr.heap.size := hpw0
            have hpo : (Value.slice A2 gone.length c2).ownBlock ≠ some (v4.heap.size) := fun e => by have h1 := (HO2.out.lt _ e).2; omega
            clear hW6 hHeld
            have HO16 := Lib.hid (own_on HO1.out hb46)
            have HO26 := Lib.hid (own_on HO2.out hb46)
            have Hb6 := Lib.hid (lift Hb.out hb46)
            have e06 := cellAt e0 hb46 p1
            have p16 := ltAt p1 hb46
            have hgl6 := ltAt hgl hb46
            have hzb6 : w.heap.size ≤ W6.heap.size := Hb6.out.size
            clear e0 e1 e2 e3 y0 y1 y2 y3 yf yf0 yf1 yf2 yf3 hb46
            obtain ⟨y0, y1, y2, y3, yf⟩ := ownJ_cells HO16.out hk
            rw [Hx.out] at y0 y1 y2 y3
            simp only at y0 y1 y2 y3
            have yf0 := yf (k * 4)
            have yf1 := yf (k * 4 + 1)
            have yf2 := yf (k * 4 + 2)
            have yf3 := yf (k * 4 + 3)
            clear yf
            cases mb
            · go_wp2_with fail
              go_roundw
              case rel =>
                refine ⟨m + 1, by omega, by go_num, ?_, ?_, ?_, ?_⟩ <;> (try rw [HN.out, HMq.out])
                · simp only [List.length_set]; exact ownJ_put HO16.out hk ms mt mr md
                · exact HSp.out.kept HO26.out (put_grown _ _ _ _ _ _ _ _ _ _)
                · exact HSp.out
                · exact (((Hb6.out.setCell HG.out _).setCell HG.out _).setCell HG.out _).setCell HG.out _
              case measure => simp [intOf]; omega
            · go_wp2_with fail
              have HO1d := Lib.hid (own_on HO16.out (Below.drew (Below.refl _ _)))
              have HO2d := Lib.hid (own_on HO26.out (Below.drew (Below.refl _ _)))
              have hHb : Below w.heap.size w W6.drew := Hb6.out.drew
              refine wp_region_held_drew (S := fun w' => Below w.heap.size w w' ∧ w'.cell? ⟨wr.heap.size, 0, none⟩ = some (sv s') ∧ w'.cell? ⟨gb, k * 4 + 1, none⟩ = some (.int .i64 t')) (by kernel_rfl) ⟨hHb, e06, y1⟩ (fun hHeld => ?_)
              refine take_yield (i := 0) (v := ?_) rfl (by kernel_rfl) (by kernel_rfl) (by kernel_rfl) (fun _ _ _ h => h) (by rfl) ?_ hHeld ?_
              rotate_left 1
              · (intro w' hSw; clear hSw; go_simp; try with_reducible rfl)
              (try simp only [Act.put, List.setIfInBounds_toArray, List.set_cons_zero, List.set_cons_succ])
              refine take_yield (i := 1) (v := ?_) rfl (by kernel_rfl) (by kernel_rfl) (by kernel_rfl) (fun _ _ _ h => h) (by rfl) ?_ hHeld ?_
              rotate_left 1
              · (intro w' hSw; clear hSw; go_simp; try with_reducible rfl)
              (try simp only [Act.put, List.setIfInBounds_toArray, List.set_cons_zero, List.set_cons_succ])
              refine take_yield (i := 2) (v := ?_) rfl (by kernel_rfl) (by kernel_rfl) (by kernel_rfl) (fun _ _ _ h => h) (by rfl) ?_ hHeld ?_
              rotate_left 1
              · (intro w' hSw; have hCe := hSw.2.1; have hCy := hSw.2.2; clear hSw; go_simp; try with_reducible rfl)
              (try simp only [Act.put, List.setIfInBounds_toArray, List.set_cons_zero, List.set_cons_succ])
              refine take_yield (i := 3) (v := ?_) rfl (by kernel_rfl) (by kernel_rfl) (by kernel_rfl) (fun _ _ _ h => h) (by rfl) ?_ hHeld ?_
              rotate_left 1
              · (intro w' hSw; clear hSw; go_simp; try with_reducible rfl)
              (try simp only [Act.put, List.setIfInBounds_toArray, List.set_cons_zero, List.set_cons_succ])
              refine take_yield (i := 4) (v := ?_) rfl (by kernel_rfl) (by kernel_rfl) (by kernel_rfl) (fun _ _ _ h => h) (by rfl) ?_ hHeld ?_
              rotate_left 1
              · (intro w' hSw; clear hSw; go_simp; try with_reducible rfl)
              (try simp only [Act.put, List.setIfInBounds_toArray, List.set_cons_zero, List.set_cons_succ])
              refine take_yield (i := 5) (v := ?_) rfl (by kernel_rfl) (by kernel_rfl) (by kernel_rfl) (fun _ _ _ h => h) (by rfl) ?_ hHeld ?_
              rotate_left 1
              · (intro w' hSw; clear hSw; go_simp; try with_reducible rfl)
              (try simp only [Act.put, List.setIfInBounds_toArray, List.set_cons_zero, List.set_cons_succ])
              refine take_yield (i := 6) (v := ?_) rfl (by kernel_rfl) (by kernel_rfl) (by kernel_rfl) (fun _ _ _ h => h) (by rfl) ?_ hHeld ?_
              rotate_left 1
              · (intro w' hSw; clear hSw; go_simp; try with_reducible rfl)
              (try simp only [Act.put, List.setIfInBounds_toArray, List.set_cons_zero, List.set_cons_succ])
              refine take_yield (i := 7) (v := ?_) rfl (by kernel_rfl) (by kernel_rfl) (by kernel_rfl) (fun _ _ _ h => h) (by rfl) ?_ hHeld ?_
              rotate_left 1
              · (intro w' hSw; have hCe := hSw.2.1; have hCy := hSw.2.2; clear hSw; go_simp; try with_reducible rfl)
              (try simp only [Act.put, List.setIfInBounds_toArray, List.set_cons_zero, List.set_cons_succ])
              refine take_yield (i := 8) (v := ?_) rfl (by kernel_rfl) (by kernel_rfl) (by kernel_rfl) (fun _ _ _ h => h) (by rfl) ?_ hHeld ?_
              rotate_left 1
              · (intro w' hSw; clear hSw; go_simp; try with_reducible rfl)
              (try simp only [Act.put, List.setIfInBounds_toArray, List.set_cons_zero, List.set_cons_succ])
              refine ready_one (i := 9) rfl (by kernel_rfl) (fun K hK => ?_)
              go_simp
              refine hK.out _ _ ?_ (fun hHeld2 => ?_)
              · (try dsimp only); exact ⟨Hb6.out.drew.alloc hzb6 _, (cellAt (w := W6.drew) e06 ((Below.refl _ _).alloc (Nat.le_refl _) _) p16), (cellAt (w := W6.drew) y1 ((Below.refl _ _).alloc (Nat.le_refl _) _) hgl6)⟩
              clear hK K hHeld
              have hHeld := hHeld2
              clear hHeld2
              (try simp only [Act.put, List.setIfInBounds_toArray, List.set_cons_zero, List.set_cons_succ])
              refine ready_one (i := 10) rfl (by kernel_rfl) (fun K hK => ?_)
              refine step_pushm w W6.drew (by first | rfl | kernel_rfl) (.tmp 51) (.tmp 60) 30 (by rfl) w.heap.size 59 k0 _ 3 32 Tryz.underlying30 ki kz0 kz1 kz2 rfl (by decide) _ _ _ (by rfl) HO2d.out (ndC (s', t', 4)) W6.heap.size rfl (by rfl) rfl (one_ndC (s', t', 4)) h63d.out hbyd.out hzb6 hHb ?_
              intro A8 c8 w4 hown4 hbel4 hg4 hat4
              have e07 := cell_kept (w := W6.drew) e06 hg4 p16 hpw
              have hpg : (Value.slice A2 gone.length c2).ownBlock ≠ some gb := fun e => by
                rcases HSp.out with h | h | h
                · cases h
                · rw [h] at e; cases e
                · exact h (by rw [e]; rfl)
              have y17 := cell_kept (w := W6.drew) y1 hg4 hgl6 hpg
              refine hK.out _ _ ?_ (fun hHeld2 => ?_)
              · (try dsimp only); exact ⟨hbel4, e07, y17⟩
              clear hK K hHeld
              have hHeld := hHeld2
              clear hHeld2
              (try simp only [Act.put, List.setIfInBounds_toArray, List.set_cons_zero, List.set_cons_succ])
              refine take_yield (i := 11) (v := ?_) rfl (by kernel_rfl) (by kernel_rfl) (by kernel_rfl) (fun _ _ _ h => h) (by rfl) ?_ hHeld ?_
              rotate_left 1
              · (intro w' hSw; clear hSw; go_simp; try with_reducible rfl)
              (try simp only [Act.put, List.setIfInBounds_toArray, List.set_cons_zero, List.set_cons_succ])
              refine wpAnyH_done (by kernel_rfl) ?_ _
              have b07 := cell_kept (w := W6.drew) b0 hg4 bl hpo
              have b17 := cell_kept (w := W6.drew) b1 hg4 bl hpo
              have b27 := cell_kept (w := W6.drew) b2 hg4 bl hpo
              have b37 := cell_kept (w := W6.drew) b3 hg4 bl hpo
              have HO17 := Lib.hid (HSp.out.symm.kept HO1d.out hg4)
              have HSp7 := Lib.hid (HSp.out.symm.push HO1d.out hat4).symm
              clear y0 y1 y2 y3 yf0 yf1 yf2 yf3 b0 b1 b2 b3 hHeld
              obtain ⟨y0, y1, y2, y3, yf⟩ := ownJ_cells HO17.out hk
              rw [Hx.out] at y0 y1 y2 y3
              simp only at y0 y1 y2 y3
              have yf0 := yf (k * 4)
              have yf1 := yf (k * 4 + 1)
              have yf2 := yf (k * 4 + 2)
              have yf3 := yf (k * 4 + 3)
              clear yf
              go_wp2_with fail
              go_roundw
              case rel =>
                refine ⟨m + 1, by omega, by go_num, ?_, ?_, ?_, ?_⟩ <;> (try rw [HN.out, HMq.out])
                · simp only [List.length_set]; exact ownJ_put HO17.out hk ms mt mr md
                · rw [if_pos rfl]
                  have h4 : w4.ownsRow w.heap.size 59 3 (.slice A8 (gone.length + 1) c8) (gone ++ [goneD (s', t', r', d') (s', t, r, d)]).length (ndsC (gone ++ [goneD (s', t', r', d') (s', t, r, d)])) := by simpa [ndsC, goneD] using hown4
                  exact HSp7.out.kept h4 (put_grown _ _ _ _ _ _ _ _ _ _)
                · exact HSp7.out
                · exact (((hbel4.setCell HG.out _).setCell HG.out _).setCell HG.out _).setCell HG.out _
              case measure => simp [intOf]; omega
    · have hml : m = jobs.length := by omega
      rw [hml, List.take_length] at hown1 hown2 hsep
      have hln := (togT_len q jobs jobs.length (Nat.le_refl _)).1
      rw [List.take_length] at hln
      have HO1 := Lib.hid hown1
      have HO2 := Lib.hid hown2
      have HSp := Lib.hid hsep
      have Hb := Lib.hid hb
      clear hown1 hown2 hsep hb
      go_wp2_with fail
      refine (sortJ_own w.heap.size c1 A1 (togT q jobs).1 wr HO1.out (by omega) (togT_dq HUp.out)).mono ?_
      rintro e w4 ⟨rfl, ho4, hg4⟩
      have HR := Lib.hid ho4
      have HG := Lib.hid hg4
      clear ho4 hg4
      go_wp2_with fail
      go_ret2
      obtain ⟨_, hg2, _⟩ := tog_perm (jobs := jobs) HUp.out
      have hs1 := sort_tog (jobs := jobs) HUp.out
      have hl1 : (togT q jobs).1.length = (togR q jobs).1.length := by rw [← hs1]; exact ((sortJ_perm _).length_eq).symm
      have ho1 := HR.out
      have ho2 := HSp.out.kept HO2.out HG.out
      rw [hs1, hl1] at ho1
      rw [hg2] at ho2
      rw [hl1, hg2]
      exact ⟨A1, c1, A2, c2, rfl, (own_cap ho1).1, own_rd' ho1, own_rd' ho2, Hb.out.grown HG.out Hb.out.size (fun k hk => (HO1.out.lt k hk).1)⟩
end Od
end Go.Proofs.YtanfnejbnmenkaaGreat
end
