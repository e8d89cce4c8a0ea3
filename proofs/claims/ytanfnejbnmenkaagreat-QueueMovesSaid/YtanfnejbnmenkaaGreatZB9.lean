/- My texts, joined for the claim: QWaitsW SortPair OPairs OPairs2 GRowK OComp GMap. -/
import Derived.Test.YtanfnejbnmenkaaGreatZB1
import Derived.Test.YtanfnejbnmenkaaGreatZB8
import Derived.Test.YtanfnejbnmenkaaGreatZB4
import Derived.Shelf.SlSortCmp.NoneTotal
import Derived.Ground.SlsfProg
import Derived.Test.YtanfnejbnmenkaaGreatProg
import Derived.Test.YtanfnejbnmenkaaGreatZB5
import Derived.Shelf.GgSortFunc.RowK
import Derived.Lib.SliceRun
import Derived.Lib.SlicesCompact
import Derived.Sort.OwnSorted
import Derived.Test.YtanfnejbnmenkaaGreatRows
import Derived.Shelf.RegionOpenPlain
import Derived.Deep.LoopGhost
import Derived.Lib.Walk
import Derived.Maps.OwnSet
import Derived.Maps.RangeWalk

section
/- The walks of queue.Waits and queue.Ready. (bel2) -/
namespace Go.Proofs.YtanfnejbnmenkaaGreat
open Go.RowKit Go.Sort
set_option linter.unusedSimpArgs false

namespace Od
theorem waitsQ_notmay {es : List Ed} {q : List Jb} {u : Str} (h : mayQ q = false) : waitsQ es q u = [] := by
  unfold waitsQ; split
  · rfl
  · rw [h]; simp
theorem waitsQ_none {es : List Ed} {q : List Jb} {u : Str} (h : jobOf q u = none) : waitsQ es q u = [] := by unfold waitsQ; rw [h]
theorem waitsQ_other {es : List Ed} {q : List Jb} {u : Str} {j : Jb} (h : jobOf q u = some j) (h1 : j.2.2.1 ≠ 1) : waitsQ es q u = [] := by unfold waitsQ; rw [h]; simp [h1]
theorem waitsQ_at {es : List Ed} {q : List Jb} {u : Str} {j : Jb} (h : jobOf q u = some j) (hm : mayQ q = true) (h1 : j.2.2.1 = 1) : waitsQ es q u = waitsJ es q j := by unfold waitsQ; rw [h]; simp [h1, hm]
theorem waitsJ_succ {es : List Ed} {q : List Jb} {j : Jb} {i : Nat} (hi : i < q.length) : waitsJ es (q.take (i + 1)) j = waitsJ es (q.take i) j ++ (if aheadJ es q[i] j = true then [q[i].1] else []) := by
  unfold waitsJ
  rw [filter_take_succ (p := fun x => aheadJ es x j) hi, List.map_append]
  split <;> simp
theorem waitsJ_len (es : List Ed) (q : List Jb) (j : Jb) (i : Nat) : (waitsJ es (q.take i) j).length ≤ q.length := by
  unfold waitsJ; rw [List.length_map]; exact filter_take_le
theorem waitsJ_len' (es : List Ed) (q : List Jb) (j : Jb) : (waitsJ es q j).length ≤ q.length := by
  unfold waitsJ; rw [List.length_map]; exact List.length_filter_le _ _
theorem OwnS.nil {w w' : World} (hb : Below w.heap.size w w') : OwnS [] w (.returned (.slice none 0 0)) w' := ⟨none, 0, rfl, World.ownsRow_nil _ _ _ _, hb⟩
theorem OwnS.of {ss : List Str} {w w0 w' : World} {v : Value} (h : w'.ownsRow w0.heap.size 9 1 v ss.length (svs ss)) (hz : w.heap.size ≤ w0.heap.size) (hb : Below w.heap.size w w') : OwnS ss w (.returned v) w' := by
  obtain ⟨A, c, rfl, _⟩ := own_rd h
  exact ⟨A, c, rfl, own_base h hz, hb⟩
set_option maxRecDepth 100000 in
set_option maxHeartbeats 16000000 in
theorem WaitsQ_any (An Ae : Option Addr) (nn cn ce : Nat) (es : List Ed) (A : Option Addr) (c : Nat) (q : List Jb) (u : Str) (w : World) (hr : Rd w w.heap.size 3 Ae es.length (edsC es)) (hq : Rd w w.heap.size 4 A q.length (jbsC q)) (hl : es.length ≤ 1000000) (hlq : q.length ≤ 1000000) (hok : OkJs q) :
    Calls Tryz.prog 24 #[gV An nn cn Ae es.length ce, .slice A q.length c, sv u] w (OwnS (waitsQ es q u) w) := by
  obtain ⟨i0, hi, hz0, hz1, hz2⟩ := info_parts infoS
  have Hr := Lib.hid hr
  have HQ := Lib.hid hq
  have HOk := Lib.hid hok
  clear hr hq hok
  go_enter Tryz.func24, Tryz.ntmps24
  go_wp2_with fail
  first | (refine wp_named ?_; intro W1 hW) | (refine calls_named ?_; intro W1 hW)
  have B1 : Below w.heap.size w W1 := by rw [hW]; exact (by repeat (first | exact Below.refl _ _ | assumption | refine Below.alloc ?_ (by first | omega | (simp <;> omega)) _ | refine Below.setCell ?_ (by first | omega | (simp <;> omega)) _ | refine Below.drew ?_))
  replace Hr := Lib.hid (Hr.out.at B1)
  replace HQ := Lib.hid (HQ.out.at B1)
  have n1 : w.heap.size < W1.heap.size := by rw [hW]; simp <;> omega
  have g0 : W1.cell? ⟨w.heap.size, 0, none⟩ = some (.slice An nn cn) := by rw [hW]; go_simp
  have g1 : W1.cell? ⟨w.heap.size, 1, none⟩ = some (.slice Ae es.length ce) := by rw [hW]; go_simp
  clear hW
  have HB := Lib.hid B1
  clear B1
  refine (find_any A c q u W1 HQ.out hlq).mono ?_
  rintro e w2 ⟨r, rfl, hcase, hb⟩
  have HC := Lib.hid hcase
  replace g0 := cellAt g0 hb (by omega)
  replace g1 := cellAt g1 hb (by omega)
  replace Hr := Lib.hid (Hr.out.at hb)
  replace HQ := Lib.hid (HQ.out.at hb)
  replace n1 : w.heap.size < w2.heap.size := ltAt n1 hb
  replace HB := Lib.hid (lift HB.out hb)
  clear hb hcase
  go_wp2_with fail
  refine (MayQ_any A c q w2 HQ.out (by omega) HOk.out).mono ?_
  rintro e w3 ⟨rfl, hb⟩
  replace g0 := cellAt g0 hb (by omega)
  replace g1 := cellAt g1 hb (by omega)
  replace Hr := Lib.hid (Hr.out.at hb)
  replace HQ := Lib.hid (HQ.out.at hb)
  replace n1 : w.heap.size < w3.heap.size := ltAt n1 hb
  replace HB := Lib.hid (lift HB.out hb)
  clear hb
  cases hm : mayQ q
  · have HW := Lib.hid (waitsQ_notmay (es := es) (u := u) hm)
    go_wp2_with fail
    go_ret
    rw [HW.out]
    exact OwnS.nil HB.out
  · have HM := Lib.hid hm
    rcases HC.out with ⟨rfl, hnone⟩ | ⟨k, hk, rfl, hfind, _, _⟩
    · have HW := Lib.hid (waitsQ_none (es := es) hnone)
      clear hnone
      go_wp2_with fail
      go_ret
      rw [HW.out]
      exact OwnS.nil HB.out
    · have hneg : decide ((k : Int) < 0) = false := by simp
      have hj : jobOf q u = some q[k] := hfind
      obtain ⟨b, o, hA, hB, y0, y1, y2, y3⟩ := HQ.out.job hk
      subst hA
      generalize q[k] = x at y0 y1 y2 y3 hj
      clear hfind
      obtain ⟨s', t', r', d'⟩ := x
      simp only at y0 y1 y2 y3
      have k1 : (0 : Int) ≤ (k : Int) := by omega
      have k2 : (k : Int) < (q.length : Int) := by omega
      clear HC
      by_cases r1 : r' = 1
      · have HW := Lib.hid (waitsQ_at (es := es) hj hm r1)
        subst r1
        have HJ := Lib.hid hj
        clear hj hm
        have hzw : w.heap.size ≤ w3.heap.size := HB.out.size
        go_wp2_with fail
        go_loopw [8, 31] (fun v i wr => ∃ m : Nat, m ≤ q.length ∧ i = .int .i64 m ∧ wr.ownsRow w3.heap.size 9 1 v (waitsJ es (q.take m) (s', t', 1, d')).length (svs (waitsJ es (q.take m) (s', t', 1, d'))) ∧ Below w3.heap.size w3 wr) (fun _ i _ => q.length - (intOf i).toNat)
        case atStart => exact ⟨0, Nat.zero_le _, rfl, World.ownsRow_nil _ _ _ _, Below.refl _ _⟩
        case round =>
          obtain ⟨m, hm, rfl, hown, hb⟩ := hrel
          have HOut := Lib.hid hown
          have Hb := Lib.hid hb
          clear hown
          replace g0 := cellAt g0 hb (by omega)
          replace g1 := cellAt g1 hb (by omega)
          replace y0 := cellAt y0 hb (by omega)
          replace y1 := cellAt y1 hb (by omega)
          replace y2 := cellAt y2 hb (by omega)
          replace y3 := cellAt y3 hb (by omega)
          replace Hr := Lib.hid (Hr.out.at hb)
          replace HQ := Lib.hid (HQ.out.at hb)
          replace n1 : w.heap.size < wr.heap.size := ltAt n1 hb
          replace HB := Lib.hid (lift HB.out hb)
          replace hB : b < wr.heap.size := ltAt hB hb
          clear hb
          by_cases hlt : m < q.length
          · obtain ⟨b2, o2, hA, hB2, x0, x1, x2, x3⟩ := HQ.out.job hlt
            injection hA with hA
            injection hA with hA1 hA2
            subst hA1 hA2
            have hsucc := waitsJ_succ (es := es) (j := (s', t', 1, d')) hlt
            have hln := waitsJ_len es q (s', t', 1, d') m
            generalize q[m] = x at x0 x1 x2 x3 hsucc
            obtain ⟨s, t, r, d⟩ := x
            simp only at x0 x1 x2 x3 hsucc
            have HS := Lib.hid hsucc
            clear hsucc
            have m1 : (0 : Int) ≤ (m : Int) := by omega
            have m2 : (m : Int) < (q.length : Int) := by omega
            go_wp2_with fail
            first | (refine wp_named ?_; intro W2 hW) | (refine calls_named ?_; intro W2 hW)
            have B2 : Below wr.heap.size wr W2 := by rw [hW]; exact (by repeat (first | exact Below.refl _ _ | assumption | refine Below.alloc ?_ (by first | omega | (simp <;> omega)) _ | refine Below.setCell ?_ (by first | omega | (simp <;> omega)) _ | refine Below.drew ?_))
            replace g0 := cellAt g0 B2 (by omega)
            replace g1 := cellAt g1 B2 (by omega)
            replace y0 := cellAt y0 B2 (by omega)
            replace y1 := cellAt y1 B2 (by omega)
            replace y2 := cellAt y2 B2 (by omega)
            replace y3 := cellAt y3 B2 (by omega)
            replace Hr := Lib.hid (Hr.out.at B2)
            replace HQ := Lib.hid (HQ.out.at B2)
            replace n1 : w.heap.size < W2.heap.size := ltAt n1 B2
            replace HB := Lib.hid (lift HB.out B2)
            replace hB : b < W2.heap.size := ltAt hB B2
            replace HOut := Lib.hid (own_on HOut.out B2)
            replace Hb := Lib.hid (lift Hb.out B2)
            have p1 : wr.heap.size < W2.heap.size := by rw [hW]; simp <;> omega
            have e0 : W2.cell? ⟨wr.heap.size, 0, none⟩ = some (sv s) := by rw [hW]; go_simp
            have e1 : W2.cell? ⟨wr.heap.size, 1, none⟩ = some (.int .i64 t) := by rw [hW]; go_simp
            have e2 : W2.cell? ⟨wr.heap.size, 2, none⟩ = some (.int .i64 r) := by rw [hW]; go_simp
            have e3 : W2.cell? ⟨wr.heap.size, 3, none⟩ = some (.int .i64 d) := by rw [hW]; go_simp
            clear hW
            clear B2
            try go_wp2_with fail
            refine wp_region_held_drew (S := fun w' => Below W2.heap.size W2 w') (by kernel_rfl) (Below.drew (Below.refl _ _)) (fun hHeld => ?_)
            refine tY (i := 0) (v := ?_) rfl ?_ hHeld ?_; rotate_left 1; focus (intro w' hSw; have hCell := fun (b o : Nat) (h : b < W2.heap.size) => hSw.cell (p := ⟨b, o, none⟩) h; clear hSw; go_simp; try with_reducible rfl)
            (try simp only [Act.put, zn1, zn2, zn3])
            refine tY (i := 1) (v := ?_) rfl ?_ hHeld ?_; rotate_left 1; focus (intro w' hSw; have hCell := fun (b o : Nat) (h : b < W2.heap.size) => hSw.cell (p := ⟨b, o, none⟩) h; clear hSw; go_simp; try with_reducible rfl)
            (try simp only [Act.put, zn1, zn2, zn3])
            refine tY (i := 2) (v := ?_) rfl ?_ hHeld ?_; rotate_left 1; focus (intro w' hSw; clear hSw; go_simp; try with_reducible rfl)
            (try simp only [Act.put, zn1, zn2, zn3])
            refine tY (i := 3) (v := ?_) rfl ?_ hHeld ?_; rotate_left 1; focus (intro w' hSw; clear hSw; go_simp; try with_reducible rfl)
            (try simp only [Act.put, zn1, zn2, zn3])
            refine tY (i := 4) (v := ?_) rfl ?_ hHeld ?_; rotate_left 1; focus (intro w' hSw; clear hSw; go_simp; try with_reducible rfl)
            (try simp only [Act.put, zn1, zn2, zn3])
            refine tY (i := 5) (v := ?_) rfl ?_ hHeld ?_; rotate_left 1; focus (intro w' hSw; have hCell := fun (b o : Nat) (h : b < W2.heap.size) => hSw.cell (p := ⟨b, o, none⟩) h; clear hSw; go_simp; try with_reducible rfl)
            (try simp only [Act.put, zn1, zn2, zn3])
            refine ready_one (i := 6) rfl (by kernel_rfl) (fun K hK => ?_)
            go_simp
            refine (aheadQ_any An Ae nn cn ce es s s' t r d t' 1 d' _ (Hr.out.at hHeld) hl).mono ?_
            rintro e v3 ⟨rfl, hb⟩
            refine hK.out _ _ ?_ (fun hHeld2 => ?_)
            · (try dsimp only); first | exact Below.trans hHeld (Below.mono hb hHeld.size) | exact hHeld | exact Below.drew hHeld | exact (by repeat (first | exact Below.refl _ _ | assumption | refine Below.alloc ?_ (by first | omega | (simp <;> omega)) _ | refine Below.setCell ?_ (by first | omega | (simp <;> omega)) _ | refine Below.drew ?_))
            clear hK K hHeld; have hHeld := hHeld2; clear hHeld2; (try simp only [Act.put, zn1, zn2, zn3])
            refine wpAnyH_done (by kernel_rfl) ?_ _
            replace g0 := cellAt g0 hHeld (by omega)
            replace g1 := cellAt g1 hHeld (by omega)
            replace y0 := cellAt y0 hHeld (by omega)
            replace y1 := cellAt y1 hHeld (by omega)
            replace y2 := cellAt y2 hHeld (by omega)
            replace y3 := cellAt y3 hHeld (by omega)
            replace e0 := cellAt e0 hHeld (by omega)
            replace e1 := cellAt e1 hHeld (by omega)
            replace e2 := cellAt e2 hHeld (by omega)
            replace e3 := cellAt e3 hHeld (by omega)
            replace Hr := Lib.hid (Hr.out.at hHeld)
            replace HQ := Lib.hid (HQ.out.at hHeld)
            replace n1 : w.heap.size < v3.heap.size := ltAt n1 hHeld
            replace HB := Lib.hid (lift HB.out hHeld)
            replace hB : b < v3.heap.size := ltAt hB hHeld
            replace HOut := Lib.hid (own_on HOut.out hHeld)
            replace Hb := Lib.hid (lift Hb.out hHeld)
            replace p1 : wr.heap.size < v3.heap.size := ltAt p1 hHeld
            clear hHeld
            have hzb : w3.heap.size ≤ v3.heap.size := Hb.out.size
            cases hah : aheadJ es (s, t, r, d) (s', t', 1, d')
            · have HS2 := Lib.hid (show waitsJ es (q.take (m + 1)) (s', t', 1, d') = waitsJ es (q.take m) (s', t', 1, d') by rw [HS.out, hah]; simp)
              go_wp2_with fail
              go_roundw
              case rel => exact ⟨m + 1, by omega, by go_num, by rw [HS2.out]; exact HOut.out, Hb.out⟩
              case measure => simp [intOf]; omega
            · have HS2 := Lib.hid (show waitsJ es (q.take (m + 1)) (s', t', 1, d') = waitsJ es (q.take m) (s', t', 1, d') ++ [s] by rw [HS.out, hah]; simp)
              have h63 : (waitsJ es (q.take m) (s', t', 1, d')).length + 1 ≤ maxLen := by unfold maxLen; omega
              have hby : ((waitsJ es (q.take m) (s', t', 1, d')).length + 1) * 16 ≤ 140737488355328 := by omega
              go_wp2_with (first | (at_builtin; refine wpList_pushm w3 v3 (by rfl) (.tmp 42) (.tmp 45) 37 (by rfl) w3.heap.size 9 i0 _ 1 16 Tryz.underlying37 hi hz0 hz1 hz2 rfl (by decide) _ _ _ (by rfl) HOut.out [sv s] v3.heap.size rfl (by rfl) rfl (one_sv s) h63 hby hzb Hb.out ?_; intro A8 c8 w4 hown4 hbel4 hg4 hat4) | fail)
              go_roundw
              case rel => exact ⟨m + 1, by omega, by go_num, by rw [HS2.out]; simpa [svs] using hown4, hbel4⟩
              case measure => simp [intOf]; omega
          · have hmq : m = q.length := by omega
            have ho := HOut.out
            rw [hmq, List.take_length] at ho
            have HO2 := Lib.hid ho
            clear ho
            go_wp2_with fail
            go_ret
            rw [HW.out]
            exact OwnS.of HO2.out hzw (HB.out)
      · have HW := Lib.hid (waitsQ_other (es := es) hj r1)
        have rb : (r' == 1) = false := by simpa using r1
        clear hj
        go_wp2_with fail
        go_ret
        rw [HW.out]
        exact OwnS.nil HB.out
end Od
end Go.Proofs.YtanfnejbnmenkaaGreat
end

section
/-
  DERIVED: THE SHELF's CONTRACTS AT THIS DUMP, IN PLAIN WORDS (tools/lay-plain.mjs out of 'TryzSortPair.lean', which tools/lay-shelf.mjs wrote): THE SAME DECLARATIONS UNDER THE SAME NAMES: 'import', 'namespace', 'open', 'def', 'theorem' AND NOTHING ELSE: no command of the shelf's: FOR A HAND-IN. Each laying: the table of numbers ('.._ren') and one theorem, a field a fact of the dump's own or the kernel's comparison; each contract: ONE APPLICATION.
-/
namespace Go.Proofs.YtanfnejbnmenkaaGreat
open Go.Shelf
def Tryz.sortPair_ren : Go.Shelf.Ren := ⟨fun | 6 => 122 | 15 => 113 | 14 => 146 | 28 => 137 | 29 => 138 | 20 => 160 | 21 => 161 | 22 => 162 | 23 => 163 | 24 => 164 | 25 => 165 | 26 => 166 | 27 => 167 | 46 => 175 | 47 => 150 | 48 => 151 | 49 => 176 | 50 => 177 | 57 => 189 | n => n, fun | 22 => 123 | 24 => 79 | 25 => 141 | 3 => 3 | 39 => 133 | 0 => 0 | 53 => 154 | 55 => 156 | 4 => 4 | 46 => 148 | 45 => 147 | 50 => 73 | 5 => 5 | 9 => 9 | 66 => 162 | 70 => 166 | 76 => 176 | 77 => 177 | n => n, fun | n => n⟩
theorem Tryz.sortPair : Go.Proofs.SlLaysF0.n6 Tryz.prog Tryz.sortPair_ren := {
  mixed := by kernel_rfl
  f6 := ⟨Tryz.f122.name, by decide, Tryz.func122.trans (congrArg some (by kernel_rfl))⟩
  f14 := ⟨Tryz.f146.name, by decide, Tryz.func146.trans (congrArg some (by kernel_rfl))⟩
  f15 := Tryz.func113.trans (congrArg some (by kernel_rfl))
  f20 := ⟨Tryz.f160.name, by decide, Tryz.func160.trans (congrArg some (by kernel_rfl))⟩
  f21 := ⟨Tryz.f161.name, by decide, Tryz.func161.trans (congrArg some (by kernel_rfl))⟩
  f22 := ⟨Tryz.f162.name, by decide, Tryz.func162.trans (congrArg some (by kernel_rfl))⟩
  f23 := ⟨Tryz.f163.name, by decide, Tryz.func163.trans (congrArg some (by kernel_rfl))⟩
  f24 := ⟨Tryz.f164.name, by decide, Tryz.func164.trans (congrArg some (by kernel_rfl))⟩
  f25 := ⟨Tryz.f165.name, by decide, Tryz.func165.trans (congrArg some (by kernel_rfl))⟩
  f26 := ⟨Tryz.f166.name, by decide, Tryz.func166.trans (congrArg some (by kernel_rfl))⟩
  f27 := ⟨Tryz.f167.name, by decide, Tryz.func167.trans (congrArg some (by kernel_rfl))⟩
  f28 := Tryz.func137.trans (congrArg some (by kernel_rfl))
  f29 := Tryz.func138.trans (congrArg some (by kernel_rfl))
  f46 := ⟨Tryz.f175.name, by decide, Tryz.func175.trans (congrArg some (by kernel_rfl))⟩
  f47 := Tryz.func150.trans (congrArg some (by kernel_rfl))
  f48 := Tryz.func151.trans (congrArg some (by kernel_rfl))
  f49 := ⟨Tryz.f176.name, by decide, Tryz.func176.trans (congrArg some (by kernel_rfl))⟩
  f50 := ⟨Tryz.f177.name, by decide, Tryz.func177.trans (congrArg some (by kernel_rfl))⟩
  f57 := ⟨Tryz.f189.name, by decide, Tryz.func189.trans (congrArg some (by kernel_rfl))⟩
  t0 := Tryz.underlying0
  a0 := Tryz.isAgg0
  z0 := Tryz.sizeOf0
  v0 := Tryz.zeroValue0
  t3 := Tryz.underlying3
  a3 := Tryz.isAgg3
  z3 := Tryz.sizeOf3
  v3 := Tryz.zeroValue3
  t4 := Tryz.underlying4
  a4 := Tryz.isAgg4
  z4 := Tryz.sizeOf4
  v4 := Tryz.zeroValue4
  t5 := Tryz.underlying5
  a5 := Tryz.isAgg5
  z5 := Tryz.sizeOf5
  v5 := Tryz.zeroValue5
  t9 := Tryz.underlying9
  a9 := Tryz.isAgg9
  z9 := Tryz.sizeOf9
  v9 := Tryz.zeroValue9
  t22 := Tryz.underlying123
  a22 := Tryz.isAgg123
  z22 := Tryz.sizeOf123
  v22 := Tryz.zeroValue123
  t25 := Tryz.underlying141
  a25 := Tryz.isAgg141
  z25 := Tryz.sizeOf141
  v25 := Tryz.zeroValue141
  t39 := Tryz.underlying133
  a39 := Tryz.isAgg133
  z39 := Tryz.sizeOf133
  v39 := Tryz.zeroValue133
  t45 := Tryz.underlying147
  a45 := Tryz.isAgg147
  z45 := Tryz.sizeOf147
  v45 := Tryz.zeroValue147
  t46 := Tryz.underlying148
  a46 := Tryz.isAgg148
  z46 := Tryz.sizeOf148
  v46 := Tryz.zeroValue148
  t50 := Tryz.underlying73
  a50 := Tryz.isAgg73
  z50 := Tryz.sizeOf73
  v50 := Tryz.zeroValue73
  t53 := Tryz.underlying154
  a53 := Tryz.isAgg154
  z53 := Tryz.sizeOf154
  v53 := Tryz.zeroValue154
  t55 := Tryz.underlying156
  a55 := Tryz.isAgg156
  z55 := Tryz.sizeOf156
  v55 := Tryz.zeroValue156
  t66 := Tryz.underlying162
  a66 := Tryz.isAgg162
  z66 := Tryz.sizeOf162
  v66 := Tryz.zeroValue162
  t70 := Tryz.underlying166
  a70 := Tryz.isAgg166
  z70 := Tryz.sizeOf166
  v70 := Tryz.zeroValue166
  t76 := Tryz.underlying176
  a76 := Tryz.isAgg176
  z76 := Tryz.sizeOf176
  v76 := Tryz.zeroValue176
  t77 := Tryz.underlying177
  a77 := Tryz.isAgg177
  z77 := Tryz.sizeOf177
  v77 := Tryz.zeroValue177 }
end Go.Proofs.YtanfnejbnmenkaaGreat
end

section
/- The walk of what tells which of two pairs stands ahead; the sort of a row of pairs. -/
namespace Go.Proofs.YtanfnejbnmenkaaGreat
open Go.RowKit Go.Sort Go.Lib

namespace Od
def pairCmp (p q : Pr) : Int := orI [cmpS p.1 q.1, cmpS p.2 q.2]
theorem grow_drew (w : World) (os : Array Obj) : (grow w os).drew = grow w.drew os := rfl
def GrowInt (v : Int) (w : World) (e : Ending) (w' : World) : Prop := e = .returned (.int .i64 v) ∧ ∃ q os', w' = grow (w.drewN q) os'
set_option maxRecDepth 100000 in
set_option maxHeartbeats 1000000 in
theorem pairs1_any (a b a' b' : Str) (w : World) :
    Calls Tryz.prog 123 #[.agg #[sv a, sv b], .agg #[sv a', sv b']] w (GrowInt (pairCmp (a, b) (a', b')) w) := by
  have h3 : Rd ((((w.alloc (.cells #[sv a, sv b] 79)).alloc (.cells #[sv a', sv b'] 79)).alloc (.cells #[.int .i64 (cmpS a a'), .int .i64 (cmpS b b')] 3)).drew) ((((w.alloc (.cells #[sv a, sv b] 79)).alloc (.cells #[sv a', sv b'] 79)).alloc (.cells #[.int .i64 (cmpS a a'), .int .i64 (cmpS b b')] 3)).drew).heap.size 1 (some ⟨w.heap.size + 1 + 1, 0, none⟩) 2 (ints [cmpS a a', cmpS b b']) := by
    have h := (Rd.lit ((w.alloc (.cells #[sv a, sv b] 79)).alloc (.cells #[sv a', sv b'] 79)) (ints [cmpS a a', cmpS b b']) 3 1 2 rfl).drew
    simp only [World.size_alloc] at h
    exact h.more (by simp)
  have H3 := Lib.hid h3
  clear h3
  go_enter Tryz.func123, Tryz.ntmps123
  go_wp2_with fail
  go_region_held3 (fun w' => w'.cell? ⟨w.heap.size, 0, none⟩ = some (sv a) ∧ w'.cell? ⟨w.heap.size, 1, none⟩ = some (sv b) ∧ w'.cell? ⟨w.heap.size + 1, 0, none⟩ = some (sv a') ∧ w'.cell? ⟨w.heap.size + 1, 1, none⟩ = some (sv b')) (go_keep)
    (first | (go_at_call 93; refine (CompareS_any _ _ _).mono ?_; rintro e w' ⟨rfl, rfl⟩) | (go_at_call 98; refine (Or_any (some ⟨w.heap.size + 1 + 1, 0, none⟩) 2 [cmpS a a', cmpS b b'] _ H3.out (by simp)).mono ?_; rintro e w' ⟨rfl, rfl⟩))
  go_wp2_with fail
  go_ret
  exact ⟨rfl, 1, _, by rw [alloc_eq_grow, alloc_eq_grow, alloc_eq_grow, grow_grow, grow_grow, grow_drew]; rfl⟩
theorem pairCmp_lt (p q : Pr) : ltOf pairCmp p q = ltP p q := by
  unfold ltOf pairCmp ltP
  have hs : ∀ a b : Str, cmpS a b = if ltS a b = true then -1 else if a = b then 0 else 1 := fun _ _ => rfl
  rw [hs, hs]
  by_cases h1 : ltS p.1 q.1 = true
  · simp [h1, orI]
  · by_cases h2 : p.1 = q.1
    · rw [h2] at h1
      by_cases h3 : ltS p.2 q.2 = true
      · simp [h1, h2, h3, orI]
      · by_cases h4 : p.2 = q.2
        · rw [h4] at h3
          simp [h1, h2, h3, h4, orI]
        · simp [h1, h2, h3, h4, orI]
    · simp [h1, h2, orI]
theorem pairCmp_fun : ltOf pairCmp = ltP := by funext p q; exact pairCmp_lt p q
theorem swoP : SWO (ltOf pairCmp) where
  irrefl x := by rw [pairCmp_fun]; exact toP.irrefl x
  trans x y z h1 h2 := by rw [pairCmp_fun] at *; exact toP.trans h1 h2
  ntrans x y z h1 h2 := by
    rw [pairCmp_fun] at *
    cases h : ltP x z
    · rfl
    · exfalso
      cases h3 : ltP y x
      · rw [toP.total h1 h3] at h; rw [h] at h2; cases h2
      · have := toP.trans h3 h; rw [this] at h2; cases h2
end Od
end Go.Proofs.YtanfnejbnmenkaaGreat
end

section
/- The sort of a row of pairs of the call's own. -/
namespace Go.Proofs.YtanfnejbnmenkaaGreat
open Go.RowKit Go.Sort Go.Lib Go.Shelf

namespace Od
theorem prsC_len (ps : List Pr) : (prsC ps).length = ps.length * 2 := flat_len prC 2 prC_len ps
theorem flatK_prs (ps : List Pr) : flatK prC 2 ps.toArray = (prsC ps).toArray := by
  refine ext_get! (by simp [prsC_len]) fun t ht => ?_
  have ht' : t < ps.length * 2 := by simpa using ht
  rw [get_flatK _ _ _ t (by simpa using ht')]
  have hi : t / 2 < ps.length := by omega
  have h := flat_at prC 2 prC_len ps (t / 2) (t % 2) hi (by omega)
  rw [show t / 2 * 2 + t % 2 = t by omega] at h
  have e1 : ps.toArray[t / 2]! = ps[t / 2] := by simp [hi]
  rw [e1]
  have e2 : (prsC ps).toArray[t]! = ((prsC ps)[t]?).getD default := by simp [List.getElem!_eq_getElem?_getD]
  rw [e2, show (prsC ps)[t]? = (prC ps[t / 2])[t % 2]? from h]
  simp [List.getElem!_eq_getElem?_getD]

theorem heap_row {w : World} {g n : Nat} {os : Array Obj} {cur : Array Value} {e : TypeId} {fr : Nat × Nat} (F : Array Value) (hb : w.heap[g]? = some (.cells cur e fr)) :
    (grow (putRow id (Sort.ahead w n) g 0 F) os).heap[g]? = some (.cells (putCells id 0 F cur) e fr) := by
  have hg : g < w.heap.size := (Array.getElem?_eq_some_iff.1 hb).1
  rw [heap_grow_old _ _ (by simpa using hg)]
  simp [putRow, mapBlock, Sort.ahead, Array.getElem?_modify, hb, onCells]
theorem grownBy_row {w : World} {g n : Nat} {os : Array Obj} (F : Array Value) : w.grownBy (grow (putRow id (Sort.ahead w n) g 0 F) os) (some g) := by
  refine ⟨rfl, rfl, rfl, by simp, fun k hk hne => ?_⟩
  rw [heap_grow_old _ _ (by simpa using hk)]
  have : g ≠ k := fun e => hne (by rw [e])
  simp [putRow, mapBlock, Sort.ahead, Array.getElem?_modify, this]
theorem take_putCellsI (cur : Array Value) (xs : List Value) (h : xs.length ≤ cur.size) : (putCells id 0 xs.toArray cur).toList.take xs.length = xs := by
  apply List.ext_getElem?
  intro j
  by_cases hj : j < xs.length
  · rw [List.getElem?_take_of_lt hj, Array.getElem?_toList]
    simp [putCells, hj, show j < cur.size by omega]
  · rw [List.getElem?_take_eq_none (by omega), List.getElem?_eq_none (by omega)]
theorem holds_row {w : World} {g : Nat} {cur : Array Value} {e : TypeId} {xs : List Value} (hb : w.heap[g]? = some (.cells cur e (0, 0))) (ht : cur.toList.take xs.length = xs) : Holds id w g 0 xs.toArray := by
  intro j hj
  have hj' : j < xs.length := by simpa using hj
  refine ⟨?_, by simp [World.frozen?, hb]⟩
  have h1 : (cur.toList.take xs.length)[j]? = xs[j]? := by rw [ht]
  rw [List.getElem?_take_of_lt hj'] at h1
  simp only [World.cell?, hb, Nat.zero_add]
  simp only [Option.isSome_none, Bool.false_eq_true, if_false]
  rw [← Array.getElem?_toList, h1]
  simp [hj']

def sortP (ps : List Pr) : List Pr := ps.mergeSort fun x y => !ltP y x
theorem sortP_len (ps : List Pr) : (sortP ps).length = ps.length := by simp [sortP]
theorem mem_sortP {ps : List Pr} {p : Pr} : p ∈ sortP ps ↔ p ∈ ps := (List.mergeSort_perm _ _).mem_iff
theorem sortP_le (ps : List Pr) : LE ltP (sortP ps) := by
  have h := List.pairwise_mergeSort (le := fun x y => !ltP y x) (fun a b c h1 h2 => by
    simp only [Bool.not_eq_true'] at *
    have := swoP.ntrans (x := c) (y := b) (z := a)
    rw [pairCmp_fun] at this
    exact this h2 h1) (fun a b => by
    cases h1 : ltP b a
    · simp
    · cases h2 : ltP a b
      · simp
      · have := toP.trans h1 h2; rw [toP.irrefl] at this; cases this) ps
  exact h.imp fun {a b} hab => by simpa using hab

set_option maxHeartbeats 1000000 in
theorem sortP_own (base c : Nat) (A : Option Addr) (ps : List Pr) (w : World) (h : w.ownsRow base 79 2 (.slice A ps.length c) ps.length (prsC ps)) (hsz : ps.length ≤ 1000000) :
    Calls Tryz.prog 122 #[.slice A ps.length c, .func (.func 123) #[] #[]] w fun e w' => e = .returned (.tuple #[]) ∧ w'.ownsRow base 79 2 (.slice A ps.length c) ps.length (prsC (sortP ps)) ∧ w.grownBy w' (Value.slice A ps.length c).ownBlock := by
  rcases h.2 with ⟨hv, hn⟩ | ⟨g, cap, cur, hv, hg, hb, h1, h2, h3, h4⟩
  · have hnil : ps = [] := List.length_eq_zero_iff.1 hn
    subst hnil
    refine (show Calls Tryz.prog 122 _ w _ from AnyF.slices_SortFunc_none Tryz.sortPair A c _ w).mono ?_
    rintro e w' ⟨rfl, rfl⟩
    exact ⟨rfl, by simpa [sortP] using h, World.grownBy.refl _ _⟩
  · injection hv with e1 _ e3
    subst e1 e3
    have hgl : g < w.heap.size := (Array.getElem?_eq_some_iff.1 hb).1
    have hlen := prsC_len ps
    have eg : ∀ args w, (callFunc 123 args).run Tryz.prog w = .ok (.enter 123 args) w := enters_of Tryz.func123 (by kernel_rfl) rfl
    have hH : HoldsK prC 2 w g 0 ps.toArray := by
      unfold HoldsK
      rw [flatK_prs]
      exact holds_row hb (by rw [hlen]; exact h4)
    have hcon := AnyQ.slices_SortFunc_total (P := Tryz.prog) Tryz.sortPair 2 (by intro w; exact Tryz.isAgg79 w) (by intro w; exact Tryz.sizeOf79 w) prC prC_len (fun x v hv => by simp [prC] at hv; rcases hv with rfl | rfl <;> rfl) pairCmp swoP 123 #[] g 0 c ps.toArray w eg
      (fun _ _ _ _ x y => pairs1_any x.1 x.2 y.1 y.2 _) hH hgl (by simp; omega) (by intro x y hx hy; rw [pairCmp_fun] at hx hy; exact toP.total hx hy)
    change Calls Tryz.prog 122 _ _ _ at hcon
    simp only [List.size_toArray] at hcon
    refine hcon.mono ?_
    rintro e w' ⟨rfl, n, os, rfl⟩
    have hsort : (ps.mergeSort fun x y => !(ltOf pairCmp) y x) = sortP ps := by rw [pairCmp_fun]; rfl
    unfold sortWorldK putRowK
    rw [hsort, flatK_prs]
    have hl2 : (prsC (sortP ps)).length = ps.length * 2 := by rw [prsC_len, sortP_len]
    refine ⟨rfl, ⟨hl2, .inr ⟨g, c, _, rfl, hg, heap_row _ hb, h1, h2, by simp [putCells, h3], ?_⟩⟩, grownBy_row _⟩
    rw [← hl2]
    exact take_putCellsI cur _ (by omega)
end Od
end Go.Proofs.YtanfnejbnmenkaaGreat
end

section
/- Rows of elements of several cells, in the sort's words (putRowK, HoldsK) and in the walks' words (ownsRow). No program. -/
namespace Go.Proofs.YtanfnejbnmenkaaGreat
open Go.RowKit Go.Sort Go.Lib

section
variable {α : Type} [Inhabited α] {enc : α → List Value} {k : Nat}

theorem flatK_list (hk : ∀ x, (enc x).length = k) (hk0 : 0 < k) (ps : List α) : flatK enc k ps.toArray = (ps.flatMap enc).toArray := by
  have hl := flat_len enc k hk ps
  refine ext_get! (by simp [hl]) fun t ht => ?_
  have ht' : t < ps.length * k := by simpa using ht
  rw [get_flatK _ _ _ t (by simpa using ht')]
  have hi : t / k < ps.length := by rw [Nat.div_lt_iff_lt_mul hk0]; exact ht'
  have hm : t % k < k := Nat.mod_lt _ hk0
  have h := flat_at enc k hk ps (t / k) (t % k) hi hm
  rw [show t / k * k + t % k = t from by rw [Nat.mul_comm]; exact Nat.div_add_mod t k] at h
  have e1 : ps.toArray[t / k]! = ps[t / k] := by simp [hi]
  rw [e1]
  have e2 : (ps.flatMap enc).toArray[t]! = ((ps.flatMap enc)[t]?).getD default := by simp [List.getElem!_eq_getElem?_getD]
  rw [e2, h]
  simp [List.getElem!_eq_getElem?_getD]
theorem rowk_heap {w : World} {g n : Nat} {os : Array Obj} {cur : Array Value} {e : TypeId} {fr : Nat × Nat} (F : Array Value) (hb : w.heap[g]? = some (.cells cur e fr)) :
    (grow (putRow id (Sort.ahead w n) g 0 F) os).heap[g]? = some (.cells (putCells id 0 F cur) e fr) := by
  have hg : g < w.heap.size := (Array.getElem?_eq_some_iff.1 hb).1
  rw [heap_grow_old _ _ (by simpa using hg)]
  simp [putRow, mapBlock, Sort.ahead, Array.getElem?_modify, hb, onCells]
theorem rowk_grownBy {w : World} {g n : Nat} {os : Array Obj} (F : Array Value) : w.grownBy (grow (putRow id (Sort.ahead w n) g 0 F) os) (some g) := by
  refine ⟨rfl, rfl, rfl, by simp, fun k hk hne => ?_⟩
  rw [heap_grow_old _ _ (by simpa using hk)]
  have : g ≠ k := fun e => hne (by rw [e])
  simp [putRow, mapBlock, Sort.ahead, Array.getElem?_modify, this]
theorem rowk_take (cur : Array Value) (xs : List Value) (h : xs.length ≤ cur.size) : (putCells id 0 xs.toArray cur).toList.take xs.length = xs := by
  apply List.ext_getElem?
  intro j
  by_cases hj : j < xs.length
  · rw [List.getElem?_take_of_lt hj, Array.getElem?_toList]
    simp [putCells, hj, show j < cur.size by omega]
  · rw [List.getElem?_take_eq_none (by omega), List.getElem?_eq_none (by omega)]
theorem rowk_holds {w : World} {g : Nat} {cur : Array Value} {e : TypeId} {xs : List Value} (hb : w.heap[g]? = some (.cells cur e (0, 0))) (ht : cur.toList.take xs.length = xs) : Holds id w g 0 xs.toArray := by
  intro j hj
  have hj' : j < xs.length := by simpa using hj
  refine ⟨?_, by simp [World.frozen?, hb]⟩
  have h1 : (cur.toList.take xs.length)[j]? = xs[j]? := by rw [ht]
  rw [List.getElem?_take_of_lt hj'] at h1
  simp only [World.cell?, hb, Nat.zero_add]
  simp only [Option.isSome_none, Bool.false_eq_true, if_false]
  rw [← Array.getElem?_toList, h1]
  simp [hj']

theorem setMany_row (hk : ∀ x, (enc x).length = k) (hk0 : 0 < k) (d : Array α) (i : Nat) (hi : i < d.size) (x : α) : setMany (flatK enc k d) (i * k) (enc x) = flatK enc k (d.setIfInBounds i x) := by
  refine ext_get! (by simp) fun t ht => ?_
  have ht' : t < d.size * k := by simpa using ht
  rw [get_setMany _ _ _ t (by simpa using ht'), get_flatK _ _ _ t ht', get_flatK _ _ _ t (by simpa using ht')]
  rw [hk]
  have hdm := Nat.div_add_mod t k
  have hm : t % k < k := Nat.mod_lt _ hk0
  by_cases h : t / k = i
  · subst h
    rw [Nat.mul_comm] at hdm
    rw [if_pos (by omega), getElem!_set_same d _ x hi]
    congr 1
    omega
  · rw [getElem!_set_other d i (t / k) x h, if_neg]
    intro hc
    apply h
    have h1 : i ≤ t / k := (Nat.le_div_iff_mul_le hk0).2 hc.1
    have h2 : t / k < i + 1 := by rw [Nat.div_lt_iff_lt_mul hk0, Nat.add_mul]; omega
    omega
theorem putRowK_store (hk : ∀ x, (enc x).length = k) (hk0 : 0 < k) {W wr : World} {blk off : Nat} {dk : Array α} {i : Nat} (hi : i < dk.size) (hwr : wr = putRowK enc k W blk off dk) (x : α) :
    wr.setCells blk (off + i * k) (enc x) = putRowK enc k W blk off (dk.setIfInBounds i x) := by
  subst hwr
  unfold putRowK
  rw [setCells_putRow _ _ _ _ _ _ (by rw [hk, size_flatK]; calc i * k + k = (i + 1) * k := by rw [Nat.add_mul]; omega
    _ ≤ dk.size * k := Nat.mul_le_mul_right _ hi), setMany_row hk hk0 dk i hi x]
theorem setCells_app (w : World) (b : Nat) : ∀ (xs ys : List Value) (o : Nat), w.setCells b o (xs ++ ys) = (w.setCells b o xs).setCells b (o + xs.length) ys := by
  intro xs
  induction xs generalizing w with
  | nil => intro ys o; simp [World.setCells]
  | cons x r ih => intro ys o; simp only [List.cons_append, World.setCells, List.length_cons]; rw [ih, show o + 1 + r.length = o + (r.length + 1) by omega]
theorem putRowK_lay (hk : ∀ x, (enc x).length = k) (hk0 : 0 < k) (W : World) (blk off : Nat) : ∀ (xs : List α) (dk : Array α) (i : Nat), i + xs.length ≤ dk.size → (putRowK enc k W blk off dk).setCells blk (off + i * k) (xs.flatMap enc) = putRowK enc k W blk off (lay dk i xs)
  | [], _, _, _ => by simp [World.setCells, lay]
  | x :: r, dk, i, h => by
    have hl : i + (r.length + 1) ≤ dk.size := by simpa using h
    rw [List.flatMap_cons, setCells_app, putRowK_store hk hk0 (by omega) rfl x, hk, show off + i * k + k = off + (i + 1) * k from by rw [Nat.add_mul]; omega, putRowK_lay hk hk0 W blk off r _ (i + 1) (by simp; omega), lay]

/-- What is owned, in the sort's words. -/
theorem own_holdsK (hk : ∀ x, (enc x).length = k) (hk0 : 0 < k) {w : World} {g : Nat} {cur : Array Value} {e : TypeId} {ps : List α} (hb : w.heap[g]? = some (.cells cur e (0, 0))) (ht : cur.toList.take (ps.length * k) = ps.flatMap enc) : HoldsK enc k w g 0 ps.toArray := by
  unfold HoldsK
  rw [flatK_list hk hk0]
  exact rowk_holds hb (by rw [flat_len enc k hk]; exact ht)
/-- What the sort's words leave, owned: the first m elements of what was laid. -/
theorem own_of_putRowK (hk : ∀ x, (enc x).length = k) (hk0 : 0 < k) {w : World} {base g c n q : Nat} {e : TypeId} {cur : Array Value} {ps : List α} {os : Array Obj} (hg : base ≤ g) (hb : w.heap[g]? = some (.cells cur e (0, 0))) (hc : n ≤ c) (hm : c ≤ maxLen) (hs : cur.size = c * k)
    (hn : n ≤ ps.length) (hp : ps.length ≤ c) : (grow (putRowK enc k (Sort.ahead w q) g 0 ps.toArray) os).ownsRow base e k (.slice (some ⟨g, 0, none⟩) n c) n ((ps.take n).flatMap enc) := by
  have hl := flat_len enc k hk ps
  have hl2 := flat_len enc k hk (ps.take n)
  rw [List.length_take, Nat.min_eq_left hn] at hl2
  unfold putRowK
  rw [flatK_list hk hk0]
  refine ⟨hl2, .inr ⟨g, c, _, rfl, hg, rowk_heap _ hb, hc, hm, by simp [putCells, hs], ?_⟩⟩
  have h1 := rowk_take cur (ps.flatMap enc) (by rw [hl, hs]; exact Nat.mul_le_mul_right _ hp)
  have h2 := congrArg (List.take (n * k)) h1
  have hle : n * k ≤ ps.length * k := Nat.mul_le_mul_right _ hn
  rw [List.take_take, Nat.min_eq_left (by omega)] at h2
  rw [h2]
  have : ps.flatMap enc = (ps.take n).flatMap enc ++ (ps.drop n).flatMap enc := by rw [← List.flatMap_append, List.take_append_drop]
  rw [this, List.take_append_of_le_length (by omega), List.take_of_length_le (by omega)]
end
end Go.Proofs.YtanfnejbnmenkaaGreat
end

section
/- The walk of slices.Compact at pairs of texts. -/
namespace Go.Proofs.YtanfnejbnmenkaaGreat
open Go.RowKit Go.Sort Go.Lib Go.Shelf

namespace Od
theorem mixed_ : Tryz.prog.follows .mixedOrders = true := by kernel_rfl
theorem run_clear_pairs (w : World) (ty : TypeId) (b o n c : Nat) (hn : 0 < n) (hc : ∀ j, j < n * 2 → (w.cell? ⟨b, o + j, none⟩).isSome = true) (hf : ∀ j, j < n * 2 → w.frozen? ⟨b, o + j, none⟩ = false) :
    (Builtin.clear_ #[123] ty #[.slice (some ⟨b, o, none⟩) n c]).run Tryz.prog w = .ok (.tuple #[]) (w.setCells b o (List.replicate (n * 2) (sv []))) := by
  have hzc : (Builtin.zeroCells #[sv [], sv []] n).toList = List.replicate (n * 2) (sv []) := by
    simp [Builtin.zeroCells]
    apply List.ext_getElem
    · simp
    · intro i h1 h2
      rcases (show i % 2 = 0 ∨ i % 2 = 1 by omega) with h | h <;> simp [h]
  have hst := run_storeCells_cells (P := Tryz.prog) b o (List.replicate (n * 2) (sv [])) 0 w (by simpa using hc) (by simpa using hf) (by intro v hv'; rw [List.eq_of_mem_replicate hv']; rfl)
  simp only [Nat.add_zero] at hst
  have hzv : ∀ W, (zeroValue 79).run Tryz.prog W = .ok (.agg #[sv [], sv []]) W := fun W => Tryz.zeroValue79 W
  obtain ⟨m, rfl⟩ : ∃ m, n = m + 1 := ⟨n - 1, by omega⟩
  simp [Builtin.clear_, run_underlying Tryz.underlying123, hzv, Value.cells, hzc, hst]

theorem pcells {w : World} {blk off : Nat} {d : Array Pr} (h : HoldsK prC 2 w blk off d) {i : Nat} (hi : i < d.size) :
    w.cell? ⟨blk, off + i * 2, none⟩ = some (sv d[i]!.1) ∧ w.cell? ⟨blk, off + i * 2 + 1, none⟩ = some (sv d[i]!.2) ∧ w.frozen? ⟨blk, off + i * 2, none⟩ = false ∧ w.frozen? ⟨blk, off + i * 2 + 1, none⟩ = false :=
  ⟨(h.cell hi (c := 0) (by omega)).1, (h.cell hi (c := 1) (by omega)).1, (h.cell hi (c := 0) (by omega)).2, (h.cell hi (c := 1) (by omega)).2⟩

theorem store_pair_drew {w wr : World} {n blk off : Nat} {dk : Array Pr} {i : Nat} (hi : i < dk.size) (hwr : wr = putRowK prC 2 (Sort.ahead w n) blk off dk) (x : Pr) :
    ((wr.setCell ⟨blk, off + i * 2, none⟩ (sv x.1)).setCell ⟨blk, off + i * 2 + 1, none⟩ (sv x.2)).drew = putRowK prC 2 (Sort.ahead w (n + 1)) blk off (dk.setIfInBounds i x) := by
  show (wr.setCells blk (off + i * 2) (prC x)).drew = _
  rw [putRowK_store prC_len (by decide) hi hwr x]
  rfl

def CompactPost (blk off cap : Nat) (d : Array Pr) (w : World) (e : Ending) (w' : World) : Prop :=
  e = .returned (.slice (some ⟨blk, off, none⟩) (compactUpTo d d.size).length cap) ∧ ∃ q, w' = putRowK prC 2 (Sort.ahead w q) blk off (compactUpTo d d.size ++ List.replicate (d.size - (compactUpTo d d.size).length) ([], [])).toArray

set_option maxRecDepth 100000 in
set_option maxHeartbeats 4000000 in
theorem CompactP_arr (blk off cap : Nat) (d : Array Pr) (w : World) (hH : HoldsK prC 2 w blk off d) (hsz : d.size ≤ 1000000) (hcap : d.size ≤ cap) :
    Calls Tryz.prog 124 #[.slice (some ⟨blk, off, none⟩) d.size cap] w (CompactPost blk off cap d w) := by
  have same : ∀ q, (∀ j, j < d.size → keeps d j = true) → (compactUpTo d d.size).length = d.size ∧ w.drewN q = putRowK prC 2 (Sort.ahead w q) blk off (compactUpTo d d.size ++ List.replicate (d.size - (compactUpTo d d.size).length) ([], [])).toArray := by
    intro q hall
    have e : compactUpTo d d.size = d.toList := by rw [compactUpTo_all d _ hall, range_map_get]
    rw [e]
    refine ⟨by simp, ?_⟩
    simp only [Array.length_toList, Nat.sub_self, List.replicate_zero, List.append_nil, Array.toArray_toList]
    exact (putRowK_self prC 2 (Sort.ahead w q) blk off d (holdsK_ahead prC 2 w q blk off d hH)).symm
  have HS := Lib.hid same
  clear same
  by_cases h2 : d.size < 2
  · have h2' : (d.size : Int) < 2 := by omega
    have HH := Lib.hid hH
    clear hH
    go_enter Tryz.func124, Tryz.ntmps124
    go_wp2
    go_ret
    obtain ⟨e1, e2⟩ := HS.out 0 (fun j hj => keeps_lt_one d j (by omega))
    exact ⟨by rw [e1]; rfl, 0, e2⟩
  · have h2' : ¬ (d.size : Int) < 2 := by omega
    have mixed := mixed_
    go_enter Tryz.func124, Tryz.ntmps124
    go_wp2
    go_loopg [3] d.size (fun g s3 wr => ∃ k q : Nat, 1 ≤ k ∧ k ≤ d.size ∧ d.size - k ≤ g ∧ s3 = .int .i64 k ∧ wr = w.drewN q ∧ ∀ j, j < k → keeps d j = true)
    case atStart => exact ⟨1, 0, Nat.le_refl _, by omega, by omega, rfl, rfl, keeps_lt_one d⟩
    case round =>
      obtain ⟨k, q, hk1, hk, hg, rfl, rfl, hall⟩ := hrel
      by_cases hlt : k < d.size
      · obtain ⟨c1, c1', _, _⟩ := pcells hH hlt
        obtain ⟨c0, c0', _, _⟩ := pcells (i := k - 1) hH (by omega)
        have A := Lib.hid hall
        have HH := Lib.hid hH
        clear hall hH
        generalize hx : d[k]! = x at c1 c1'
        generalize hy : d[k - 1]! = y at c0 c0'
        have B := Lib.hid (And.intro hx hy)
        clear hx hy
        obtain ⟨x1, x2⟩ := x
        obtain ⟨y1, y2⟩ := y
        simp only at c1 c1' c0 c0'
        have k0 : (1 : Int) ≤ (k : Int) := by omega
        have k1 : (0 : Int) ≤ (k : Int) := by omega
        have k2 : (k : Int) < (d.size : Int) := by omega
        have k3 : (0 : Int) ≤ (k : Int) - 1 := by omega
        have k4 : (k : Int) - 1 < (d.size : Int) := by omega
        have k5 : IntKind.i64.wrap ((k : Int) - 1) = (k : Int) - 1 := IntWalk.i64_in _ (by omega)
        have k6 : ((k : Int) - 1).toNat = k - 1 := by omega
        have hdup : (x1 = y1 ∧ x2 = y2) ∨ (x1 = y1 ∧ ¬ x2 = y2) ∨ ¬ x1 = y1 := by
          by_cases h1 : x1 = y1
          · by_cases h2 : x2 = y2
            · exact .inl ⟨h1, h2⟩
            · exact .inr (.inl ⟨h1, h2⟩)
          · exact .inr (.inr h1)
        rcases hdup with ⟨rfl, rfl⟩ | hno
        · go_wp2_with fail
          go_region_o
          go_wp2
          clear c0 c0' c1 c1'
          go_loopg [3, 5] d.size (fun g s3 s5 wr => ∃ (kk k2 q2 : Nat) (dk : Array Pr), s3 = .int .i64 kk ∧ s5 = .int .i64 k2 ∧ 1 ≤ k2 ∧ k + k2 ≤ d.size ∧ d.size - (k + k2) ≤ g ∧ wr = putRowK prC 2 (Sort.ahead w q2) blk off dk ∧ CompInv d (k + k2) kk dk)
          case atStart => exact ⟨k, 1, q + 1, d, rfl, rfl, Nat.le_refl _, by omega, by omega, (putRowK_self prC 2 (Sort.ahead w (q + 1)) blk off d (holdsK_ahead prC 2 w (q + 1) blk off d HH.out)).symm, CompInv.start A.out (keeps_neg (by omega) (by rw [B.out.1, B.out.2]))⟩
          case round =>
            obtain ⟨kk, k2, q2, dk, rfl, rfl, h1, hle, hg2, hwr, hI⟩ := hrel
            have hkk := hI.lt
            have hds := hI.size
            have hHk : HoldsK prC 2 wr blk off dk := by rw [hwr]; exact holdsK_putRowK prC 2 _ blk off d dk (holdsK_ahead prC 2 w q2 blk off d HH.out) hds
            have W2 := Lib.hid hwr
            have I2 := Lib.hid hI
            clear hwr
            by_cases hlt2 : k + k2 < d.size
            · obtain ⟨cm, cm', _, _⟩ := pcells hHk (i := k + k2) (by omega)
              obtain ⟨cp, cp', _, _⟩ := pcells hHk (i := k + k2 - 1) (by omega)
              obtain ⟨ck, ck', fk, fk'⟩ := pcells hHk (i := kk) (by omega)
              rw [hI.high (k + k2) (by omega), show off + (k + k2) * 2 = off + k * 2 + k2 * 2 by omega] at cm cm'
              rw [hI.high (k + k2 - 1) (by omega), show off + (k + k2 - 1) * 2 = off + k * 2 + (k2 - 1) * 2 by omega] at cp cp'
              clear hHk hI
              generalize hu : d[k + k2]! = u at cm cm'
              generalize hv : d[k + k2 - 1]! = v at cp cp'
              generalize dk[kk]! = old at ck ck'
              have C := Lib.hid (And.intro hu hv)
              clear hu hv
              obtain ⟨u1, u2⟩ := u
              obtain ⟨v1, v2⟩ := v
              simp only at cm cm' cp cp'
              have m0 : (1 : Int) ≤ (k2 : Int) := by omega
              have m1 : (0 : Int) ≤ (k2 : Int) := by omega
              have m2 : (k2 : Int) < (d.size : Int) := by omega
              have m3 : (0 : Int) ≤ (k2 : Int) - 1 := by omega
              have m5 : IntKind.i64.wrap ((k2 : Int) - 1) = (k2 : Int) - 1 := IntWalk.i64_in _ (by omega)
              have m6 : ((k2 : Int) - 1).toNat = k2 - 1 := by omega
              have huv : (u1 = v1 ∧ u2 = v2) ∨ (u1 = v1 ∧ ¬ u2 = v2) ∨ ¬ u1 = v1 := by
                by_cases h1 : u1 = v1
                · by_cases h2 : u2 = v2
                  · exact .inl ⟨h1, h2⟩
                  · exact .inr (.inl ⟨h1, h2⟩)
                · exact .inr (.inr h1)
              rcases huv with ⟨rfl, rfl⟩ | huv
              · go_wp2_with fail
                go_region_o
                go_wp2
                go_roundg (d.size - (k + (k2 + 1)))
                case measure => omega
                case rel => exact ⟨kk, k2 + 1, q2 + 1, dk, rfl, by go_num, by omega, by omega, Nat.le_refl _, by rw [W2.out]; rfl, I2.out.skip (keeps_neg (by omega) (by rw [C.out.1, C.out.2]))⟩
              · have huv' : ¬ (u1, u2) = (v1, v2) := by
                  intro h
                  injection h with h1 h2
                  rcases huv with ⟨_, h⟩ | h
                  · exact h h2
                  · exact h h1
                rcases huv with ⟨rfl, hne⟩ | hne
                all_goals
                  go_wp2_with fail
                  go_region_o
                  go_wp2
                  go_roundg (d.size - (k + (k2 + 1)))
                  case measure => omega
                  case rel => exact ⟨kk + 1, k2 + 1, q2 + 1, dk.setIfInBounds kk (_, u2), by go_num, by go_num, by omega, by omega, Nat.le_refl _, store_pair_drew (by omega) W2.out (_, u2), by have := I2.out.keep hlt2 (keeps_pos (by rw [C.out.1, C.out.2]; exact huv')); rwa [C.out.1] at this⟩
            · have hend : k + k2 = d.size := by omega
              have hcl : ∀ ty, (Builtin.clear_ #[123] ty #[.slice (some ⟨blk, off + kk * 2, none⟩) (d.size - kk) (cap - kk)]).run Tryz.prog wr = .ok (.tuple #[]) (wr.setCells blk (off + kk * 2) (List.replicate ((d.size - kk) * 2) (sv []))) := by
                intro ty
                have hcs : ∀ j, j < (d.size - kk) * 2 → (wr.cell? ⟨blk, off + kk * 2 + j, none⟩).isSome = true ∧ wr.frozen? ⟨blk, off + kk * 2 + j, none⟩ = false := by
                  intro j hj
                  obtain ⟨c1, c2, c3, c4⟩ := pcells hHk (i := kk + j / 2) (by omega)
                  rcases (show j % 2 = 0 ∨ j % 2 = 1 by omega) with h | h
                  · rw [show off + kk * 2 + j = off + (kk + j / 2) * 2 by omega, c1, c3]; exact ⟨rfl, rfl⟩
                  · rw [show off + kk * 2 + j = off + (kk + j / 2) * 2 + 1 by omega, c2, c4]; exact ⟨rfl, rfl⟩
                exact run_clear_pairs wr ty blk (off + kk * 2) _ _ (by omega) (fun j hj => (hcs j hj).1) (fun j hj => (hcs j hj).2)
              clear hHk hI
              go_wp2
              go_ret
              have hI := I2.out
              rw [hend] at hI
              refine ⟨by rw [hI.len]; rfl, q2, ?_⟩
              have hz : (List.replicate (d.size - kk) (([], []) : Pr)).flatMap prC = List.replicate ((d.size - kk) * 2) (sv []) := by
                generalize d.size - kk = n
                induction n with
                | zero => rfl
                | succ n ih => rw [List.replicate_succ, List.flatMap_cons, ih, show (n + 1) * 2 = n * 2 + 1 + 1 by omega, List.replicate_succ, List.replicate_succ]; rfl
              rw [hI.len, ← hI.done ([], []), ← putRowK_lay prC_len (by decide) _ blk off _ dk kk (by simp; omega), ← W2.out, hz]
        · have hno' : ¬ (x1, x2) = (y1, y2) := by
            intro h
            injection h with h1 h2
            rcases hno with ⟨_, h⟩ | h
            · exact h h2
            · exact h h1
          have hkeep : keeps d k = true := keeps_pos (by rw [B.out.1, B.out.2]; exact hno')
          have HK := Lib.hid hkeep
          clear hkeep hno'
          rcases hno with ⟨rfl, hne⟩ | hne
          all_goals
            go_wp2_with fail
            go_region_o
            go_wp2
            go_roundg (d.size - (k + 1))
            case measure => omega
            case rel =>
              refine ⟨k + 1, q + 1, by omega, by omega, Nat.le_refl _, by go_num, rfl, fun j hj => ?_⟩
              by_cases e : j = k
              · subst e
                exact HK.out
              · exact A.out j (by omega)
      · have : k = d.size := by omega
        subst this
        have HH := Lib.hid hH
        clear hH
        go_wp2
        go_ret
        obtain ⟨e1, e2⟩ := HS.out q hall
        exact ⟨by rw [e1]; rfl, q, e2⟩

/-- Compact at pairs of the call's own. -/
theorem compactP_own (base c : Nat) (A : Option Addr) (ps : List Pr) (w : World) (h : w.ownsRow base 79 2 (.slice A ps.length c) ps.length (prsC ps)) (hsz : ps.length ≤ 1000000) :
    Calls Tryz.prog 124 #[.slice A ps.length c] w fun e w' => e = .returned (.slice A (Lib.compact ps).length c) ∧ w'.ownsRow base 79 2 (.slice A (Lib.compact ps).length c) (Lib.compact ps).length (prsC (Lib.compact ps)) ∧ w.grownBy w' (Value.slice A ps.length c).ownBlock := by
  rcases h.2 with ⟨hv, hn⟩ | ⟨g, cap, cur, hv, hg, hb, h1, h2, h3, h4⟩
  · have hnil : ps = [] := List.length_eq_zero_iff.1 hn
    subst hnil
    have h' : (0 : Int) < 2 := by omega
    go_enter Tryz.func124, Tryz.ntmps124
    go_wp2
    go_ret
    exact ⟨rfl, h, World.grownBy.refl _ _⟩
  · injection hv with e1 _ e3
    subst e1 e3
    have hle : (Lib.compact ps).length ≤ ps.length := by
      unfold Lib.compact Lib.compactUpTo
      rw [List.length_map]
      exact Nat.le_trans (List.length_filter_le _ _) (by simp)
    have hcon := CompactP_arr g 0 c ps.toArray w (own_holdsK prC_len (by decide) hb h4) (by simpa using hsz) (by simpa using h1)
    simp only [List.size_toArray] at hcon
    refine hcon.mono ?_
    rintro e w' ⟨rfl, q, rfl⟩
    have hc : compactUpTo ps.toArray ps.toArray.size = Lib.compact ps := rfl
    rw [hc, List.size_toArray]
    have hs : (Lib.compact ps ++ List.replicate (ps.length - (Lib.compact ps).length) (([], []) : Pr)).take (Lib.compact ps).length = Lib.compact ps := by
      rw [List.take_append_of_le_length (Nat.le_refl _), List.take_length]
    have ho := own_of_putRowK (os := #[]) (q := q) (n := (Lib.compact ps).length) (ps := Lib.compact ps ++ List.replicate (ps.length - (Lib.compact ps).length) (([], []) : Pr)) prC_len (by decide) hg hb (by omega) h2 h3 (by simp) (by simp; omega)
    rw [hs, grow_empty] at ho
    refine ⟨rfl, ho, ?_⟩
    have := rowk_grownBy (w := w) (g := g) (n := q) (os := #[]) (flatK prC 2 (Lib.compact ps ++ List.replicate (ps.length - (Lib.compact ps).length) (([], []) : Pr)).toArray)
    rw [grow_empty] at this
    exact this
end Od
end Go.Proofs.YtanfnejbnmenkaaGreat
end

section
/- Maps of the call's own, as functions from keys (over the library's ownsMap and ranges, each element held as it is). -/
namespace Go.Proofs.YtanfnejbnmenkaaGreat
open Go.RowKit Go.Maps

/-- An element read as the value that it is. -/
def idR (v : Value) : Option (DataW Value × List MemPlace) := some (.held v, [])

/-- Keys of a type in Lean, as keys in the program. -/
structure KeyKind (P : Program) (k : TypeId) (α : Type) where
  val : α → Value
  ok : α → Prop
  kl : α → Lit
  law : Keyed P k
  key : ∀ x, ok x → keyOf P k (val x) = some (kl x)
  inj : ∀ x y, val x = val y → x = y
  inv : ∀ v l, keyOf P k v = some l → ∃ x, ok x ∧ v = val x

variable {P : Program} {k : TypeId} {α : Type} {κ : KeyKind P k α} {w w' : World} {b n : Nat} {f : α → Option Value}

theorem KeyKind.kl_inj (κ : KeyKind P k α) {x y : α} (hx : κ.ok x) (hy : κ.ok y) (h : κ.kl x = κ.kl y) : x = y :=
  κ.inj _ _ (κ.law.inj (κ.key x hx) (h ▸ κ.key y hy))
theorem KeyKind.kl_key (κ : KeyKind P k α) {x : α} (hx : κ.ok x) : WideAt.IsKeyLit (κ.kl x) := κ.law.key (κ.key x hx)

/-- What a datum says at each key. -/
def SaysF (κ : KeyKind P k α) (D : DataW Value) (f : α → Option Value) : Prop :=
  ∀ x, κ.ok x → Maps.has D (κ.kl x) = (f x).isSome ∧ ∀ z, D.atKey (κ.kl x) z = ((f x).map DataW.held).getD z

/-- Block b is a map of at most n entries that holds f x at the key x. -/
def MapIs (κ : KeyKind P k α) (w : World) (b n : Nat) (f : α → Option Value) : Prop :=
  ∃ D : DataW Value, w.ownsMap P k idR b n D ∧ SaysF κ D f

theorem MapIs.made (κ : KeyKind P k α) (w : World) : MapIs κ (w.alloc (.map #[] 0)) w.heap.size 0 (fun _ => none) :=
  ⟨.map [], World.ownsMap_made w P k idR, fun _ _ => ⟨rfl, fun z => Maps.atKey_of_not_has (by rfl) z⟩⟩
theorem MapIs.lt (h : MapIs κ w b n f) : b < w.heap.size := by obtain ⟨D, h, _⟩ := h; exact h.lt
theorem MapIs.mono (h : MapIs κ w b n f) {n' : Nat} (hn : n ≤ n') : MapIs κ w b n' f := by obtain ⟨D, h, hf⟩ := h; exact ⟨D, h.mono hn, hf⟩
theorem MapIs.same (h : MapIs κ w b n f) (he : w'.heap[b]? = w.heap[b]?) : MapIs κ w' b n f := by
  obtain ⟨D, ⟨es, c, hb, r⟩, hf⟩ := h
  exact ⟨D, ⟨es, c, he.trans hb, r⟩, hf⟩
theorem MapIs.on (h : MapIs κ w b n f) (hb : Below w.heap.size w w') : MapIs κ w' b n f := h.same (hb.block b h.lt)
theorem MapIs.alloc (h : MapIs κ w b n f) (o : Obj) : MapIs κ (w.alloc o) b n f := by obtain ⟨D, h, hf⟩ := h; exact ⟨D, h.alloc o, hf⟩
theorem MapIs.drew (h : MapIs κ w b n f) : MapIs κ w.drew b n f := h
theorem MapIs.kept {row : Option Nat} (h : MapIs κ w b n f) (hg : w.grownBy w' row) (hne : some b ≠ row) : MapIs κ w' b n f := by obtain ⟨D, h, hf⟩ := h; exact ⟨D, h.kept hg hne, hf⟩

theorem MapIs.lookup {t e : TypeId} {z : Value} (h : MapIs κ w b n f) (ht : P.underlying t = some (.map k e)) (hz : (zeroValue e).run P w = .ok z w) {x : α} (hx : κ.ok x) :
    (Instr.lookup t (.map (some b)) (κ.val x) false).run P w = .ok ((f x).getD z) w := by
  obtain ⟨D, h, hf⟩ := h
  obtain ⟨v, ps, hrun, hv⟩ := h.lookup κ.law ht hz (zd := .held z) (zp := []) rfl (κ.key x hx)
  rw [(hf x hx).2] at hv
  rw [hrun]
  cases hfx : f x
  · rw [hfx] at hv
    simp only [idR, Option.map_none, Option.getD_none, Option.some.injEq, Prod.mk.injEq, DataW.held.injEq] at hv
    rw [hv.1]; rfl
  · rw [hfx] at hv
    simp only [idR, Option.map_some, Option.getD_some, Option.some.injEq, Prod.mk.injEq, DataW.held.injEq] at hv
    rw [hv.1]; rfl

open Classical in
theorem MapIs.update {t e : TypeId} (h : MapIs κ w b n f) (ht : P.underlying t = some (.map k e)) (hn : n < maxLen) {x : α} (hx : κ.ok x) (v : Value) :
    ∃ w', (Instr.mapUpdate t (.map (some b)) (κ.val x) v).run P w = .ok () w' ∧ MapIs κ w' b (n + 1) (fun y => if y = x then some v else f y) ∧ w.grownBy w' (some b) := by
  obtain ⟨D, h, hf⟩ := h
  have him := h.isMap
  obtain ⟨w', hrun, h', hg⟩ := h.update κ.law ht hn (key := κ.val x) (val := v) (d := .held v) (ps := []) (κ.key x hx) rfl
  refine ⟨w', hrun, ⟨_, h', fun y hy => ?_⟩, hg⟩
  by_cases hyx : y = x
  · subst hyx
    exact ⟨by rw [Maps.has_put_same him (κ.kl_key hy)]; simp, fun z => by rw [Maps.atKey_put_same him (κ.kl_key hy)]; simp⟩
  · have hne : κ.kl y ≠ κ.kl x := fun e => hyx (κ.kl_inj hy hx e)
    have hkx := κ.kl_key hx
    exact ⟨by rw [Maps.has_put_other hne]; simp [hyx, hf y hy], fun z => by rw [Maps.atKey_put_other hne]; simp [hyx, hf y hy]⟩

/-- 'for k := range m' under way: f: what the map holds; left: which keys are still to come. -/
def RangeIs (κ : KeyKind P k α) (w : World) (b r n : Nat) (f : α → Option Value) (left : α → Bool) (cnt : Nat) : Prop :=
  ∃ (D : DataW Value) (L : Lit → Bool), w.ranges P k idR b r n D L cnt ∧ SaysF κ D f ∧ ∀ x, κ.ok x → L (κ.kl x) = left x

variable {r cnt : Nat} {left : α → Bool}
theorem RangeIs.map (h : RangeIs κ w b r n f left cnt) : MapIs κ w b n f := by obtain ⟨D, L, h, hf, _⟩ := h; exact ⟨D, h.owns, hf⟩
theorem RangeIs.left_eq (h : RangeIs κ w b r n f left cnt) : w.rangeLeft b r = cnt := by obtain ⟨D, L, h, _⟩ := h; exact h.left_eq
theorem RangeIs.lt (h : RangeIs κ w b r n f left cnt) : r < w.heap.size := by obtain ⟨D, L, h, _⟩ := h; exact h.lt
theorem RangeIs.ne (h : RangeIs κ w b r n f left cnt) : r ≠ b := by obtain ⟨D, L, h, _⟩ := h; exact h.ne
theorem RangeIs.same (h : RangeIs κ w b r n f left cnt) (hb : w'.heap[b]? = w.heap[b]?) (hr : w'.heap[r]? = w.heap[r]?) : RangeIs κ w' b r n f left cnt := by
  obtain ⟨D, L, ⟨es, clock, since, seen, c0, h1, h2, h3, h4, h5, h6⟩, hf, hl⟩ := h
  exact ⟨D, L, ⟨es, clock, since, seen, c0, hb.trans h1, h2, h3, h4, hr.trans h5, h6⟩, hf, hl⟩
theorem RangeIs.on (h : RangeIs κ w b r n f left cnt) (hb : Below w.heap.size w w') : RangeIs κ w' b r n f left cnt := h.same (hb.block b h.map.lt) (hb.block r h.lt)
theorem RangeIs.kept {row : Option Nat} (h : RangeIs κ w b r n f left cnt) (hg : w.grownBy w' row) (hb : some b ≠ row) (hr : some r ≠ row) : RangeIs κ w' b r n f left cnt := by
  obtain ⟨D, L, h, hf, hl⟩ := h
  exact ⟨D, L, h.kept hg hb hr, hf, hl⟩

theorem MapIs.range {t e : TypeId} (h : MapIs κ w b n f) (ht : P.underlying t = some (.map k e)) :
    ∃ w', (Instr.range t (.map (some b))).run P w = .ok (.pointer (some ⟨w.heap.size, 0, none⟩)) w' ∧ (∃ cnt, RangeIs κ w' b w.heap.size n f (fun x => (f x).isSome) cnt) ∧ w.grownBy w' none ∧ w'.heap.size = w.heap.size + 1 := by
  obtain ⟨D, h, hf⟩ := h
  obtain ⟨w', hrun, h1, h2, h3⟩ := h.range κ.law ht
  exact ⟨w', hrun, ⟨_, D, _, h1, hf, fun x hx => (hf x hx).1⟩, h2, h3⟩

open Classical in
theorem RangeIs.next (h : RangeIs κ w b r n f left cnt) (ty : TypeId) :
    (cnt = 0 ∧ (∀ x, κ.ok x → left x = false) ∧ (Instr.next (.pointer (some ⟨r, 0, none⟩)) false ty).run P w = .ok (.tuple #[.bool false]) w) ∨
    ∃ x v w' cnt', κ.ok x ∧ left x = true ∧ f x = some v ∧ (Instr.next (.pointer (some ⟨r, 0, none⟩)) false ty).run P w = .ok (.tuple #[.bool true, κ.val x, v]) w' ∧
      RangeIs κ w' b r n f (fun y => left y && decide (y ≠ x)) cnt' ∧ cnt' < cnt ∧ w.grownBy w' (some r) ∧ w'.heap.size = w.heap.size ∧ (Instr.entry (.pointer (some ⟨r, 0, none⟩))).run P w' = .ok (.tuple #[κ.val x, v]) w' := by
  obtain ⟨D, L, h, hf, hl⟩ := h
  rcases h.next κ.law ty with ⟨h0, hL, hrun⟩ | ⟨key, v, kl, y, w', cnt', hkey, hLk, hv, hat, hrun, hrg, hlt, hgr, hsz, hen⟩
  · exact .inl ⟨h0, fun x hx => by rw [← hl x hx]; exact hL _, hrun⟩
  · obtain ⟨x, hx, rfl⟩ := κ.inv key kl hkey
    have hkl : κ.kl x = kl := Option.some.inj ((κ.key x hx).symm.trans hkey)
    subst hkl
    have hy : y = (.held v, []) := (Option.some.inj hv).symm
    subst hy
    have hfx : f x = some v := by
      have h1 := hat .nil
      rw [(hf x hx).2] at h1
      cases hfx : f x with
      | none => rw [hfx] at h1; cases h1
      | some v' => rw [hfx] at h1; cases h1; rfl
    refine .inr ⟨x, v, w', cnt', hx, by rw [← hl x hx]; exact hLk, hfx, hrun, ⟨D, _, hrg, hf, fun z hz => ?_⟩, hlt, hgr, hsz, hen⟩
    show (L (κ.kl z) && !(κ.kl z).sameKey (κ.kl x)) = _
    rw [hl z hz]
    by_cases hzx : z = x
    · subst hzx
      rw [WideAt.sameKey_self (κ.kl_key hz)]
      simp
    · rw [Maps.sameKey_ne (fun e => hzx (κ.kl_inj hz hx e))]
      simp [hzx]

section
variable {ops : Array Oper} {rest : List Oper} {o : Oper} {a : Act} {Q : Exit → Act → World → Prop} (w : World)

theorem wpList_lookup_is (hg : o.guard = none) (m x : Operand) (t : TypeId) (hop : o.op = Op.lookup t m x false) (e : TypeId) (ht : P.underlying t = some (.map k e)) (z : Value) (hz : (zeroValue e).run P w = .ok z w)
    (b n : Nat) (f : α → Option Value) (hm : a.eval m = .map (some b)) (h : MapIs κ w b n f) (key : α) (hx : a.eval x = κ.val key) (hk : κ.ok key)
    (hK : wpList P ops Q rest (a.put o.dst ((f key).getD z)) w) : wpList P ops Q (o :: rest) a w := by
  refine wpList_plain hg fun K' hK' => ?_
  have hrun := h.lookup ht hz hk
  unfold Oper.wp
  simp [execOp, hop, hm, hx, hrun, Result.andThen]
  exact hK' _ _ hK

open Classical in
theorem wpList_update_is (hg : o.guard = none) (m x v : Operand) (t : TypeId) (hop : o.op = Op.mapUpdate t m x v) (e : TypeId) (ht : P.underlying t = some (.map k e))
    (b n : Nat) (f : α → Option Value) (hm : a.eval m = .map (some b)) (h : MapIs κ w b n f) (hn : n < maxLen) (key : α) (val : Value) (hx : a.eval x = κ.val key) (hv : a.eval v = val) (hk : κ.ok key)
    (hK : ∀ w', MapIs κ w' b (n + 1) (fun y => if y = key then some val else f y) → w.grownBy w' (some b) → wpList P ops Q rest (a.put o.dst undef) w') : wpList P ops Q (o :: rest) a w := by
  refine wpList_plain hg fun K' hK' => ?_
  obtain ⟨w', hrun, h1, h2⟩ := h.update ht hn hk val
  unfold Oper.wp
  simp [execOp, hop, hm, hx, hv, hrun, Result.andThen]
  exact hK' _ _ (hK w' h1 h2)

theorem wpList_range_is (hg : o.guard = none) (m : Operand) (t : TypeId) (hop : o.op = Op.range t m) (e : TypeId) (ht : P.underlying t = some (.map k e)) (b n : Nat) (f : α → Option Value)
    (hm : a.eval m = .map (some b)) (h : MapIs κ w b n f)
    (hK : ∀ w' cnt, RangeIs κ w' b w.heap.size n f (fun x => (f x).isSome) cnt → w.grownBy w' none → w'.heap.size = w.heap.size + 1 → wpList P ops Q rest (a.put o.dst (.pointer (some ⟨w.heap.size, 0, none⟩))) w') :
    wpList P ops Q (o :: rest) a w := by
  refine wpList_plain hg fun K' hK' => ?_
  obtain ⟨w', hrun, ⟨cnt, r1⟩, r2, r3⟩ := h.range (t := t) ht
  unfold Oper.wp
  simp [execOp, hop, hm, hrun, Result.andThen]
  exact hK' _ _ (hK w' cnt r1 r2 r3)

open Classical in
theorem wpList_next_is (hg : o.guard = none) (it : Operand) (hop : o.op = Op.next it false) (b r n : Nat) (f : α → Option Value) (left : α → Bool) (cnt : Nat) (hit : a.eval it = .pointer (some ⟨r, 0, none⟩)) (h : RangeIs κ w b r n f left cnt)
    (hDone : (∀ x, κ.ok x → left x = false) → wpList P ops Q rest (a.put o.dst (.tuple #[.bool false])) w)
    (hMore : ∀ (x : α) (v : Value) (w' : World) (cnt' : Nat), κ.ok x → left x = true → f x = some v → RangeIs κ w' b r n f (fun y => left y && decide (y ≠ x)) cnt' → cnt' < cnt → w.grownBy w' (some r) → w'.heap.size = w.heap.size →
      (Instr.entry (.pointer (some ⟨r, 0, none⟩))).run P w' = .ok (.tuple #[κ.val x, v]) w' → wpList P ops Q rest (a.put o.dst (.tuple #[.bool true, κ.val x, v])) w') :
    wpList P ops Q (o :: rest) a w := by
  refine wpList_plain hg fun K' hK' => ?_
  unfold Oper.wp
  rcases h.next o.type with ⟨_, hl, hrun⟩ | ⟨x, v, w', cnt', hx, hlx, hfx, hrun, hrg, hlt, hgr, hsz, hen⟩
  · simp [execOp, hop, hit, hrun, Result.andThen]
    exact hK' _ _ (hDone hl)
  · simp [execOp, hop, hit, hrun, Result.andThen]
    exact hK' _ _ (hMore x v w' cnt' hx hlx hfx hrg hlt hgr hsz hen)
end

/-- Texts as keys. -/
def strKind {P : Program} {k : TypeId} (hk : P.underlying k = some .string) : KeyKind P k Str where
  val := sv
  ok s := s.length ≤ maxLen
  kl s := .string s
  law := string_keyed hk
  key s hs := by
    have h : (⟨s.toArray⟩ : ByteArray).size ≤ maxLen := by simpa [ByteArray.size] using hs
    simp [keyOf, hk, mapKey, h]
  inj x y h := by simpa using h
  inv v l h := by
    cases v <;> simp [keyOf, hk, mapKey] at h
    rename_i s
    refine ⟨s.data.toList, by simpa using h.1, by simp⟩
end Go.Proofs.YtanfnejbnmenkaaGreat
end
