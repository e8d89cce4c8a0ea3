/- My texts, joined for the claim: DMayD DAt DFile DFirst. -/
import Derived.Test.YtgfdcmlmgeoimaaZB9

section
/- disk.May. (bel2) -/
namespace Go.Proofs.Ytgfdcmlmgeoimaa
open Go.RowKit Go.Sort Go.Maps
set_option linter.unusedSimpArgs false
section
variable {P : Program} {k : TypeId} {α : Type} {κ : KeyKind P k α} {ops : Array Oper} {rest : List Oper} {o : Oper} {a : Act} {Q : Exit → Act → World → Prop} (w : World)
theorem wpList_wantD (hw : Region.wanted o (yielded ops a.tmps) = true) (h : ∀ K : Act → World → Prop, (∀ a w, wpList P ops Q rest a w → K a w) → o.wp P a w K Q) : wpList P ops Q (o :: rest) a w :=
  wpList_step fun K hK => by rw [if_pos hw]; exact h K hK
theorem wpList_lookup_wD (hw : Region.wanted o (yielded ops a.tmps) = true) (m x : Operand) (t : TypeId) (hop : o.op = Op.lookup t m x false) (e : TypeId) (ht : P.underlying t = some (.map k e)) (z : Value) (hz : (zeroValue e).run P w = .ok z w)
    (b n : Nat) (f : α → Option Value) (hm : a.eval m = .map (some b)) (h : MapIs κ w b n f) (key : α) (hx : a.eval x = κ.val key) (hk : κ.ok key)
    (hK : wpList P ops Q rest (a.put o.dst ((f key).getD z)) w) : wpList P ops Q (o :: rest) a w := by
  refine wpList_wantD w hw fun K' hK' => ?_
  have hrun := h.lookup ht hz hk
  unfold Oper.wp
  simp [execOp, hop, hm, hx, hrun, Result.andThen]
  exact hK' _ _ hK
end
namespace Od
set_option maxRecDepth 100000 in
set_option maxHeartbeats 8000000 in
theorem MayD_any (A : Option Addr) (c : Nat) (fs : List Fl) (w : World) (h : FlIn w A fs) (hfl : fs.length ≤ 10000000000000) : Calls Try.prog 10 #[.slice A fs.length c] w fun e w' => e = .returned (.bool (mayFs fs)) ∧ Below w.heap.size w w' := by
  have HF := Lib.hid h
  have hmm : ∀ (t : TypeId) (w : World), (Instr.makeMap t none).run Try.prog w = .ok (.map (some w.heap.size)) (w.alloc (.map #[] 0)) := fun _ _ => rfl
  clear h
  go_enter Try.func10, Try.ntmps10
  go_wp2_with fail
  have HM0 := Lib.hid (map_made w)
  go_loopw [9] (fun i wr => ∃ k : Nat, k ≤ fs.length ∧ i = .int .i64 k ∧ Hid (Seen fs k) ∧ Hid (MapIs strK wr w.heap.size k (setF ((fs.take k).map (·.1)))) ∧ Hid (Below w.heap.size w wr)) (fun i _ => fs.length - (intOf i).toNat)
  case atStart => exact ⟨0, Nat.zero_le _, rfl, Seen.start fs, HM0, (Below.refl _ _).alloc (Nat.le_refl _) _⟩
  case round =>
    obtain ⟨k, hk, rfl, HSe, HMk, HB⟩ := hrel
    obtain ⟨w6, rfl⟩ : ∃ wo : World, wo = wr := ⟨_, rfl⟩
    have hz6 := HB.out.size
    have hmlt := HMk.out.lt
    by_cases hlt : k < fs.length
    · obtain ⟨b2, o2, hA, hB2, x0, x1, x2⟩ := (HF.out.at HB.out).rd.fl hlt
      subst hA
      have hok := (HF.out.ok _ (List.getElem_mem hlt))
      have htk := path_take hlt
      have hnx := fun a b => HSe.out.next hlt a b
      have hbd := fun a => Seen.bad (fs := fs) hlt a
      have hkm : k < maxLen := by unfold maxLen; omega
      generalize fs[k] = p at x0 x1 x2 hok htk hnx hbd
      obtain ⟨s, t, l⟩ := p
      simp only at x0 x1 x2 htk hnx hbd
      have hos : okS s := okS_of hok.1
      have hok1 : s.length ≤ 140737488355328 := Nat.le_trans hok.1 (by decide)
      have hok2 : t.length ≤ 140737488355328 := Nat.le_trans hok.2.1 (by decide)
      have hok3 : l.length ≤ 140737488355328 := Nat.le_trans hok.2.2 (by decide)
      have HTk := Lib.hid htk
      have HNx := Lib.hid hnx
      have HBd := Lib.hid hbd
      have HKm := Lib.hid hkm
      have i1 : (0 : Int) ≤ (k : Int) := by omega
      have i2 : (k : Int) < (fs.length : Int) := by omega
      have hmf := may_any s t l
      rw [mayP_eq] at hmf
      have hhas := setF_has ((fs.take k).map (·.1)) s
      clear htk hnx hbd hkm hok
      generalize (fs.take k).map (·.1) = D at *
      go_wp2_with fail
      first | (refine wp_named ?_; intro W7 hW) | (refine calls_named ?_; intro W7 hW) | (refine exit_named ?_; intro W7 hW)
      have B7 : Below w6.heap.size w6 W7 := by rw [hW]; exact (by repeat (first | exact Below.refl _ _ | assumption | refine Below.alloc ?_ (by first | omega | (simp <;> omega)) _ | refine Below.setCell ?_ (by first | omega | (simp <;> omega)) _ | refine Below.drew ?_))
      have m7 : w6.heap.size < W7.heap.size := by rw [hW]; simp <;> omega
      have y0 : W7.cell? ⟨w6.heap.size, 0, none⟩ = some (sv s) := by rw [hW]; go_simp
      clear hW
      have HB7 := Lib.hid (lift HB.out B7)
      have HM7 := Lib.hid (HMk.out.on B7)
      clear B7 x0 x1 x2 HMk
      refine (hmf W7 hok1 hok2 hok3).mono ?_
      rintro e w8 ⟨rfl, hb8⟩
      replace y0 := cellAt y0 hb8 (by omega)
      replace m7 : w6.heap.size < w8.heap.size := ltAt m7 hb8
      have HB8 := Lib.hid (lift HB7.out hb8)
      have HM8 := Lib.hid (HM7.out.on hb8)
      clear hb8 HM7
      cases hmay : mayF (s, t, l)
      · have HN := Lib.hid (HBd.out (.inl hmay))
        go_wp2_with fail
        go_ret
        exact ⟨ret_bool (by rw [HN.out]), HB8.out⟩
      · cases hin : decide (s ∈ D)
        · rw [hin] at hhas
          have HH := Lib.hid hhas
          have HSe2 := Lib.hid (HNx.out hmay (by simpa using hin))
          clear hhas
          go_wp2_with (first | (at_lookup; refine wpList_lookup_wD _ (by rfl) (.tmp 17) (.tmp 19) 51 (by rfl) 4 Try.underlying51 (.bool false) (zeroB _) w.heap.size _ _ (by rfl) HM8.out s (by rfl) hos ?_; rw [HH.out]) | (at_mapUpdate; refine wpList_update_is _ (by rfl) (.tmp 22) (.tmp 24) (.const (.bool true)) 51 (by rfl) 4 Try.underlying51 w.heap.size _ _ (by rfl) HM8.out HKm.out s (.bool true) (by rfl) (by rfl) hos ?_; intro w9 hm9 hg9; have HM9 := Lib.hid (setS_if hm9); have HB9 := Lib.hid (HB8.out.grown hg9 (by have := HB8.out.size; omega) (fun g hg => by cases hg; exact Nat.le_refl _)); clear hm9 hg9) | fail)
          go_roundw
          case rel =>
            have h9 := HM9.out
            rw [setF_put, ← HTk.out] at h9
            exact ⟨k + 1, by omega, by go_num, HSe2, h9, HB9⟩
          case measure => simp [intOf]; omega
        · rw [hin] at hhas
          have HH := Lib.hid hhas
          have HN := Lib.hid (HBd.out (.inr (by simpa using hin)))
          clear hhas
          go_wp2_with (first | (at_lookup; refine wpList_lookup_wD _ (by rfl) (.tmp 17) (.tmp 19) 51 (by rfl) 4 Try.underlying51 (.bool false) (zeroB _) w.heap.size _ _ (by rfl) HM8.out s (by rfl) hos ?_; rw [HH.out]) | fail)
          go_ret
          exact ⟨ret_bool (by rw [HN.out]), HB8.out⟩
    · obtain rfl : k = fs.length := by omega
      have hall := HSe.out.all
      have hdl : decide ((fs.length : Int) ≤ 120) = decide (fs.length ≤ 120) := by
        rw [Bool.eq_iff_iff, decide_eq_true_eq, decide_eq_true_eq]; omega
      have HN := Lib.hid hall
      clear hall
      go_wp2_with fail
      go_ret
      exact ⟨ret_bool (by rw [HN.out]), HB.out⟩
end Od
end Go.Proofs.Ytgfdcmlmgeoimaa
end

section
/- The file of a path: the reference's at, disk.file. (bel2) -/
namespace Go.Proofs.Ytgfdcmlmgeoimaa
open Go.RowKit Go.Sort
set_option linter.unusedSimpArgs false
namespace Od
def optV (o : Option Fl) : Value := match o with
  | some f => .tuple #[flV f, .bool true]
  | none => .tuple #[flV ([], [], []), .bool false]
end Od
end Go.Proofs.Ytgfdcmlmgeoimaa
end

section
/- disk.file: the file of a path. (bel2) -/
namespace Go.Proofs.Ytgfdcmlmgeoimaa
open Go.RowKit Go.Sort
set_option linter.unusedSimpArgs false
namespace Od
structure SaysF12 (g : Nat) (caps : Array Value) (p : Fl → Bool) (w : World) : Prop where
  enters : ∀ (args : Array Value) (W : World), (callFunc g args).run Try.prog W = .ok (.enter g args) W
  says : ∀ (W : World) (s : Str) (d r : Str), Below w.heap.size w W → Calls Try.prog g (#[.agg #[sv s, sv d, sv r]] ++ caps) W fun e w' => e = .returned (.bool (p (s, d, r))) ∧ Below W.heap.size W w'

def FindIdxF {α : Type} (xs : List α) (p : α → Bool) (w : World) (e : Ending) (w' : World) : Prop := ∃ r : Int, e = .returned (.int .i64 r) ∧ ((r = -1 ∧ xs.find? p = none) ∨ ∃ k, ∃ h : k < xs.length, r = (k : Int) ∧ xs.find? p = some xs[k] ∧ p xs[k] = true ∧ ∀ j, ∀ hj : j < k, p (xs[j]'(by omega)) = false) ∧ Below w.heap.size w w'
set_option maxRecDepth 100000 in
set_option maxRecDepth 100000 in
set_option maxHeartbeats 1000000 in
theorem IndexFuncF (A : Option Addr) (c : Nat) (ns : List Fl) (g : Nat) (caps : Array Value) (p : Fl → Bool) (w : World) (hr : Rd w w.heap.size 3 A ns.length (flsC ns)) (hl : ns.length ≤ 10000000000000) (hp : SaysF12 g caps p w) :
    Calls Try.prog 58 #[.slice A ns.length c, .func (.func g) #[] caps] w (FindIdxF ns p w) := by
  have Hr := Lib.hid hr
  have Hp := Lib.hid hp
  have eg := hp.enters
  clear hr hp
  go_enter Try.func58, Try.ntmps58
  go_wp2_with fail
  go_loopw [8] (fun i wr => ∃ k : Nat, k ≤ ns.length ∧ i = .int .i64 k ∧ Hid ((ns.take k).any p = false) ∧ Below w.heap.size w wr) (fun i _ => ns.length - (intOf i).toNat)
  case atStart => exact ⟨0, Nat.zero_le _, rfl, by simp [Hid], Below.refl _ _⟩
  case round =>
    obtain ⟨k, hk, rfl, hall, hbel⟩ := hrel
    by_cases hlt : k < ns.length
    · obtain ⟨b, o, rfl, hB, hc0, hc1, hc2⟩ := (Hr.out.on (Nat.le_refl _) hbel).fl hlt
      have Hbel := Lib.hid hbel
      clear hbel
      generalize hx : ns[k] = x at hc0 hc1 hc2
      obtain ⟨s, d, r⟩ := x
      have Hx := Lib.hid hx
      clear hx
      simp only at hc0 hc1 hc2
      have hcall := Hp.out.says wr s d r Hbel.out
      cases hpx : p (s, d, r)
      · rw [hpx] at hcall
        have Hpx := Lib.hid hpx
        have Hcall := Lib.hid hcall
        clear hpx hcall
        go_wp2_with fail
        refine Hcall.out.mono ?_
        rintro e w2 ⟨rfl, hb2⟩
        have Hb2 := Lib.hid hb2
        clear hb2
        go_wp2_with fail
        go_roundw
        case rel => exact ⟨k + 1, by omega, by go_num, by show _ = false; rw [any_take_succ hlt, hall.out, Hx.out, Hpx.out]; rfl, Hbel.out.trans (Hb2.out.mono Hbel.out.size)⟩
        case measure => simp [intOf]; omega
      · rw [hpx] at hcall
        have Hpx := Lib.hid hpx
        have Hcall := Lib.hid hcall
        clear hpx hcall
        go_wp2_with fail
        refine Hcall.out.mono ?_
        rintro e w2 ⟨rfl, hb2⟩
        have Hb2 := Lib.hid hb2
        clear hb2
        go_wp2_with fail
        go_ret
        exact ⟨k, rfl, .inr ⟨k, hlt, rfl, find_at hlt hall.out (by rw [Hx.out]; exact Hpx.out), by rw [Hx.out]; exact Hpx.out, fun j hj => take_any_at hk hall.out hj⟩, Hbel.out.trans (Hb2.out.mono Hbel.out.size)⟩
    · have hkl : k = ns.length := by omega
      have ha := hall.out
      rw [List.take_of_length_le (by omega)] at ha
      have Ha := Lib.hid ha
      clear ha hkl
      go_wp2_with fail
      go_ret
      exact ⟨-1, rfl, .inl ⟨rfl, find_none_take Ha.out⟩, hbel⟩

set_option maxHeartbeats 400000 in
theorem File1_any (a s : Str) (d r : Str) (pa : Nat) (w : World) (ha : w.cell? ⟨pa, 0, none⟩ = some (sv a)) :
    Calls Try.prog 59 #[.agg #[sv s, sv d, sv r], .pointer (some ⟨pa, 0, none⟩)] w fun e w' => e = .returned (.bool (s == a)) ∧ Below w.heap.size w w' := by
  have la : pa < w.heap.size := cell_blk ha
  have n1 : ¬ pa = w.heap.size := by omega
  cases hsa : (s == a)
  · have hsa' : ¬ s = a := by simpa using hsa
    go_enter Try.func59, Try.ntmps59
    go_wp2_with fail
    go_ret
    exact ⟨ret_bool (by simp_all), (Below.refl _ _).alloc (Nat.le_refl _) _⟩
  · have hsa' : s = a := by simpa using hsa
    subst hsa'
    go_enter Try.func59, Try.ntmps59
    go_wp2_with fail
    go_ret
    exact ⟨ret_bool (by simp_all), (Below.refl _ _).alloc (Nat.le_refl _) _⟩
theorem says_file (a : Str) (pa : Nat) (w : World) (ha : w.cell? ⟨pa, 0, none⟩ = some (sv a)) :
    SaysF12 59 #[.pointer (some ⟨pa, 0, none⟩)] (fun n => n.1 == a) w where
  enters := enters_of Try.func59 (by kernel_rfl) rfl
  says := fun W s d r h => File1_any a s d r pa W ((h.cell (p := ⟨pa, 0, none⟩) (cell_blk ha)).trans ha)

set_option maxRecDepth 100000 in
set_option maxHeartbeats 8000000 in
theorem file_any (A : Option Addr) (c : Nat) (fs : List Fl) (q : Str) (w : World) (h : FlIn w A fs) (hl : fs.length ≤ 10000000000000) : Calls Try.prog 45 #[.slice A fs.length c, sv q] w fun e w' => e = .returned (optV (atF fs q)) ∧ Below w.heap.size w w' := by
  have HF := Lib.hid h
  have HA := Lib.hid (show atF fs q = fs.find? (fun f => f.1 == q) from rfl)
  clear h
  go_enter Try.func45, Try.ntmps45
  go_wp2_with fail
  first | (refine wp_named ?_; intro W1 hW) | (refine calls_named ?_; intro W1 hW) | (refine exit_named ?_; intro W1 hW)
  have B1 : Below w.heap.size w W1 := by rw [hW]; exact (by repeat (first | exact Below.refl _ _ | assumption | refine Below.alloc ?_ (by first | omega | (simp <;> omega)) _ | refine Below.setCell ?_ (by first | omega | (simp <;> omega)) _ | refine Below.drew ?_))
  replace HF := Lib.hid (HF.out.at B1)
  have n0 : w.heap.size < W1.heap.size := by rw [hW]; simp <;> omega
  have n1 : (w.heap.size + 1) < W1.heap.size := by rw [hW]; simp <;> omega
  have p0 : W1.cell? ⟨w.heap.size, 0, none⟩ = some (sv q) := by rw [hW]; go_simp
  have r0 : W1.cell? ⟨(w.heap.size + 1), 0, none⟩ = some (.string ⟨#[]⟩) := by rw [hW]; go_simp
  have r1 : W1.cell? ⟨(w.heap.size + 1), 1, none⟩ = some (.string ⟨#[]⟩) := by rw [hW]; go_simp
  have r2 : W1.cell? ⟨(w.heap.size + 1), 2, none⟩ = some (.string ⟨#[]⟩) := by rw [hW]; go_simp
  have z0 : W1.frozen? ⟨(w.heap.size + 1), 0, none⟩ = false := by rw [hW]; go_simp
  have z1 : W1.frozen? ⟨(w.heap.size + 1), 1, none⟩ = false := by rw [hW]; go_simp
  have z2 : W1.frozen? ⟨(w.heap.size + 1), 2, none⟩ = false := by rw [hW]; go_simp
  clear hW
  have HB1 := Lib.hid B1
  clear B1
  refine (IndexFuncF A c fs _ _ (fun f => f.1 == q) W1 HF.out.rd (by omega) (says_file q w.heap.size W1 p0)).mono ?_
  rintro e w2 ⟨r, rfl, hr, hb⟩
  replace p0 := cellAt p0 hb (by omega)
  replace r0 := cellAt r0 hb (by omega)
  replace r1 := cellAt r1 hb (by omega)
  replace r2 := cellAt r2 hb (by omega)
  replace z0 := froAt z0 hb (by omega)
  replace z1 := froAt z1 hb (by omega)
  replace z2 := froAt z2 hb (by omega)
  replace HF := Lib.hid (HF.out.at hb)
  replace n0 : w.heap.size < w2.heap.size := ltAt n0 hb
  replace n1 : (w.heap.size + 1) < w2.heap.size := ltAt n1 hb
  have HB2 := Lib.hid (lift HB1.out hb)
  clear hb
  rcases hr with ⟨rfl, hno⟩ | ⟨k, hlt, rfl, hfd, _, _⟩
  · have HR := Lib.hid (HA.out.trans hno)
    clear hno
    go_wp2_with fail
    have hB0 := HB2.out
    refine bodyPost_ret (v := .tuple #[flV ([], [], []), .bool false]) (by simp only [results, Try.results45]; go_simp) rfl ⟨by rw [HR.out] <;> rfl, ?_⟩
    repeat (first | (with_reducible exact hB0) | (with_reducible refine Below.drew ?_) | (with_reducible refine Below.alloc ?_ ?zs _; case zs => first | omega | (simp <;> omega)) | (with_reducible refine Below.setCell ?_ ?zs _; case zs => first | omega | (simp <;> omega)))
  · have HR := Lib.hid (HA.out.trans hfd)
    obtain ⟨b2, o2, hA, hB2, x0, x1, x2⟩ := HF.out.rd.fl hlt
    subst hA
    clear hfd
    generalize fs[k] = p at x0 x1 x2 HR
    obtain ⟨s, t, l⟩ := p
    simp only at x0 x1 x2
    have i1 : (0 : Int) ≤ (k : Int) := by omega
    have i2 : (k : Int) < (fs.length : Int) := by omega
    have i3 : decide ((k : Int) < 0) = false := by rw [decide_eq_false_iff_not]; omega
    go_wp2_with fail
    have hB0 := HB2.out
    refine bodyPost_ret (v := .tuple #[flV (s, t, l), .bool true]) (by simp only [results, Try.results45]; go_simp) rfl ⟨by rw [HR.out] <;> rfl, ?_⟩
    repeat (first | (with_reducible exact hB0) | (with_reducible refine Below.drew ?_) | (with_reducible refine Below.alloc ?_ ?zs _; case zs => first | omega | (simp <;> omega)) | (with_reducible refine Below.setCell ?_ ?zs _; case zs => first | omega | (simp <;> omega)))
end Od
end Go.Proofs.Ytgfdcmlmgeoimaa
end

section
/- The file of a name in the first place that has one: disk.first, the reference's. (bel2) -/
namespace Go.Proofs.Ytgfdcmlmgeoimaa
open Go.RowKit Go.Sort
set_option linter.unusedSimpArgs false
namespace Od
theorem place_three {p : Str} (h : p ∈ placesL) : p.length = 3 := by
  unfold placesL at h
  simp only [List.mem_cons, List.not_mem_nil, or_false] at h
  rcases h with rfl | rfl | rfl <;> rfl
theorem find_place {fs : List Fl} {u : Str} {k : Nat} (hk : k < placesL.length) (hno : ∀ j (hj : j < placesL.length), j < k → atF fs (pathU placesL[j] u) = none) : ∀ f, atF fs (pathU placesL[k] u) = some f → placesL.findSome? (fun p => atF fs (pathU p u)) = some f := by
  intro f h2
  have e : placesL = placesL.take k ++ (placesL[k] :: placesL.drop (k + 1)) := by rw [List.getElem_cons_drop, List.take_append_drop]
  have h1 : (placesL.take k).findSome? (fun p => atF fs (pathU p u)) = none := by
    rw [List.findSome?_eq_none_iff]
    intro p hp
    obtain ⟨j, hj, rfl⟩ := List.getElem_of_mem hp
    rw [List.length_take] at hj
    rw [List.getElem_take]
    exact hno j (by omega) (by omega)
  conv => lhs; rw [e]
  rw [List.findSome?_append, h1, List.findSome?_cons, h2]
  rfl
theorem no_place {fs : List Fl} {u : Str} (hno : ∀ j (hj : j < placesL.length), j < placesL.length → atF fs (pathU placesL[j] u) = none) : placesL.findSome? (fun p => atF fs (pathU p u)) = none := by
  rw [List.findSome?_eq_none_iff]
  intro p hp
  obtain ⟨j, hj, rfl⟩ := List.getElem_of_mem hp
  exact hno j hj hj
set_option maxRecDepth 100000 in
set_option maxHeartbeats 8000000 in
theorem first_any (A : Option Addr) (c : Nat) (fs : List Fl) (u : Str) (w : World) (h : FlIn w A fs) (hl : fs.length ≤ 10000000000000) (hu : u.length ≤ 140737488355328) : Calls Try.prog 22 #[.slice A fs.length c, sv u] w fun e w' => e = .returned (optV (firstF fs u)) ∧ Below w.heap.size w w' := by
  have HF := Lib.hid h
  have HA := Lib.hid (show firstF fs u = placesL.findSome? (fun p => atF fs (pathU p u)) from rfl)
  clear h
  go_enter Try.func22, Try.ntmps22
  go_wp2_with fail
  first | (refine wp_named ?_; intro W1 hW) | (refine calls_named ?_; intro W1 hW) | (refine exit_named ?_; intro W1 hW)
  have B1 : Below w.heap.size w W1 := by rw [hW]; exact (by repeat (first | exact Below.refl _ _ | assumption | refine Below.alloc ?_ (by first | omega | (simp <;> omega)) _ | refine Below.setCell ?_ (by first | omega | (simp <;> omega)) _ | refine Below.drew ?_))
  replace HF := Lib.hid (HF.out.at B1)
  have n0 : w.heap.size < W1.heap.size := by rw [hW]; simp <;> omega
  have r0 : W1.cell? ⟨w.heap.size, 0, none⟩ = some (.string ⟨#[]⟩) := by rw [hW]; go_simp
  have r1 : W1.cell? ⟨w.heap.size, 1, none⟩ = some (.string ⟨#[]⟩) := by rw [hW]; go_simp
  have r2 : W1.cell? ⟨w.heap.size, 2, none⟩ = some (.string ⟨#[]⟩) := by rw [hW]; go_simp
  have z0 : W1.frozen? ⟨w.heap.size, 0, none⟩ = false := by rw [hW]; go_simp
  have z1 : W1.frozen? ⟨w.heap.size, 1, none⟩ = false := by rw [hW]; go_simp
  have z2 : W1.frozen? ⟨w.heap.size, 2, none⟩ = false := by rw [hW]; go_simp
  clear hW
  have HB1 := Lib.hid B1
  clear B1
  refine (Places_any W1).mono ?_
  rintro e w2 ⟨A1, c1, rfl, hc1, hr1, hb⟩
  have HR1 := Lib.hid hr1
  replace r0 := cellAt r0 hb (by omega)
  replace r1 := cellAt r1 hb (by omega)
  replace r2 := cellAt r2 hb (by omega)
  replace z0 := froAt z0 hb (by omega)
  replace z1 := froAt z1 hb (by omega)
  replace z2 := froAt z2 hb (by omega)
  replace HF := Lib.hid (HF.out.at hb)
  replace n0 : w.heap.size < w2.heap.size := ltAt n0 hb
  have HB2 := Lib.hid (lift HB1.out hb)
  clear hb hr1
  have hpl : placesL.length = 3 := rfl
  go_wp2_with fail
  go_loopw [12] (fun i wr => ∃ k : Nat, k ≤ placesL.length ∧ i = .int .i64 k ∧ Hid (∀ j (hj : j < placesL.length), j < k → atF fs (pathU placesL[j] u) = none) ∧ Hid (Below w2.heap.size w2 wr)) (fun i _ => placesL.length - (intOf i).toNat)
  case atStart => exact ⟨0, Nat.zero_le _, rfl, fun _ _ h => absurd h (by omega), Below.refl _ _⟩
  case round =>
    obtain ⟨k, hk, rfl, HNo, HB⟩ := hrel
    obtain ⟨w6, rfl⟩ : ∃ wo : World, wo = wr := ⟨_, rfl⟩
    have hb6 := HB.out
    have HB6 := Lib.hid (lift HB2.out HB.out)
    replace r0 := cellAt r0 hb6 (by omega)
    replace r1 := cellAt r1 hb6 (by omega)
    replace r2 := cellAt r2 hb6 (by omega)
    replace z0 := froAt z0 hb6 (by omega)
    replace z1 := froAt z1 hb6 (by omega)
    replace z2 := froAt z2 hb6 (by omega)
    replace HF := Lib.hid (HF.out.at hb6)
    replace n0 : w.heap.size < w6.heap.size := ltAt n0 hb6
    by_cases hlt : k < placesL.length
    · obtain ⟨b2, o2, hA, hB2, x0⟩ := (HR1.out.at hb6).str hlt
      subst hA
      clear hb6
      have hno := HNo.out
      have hfs := find_place (fs := fs) (u := u) hlt hno
      have hnx : atF fs (pathU placesL[k] u) = none → ∀ j (hj : j < placesL.length), j < k + 1 → atF fs (pathU placesL[j] u) = none := fun h0 j hj h1 => by
        rcases Nat.lt_or_eq_of_le (Nat.le_of_lt_succ h1) with h2 | h2
        · exact hno j hj h2
        · subst h2; exact h0
      have hp3 : placesL[k].length = 3 := place_three (List.getElem_mem hlt)
      generalize placesL[k] = p at x0 hp3 hfs hnx
      have HNx := Lib.hid hnx
      have i1 : (0 : Int) ≤ (k : Int) := by omega
      have i2 : (k : Int) < (placesL.length : Int) := by omega
      obtain ⟨A3, hA3⟩ : ∃ A, A = p ++ [47] := ⟨_, rfl⟩
      have e1 : ((⟨p.toArray⟩ : ByteArray) ++ ⟨#[47]⟩) = ⟨A3.toArray⟩ := by rw [hA3]; exact str_add p [47]
      have hpu : pathU p u = A3 ++ u := by rw [hA3]; unfold pathU; simp
      have l3 : A3.length = 4 := by rw [hA3]; simp [hp3]
      rw [hpu] at hfs HNx
      obtain ⟨A4, hA4⟩ : ∃ A, A = A3 ++ u := ⟨_, rfl⟩
      have e2 : ((⟨A3.toArray⟩ : ByteArray) ++ ⟨u.toArray⟩) = ⟨A4.toArray⟩ := by rw [hA4]; exact str_add A3 u
      rw [← hA4] at hfs HNx
      have n1 : ¬ 9223372036854775807 < p.length + 1 := by omega
      have n2 : ¬ 9223372036854775807 < A3.length + u.length := by omega
      clear hA3 hA4 hpu hno hnx
      go_wp2_with fail
      refine (file_any A c fs A4 w6 HF.out hl).mono ?_
      rintro e w7 ⟨rfl, hb⟩
      replace r0 := cellAt r0 hb (by omega)
      replace r1 := cellAt r1 hb (by omega)
      replace r2 := cellAt r2 hb (by omega)
      replace z0 := froAt z0 hb (by omega)
      replace z1 := froAt z1 hb (by omega)
      replace z2 := froAt z2 hb (by omega)
      replace HF := Lib.hid (HF.out.at hb)
      replace n0 : w.heap.size < w7.heap.size := ltAt n0 hb
      have HB7 := Lib.hid (lift HB6.out hb)
      have HBr := Lib.hid (lift HB.out hb)
      clear hb
      cases hat : atF fs A4 with
      | none =>
        have HN2 := Lib.hid (HNx.out hat)
        clear hfs HNx hat
        unfold optV
        simp only
        have hz7 := HBr.out.size
        go_wp2_with fail
        go_roundw
        case rel => exact ⟨k + 1, by omega, by go_num, HN2, HBr.out.alloc hz7 _⟩
        case measure => simp [intOf]; omega
      | some f =>
        obtain ⟨s, t, l⟩ := f
        have HR := Lib.hid (HA.out.trans (hfs _ hat))
        clear hfs HNx hat
        unfold optV
        simp only
        go_wp2_with fail
        have hB0 := HB7.out
        refine bodyPost_ret (v := .tuple #[flV (s, t, l), .bool true]) (by simp only [results, Try.results22]; go_simp) rfl ⟨by rw [HR.out] <;> rfl, ?_⟩
        repeat (first | (with_reducible exact hB0) | (with_reducible refine Below.drew ?_) | (with_reducible refine Below.alloc ?_ ?zs _; case zs => first | omega | (simp <;> omega)) | (with_reducible refine Below.setCell ?_ ?zs _; case zs => first | omega | (simp <;> omega)))
    · obtain rfl : k = placesL.length := by omega
      have HR := Lib.hid (HA.out.trans (no_place HNo.out))
      go_wp2_with fail
      have hB0 := HB6.out
      refine bodyPost_ret (v := .tuple #[flV ([], [], []), .bool false]) (by simp only [results, Try.results22]; go_simp) rfl ⟨by rw [HR.out] <;> rfl, ?_⟩
      repeat (first | (with_reducible exact hB0) | (with_reducible refine Below.drew ?_) | (with_reducible refine Below.alloc ?_ ?zs _; case zs => first | omega | (simp <;> omega)) | (with_reducible refine Below.setCell ?_ ?zs _; case zs => first | omega | (simp <;> omega)))
end Od
end Go.Proofs.Ytgfdcmlmgeoimaa
end
