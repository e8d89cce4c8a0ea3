/- My texts, joined for the claim: DAt DFile DFirst DOwned DWithin DAdd. -/
import Derived.Test.YtgfdcmlmgeoimaaGreatZB8

section
/- The file of a path: the reference's at, disk.file. (bel2) -/
namespace Go.Proofs.YtgfdcmlmgeoimaaGreat
open Go.RowKit Go.Sort
set_option linter.unusedSimpArgs false
namespace Od
def optV (o : Option Fl) : Value := match o with
  | some f => .tuple #[flV f, .bool true]
  | none => .tuple #[flV ([], [], []), .bool false]
set_option maxRecDepth 100000 in
set_option maxHeartbeats 8000000 in
theorem at12_any (A : Option Addr) (c : Nat) (fs : List Fl) (q : Str) (w : World) (h : FlIn w A fs) (hl : fs.length ≤ 10000000000000) : Calls Tryz.prog 57 #[.slice A fs.length c, sv q] w fun e w' => e = .returned (optV (atF fs q)) ∧ Below w.heap.size w w' := by
  have HF := Lib.hid h
  have HA := Lib.hid (show atF fs q = fs.find? (fun f => f.1 == q) from rfl)
  clear h
  go_enter Tryz.func57, Tryz.ntmps57
  go_wp2_with fail
  first | (refine wp_named ?_; intro W1 hW) | (refine calls_named ?_; intro W1 hW) | (refine exit_named ?_; intro W1 hW)
  have B1 : Below w.heap.size w W1 := by rw [hW]; exact (by repeat (first | exact Below.refl _ _ | assumption | refine Below.alloc ?_ (by first | omega | (simp <;> omega)) _ | refine Below.setCell ?_ (by first | omega | (simp <;> omega)) _ | refine Below.drew ?_))
  replace HF := Lib.hid (HF.out.at B1)
  have n0 : w.heap.size < W1.heap.size := by rw [hW]; simp <;> omega
  have r0 : W1.cell? ⟨w.heap.size, 0, none⟩ = some (.string ⟨#[]⟩) := by rw [hW]; go_simp
  have r1 : W1.cell? ⟨w.heap.size, 1, none⟩ = some (.string ⟨#[]⟩) := by rw [hW]; go_simp
  have r2 : W1.cell? ⟨w.heap.size, 2, none⟩ = some (.string ⟨#[]⟩) := by rw [hW]; go_simp
  have z0 : W1.frozen? ⟨w.heap.size, 0, none⟩ = false := by rw [hW]; go_simp
  have z1 : W1.frozen? ⟨w.heap.size, 1, none⟩ = false := by rw [hW]; go_simp
  have z2 : W1.frozen? ⟨w.heap.size, 2, none⟩ = false := by rw [hW]; go_simp
  clear hW
  have HB1 := Lib.hid B1
  clear B1
  go_loopw [10] (fun i wr => ∃ k : Nat, k ≤ fs.length ∧ i = .int .i64 k ∧ Hid ((fs.take k).any (fun f => f.1 == q) = false) ∧ Hid (Below W1.heap.size W1 wr)) (fun i _ => fs.length - (intOf i).toNat)
  case atStart => exact ⟨0, Nat.zero_le _, rfl, by simp [Hid], Below.refl _ _⟩
  case round =>
    obtain ⟨k, hk, rfl, HNo, HB⟩ := hrel
    obtain ⟨w6, rfl⟩ : ∃ wo : World, wo = wr := ⟨_, rfl⟩
    have hz6 := HB.out.size
    have hb6 := HB.out
    replace r0 := cellAt r0 hb6 (by omega)
    replace r1 := cellAt r1 hb6 (by omega)
    replace r2 := cellAt r2 hb6 (by omega)
    replace z0 := froAt z0 hb6 (by omega)
    replace z1 := froAt z1 hb6 (by omega)
    replace z2 := froAt z2 hb6 (by omega)
    replace HF := Lib.hid (HF.out.at hb6)
    replace n0 : w.heap.size < w6.heap.size := ltAt n0 hb6
    clear hb6
    by_cases hlt : k < fs.length
    · obtain ⟨b2, o2, hA, hB2, x0, x1, x2⟩ := HF.out.rd.fl hlt
      subst hA
      have hat := find_at (p := fun f : Fl => f.1 == q) hlt HNo.out
      have hts := any_take_succ (p := fun f : Fl => f.1 == q) hlt
      generalize fs[k] = p at x0 x1 x2 hat hts
      obtain ⟨s, t, l⟩ := p
      simp only at x0 x1 x2 hat hts
      have i1 : (0 : Int) ≤ (k : Int) := by omega
      have i2 : (k : Int) < (fs.length : Int) := by omega
      cases hse : (s == q)
      · have HN2 := Lib.hid (show (fs.take (k + 1)).any (fun f => f.1 == q) = false by rw [hts, HNo.out, hse]; rfl)
        clear hat hts
        go_wp2_with fail
        go_roundw
        case rel => exact ⟨k + 1, by omega, by go_num, HN2, HB.out.alloc hz6 _⟩
        case measure => simp [intOf]; omega
      · have HR := Lib.hid (HA.out.trans (hat hse))
        clear hat hts
        go_wp2_with fail
        have hB0 := lift HB1.out HB.out
        refine bodyPost_ret (v := .tuple #[flV (s, t, l), .bool true]) (by simp only [results, Tryz.results57]; go_simp) rfl ⟨by rw [HR.out] <;> rfl, ?_⟩
        repeat (first | (with_reducible exact hB0) | (with_reducible refine Below.drew ?_) | (with_reducible refine Below.alloc ?_ ?zs _; case zs => first | omega | (simp <;> omega)) | (with_reducible refine Below.setCell ?_ ?zs _; case zs => first | omega | (simp <;> omega)))
    · obtain rfl : k = fs.length := by omega
      have hno := HNo.out
      rw [List.take_length] at hno
      have HR := Lib.hid (HA.out.trans (find_none_take hno))
      clear hno
      go_wp2_with fail
      have hB0 := lift HB1.out HB.out
      refine bodyPost_ret (v := .tuple #[flV ([], [], []), .bool false]) (by simp only [results, Tryz.results57]; go_simp) rfl ⟨by rw [HR.out] <;> rfl, ?_⟩
      repeat (first | (with_reducible exact hB0) | (with_reducible refine Below.drew ?_) | (with_reducible refine Below.alloc ?_ ?zs _; case zs => first | omega | (simp <;> omega)) | (with_reducible refine Below.setCell ?_ ?zs _; case zs => first | omega | (simp <;> omega)))
end Od
end Go.Proofs.YtgfdcmlmgeoimaaGreat
end

section
/- disk.file: the file of a path. (bel2) -/
namespace Go.Proofs.YtgfdcmlmgeoimaaGreat
open Go.RowKit Go.Sort
set_option linter.unusedSimpArgs false
namespace Od
structure SaysF12 (g : Nat) (caps : Array Value) (p : Fl → Bool) (w : World) : Prop where
  enters : ∀ (args : Array Value) (W : World), (callFunc g args).run Tryz.prog W = .ok (.enter g args) W
  says : ∀ (W : World) (s : Str) (d r : Str), Below w.heap.size w W → Calls Tryz.prog g (#[.agg #[sv s, sv d, sv r]] ++ caps) W fun e w' => e = .returned (.bool (p (s, d, r))) ∧ Below W.heap.size W w'

def FindIdxF {α : Type} (xs : List α) (p : α → Bool) (w : World) (e : Ending) (w' : World) : Prop := ∃ r : Int, e = .returned (.int .i64 r) ∧ ((r = -1 ∧ xs.find? p = none) ∨ ∃ k, ∃ h : k < xs.length, r = (k : Int) ∧ xs.find? p = some xs[k] ∧ p xs[k] = true ∧ ∀ j, ∀ hj : j < k, p (xs[j]'(by omega)) = false) ∧ Below w.heap.size w w'
set_option maxRecDepth 100000 in
set_option maxRecDepth 100000 in
set_option maxHeartbeats 1000000 in
theorem IndexFuncF (A : Option Addr) (c : Nat) (ns : List Fl) (g : Nat) (caps : Array Value) (p : Fl → Bool) (w : World) (hr : Rd w w.heap.size 3 A ns.length (flsC ns)) (hl : ns.length ≤ 10000000000000) (hp : SaysF12 g caps p w) :
    Calls Tryz.prog 86 #[.slice A ns.length c, .func (.func g) #[] caps] w (FindIdxF ns p w) := by
  have Hr := Lib.hid hr
  have Hp := Lib.hid hp
  have eg := hp.enters
  clear hr hp
  go_enter Tryz.func86, Tryz.ntmps86
  go_wp2_with fail
  go_loopw [8] (fun i wr => ∃ k : Nat, k ≤ ns.length ∧ i = .int .i64 k ∧ Hid ((ns.take k).any p = false) ∧ Below w.heap.size w wr) (fun i _ => ns.length - (intOf i).toNat)
  case atStart => exact ⟨0, Nat.zero_le _, rfl, by simp [Hid], Below.refl _ _⟩
  case round =>
    obtain ⟨k, hk, rfl, hall, hbel⟩ := hrel
    by_cases hlt : k < ns.length
    · obtain ⟨b, o, rfl, hB, hc0, hc1, hc2⟩ := (Hr.out.on (Nat.le_refl _) hbel).fl hlt
      have Hbel := Lib.hid hbel
      clear hbel
      generalize hx : ns[k] = x at hc0 hc1 hc2
      obtain ⟨s, d, r⟩ := x
      have Hx := Lib.hid hx
      clear hx
      simp only at hc0 hc1 hc2
      have hcall := Hp.out.says wr s d r Hbel.out
      cases hpx : p (s, d, r)
      · rw [hpx] at hcall
        have Hpx := Lib.hid hpx
        have Hcall := Lib.hid hcall
        clear hpx hcall
        go_wp2_with fail
        refine Hcall.out.mono ?_
        rintro e w2 ⟨rfl, hb2⟩
        have Hb2 := Lib.hid hb2
        clear hb2
        go_wp2_with fail
        go_roundw
        case rel => exact ⟨k + 1, by omega, by go_num, by show _ = false; rw [any_take_succ hlt, hall.out, Hx.out, Hpx.out]; rfl, Hbel.out.trans (Hb2.out.mono Hbel.out.size)⟩
        case measure => simp [intOf]; omega
      · rw [hpx] at hcall
        have Hpx := Lib.hid hpx
        have Hcall := Lib.hid hcall
        clear hpx hcall
        go_wp2_with fail
        refine Hcall.out.mono ?_
        rintro e w2 ⟨rfl, hb2⟩
        have Hb2 := Lib.hid hb2
        clear hb2
        go_wp2_with fail
        go_ret
        exact ⟨k, rfl, .inr ⟨k, hlt, rfl, find_at hlt hall.out (by rw [Hx.out]; exact Hpx.out), by rw [Hx.out]; exact Hpx.out, fun j hj => take_any_at hk hall.out hj⟩, Hbel.out.trans (Hb2.out.mono Hbel.out.size)⟩
    · have hkl : k = ns.length := by omega
      have ha := hall.out
      rw [List.take_of_length_le (by omega)] at ha
      have Ha := Lib.hid ha
      clear ha hkl
      go_wp2_with fail
      go_ret
      exact ⟨-1, rfl, .inl ⟨rfl, find_none_take Ha.out⟩, hbel⟩

set_option maxHeartbeats 400000 in
theorem File1_any (a s : Str) (d r : Str) (pa : Nat) (w : World) (ha : w.cell? ⟨pa, 0, none⟩ = some (sv a)) :
    Calls Tryz.prog 87 #[.agg #[sv s, sv d, sv r], .pointer (some ⟨pa, 0, none⟩)] w fun e w' => e = .returned (.bool (s == a)) ∧ Below w.heap.size w w' := by
  have la : pa < w.heap.size := cell_blk ha
  have n1 : ¬ pa = w.heap.size := by omega
  cases hsa : (s == a)
  · have hsa' : ¬ s = a := by simpa using hsa
    go_enter Tryz.func87, Tryz.ntmps87
    go_wp2_with fail
    go_ret
    exact ⟨ret_bool (by simp_all), (Below.refl _ _).alloc (Nat.le_refl _) _⟩
  · have hsa' : s = a := by simpa using hsa
    subst hsa'
    go_enter Tryz.func87, Tryz.ntmps87
    go_wp2_with fail
    go_ret
    exact ⟨ret_bool (by simp_all), (Below.refl _ _).alloc (Nat.le_refl _) _⟩
theorem says_file (a : Str) (pa : Nat) (w : World) (ha : w.cell? ⟨pa, 0, none⟩ = some (sv a)) :
    SaysF12 87 #[.pointer (some ⟨pa, 0, none⟩)] (fun n => n.1 == a) w where
  enters := enters_of Tryz.func87 (by kernel_rfl) rfl
  says := fun W s d r h => File1_any a s d r pa W ((h.cell (p := ⟨pa, 0, none⟩) (cell_blk ha)).trans ha)

set_option maxRecDepth 100000 in
set_option maxHeartbeats 8000000 in
theorem file_any (A : Option Addr) (c : Nat) (fs : List Fl) (q : Str) (w : World) (h : FlIn w A fs) (hl : fs.length ≤ 10000000000000) : Calls Tryz.prog 73 #[.slice A fs.length c, sv q] w fun e w' => e = .returned (optV (atF fs q)) ∧ Below w.heap.size w w' := by
  have HF := Lib.hid h
  have HA := Lib.hid (show atF fs q = fs.find? (fun f => f.1 == q) from rfl)
  clear h
  go_enter Tryz.func73, Tryz.ntmps73
  go_wp2_with fail
  first | (refine wp_named ?_; intro W1 hW) | (refine calls_named ?_; intro W1 hW) | (refine exit_named ?_; intro W1 hW)
  have B1 : Below w.heap.size w W1 := by rw [hW]; exact (by repeat (first | exact Below.refl _ _ | assumption | refine Below.alloc ?_ (by first | omega | (simp <;> omega)) _ | refine Below.setCell ?_ (by first | omega | (simp <;> omega)) _ | refine Below.drew ?_))
  replace HF := Lib.hid (HF.out.at B1)
  have n0 : w.heap.size < W1.heap.size := by rw [hW]; simp <;> omega
  have n1 : (w.heap.size + 1) < W1.heap.size := by rw [hW]; simp <;> omega
  have p0 : W1.cell? ⟨w.heap.size, 0, none⟩ = some (sv q) := by rw [hW]; go_simp
  have r0 : W1.cell? ⟨(w.heap.size + 1), 0, none⟩ = some (.string ⟨#[]⟩) := by rw [hW]; go_simp
  have r1 : W1.cell? ⟨(w.heap.size + 1), 1, none⟩ = some (.string ⟨#[]⟩) := by rw [hW]; go_simp
  have r2 : W1.cell? ⟨(w.heap.size + 1), 2, none⟩ = some (.string ⟨#[]⟩) := by rw [hW]; go_simp
  have z0 : W1.frozen? ⟨(w.heap.size + 1), 0, none⟩ = false := by rw [hW]; go_simp
  have z1 : W1.frozen? ⟨(w.heap.size + 1), 1, none⟩ = false := by rw [hW]; go_simp
  have z2 : W1.frozen? ⟨(w.heap.size + 1), 2, none⟩ = false := by rw [hW]; go_simp
  clear hW
  have HB1 := Lib.hid B1
  clear B1
  refine (IndexFuncF A c fs _ _ (fun f => f.1 == q) W1 HF.out.rd (by omega) (says_file q w.heap.size W1 p0)).mono ?_
  rintro e w2 ⟨r, rfl, hr, hb⟩
  replace p0 := cellAt p0 hb (by omega)
  replace r0 := cellAt r0 hb (by omega)
  replace r1 := cellAt r1 hb (by omega)
  replace r2 := cellAt r2 hb (by omega)
  replace z0 := froAt z0 hb (by omega)
  replace z1 := froAt z1 hb (by omega)
  replace z2 := froAt z2 hb (by omega)
  replace HF := Lib.hid (HF.out.at hb)
  replace n0 : w.heap.size < w2.heap.size := ltAt n0 hb
  replace n1 : (w.heap.size + 1) < w2.heap.size := ltAt n1 hb
  have HB2 := Lib.hid (lift HB1.out hb)
  clear hb
  rcases hr with ⟨rfl, hno⟩ | ⟨k, hlt, rfl, hfd, _, _⟩
  · have HR := Lib.hid (HA.out.trans hno)
    clear hno
    go_wp2_with fail
    have hB0 := HB2.out
    refine bodyPost_ret (v := .tuple #[flV ([], [], []), .bool false]) (by simp only [results, Tryz.results73]; go_simp) rfl ⟨by rw [HR.out] <;> rfl, ?_⟩
    repeat (first | (with_reducible exact hB0) | (with_reducible refine Below.drew ?_) | (with_reducible refine Below.alloc ?_ ?zs _; case zs => first | omega | (simp <;> omega)) | (with_reducible refine Below.setCell ?_ ?zs _; case zs => first | omega | (simp <;> omega)))
  · have HR := Lib.hid (HA.out.trans hfd)
    obtain ⟨b2, o2, hA, hB2, x0, x1, x2⟩ := HF.out.rd.fl hlt
    subst hA
    clear hfd
    generalize fs[k] = p at x0 x1 x2 HR
    obtain ⟨s, t, l⟩ := p
    simp only at x0 x1 x2
    have i1 : (0 : Int) ≤ (k : Int) := by omega
    have i2 : (k : Int) < (fs.length : Int) := by omega
    have i3 : decide ((k : Int) < 0) = false := by rw [decide_eq_false_iff_not]; omega
    go_wp2_with fail
    have hB0 := HB2.out
    refine bodyPost_ret (v := .tuple #[flV (s, t, l), .bool true]) (by simp only [results, Tryz.results73]; go_simp) rfl ⟨by rw [HR.out] <;> rfl, ?_⟩
    repeat (first | (with_reducible exact hB0) | (with_reducible refine Below.drew ?_) | (with_reducible refine Below.alloc ?_ ?zs _; case zs => first | omega | (simp <;> omega)) | (with_reducible refine Below.setCell ?_ ?zs _; case zs => first | omega | (simp <;> omega)))
end Od
end Go.Proofs.YtgfdcmlmgeoimaaGreat
end

section
/- The file of a name in the first place that has one: disk.first, the reference's. (bel2) -/
namespace Go.Proofs.YtgfdcmlmgeoimaaGreat
open Go.RowKit Go.Sort
set_option linter.unusedSimpArgs false
namespace Od
theorem place_three {p : Str} (h : p ∈ placesL) : p.length = 3 := by
  unfold placesL at h
  simp only [List.mem_cons, List.not_mem_nil, or_false] at h
  rcases h with rfl | rfl | rfl <;> rfl
theorem find_place {fs : List Fl} {u : Str} {k : Nat} (hk : k < placesL.length) (hno : ∀ j (hj : j < placesL.length), j < k → atF fs (pathU placesL[j] u) = none) : ∀ f, atF fs (pathU placesL[k] u) = some f → placesL.findSome? (fun p => atF fs (pathU p u)) = some f := by
  intro f h2
  have e : placesL = placesL.take k ++ (placesL[k] :: placesL.drop (k + 1)) := by rw [List.getElem_cons_drop, List.take_append_drop]
  have h1 : (placesL.take k).findSome? (fun p => atF fs (pathU p u)) = none := by
    rw [List.findSome?_eq_none_iff]
    intro p hp
    obtain ⟨j, hj, rfl⟩ := List.getElem_of_mem hp
    rw [List.length_take] at hj
    rw [List.getElem_take]
    exact hno j (by omega) (by omega)
  conv => lhs; rw [e]
  rw [List.findSome?_append, h1, List.findSome?_cons, h2]
  rfl
theorem no_place {fs : List Fl} {u : Str} (hno : ∀ j (hj : j < placesL.length), j < placesL.length → atF fs (pathU placesL[j] u) = none) : placesL.findSome? (fun p => atF fs (pathU p u)) = none := by
  rw [List.findSome?_eq_none_iff]
  intro p hp
  obtain ⟨j, hj, rfl⟩ := List.getElem_of_mem hp
  exact hno j hj hj
set_option maxRecDepth 100000 in
set_option maxHeartbeats 8000000 in
theorem first12_any (A : Option Addr) (c : Nat) (fs : List Fl) (u : Str) (w : World) (h : FlIn w A fs) (hl : fs.length ≤ 10000000000000) (hu : u.length ≤ 140737488355328) : Calls Tryz.prog 29 #[.slice A fs.length c, sv u] w fun e w' => e = .returned (optV (firstF fs u)) ∧ Below w.heap.size w w' := by
  have HF := Lib.hid h
  have HA := Lib.hid (show firstF fs u = placesL.findSome? (fun p => atF fs (pathU p u)) from rfl)
  clear h
  go_enter Tryz.func29, Tryz.ntmps29
  go_wp2_with fail
  first | (refine wp_named ?_; intro W1 hW) | (refine calls_named ?_; intro W1 hW) | (refine exit_named ?_; intro W1 hW)
  have B1 : Below w.heap.size w W1 := by rw [hW]; exact (by repeat (first | exact Below.refl _ _ | assumption | refine Below.alloc ?_ (by first | omega | (simp <;> omega)) _ | refine Below.setCell ?_ (by first | omega | (simp <;> omega)) _ | refine Below.drew ?_))
  replace HF := Lib.hid (HF.out.at B1)
  have n0 : w.heap.size < W1.heap.size := by rw [hW]; simp <;> omega
  have r0 : W1.cell? ⟨w.heap.size, 0, none⟩ = some (.string ⟨#[]⟩) := by rw [hW]; go_simp
  have r1 : W1.cell? ⟨w.heap.size, 1, none⟩ = some (.string ⟨#[]⟩) := by rw [hW]; go_simp
  have r2 : W1.cell? ⟨w.heap.size, 2, none⟩ = some (.string ⟨#[]⟩) := by rw [hW]; go_simp
  have z0 : W1.frozen? ⟨w.heap.size, 0, none⟩ = false := by rw [hW]; go_simp
  have z1 : W1.frozen? ⟨w.heap.size, 1, none⟩ = false := by rw [hW]; go_simp
  have z2 : W1.frozen? ⟨w.heap.size, 2, none⟩ = false := by rw [hW]; go_simp
  clear hW
  have HB1 := Lib.hid B1
  clear B1
  refine (places_any W1).mono ?_
  rintro e w2 ⟨A1, c1, rfl, hc1, hr1, hb⟩
  have HR1 := Lib.hid hr1
  replace r0 := cellAt r0 hb (by omega)
  replace r1 := cellAt r1 hb (by omega)
  replace r2 := cellAt r2 hb (by omega)
  replace z0 := froAt z0 hb (by omega)
  replace z1 := froAt z1 hb (by omega)
  replace z2 := froAt z2 hb (by omega)
  replace HF := Lib.hid (HF.out.at hb)
  replace n0 : w.heap.size < w2.heap.size := ltAt n0 hb
  have HB2 := Lib.hid (lift HB1.out hb)
  clear hb hr1
  have hpl : placesL.length = 3 := rfl
  go_wp2_with fail
  go_loopw [12] (fun i wr => ∃ k : Nat, k ≤ placesL.length ∧ i = .int .i64 k ∧ Hid (∀ j (hj : j < placesL.length), j < k → atF fs (pathU placesL[j] u) = none) ∧ Hid (Below w2.heap.size w2 wr)) (fun i _ => placesL.length - (intOf i).toNat)
  case atStart => exact ⟨0, Nat.zero_le _, rfl, fun _ _ h => absurd h (by omega), Below.refl _ _⟩
  case round =>
    obtain ⟨k, hk, rfl, HNo, HB⟩ := hrel
    obtain ⟨w6, rfl⟩ : ∃ wo : World, wo = wr := ⟨_, rfl⟩
    have hb6 := HB.out
    have HB6 := Lib.hid (lift HB2.out HB.out)
    replace r0 := cellAt r0 hb6 (by omega)
    replace r1 := cellAt r1 hb6 (by omega)
    replace r2 := cellAt r2 hb6 (by omega)
    replace z0 := froAt z0 hb6 (by omega)
    replace z1 := froAt z1 hb6 (by omega)
    replace z2 := froAt z2 hb6 (by omega)
    replace HF := Lib.hid (HF.out.at hb6)
    replace n0 : w.heap.size < w6.heap.size := ltAt n0 hb6
    by_cases hlt : k < placesL.length
    · obtain ⟨b2, o2, hA, hB2, x0⟩ := (HR1.out.at hb6).str hlt
      subst hA
      clear hb6
      have hno := HNo.out
      have hfs := find_place (fs := fs) (u := u) hlt hno
      have hnx : atF fs (pathU placesL[k] u) = none → ∀ j (hj : j < placesL.length), j < k + 1 → atF fs (pathU placesL[j] u) = none := fun h0 j hj h1 => by
        rcases Nat.lt_or_eq_of_le (Nat.le_of_lt_succ h1) with h2 | h2
        · exact hno j hj h2
        · subst h2; exact h0
      have hp3 : placesL[k].length = 3 := place_three (List.getElem_mem hlt)
      generalize placesL[k] = p at x0 hp3 hfs hnx
      have HNx := Lib.hid hnx
      have i1 : (0 : Int) ≤ (k : Int) := by omega
      have i2 : (k : Int) < (placesL.length : Int) := by omega
      obtain ⟨A3, hA3⟩ : ∃ A, A = p ++ [47] := ⟨_, rfl⟩
      have e1 : ((⟨p.toArray⟩ : ByteArray) ++ ⟨#[47]⟩) = ⟨A3.toArray⟩ := by rw [hA3]; exact str_add p [47]
      have hpu : pathU p u = A3 ++ u := by rw [hA3]; unfold pathU; simp
      have l3 : A3.length = 4 := by rw [hA3]; simp [hp3]
      rw [hpu] at hfs HNx
      obtain ⟨A4, hA4⟩ : ∃ A, A = A3 ++ u := ⟨_, rfl⟩
      have e2 : ((⟨A3.toArray⟩ : ByteArray) ++ ⟨u.toArray⟩) = ⟨A4.toArray⟩ := by rw [hA4]; exact str_add A3 u
      rw [← hA4] at hfs HNx
      have n1 : ¬ 9223372036854775807 < p.length + 1 := by omega
      have n2 : ¬ 9223372036854775807 < A3.length + u.length := by omega
      clear hA3 hA4 hpu hno hnx
      go_wp2_with fail
      refine (at12_any A c fs A4 w6 HF.out hl).mono ?_
      rintro e w7 ⟨rfl, hb⟩
      replace r0 := cellAt r0 hb (by omega)
      replace r1 := cellAt r1 hb (by omega)
      replace r2 := cellAt r2 hb (by omega)
      replace z0 := froAt z0 hb (by omega)
      replace z1 := froAt z1 hb (by omega)
      replace z2 := froAt z2 hb (by omega)
      replace HF := Lib.hid (HF.out.at hb)
      replace n0 : w.heap.size < w7.heap.size := ltAt n0 hb
      have HB7 := Lib.hid (lift HB6.out hb)
      have HBr := Lib.hid (lift HB.out hb)
      clear hb
      cases hat : atF fs A4 with
      | none =>
        have HN2 := Lib.hid (HNx.out hat)
        clear hfs HNx hat
        unfold optV
        simp only
        have hz7 := HBr.out.size
        go_wp2_with fail
        go_roundw
        case rel => exact ⟨k + 1, by omega, by go_num, HN2, HBr.out.alloc hz7 _⟩
        case measure => simp [intOf]; omega
      | some f =>
        obtain ⟨s, t, l⟩ := f
        have HR := Lib.hid (HA.out.trans (hfs _ hat))
        clear hfs HNx hat
        unfold optV
        simp only
        go_wp2_with fail
        have hB0 := HB7.out
        refine bodyPost_ret (v := .tuple #[flV (s, t, l), .bool true]) (by simp only [results, Tryz.results29]; go_simp) rfl ⟨by rw [HR.out] <;> rfl, ?_⟩
        repeat (first | (with_reducible exact hB0) | (with_reducible refine Below.drew ?_) | (with_reducible refine Below.alloc ?_ ?zs _; case zs => first | omega | (simp <;> omega)) | (with_reducible refine Below.setCell ?_ ?zs _; case zs => first | omega | (simp <;> omega)))
    · obtain rfl : k = placesL.length := by omega
      have HR := Lib.hid (HA.out.trans (no_place HNo.out))
      go_wp2_with fail
      have hB0 := HB6.out
      refine bodyPost_ret (v := .tuple #[flV ([], [], []), .bool false]) (by simp only [results, Tryz.results29]; go_simp) rfl ⟨by rw [HR.out] <;> rfl, ?_⟩
      repeat (first | (with_reducible exact hB0) | (with_reducible refine Below.drew ?_) | (with_reducible refine Below.alloc ?_ ?zs _; case zs => first | omega | (simp <;> omega)) | (with_reducible refine Below.setCell ?_ ?zs _; case zs => first | omega | (simp <;> omega)))
set_option maxRecDepth 100000 in
set_option maxHeartbeats 8000000 in
theorem first_any (A : Option Addr) (c : Nat) (fs : List Fl) (u : Str) (w : World) (h : FlIn w A fs) (hl : fs.length ≤ 10000000000000) (hu : u.length ≤ 140737488355328) : Calls Tryz.prog 45 #[.slice A fs.length c, sv u] w fun e w' => e = .returned (optV (firstF fs u)) ∧ Below w.heap.size w w' := by
  have HF := Lib.hid h
  have HA := Lib.hid (show firstF fs u = placesL.findSome? (fun p => atF fs (pathU p u)) from rfl)
  clear h
  go_enter Tryz.func45, Tryz.ntmps45
  go_wp2_with fail
  first | (refine wp_named ?_; intro W1 hW) | (refine calls_named ?_; intro W1 hW) | (refine exit_named ?_; intro W1 hW)
  have B1 : Below w.heap.size w W1 := by rw [hW]; exact (by repeat (first | exact Below.refl _ _ | assumption | refine Below.alloc ?_ (by first | omega | (simp <;> omega)) _ | refine Below.setCell ?_ (by first | omega | (simp <;> omega)) _ | refine Below.drew ?_))
  replace HF := Lib.hid (HF.out.at B1)
  have n0 : w.heap.size < W1.heap.size := by rw [hW]; simp <;> omega
  have r0 : W1.cell? ⟨w.heap.size, 0, none⟩ = some (.string ⟨#[]⟩) := by rw [hW]; go_simp
  have r1 : W1.cell? ⟨w.heap.size, 1, none⟩ = some (.string ⟨#[]⟩) := by rw [hW]; go_simp
  have r2 : W1.cell? ⟨w.heap.size, 2, none⟩ = some (.string ⟨#[]⟩) := by rw [hW]; go_simp
  have z0 : W1.frozen? ⟨w.heap.size, 0, none⟩ = false := by rw [hW]; go_simp
  have z1 : W1.frozen? ⟨w.heap.size, 1, none⟩ = false := by rw [hW]; go_simp
  have z2 : W1.frozen? ⟨w.heap.size, 2, none⟩ = false := by rw [hW]; go_simp
  clear hW
  have HB1 := Lib.hid B1
  clear B1
  refine (Places_any W1).mono ?_
  rintro e w2 ⟨A1, c1, rfl, hc1, hr1, hb⟩
  have HR1 := Lib.hid hr1
  replace r0 := cellAt r0 hb (by omega)
  replace r1 := cellAt r1 hb (by omega)
  replace r2 := cellAt r2 hb (by omega)
  replace z0 := froAt z0 hb (by omega)
  replace z1 := froAt z1 hb (by omega)
  replace z2 := froAt z2 hb (by omega)
  replace HF := Lib.hid (HF.out.at hb)
  replace n0 : w.heap.size < w2.heap.size := ltAt n0 hb
  have HB2 := Lib.hid (lift HB1.out hb)
  clear hb hr1
  have hpl : placesL.length = 3 := rfl
  go_wp2_with fail
  go_loopw [12] (fun i wr => ∃ k : Nat, k ≤ placesL.length ∧ i = .int .i64 k ∧ Hid (∀ j (hj : j < placesL.length), j < k → atF fs (pathU placesL[j] u) = none) ∧ Hid (Below w2.heap.size w2 wr)) (fun i _ => placesL.length - (intOf i).toNat)
  case atStart => exact ⟨0, Nat.zero_le _, rfl, fun _ _ h => absurd h (by omega), Below.refl _ _⟩
  case round =>
    obtain ⟨k, hk, rfl, HNo, HB⟩ := hrel
    obtain ⟨w6, rfl⟩ : ∃ wo : World, wo = wr := ⟨_, rfl⟩
    have hb6 := HB.out
    have HB6 := Lib.hid (lift HB2.out HB.out)
    replace r0 := cellAt r0 hb6 (by omega)
    replace r1 := cellAt r1 hb6 (by omega)
    replace r2 := cellAt r2 hb6 (by omega)
    replace z0 := froAt z0 hb6 (by omega)
    replace z1 := froAt z1 hb6 (by omega)
    replace z2 := froAt z2 hb6 (by omega)
    replace HF := Lib.hid (HF.out.at hb6)
    replace n0 : w.heap.size < w6.heap.size := ltAt n0 hb6
    by_cases hlt : k < placesL.length
    · obtain ⟨b2, o2, hA, hB2, x0⟩ := (HR1.out.at hb6).str hlt
      subst hA
      clear hb6
      have hno := HNo.out
      have hfs := find_place (fs := fs) (u := u) hlt hno
      have hnx : atF fs (pathU placesL[k] u) = none → ∀ j (hj : j < placesL.length), j < k + 1 → atF fs (pathU placesL[j] u) = none := fun h0 j hj h1 => by
        rcases Nat.lt_or_eq_of_le (Nat.le_of_lt_succ h1) with h2 | h2
        · exact hno j hj h2
        · subst h2; exact h0
      have hp3 : placesL[k].length = 3 := place_three (List.getElem_mem hlt)
      generalize placesL[k] = p at x0 hp3 hfs hnx
      have HNx := Lib.hid hnx
      have i1 : (0 : Int) ≤ (k : Int) := by omega
      have i2 : (k : Int) < (placesL.length : Int) := by omega
      obtain ⟨A3, hA3⟩ : ∃ A, A = p ++ [47] := ⟨_, rfl⟩
      have e1 : ((⟨p.toArray⟩ : ByteArray) ++ ⟨#[47]⟩) = ⟨A3.toArray⟩ := by rw [hA3]; exact str_add p [47]
      have hpu : pathU p u = A3 ++ u := by rw [hA3]; unfold pathU; simp
      have l3 : A3.length = 4 := by rw [hA3]; simp [hp3]
      rw [hpu] at hfs HNx
      obtain ⟨A4, hA4⟩ : ∃ A, A = A3 ++ u := ⟨_, rfl⟩
      have e2 : ((⟨A3.toArray⟩ : ByteArray) ++ ⟨u.toArray⟩) = ⟨A4.toArray⟩ := by rw [hA4]; exact str_add A3 u
      rw [← hA4] at hfs HNx
      have n1 : ¬ 9223372036854775807 < p.length + 1 := by omega
      have n2 : ¬ 9223372036854775807 < A3.length + u.length := by omega
      clear hA3 hA4 hpu hno hnx
      go_wp2_with fail
      refine (file_any A c fs A4 w6 HF.out hl).mono ?_
      rintro e w7 ⟨rfl, hb⟩
      replace r0 := cellAt r0 hb (by omega)
      replace r1 := cellAt r1 hb (by omega)
      replace r2 := cellAt r2 hb (by omega)
      replace z0 := froAt z0 hb (by omega)
      replace z1 := froAt z1 hb (by omega)
      replace z2 := froAt z2 hb (by omega)
      replace HF := Lib.hid (HF.out.at hb)
      replace n0 : w.heap.size < w7.heap.size := ltAt n0 hb
      have HB7 := Lib.hid (lift HB6.out hb)
      have HBr := Lib.hid (lift HB.out hb)
      clear hb
      cases hat : atF fs A4 with
      | none =>
        have HN2 := Lib.hid (HNx.out hat)
        clear hfs HNx hat
        unfold optV
        simp only
        have hz7 := HBr.out.size
        go_wp2_with fail
        go_roundw
        case rel => exact ⟨k + 1, by omega, by go_num, HN2, HBr.out.alloc hz7 _⟩
        case measure => simp [intOf]; omega
      | some f =>
        obtain ⟨s, t, l⟩ := f
        have HR := Lib.hid (HA.out.trans (hfs _ hat))
        clear hfs HNx hat
        unfold optV
        simp only
        go_wp2_with fail
        have hB0 := HB7.out
        refine bodyPost_ret (v := .tuple #[flV (s, t, l), .bool true]) (by simp only [results, Tryz.results45]; go_simp) rfl ⟨by rw [HR.out] <;> rfl, ?_⟩
        repeat (first | (with_reducible exact hB0) | (with_reducible refine Below.drew ?_) | (with_reducible refine Below.alloc ?_ ?zs _; case zs => first | omega | (simp <;> omega)) | (with_reducible refine Below.setCell ?_ ?zs _; case zs => first | omega | (simp <;> omega)))
    · obtain rfl : k = placesL.length := by omega
      have HR := Lib.hid (HA.out.trans (no_place HNo.out))
      go_wp2_with fail
      have hB0 := HB6.out
      refine bodyPost_ret (v := .tuple #[flV ([], [], []), .bool false]) (by simp only [results, Tryz.results45]; go_simp) rfl ⟨by rw [HR.out] <;> rfl, ?_⟩
      repeat (first | (with_reducible exact hB0) | (with_reducible refine Below.drew ?_) | (with_reducible refine Below.alloc ?_ ?zs _; case zs => first | omega | (simp <;> omega)) | (with_reducible refine Below.setCell ?_ ?zs _; case zs => first | omega | (simp <;> omega)))
end Od
end Go.Proofs.YtgfdcmlmgeoimaaGreat
end

section
/- disk.owned: a name's file, or its template's. (bel2) -/
namespace Go.Proofs.YtgfdcmlmgeoimaaGreat
open Go.RowKit Go.Sort
set_option linter.unusedSimpArgs false
namespace Od
def fl0 : Fl := ([], [], [])
/-- A file, whether it is the template's, whether there is one. -/
def ownR (fs : List Fl) (n : Str) : Fl × Bool × Bool :=
  match firstF fs n with
  | some f => (f, false, true)
  | none => if templS n = [] then (fl0, false, false) else match firstF fs (templS n) with
    | some f => (f, true, true)
    | none => (fl0, true, false)
abbrev ownV (r : Fl × Bool × Bool) : Value := .tuple #[flV r.1, .bool r.2.1, .bool r.2.2]
theorem templ_le (s : Str) : (templS s).length ≤ 200 := by
  rw [templ_eq]
  split
  · simp
  · rename_i hi
    have hk : kindS s ≠ 0 := fun h0 => hi (by rw [ofS_zero h0])
    have h1 := (ofS_le s).1
    have h2 := (kind_parts hk).2.2.2.1
    have h3 := (suf_pos h2.1 h2.2).2.2.2
    unfold makeS
    simp only [if_true, List.length_append, List.length_cons, List.length_nil]
    omega
theorem templ_nil (s : Str) : templS s = [] ↔ instS s = false := by
  constructor
  · intro h
    cases hi : instS s
    · rfl
    · exact absurd h (templ_ne hi).2
  · intro h; unfold templS; rw [h]; rfl
theorem own_none {fs : List Fl} {n : Str} : (ownR fs n).2.2 = false ↔ ownedF fs n = none := by
  unfold ownR ownedF
  cases firstF fs n with
  | some f => simp
  | none =>
    simp only
    by_cases ht : templS n = []
    · rw [if_pos ht, (templ_nil n).1 ht]; simp
    · have hi : instS n = true := by
        cases hi : instS n
        · exact absurd ((templ_nil n).2 hi) ht
        · rfl
      rw [if_neg ht, hi]
      cases firstF fs (templS n) <;> simp
theorem own_some {fs : List Fl} {n : Str} {f : Fl} {own : Bool} (h : ownedF fs n = some (f, own)) : ownR fs n = (f, !own, true) := by
  unfold ownR
  unfold ownedF at h
  cases h1 : firstF fs n with
  | some g =>
    rw [h1] at h
    injection h with h
    injection h with a b
    rw [a, ← b]
    rfl
  | none =>
    rw [h1] at h
    simp only at h ⊢
    cases hi : instS n
    · rw [hi] at h; cases h
    · rw [hi] at h
      simp only [if_true] at h
      rw [if_neg (fun e => by rw [(templ_nil n).1 e] at hi; cases hi)]
      obtain ⟨g, hg, e⟩ := Option.map_eq_some_iff.1 h
      injection e with a b
      rw [hg, ← b, a]
      rfl
set_option maxRecDepth 100000 in
set_option maxHeartbeats 8000000 in
theorem owned_any (A : Option Addr) (c : Nat) (fs : List Fl) (n : Str) (w : World) (h : FlIn w A fs) (hl : fs.length ≤ 10000000000000) (hn : n.length ≤ 140737488355328) : Calls Tryz.prog 24 #[.slice A fs.length c, sv n] w fun e w' => e = .returned (ownV (ownR fs n)) ∧ Below w.heap.size w w' := by
  have HF := Lib.hid h
  have hR : ownR fs n = match firstF fs n with
    | some f => (f, false, true)
    | none => if templS n = [] then (fl0, false, false) else match firstF fs (templS n) with
      | some f => (f, true, true)
      | none => (fl0, true, false) := rfl
  have htl := templ_le n
  clear h
  cases h1 : firstF fs n with
  | some f =>
    obtain ⟨s, t, l⟩ := f
    have HR := Lib.hid (show ownR fs n = ((s, t, l), false, true) by rw [hR, h1])
    clear hR
    go_enter Tryz.func24, Tryz.ntmps24
    go_wp2_with fail
    first | (refine wp_named ?_; intro W1 hW) | (refine calls_named ?_; intro W1 hW) | (refine exit_named ?_; intro W1 hW)
    have B1 : Below w.heap.size w W1 := by rw [hW]; exact (by repeat (first | exact Below.refl _ _ | assumption | refine Below.alloc ?_ (by first | omega | (simp <;> omega)) _ | refine Below.setCell ?_ (by first | omega | (simp <;> omega)) _ | refine Below.drew ?_))
    replace HF := Lib.hid (HF.out.at B1)
    have n0 : w.heap.size < W1.heap.size := by rw [hW]; simp <;> omega
    have r0 : W1.cell? ⟨w.heap.size, 0, none⟩ = some (.string ⟨#[]⟩) := by rw [hW]; go_simp
    have r1 : W1.cell? ⟨w.heap.size, 1, none⟩ = some (.string ⟨#[]⟩) := by rw [hW]; go_simp
    have r2 : W1.cell? ⟨w.heap.size, 2, none⟩ = some (.string ⟨#[]⟩) := by rw [hW]; go_simp
    have z0 : W1.frozen? ⟨w.heap.size, 0, none⟩ = false := by rw [hW]; go_simp
    have z1 : W1.frozen? ⟨w.heap.size, 1, none⟩ = false := by rw [hW]; go_simp
    have z2 : W1.frozen? ⟨w.heap.size, 2, none⟩ = false := by rw [hW]; go_simp
    clear hW
    have HB1 := Lib.hid B1
    clear B1
    refine (first_any A c fs n W1 HF.out hl hn).mono ?_
    rintro e w2 ⟨rfl, hb⟩
    rw [h1]
    unfold optV
    simp only
    replace r0 := cellAt r0 hb (by omega)
    replace r1 := cellAt r1 hb (by omega)
    replace r2 := cellAt r2 hb (by omega)
    replace z0 := froAt z0 hb (by omega)
    replace z1 := froAt z1 hb (by omega)
    replace z2 := froAt z2 hb (by omega)
    replace HF := Lib.hid (HF.out.at hb)
    replace n0 : w.heap.size < w2.heap.size := ltAt n0 hb
    have HB2 := Lib.hid (lift HB1.out hb)
    have hn2 : w.heap.size < w2.heap.size := n0
    clear hb
    go_wp2_with fail
    have hB0 := HB2.out
    refine bodyPost_ret (v := .tuple #[flV (s, t, l), .bool false, .bool true]) (by simp only [results, Tryz.results24]; go_simp) rfl ⟨by rw [HR.out] <;> rfl, ?_⟩
    repeat (first | (with_reducible exact hB0) | (with_reducible refine Below.drew ?_) | (with_reducible refine Below.alloc ?_ ?zs _; case zs => first | omega | (simp <;> omega)) | (with_reducible refine Below.setCell ?_ ?zs _; case zs => first | omega | (simp <;> omega)))
  | none =>
    rw [h1] at hR
    simp only at hR
    cases ht : (templS n == ([] : Str))
    · have ht0 : templS n ≠ [] := by simpa using ht
      rw [if_neg ht0] at hR
      have hTm := Lib.hid (fun W => Template_any n W hn)
      clear ht0
      generalize templS n = tn at *
      go_enter Tryz.func24, Tryz.ntmps24
      go_wp2_with fail
      first | (refine wp_named ?_; intro W1 hW) | (refine calls_named ?_; intro W1 hW) | (refine exit_named ?_; intro W1 hW)
      have B1 : Below w.heap.size w W1 := by rw [hW]; exact (by repeat (first | exact Below.refl _ _ | assumption | refine Below.alloc ?_ (by first | omega | (simp <;> omega)) _ | refine Below.setCell ?_ (by first | omega | (simp <;> omega)) _ | refine Below.drew ?_))
      replace HF := Lib.hid (HF.out.at B1)
      have n0 : w.heap.size < W1.heap.size := by rw [hW]; simp <;> omega
      have r0 : W1.cell? ⟨w.heap.size, 0, none⟩ = some (.string ⟨#[]⟩) := by rw [hW]; go_simp
      have r1 : W1.cell? ⟨w.heap.size, 1, none⟩ = some (.string ⟨#[]⟩) := by rw [hW]; go_simp
      have r2 : W1.cell? ⟨w.heap.size, 2, none⟩ = some (.string ⟨#[]⟩) := by rw [hW]; go_simp
      have z0 : W1.frozen? ⟨w.heap.size, 0, none⟩ = false := by rw [hW]; go_simp
      have z1 : W1.frozen? ⟨w.heap.size, 1, none⟩ = false := by rw [hW]; go_simp
      have z2 : W1.frozen? ⟨w.heap.size, 2, none⟩ = false := by rw [hW]; go_simp
      clear hW
      have HB1 := Lib.hid B1
      clear B1
      refine (first_any A c fs n W1 HF.out hl hn).mono ?_
      rintro e w2 ⟨rfl, hb⟩
      rw [h1]
      unfold optV
      simp only
      replace r0 := cellAt r0 hb (by omega)
      replace r1 := cellAt r1 hb (by omega)
      replace r2 := cellAt r2 hb (by omega)
      replace z0 := froAt z0 hb (by omega)
      replace z1 := froAt z1 hb (by omega)
      replace z2 := froAt z2 hb (by omega)
      replace HF := Lib.hid (HF.out.at hb)
      replace n0 : w.heap.size < w2.heap.size := ltAt n0 hb
      have HB2 := Lib.hid (lift HB1.out hb)
      have hn2 : w.heap.size < w2.heap.size := n0
      clear hb
      go_wp2_with fail
      first | (refine wp_named ?_; intro W3 hW) | (refine calls_named ?_; intro W3 hW) | (refine exit_named ?_; intro W3 hW)
      have B3 : Below w2.heap.size w2 W3 := by rw [hW]; exact (by repeat (first | exact Below.refl _ _ | assumption | refine Below.alloc ?_ (by first | omega | (simp <;> omega)) _ | refine Below.setCell ?_ (by first | omega | (simp <;> omega)) _ | refine Below.drew ?_))
      replace r0 := cellAt r0 B3 (by omega)
      replace r1 := cellAt r1 B3 (by omega)
      replace r2 := cellAt r2 B3 (by omega)
      replace z0 := froAt z0 B3 (by omega)
      replace z1 := froAt z1 B3 (by omega)
      replace z2 := froAt z2 B3 (by omega)
      replace HF := Lib.hid (HF.out.at B3)
      replace n0 : w.heap.size < W3.heap.size := ltAt n0 B3
      have n3 : w2.heap.size < W3.heap.size := by rw [hW]; simp <;> omega
      have f0 : W3.cell? ⟨w2.heap.size, 0, none⟩ = some (.string ⟨#[]⟩) := by rw [hW]; go_simp
      have f1 : W3.cell? ⟨w2.heap.size, 1, none⟩ = some (.string ⟨#[]⟩) := by rw [hW]; go_simp
      have f2 : W3.cell? ⟨w2.heap.size, 2, none⟩ = some (.string ⟨#[]⟩) := by rw [hW]; go_simp
      have g0 : W3.frozen? ⟨w2.heap.size, 0, none⟩ = false := by rw [hW]; go_simp
      have g1 : W3.frozen? ⟨w2.heap.size, 1, none⟩ = false := by rw [hW]; go_simp
      have g2 : W3.frozen? ⟨w2.heap.size, 2, none⟩ = false := by rw [hW]; go_simp
      clear hW
      have HB3 := Lib.hid (lift HB2.out B3)
      have hqw : ¬ w.heap.size = w2.heap.size := by omega
      clear B3
      refine (hTm.out W3).mono ?_
      rintro e w4 ⟨rfl, hb⟩
      replace r0 := cellAt r0 hb (by omega)
      replace r1 := cellAt r1 hb (by omega)
      replace r2 := cellAt r2 hb (by omega)
      replace z0 := froAt z0 hb (by omega)
      replace z1 := froAt z1 hb (by omega)
      replace z2 := froAt z2 hb (by omega)
      replace f0 := cellAt f0 hb (by omega)
      replace f1 := cellAt f1 hb (by omega)
      replace f2 := cellAt f2 hb (by omega)
      replace g0 := froAt g0 hb (by omega)
      replace g1 := froAt g1 hb (by omega)
      replace g2 := froAt g2 hb (by omega)
      replace HF := Lib.hid (HF.out.at hb)
      replace n0 : w.heap.size < w4.heap.size := ltAt n0 hb
      replace n3 : w2.heap.size < w4.heap.size := ltAt n3 hb
      have HB4 := Lib.hid (lift HB3.out hb)
      clear hb
      go_wp2_with fail
      refine (hTm.out w4).mono ?_
      rintro e w5 ⟨rfl, hb⟩
      replace r0 := cellAt r0 hb (by omega)
      replace r1 := cellAt r1 hb (by omega)
      replace r2 := cellAt r2 hb (by omega)
      replace z0 := froAt z0 hb (by omega)
      replace z1 := froAt z1 hb (by omega)
      replace z2 := froAt z2 hb (by omega)
      replace f0 := cellAt f0 hb (by omega)
      replace f1 := cellAt f1 hb (by omega)
      replace f2 := cellAt f2 hb (by omega)
      replace g0 := froAt g0 hb (by omega)
      replace g1 := froAt g1 hb (by omega)
      replace g2 := froAt g2 hb (by omega)
      replace HF := Lib.hid (HF.out.at hb)
      replace n0 : w.heap.size < w5.heap.size := ltAt n0 hb
      replace n3 : w2.heap.size < w5.heap.size := ltAt n3 hb
      have HB5 := Lib.hid (lift HB4.out hb)
      clear hb
      go_wp2_with fail
      refine (first_any A c fs tn w5 HF.out hl (by omega)).mono ?_
      rintro e w6 ⟨rfl, hb⟩
      replace r0 := cellAt r0 hb (by omega)
      replace r1 := cellAt r1 hb (by omega)
      replace r2 := cellAt r2 hb (by omega)
      replace z0 := froAt z0 hb (by omega)
      replace z1 := froAt z1 hb (by omega)
      replace z2 := froAt z2 hb (by omega)
      replace f0 := cellAt f0 hb (by omega)
      replace f1 := cellAt f1 hb (by omega)
      replace f2 := cellAt f2 hb (by omega)
      replace g0 := froAt g0 hb (by omega)
      replace g1 := froAt g1 hb (by omega)
      replace g2 := froAt g2 hb (by omega)
      replace HF := Lib.hid (HF.out.at hb)
      replace n0 : w.heap.size < w6.heap.size := ltAt n0 hb
      replace n3 : w2.heap.size < w6.heap.size := ltAt n3 hb
      have HB6 := Lib.hid (lift HB5.out hb)
      clear hb
      have hlw : w.heap.size ≤ w2.heap.size := HB2.out.size
      cases h2 : firstF fs tn with
      | some f =>
        obtain ⟨s, t, l⟩ := f
        have HR := Lib.hid (show ownR fs n = ((s, t, l), true, true) by rw [hR, h2])
        clear hR
        unfold optV
        simp only
        go_wp2_with fail
        have hB0 := HB6.out
        refine bodyPost_ret (v := .tuple #[flV (s, t, l), .bool true, .bool true]) (by simp only [results, Tryz.results24]; go_simp) rfl ⟨by rw [HR.out] <;> rfl, ?_⟩
        repeat (first | (with_reducible exact hB0) | (with_reducible refine Below.drew ?_) | (with_reducible refine Below.alloc ?_ ?zs _; case zs => first | omega | (simp <;> omega)) | (with_reducible refine Below.setCell ?_ ?zs _; case zs => first | omega | (simp <;> omega)))
      | none =>
        have HR := Lib.hid (show ownR fs n = (fl0, true, false) by rw [hR, h2])
        clear hR
        unfold optV
        simp only
        go_wp2_with fail
        have hB0 := HB6.out
        refine bodyPost_ret (v := .tuple #[flV ([], [], []), .bool true, .bool false]) (by simp only [results, Tryz.results24]; go_simp) rfl ⟨by rw [HR.out] <;> rfl, ?_⟩
        repeat (first | (with_reducible exact hB0) | (with_reducible refine Below.drew ?_) | (with_reducible refine Below.alloc ?_ ?zs _; case zs => first | omega | (simp <;> omega)) | (with_reducible refine Below.setCell ?_ ?zs _; case zs => first | omega | (simp <;> omega)))
    · have ht0 : templS n = [] := by simpa using ht
      rw [if_pos ht0] at hR
      have HR := Lib.hid hR
      have hTm := Lib.hid (fun W => Template_any n W hn)
      rw [ht0] at hTm
      clear ht0 hR ht
      go_enter Tryz.func24, Tryz.ntmps24
      go_wp2_with fail
      first | (refine wp_named ?_; intro W1 hW) | (refine calls_named ?_; intro W1 hW) | (refine exit_named ?_; intro W1 hW)
      have B1 : Below w.heap.size w W1 := by rw [hW]; exact (by repeat (first | exact Below.refl _ _ | assumption | refine Below.alloc ?_ (by first | omega | (simp <;> omega)) _ | refine Below.setCell ?_ (by first | omega | (simp <;> omega)) _ | refine Below.drew ?_))
      replace HF := Lib.hid (HF.out.at B1)
      have n0 : w.heap.size < W1.heap.size := by rw [hW]; simp <;> omega
      have r0 : W1.cell? ⟨w.heap.size, 0, none⟩ = some (.string ⟨#[]⟩) := by rw [hW]; go_simp
      have r1 : W1.cell? ⟨w.heap.size, 1, none⟩ = some (.string ⟨#[]⟩) := by rw [hW]; go_simp
      have r2 : W1.cell? ⟨w.heap.size, 2, none⟩ = some (.string ⟨#[]⟩) := by rw [hW]; go_simp
      have z0 : W1.frozen? ⟨w.heap.size, 0, none⟩ = false := by rw [hW]; go_simp
      have z1 : W1.frozen? ⟨w.heap.size, 1, none⟩ = false := by rw [hW]; go_simp
      have z2 : W1.frozen? ⟨w.heap.size, 2, none⟩ = false := by rw [hW]; go_simp
      clear hW
      have HB1 := Lib.hid B1
      clear B1
      refine (first_any A c fs n W1 HF.out hl hn).mono ?_
      rintro e w2 ⟨rfl, hb⟩
      rw [h1]
      unfold optV
      simp only
      replace r0 := cellAt r0 hb (by omega)
      replace r1 := cellAt r1 hb (by omega)
      replace r2 := cellAt r2 hb (by omega)
      replace z0 := froAt z0 hb (by omega)
      replace z1 := froAt z1 hb (by omega)
      replace z2 := froAt z2 hb (by omega)
      replace HF := Lib.hid (HF.out.at hb)
      replace n0 : w.heap.size < w2.heap.size := ltAt n0 hb
      have HB2 := Lib.hid (lift HB1.out hb)
      have hn2 : w.heap.size < w2.heap.size := n0
      clear hb
      go_wp2_with fail
      first | (refine wp_named ?_; intro W3 hW) | (refine calls_named ?_; intro W3 hW) | (refine exit_named ?_; intro W3 hW)
      have B3 : Below w2.heap.size w2 W3 := by rw [hW]; exact (by repeat (first | exact Below.refl _ _ | assumption | refine Below.alloc ?_ (by first | omega | (simp <;> omega)) _ | refine Below.setCell ?_ (by first | omega | (simp <;> omega)) _ | refine Below.drew ?_))
      replace r0 := cellAt r0 B3 (by omega)
      replace r1 := cellAt r1 B3 (by omega)
      replace r2 := cellAt r2 B3 (by omega)
      replace z0 := froAt z0 B3 (by omega)
      replace z1 := froAt z1 B3 (by omega)
      replace z2 := froAt z2 B3 (by omega)
      replace HF := Lib.hid (HF.out.at B3)
      replace n0 : w.heap.size < W3.heap.size := ltAt n0 B3
      have n3 : w2.heap.size < W3.heap.size := by rw [hW]; simp <;> omega
      have f0 : W3.cell? ⟨w2.heap.size, 0, none⟩ = some (.string ⟨#[]⟩) := by rw [hW]; go_simp
      have f1 : W3.cell? ⟨w2.heap.size, 1, none⟩ = some (.string ⟨#[]⟩) := by rw [hW]; go_simp
      have f2 : W3.cell? ⟨w2.heap.size, 2, none⟩ = some (.string ⟨#[]⟩) := by rw [hW]; go_simp
      clear hW
      have HB3 := Lib.hid (lift HB2.out B3)
      clear B3
      refine (hTm.out W3).mono ?_
      rintro e w4 ⟨rfl, hb⟩
      replace r0 := cellAt r0 hb (by omega)
      replace r1 := cellAt r1 hb (by omega)
      replace r2 := cellAt r2 hb (by omega)
      replace z0 := froAt z0 hb (by omega)
      replace z1 := froAt z1 hb (by omega)
      replace z2 := froAt z2 hb (by omega)
      replace f0 := cellAt f0 hb (by omega)
      replace f1 := cellAt f1 hb (by omega)
      replace f2 := cellAt f2 hb (by omega)
      replace HF := Lib.hid (HF.out.at hb)
      replace n0 : w.heap.size < w4.heap.size := ltAt n0 hb
      replace n3 : w2.heap.size < w4.heap.size := ltAt n3 hb
      have HB4 := Lib.hid (lift HB3.out hb)
      clear hb
      go_wp2_with fail
      have hB0 := HB4.out
      refine bodyPost_ret (v := .tuple #[flV ([], [], []), .bool false, .bool false]) (by simp only [results, Tryz.results24]; go_simp) rfl ⟨by rw [HR.out] <;> rfl, ?_⟩
      repeat (first | (with_reducible exact hB0) | (with_reducible refine Below.drew ?_) | (with_reducible refine Below.alloc ?_ ?zs _; case zs => first | omega | (simp <;> omega)) | (with_reducible refine Below.setCell ?_ ?zs _; case zs => first | omega | (simp <;> omega)))
end Od
end Go.Proofs.YtgfdcmlmgeoimaaGreat
end

section
/- disk.within, disk.Links. (bel2) -/
namespace Go.Proofs.YtgfdcmlmgeoimaaGreat
open Go.RowKit Go.Sort
set_option linter.unusedSimpArgs false
namespace Od
theorem filterMap_take {α β : Type} {F : α → Option β} {l : List α} {k : Nat} (hk : k < l.length) : (l.take (k + 1)).filterMap F = (l.take k).filterMap F ++ (F l[k]).toList := by
  rw [List.take_succ_eq_append_getElem hk, List.filterMap_append]
  congr 1
set_option maxRecDepth 100000 in
set_option maxHeartbeats 8000000 in
theorem within_any (A : Option Addr) (c : Nat) (fs : List Fl) (u : Str) (kk : Nat) (w : World) (h : FlIn w A fs) (hl : fs.length ≤ 1000000) : Calls Tryz.prog 36 #[.slice A fs.length c, sv u, sv (foldE kk)] w (OwnS (canon ltS (fs.filterMap (linkP kk u))) w) := by
  obtain ⟨i0, hi, hz0, hz1, hz2⟩ := info_parts infoS
  have HF := Lib.hid h
  have hlk : ∀ f : Fl, linkP kk u f = if (splP f.1).1.2.1 = u ∧ (splP f.1).1.2.2.1 = foldE kk then some (splP f.1).1.2.2.2 else none := fun _ => rfl
  generalize foldE kk = d at *
  generalize hLk : linkP kk u = F at *
  clear h hLk
  go_enter Tryz.func36, Tryz.ntmps36
  go_wp2_with fail
  go_loopw [7, 14] (fun v i wr => ∃ (k : Nat) (Ao : Option Addr) (co : Nat), k ≤ fs.length ∧ v = .slice Ao ((fs.take k).filterMap F).length co ∧ i = .int .i64 k ∧ Hid (wr.ownsRow w.heap.size 9 1 (.slice Ao ((fs.take k).filterMap F).length co) ((fs.take k).filterMap F).length (svs ((fs.take k).filterMap F))) ∧ Hid (Below w.heap.size w wr)) (fun _ i _ => fs.length - (intOf i).toNat)
  case atStart => exact ⟨0, none, 0, Nat.zero_le _, rfl, rfl, World.ownsRow_nil _ _ _ _, Below.refl _ _⟩
  case round =>
    obtain ⟨k, Ao, co, hk, rfl, rfl, HO, HB⟩ := hrel
    obtain ⟨w6, rfl⟩ : ∃ wo : World, wo = wr := ⟨_, rfl⟩
    have hz6 := HB.out.size
    have hol : ((fs.take k).filterMap F).length ≤ fs.length := Nat.le_trans (List.length_filterMap_le _ _) (by rw [List.length_take]; omega)
    by_cases hlt : k < fs.length
    · obtain ⟨b2, o2, hA, hB2, x0, x1, x2⟩ := (HF.out.at HB.out).rd.fl hlt
      have htk := filterMap_take (F := F) hlt
      have hok := (HF.out.ok _ (List.getElem_mem hlt)).1
      have hlf := hlk fs[k]
      subst hA
      generalize fs[k] = p at x0 x1 x2 htk hok hlf
      obtain ⟨s, t, l⟩ := p
      simp only at x0 x1 x2 hok hlf
      have hok1 : s.length ≤ 140737488355328 := Nat.le_trans hok (by decide)
      have hsp := fun W => split_any s W hok1
      rcases hx : splP s with ⟨⟨i, pu, pd, pg⟩, pb⟩
      rw [hx] at hsp hlf
      simp only at hlf
      generalize F (s, t, l) = fo at htk hlf
      generalize (fs.take k).filterMap F = O at *
      have HTk := Lib.hid htk
      have HLf := Lib.hid hlf
      have i1 : (0 : Int) ≤ (k : Int) := by omega
      have i2 : (k : Int) < (fs.length : Int) := by omega
      clear hx htk hlf
      go_wp2_with fail
      first | (refine wp_named ?_; intro W7 hW) | (refine calls_named ?_; intro W7 hW) | (refine exit_named ?_; intro W7 hW)
      have B7 : Below w6.heap.size w6 W7 := by rw [hW]; exact (by repeat (first | exact Below.refl _ _ | assumption | refine Below.alloc ?_ (by first | omega | (simp <;> omega)) _ | refine Below.setCell ?_ (by first | omega | (simp <;> omega)) _ | refine Below.drew ?_))
      replace HO := Lib.hid (own_on HO.out B7)
      have m7 : w6.heap.size < W7.heap.size := by rw [hW]; simp <;> omega
      clear hW
      have HB7 := Lib.hid (lift HB.out B7)
      clear B7 x0 x1 x2
      refine (hsp W7).mono ?_
      rintro e w8 ⟨rfl, hb⟩
      replace HO := Lib.hid (own_on HO.out hb)
      replace m7 : w6.heap.size < w8.heap.size := ltAt m7 hb
      have HB8 := Lib.hid (lift HB7.out hb)
      clear hb hsp
      go_upto_region 6 with fail
      first | (refine wp_named ?_; intro W9 hW) | (refine calls_named ?_; intro W9 hW) | (refine exit_named ?_; intro W9 hW)
      have B9 : Below w8.heap.size w8 W9 := by rw [hW]; exact (by repeat (first | exact Below.refl _ _ | assumption | refine Below.alloc ?_ (by first | omega | (simp <;> omega)) _ | refine Below.setCell ?_ (by first | omega | (simp <;> omega)) _ | refine Below.drew ?_))
      replace HO := Lib.hid (own_on HO.out B9)
      replace m7 : w6.heap.size < W9.heap.size := ltAt m7 B9
      have m9 : w8.heap.size < W9.heap.size := by rw [hW]; simp <;> omega
      have y0 : W9.cell? ⟨w8.heap.size, 0, none⟩ = some (.int .i64 i) := by rw [hW]; go_simp
      have y1 : W9.cell? ⟨w8.heap.size, 1, none⟩ = some (sv pu) := by rw [hW]; go_simp
      have y2 : W9.cell? ⟨w8.heap.size, 2, none⟩ = some (sv pd) := by rw [hW]; go_simp
      have y3 : W9.cell? ⟨w8.heap.size, 3, none⟩ = some (sv pg) := by rw [hW]; go_simp
      clear hW
      have HB9 := Lib.hid (lift HB8.out B9)
      have hz9 := HB9.out.size
      clear B9
      cases h1 : (pu == u)
      · skip
        have HNx := Lib.hid (show (fs.take (k + 1)).filterMap F = O by rw [HTk.out, HLf.out, if_neg (by simp_all)]; simp)
        clear HTk HLf
        go_wp2_with fail
        go_roundw
        case rel => exact ⟨k + 1, Ao, co, by omega, by rw [HNx.out], by go_num, by rw [HNx.out]; exact HO.out, HB9.out⟩
        case measure => simp [intOf]; omega
      · cases h2 : (pd == d)
        · skip
          have HNx := Lib.hid (show (fs.take (k + 1)).filterMap F = O by rw [HTk.out, HLf.out, if_neg (by simp_all)]; simp)
          clear HTk HLf
          go_wp2_with fail
          go_roundw
          case rel => exact ⟨k + 1, Ao, co, by omega, by rw [HNx.out], by go_num, by rw [HNx.out]; exact HO.out, HB9.out⟩
          case measure => simp [intOf]; omega
        · have e1 : pu = u := by simpa using h1
          have e2 : pd = d := by simpa using h2
          have HNx := Lib.hid (show (fs.take (k + 1)).filterMap F = O ++ [pg] by rw [HTk.out, HLf.out, if_pos ⟨e1, e2⟩]; rfl)
          have h63 := Lib.hid (show O.length + 1 ≤ maxLen by unfold maxLen; omega)
          have hby := Lib.hid (show (O.length + 1) * 16 ≤ 140737488355328 by omega)
          clear HTk HLf e1 e2
          go_wp2_with (first | (at_builtin; refine wpList_pushm W9 W9 (by rfl) (.tmp 34) (.tmp 37) 24 (by rfl) w.heap.size 9 i0 _ 1 16 Tryz.underlying24 hi hz0 hz1 hz2 rfl (by decide) _ _ _ (by rfl) HO.out [sv pg] W9.heap.size rfl (by rfl) rfl (one_sv pg) h63.out hby.out hz9 (Below.refl _ _) ?_; intro A10 c10 w10 hown hbel hg hat; have HO10 := Lib.hid hown; have HBa := Lib.hid hbel; clear hown hbel hg hat) | fail)
          go_roundw
          case rel => exact ⟨k + 1, A10, c10, by omega, by rw [HNx.out, List.length_append]; rfl, by go_num, by rw [HNx.out, List.length_append, svs_app]; exact HO10.out, HB9.out.trans HBa.out⟩
          case measure => simp [intOf]; omega
    · obtain rfl : k = fs.length := by omega
      rw [List.take_length] at HO hol ⊢
      have hcan : ∀ O, fs.filterMap F = O → Lib.compact (sortS O) = canon ltS (fs.filterMap F) := fun O h => by rw [h]; exact onceS_canon O
      generalize hO : fs.filterMap F = O at HO hol ⊢
      have HC := Lib.hid (hcan O hO)
      clear hcan hO
      go_wp2_with fail
      refine (sortS_own w.heap.size co Ao O w6 HO.out (by omega)).mono ?_
      rintro e w7 ⟨rfl, h7, g7⟩
      have H7 := Lib.hid h7
      have HB7 := Lib.hid (HB.out.grown g7 hz6 (fun g hg => (HO.out.lt g hg).1))
      have hsl := sortS_len O
      clear h7 g7
      go_wp2_with fail
      refine (show Calls Tryz.prog 68 #[.slice Ao O.length co] w7 _ from hsl ▸ compactS_own w.heap.size co Ao (sortS O) w7 (by rw [hsl]; exact H7.out) (by omega)).mono ?_
      rintro e w8 ⟨rfl, h8, g8⟩
      have H8 := Lib.hid h8
      have HB8 := Lib.hid (HB7.out.grown g8 HB7.out.size (fun g hg => (H7.out.lt g hg).1))
      clear h8 g8
      go_wp2_with fail
      go_ret
      refine ⟨Ao, co, ?_, ?_, HB8.out⟩
      · rw [← HC.out]; rfl
      · rw [← HC.out]; exact H8.out
/-- Whom links name: two rows. -/
def LinksR (fs : List Fl) (u : Str) (w : World) (e : Ending) (w' : World) : Prop := ∃ A1 c1 A2 c2, e = .returned (.tuple #[.slice A1 (linksF fs 3 u).length c1, .slice A2 (linksF fs 4 u).length c2]) ∧ Rd w' w'.heap.size 1 A1 (linksF fs 3 u).length (svs (linksF fs 3 u)) ∧ Rd w' w'.heap.size 1 A2 (linksF fs 4 u).length (svs (linksF fs 4 u)) ∧ Below w.heap.size w w'
theorem links_nil {fs : List Fl} (h : mayFs fs = false) (k : Nat) (u : Str) : linksF fs k u = [] := by unfold linksF; rw [h]; rfl
set_option maxRecDepth 100000 in
set_option maxHeartbeats 8000000 in
theorem Links_any (A : Option Addr) (c : Nat) (fs : List Fl) (u : Str) (w : World) (h : FlIn w A fs) (hl : fs.length ≤ 10000000000000) : Calls Tryz.prog 14 #[.slice A fs.length c, sv u] w (LinksR fs u w) := by
  have HF := Lib.hid h
  have hdf : ∀ e w', LinksR fs u w e w' = ∃ A1 c1 A2 c2, e = .returned (.tuple #[.slice A1 (linksF fs 3 u).length c1, .slice A2 (linksF fs 4 u).length c2]) ∧ Rd w' w'.heap.size 1 A1 (linksF fs 3 u).length (svs (linksF fs 3 u)) ∧ Rd w' w'.heap.size 1 A2 (linksF fs 4 u).length (svs (linksF fs 4 u)) ∧ Below w.heap.size w w' := fun _ _ => rfl
  have HD := Lib.hid hdf
  clear h hdf
  cases hm : mayFs fs
  · have h3 := links_nil hm 3 u
    have h4 := links_nil hm 4 u
    have H3 := Lib.hid h3
    have H4 := Lib.hid h4
    clear h3 h4
    go_enter Tryz.func14, Tryz.ntmps14
    go_wp2_with fail
    refine (MayD_any A c fs w HF.out hl).mono ?_
    rintro e w1 ⟨rfl, hb⟩
    rw [hm]
    have HB := Lib.hid hb
    clear hb
    go_wp2_with fail
    go_ret2
    rw [HD.out, H3.out, H4.out]
    exact ⟨none, 0, none, 0, rfl, Rd.none_, Rd.none_, HB.out⟩
  · have hlen := (mayFs_iff.1 hm).1
    have hw2 : canon ltS (fs.filterMap (linkP 2 u)) = linksF fs 3 u := within_eq hm (k := 2) (.inl rfl) u
    have hw3 : canon ltS (fs.filterMap (linkP 3 u)) = linksF fs 4 u := within_eq hm (k := 3) (.inr rfl) u
    have HW2 : Hid (∀ W, FlIn W A fs → Calls Tryz.prog 36 #[.slice A fs.length c, sv u, sv wantsS] W (OwnS (linksF fs 3 u) W)) := Lib.hid fun W h => by rw [← hw2]; exact within_any A c fs u 2 W h (by omega)
    have HW3 : Hid (∀ W, FlIn W A fs → Calls Tryz.prog 36 #[.slice A fs.length c, sv u, sv reqsS] W (OwnS (linksF fs 4 u) W)) := Lib.hid fun W h => by rw [← hw3]; exact within_any A c fs u 3 W h (by omega)
    clear hw2 hw3
    generalize linksF fs 3 u = L1 at *
    generalize linksF fs 4 u = L2 at *
    go_enter Tryz.func14, Tryz.ntmps14
    go_wp2_with fail
    refine (MayD_any A c fs w HF.out hl).mono ?_
    rintro e w1 ⟨rfl, hb⟩
    rw [hm]
    have HB := Lib.hid hb
    have HF1 := Lib.hid (HF.out.at hb)
    clear hb
    go_wp2_with fail
    refine (HW2.out w1 HF1.out).mono ?_
    rintro e w2 ⟨A1, c1, rfl, ho1, hb⟩
    have HR1 := Lib.hid (own_rd' ho1)
    have HB2 := Lib.hid (lift HB.out hb)
    have HF2 := Lib.hid (HF1.out.at hb)
    clear hb ho1
    go_wp2_with fail
    refine (HW3.out w2 HF2.out).mono ?_
    rintro e w3 ⟨A2, c2, rfl, ho2, hb⟩
    have HR2 := Lib.hid (own_rd' ho2)
    have HR1' := Lib.hid (HR1.out.at hb)
    have HB3 := Lib.hid (lift HB2.out hb)
    clear hb ho2
    go_wp2_with fail
    go_ret2
    rw [HD.out]
    exact ⟨A1, c1, A2, c2, rfl, HR1'.out, HR2.out, HB3.out⟩
end Od
end Go.Proofs.YtgfdcmlmgeoimaaGreat
end

section
/- matinsref12.add: a text put into a rising row, once. (bel2) -/
namespace Go.Proofs.YtgfdcmlmgeoimaaGreat
open Go.RowKit Go.Sort
set_option linter.unusedSimpArgs false
namespace Od
theorem leq_casesD (x y : Str) : (ltS y x = true ∧ Op.bytesLess x y = false ∧ (x == y) = false) ∨ (ltS y x = false ∧ Op.bytesLess x y = true ∧ (x == y) = false) ∨ (ltS y x = false ∧ Op.bytesLess x y = false ∧ (x == y) = true) := by
  by_cases h : x = y
  · subst h
    exact .inr (.inr ⟨toS.irrefl x, toS.irrefl x, by simp⟩)
  · have hb : (x == y) = false := by simpa using h
    cases h1 : ltS x y
    · cases h2 : ltS y x
      · exact absurd (toS.total h1 h2) h
      · exact .inl ⟨rfl, h1, hb⟩
    · refine .inr (.inl ⟨?_, h1, hb⟩)
      cases h2 : ltS y x
      · rfl
      · have := toS.trans h1 h2
        rw [toS.irrefl] at this
        cases this
/-- The rest of a row, s put into it where it is not yet. -/
def addG (s : Str) : Bool → List Str → List Str
  | put, [] => if put then [] else [s]
  | put, x :: r => (if !put && !ltS x s then [s] else []) ++ ((if x == s then [] else [x]) ++ addG s (put || !ltS x s) r)
theorem addG_put {s : Str} : ∀ {l : List Str}, s ∉ l → addG s true l = l
  | [], _ => rfl
  | x :: r, h => by
    have hx : (x == s) = false := by
      rw [beq_eq_false_iff_ne]
      intro e
      exact h (by rw [e]; exact .head _)
    unfold addG
    rw [hx]
    simp only [Bool.not_true, Bool.false_and, Bool.false_eq_true, if_false, Bool.true_or, List.nil_append]
    rw [addG_put (fun hm => h (.tail _ hm))]
    rfl
theorem addG_ins {s : Str} : ∀ {l : List Str}, SS ltS l → addG s false l = insL ltS s l
  | [], _ => rfl
  | x :: r, h => by
    obtain ⟨h1, h2⟩ := List.pairwise_cons.1 h
    unfold addG insL
    rcases leq_casesD s x with ⟨a, b, c⟩ | ⟨a, b, c⟩ | ⟨a, b, c⟩
    · have hxs : (x == s) = false := by rw [beq_eq_false_iff_ne] at c ⊢; exact fun e => c e.symm
      have hne : ¬ s = x := by simpa using c
      have hb : ltS s x = false := b
      rw [a, hxs]
      simp only [Bool.not_true, Bool.and_false, Bool.false_eq_true, if_false, Bool.or_false, List.nil_append]
      rw [addG_ins h2]
      simp
    · have hxs : (x == s) = false := by rw [beq_eq_false_iff_ne] at c ⊢; exact fun e => c e.symm
      have hne : ¬ s = x := by simpa using c
      have hb : ltS s x = true := b
      have hnr : s ∉ r := fun hm => by
        have := toS.trans hb (h1 s hm)
        rw [toS.irrefl] at this
        cases this
      rw [a, hxs]
      simp only [Bool.not_false, Bool.and_true, if_true, Bool.false_eq_true, if_false, Bool.or_true]
      have hne2 : ¬ x = s := fun e => hne e.symm
      rw [addG_put hnr]
      simp [hne2]
    · have he : s = x := by simpa using c
      subst he
      have hnr : s ∉ r := fun hm => by
        have := h1 s hm
        rw [toS.irrefl] at this
        cases this
      rw [a]
      simp only [Bool.not_false, Bool.and_true, if_true, Bool.or_true, beq_self_eq_true, List.nil_append]
      rw [addG_put hnr]
      simp
theorem addG_len (s : Str) : ∀ (put : Bool) (l : List Str), (addG s put l).length ≤ l.length + 1
  | put, [] => by cases put <;> simp [addG]
  | put, x :: r => by
    unfold addG
    have ih := addG_len s (put || !ltS x s) r
    rcases leq_casesD s x with ⟨a, b, c⟩ | ⟨a, b, c⟩ | ⟨a, b, c⟩
    · rw [a] at ih ⊢
      cases hx : (x == s) <;> cases put <;> simp at ih ⊢ <;> omega
    · rw [a] at ih ⊢
      cases put
      · have hi2 : ∀ l : List Str, (addG s true l).length ≤ l.length := fun l => by
          induction l with
          | nil => simp [addG]
          | cons y l ih2 =>
            unfold addG
            cases hy : (y == s) <;> simp <;> omega
        have := hi2 r
        cases hx : (x == s) <;> simp at this ⊢ <;> omega
      · cases hx : (x == s) <;> simp at ih ⊢ <;> omega
    · have hxs : (x == s) = true := by
        rw [beq_iff_eq] at c ⊢; exact c.symm
      rw [a] at ih ⊢
      rw [hxs]
      cases put <;> simp at ih ⊢ <;> omega
set_option maxRecDepth 100000 in
set_option maxHeartbeats 8000000 in
theorem add_any (A : Option Addr) (c : Nat) (l : List Str) (s : Str) (w : World) (hr : Rd w w.heap.size 1 A l.length (svs l)) (hl : l.length ≤ 1000000) : Calls Tryz.prog 37 #[.slice A l.length c, sv s] w (OwnS (addG s false l) w) := by
  obtain ⟨i0, hi, hz0, hz1, hz2⟩ := info_parts infoS
  have HR := Lib.hid hr
  have hlen := addG_len s false l
  clear hr
  go_enter Tryz.func37, Tryz.ntmps37
  go_wp2_with fail
  go_loopw [5, 6, 11] (fun v pt i wr => ∃ (k : Nat) (out : List Str) (put : Bool) (Ao : Option Addr) (co : Nat), k ≤ l.length ∧ v = .slice Ao out.length co ∧ pt = .bool put ∧ i = .int .i64 k ∧ Hid (addG s false l = out ++ addG s put (l.drop k)) ∧ out.length ≤ 2 * k ∧ Hid (wr.ownsRow w.heap.size 9 1 (.slice Ao out.length co) out.length (svs out)) ∧ Hid (Below w.heap.size w wr)) (fun _ _ i _ => l.length - (intOf i).toNat)
  case atStart => exact ⟨0, [], false, none, 0, Nat.zero_le _, rfl, rfl, rfl, rfl, by simp, World.ownsRow_nil _ _ _ _, Below.refl _ _⟩
  case round =>
    obtain ⟨k, out, put, Ao, co, hk, rfl, rfl, rfl, HG, hol, HO, HB⟩ := hrel
    obtain ⟨w6, rfl⟩ : ∃ wo : World, wo = wr := ⟨_, rfl⟩
    have hz6 := HB.out.size
    have h63 := Lib.hid (show out.length + 1 ≤ maxLen by unfold maxLen; omega)
    have hby := Lib.hid (show (out.length + 1) * 16 ≤ 140737488355328 by omega)
    have h632 := Lib.hid (show out.length + 1 + 1 ≤ maxLen by unfold maxLen; omega)
    have hby2 := Lib.hid (show (out.length + 1 + 1) * 16 ≤ 140737488355328 by omega)
    by_cases hlt : k < l.length
    · obtain ⟨b2, o2, hA, hB2, x0⟩ := (HR.out.at HB.out).str hlt
      have hdr : l.drop k = l[k] :: l.drop (k + 1) := (List.getElem_cons_drop ..).symm
      subst hA
      rw [hdr] at HG
      generalize l[k] = x at x0 HG
      generalize hrr : l.drop (k + 1) = r at HG
      have hG2 : ∀ p, addG s p (x :: r) = (if !p && !ltS x s then [s] else []) ++ ((if x == s then [] else [x]) ++ addG s (p || !ltS x s) r) := fun _ => rfl
      have HG3 := Lib.hid (HG.out.trans (by rw [hG2]))
      have HRr := Lib.hid hrr
      have i1 : (0 : Int) ≤ (k : Int) := by omega
      have i2 : (k : Int) < (l.length : Int) := by omega
      clear hdr HG hG2 hrr
      cases put
      · rcases leq_casesD s x with ⟨q1, q2, q3⟩ | ⟨q1, q2, q3⟩ | ⟨q1, q2, q3⟩
        · have hxs : (x == s) = false := by rw [beq_eq_false_iff_ne] at q3 ⊢; exact fun e => q3 e.symm
          have hnx : (x != s) = true := by rw [bne, hxs]; rfl
          have HN := Lib.hid (show addG s false l = (out ++ [x]) ++ addG s false (l.drop (k + 1)) by rw [HRr.out, HG3.out, q1, hxs]; simp)
          clear HG3 HRr
          go_wp2_with (first | (at_builtin; refine wpList_pushm w6 w6 (by rfl) (.tmp 29) (.tmp 31) 24 (by rfl) w.heap.size 9 i0 _ 1 16 Tryz.underlying24 hi hz0 hz1 hz2 rfl (by decide) _ _ _ (by rfl) HO.out [sv x] w6.heap.size rfl (by rfl) rfl (one_sv x) h63.out hby.out hz6 (Below.refl _ _) ?_; intro A7 c7 w7 hown hbel hg hat; have HO7 := Lib.hid hown; have HB7 := Lib.hid (HB.out.trans hbel); have hszw7 := HB7.out.size; clear hown hbel hg hat) | fail)
          go_roundw
          case rel => exact ⟨k + 1, out ++ [x], false, A7, c7, by omega, by rw [List.length_append]; rfl, rfl, by go_num, HN, by rw [List.length_append, List.length_singleton]; omega, by rw [List.length_append, svs_app]; exact HO7.out, HB7⟩
          case measure => simp [intOf]; omega
        · have hxs : (x == s) = false := by rw [beq_eq_false_iff_ne] at q3 ⊢; exact fun e => q3 e.symm
          have hnx : (x != s) = true := by rw [bne, hxs]; rfl
          have HN := Lib.hid (show addG s false l = ((out ++ [s]) ++ [x]) ++ addG s true (l.drop (k + 1)) by rw [HRr.out, HG3.out, q1, hxs]; simp)
          clear HG3 HRr
          go_wp2_with (first | (at_builtin; refine wpList_pushm w6 w6 (by rfl) (.tmp 22) (.tmp 24) 24 (by rfl) w.heap.size 9 i0 _ 1 16 Tryz.underlying24 hi hz0 hz1 hz2 rfl (by decide) _ _ _ (by rfl) HO.out [sv s] w6.heap.size rfl (by rfl) rfl (one_sv s) h63.out hby.out hz6 (Below.refl _ _) ?_; intro A7 c7 w7 hown hbel hg hat; have HO7 := Lib.hid hown; have HB7 := Lib.hid (HB.out.trans hbel); have hszw7 := HB7.out.size; clear hown hbel hg hat) | (at_builtin; refine wpList_pushm w7 w7 (by rfl) (.tmp 29) (.tmp 31) 24 (by rfl) w.heap.size 9 i0 _ 1 16 Tryz.underlying24 hi hz0 hz1 hz2 rfl (by decide) _ _ _ (by rfl) HO7.out [sv x] w7.heap.size rfl (by rfl) rfl (one_sv x) h632.out hby2.out hszw7 (Below.refl _ _) ?_; intro A8 c8 w8 hown hbel hg hat; have HO8 := Lib.hid hown; have HB8 := Lib.hid (HB7.out.trans hbel); clear hown hbel hg hat) | fail)
          go_roundw
          case rel => exact ⟨k + 1, (out ++ [s]) ++ [x], true, A8, c8, by omega, by simp, rfl, by go_num, HN, by simp; omega, by rw [List.length_append, List.length_append, svs_app, svs_app]; exact HO8.out, HB8⟩
          case measure => simp [intOf]; omega
        · have hxs : (x == s) = true := by rw [beq_iff_eq] at q3 ⊢; exact q3.symm
          have hnx : (x != s) = false := by rw [bne, hxs]; rfl
          have HN := Lib.hid (show addG s false l = (out ++ [s]) ++ addG s true (l.drop (k + 1)) by rw [HRr.out, HG3.out, q1, hxs]; simp)
          clear HG3 HRr
          go_wp2_with (first | (at_builtin; refine wpList_pushm w6 w6 (by rfl) (.tmp 22) (.tmp 24) 24 (by rfl) w.heap.size 9 i0 _ 1 16 Tryz.underlying24 hi hz0 hz1 hz2 rfl (by decide) _ _ _ (by rfl) HO.out [sv s] w6.heap.size rfl (by rfl) rfl (one_sv s) h63.out hby.out hz6 (Below.refl _ _) ?_; intro A7 c7 w7 hown hbel hg hat; have HO7 := Lib.hid hown; have HB7 := Lib.hid (HB.out.trans hbel); have hszw7 := HB7.out.size; clear hown hbel hg hat) | fail)
          go_roundw
          case rel => exact ⟨k + 1, out ++ [s], true, A7, c7, by omega, by rw [List.length_append]; rfl, rfl, by go_num, HN, by rw [List.length_append, List.length_singleton]; omega, by rw [List.length_append, svs_app]; exact HO7.out, HB7⟩
          case measure => simp [intOf]; omega
      · cases hxs : (x == s)
        · have hnx : (x != s) = true := by rw [bne, hxs]; rfl
          have HN := Lib.hid (show addG s false l = (out ++ [x]) ++ addG s true (l.drop (k + 1)) by rw [HRr.out, HG3.out, hxs]; simp)
          clear HG3 HRr
          go_wp2_with (first | (at_builtin; refine wpList_pushm w6 w6 (by rfl) (.tmp 29) (.tmp 31) 24 (by rfl) w.heap.size 9 i0 _ 1 16 Tryz.underlying24 hi hz0 hz1 hz2 rfl (by decide) _ _ _ (by rfl) HO.out [sv x] w6.heap.size rfl (by rfl) rfl (one_sv x) h63.out hby.out hz6 (Below.refl _ _) ?_; intro A7 c7 w7 hown hbel hg hat; have HO7 := Lib.hid hown; have HB7 := Lib.hid (HB.out.trans hbel); have hszw7 := HB7.out.size; clear hown hbel hg hat) | fail)
          go_roundw
          case rel => exact ⟨k + 1, out ++ [x], true, A7, c7, by omega, by rw [List.length_append]; rfl, rfl, by go_num, HN, by rw [List.length_append, List.length_singleton]; omega, by rw [List.length_append, svs_app]; exact HO7.out, HB7⟩
          case measure => simp [intOf]; omega
        · have hnx : (x != s) = false := by rw [bne, hxs]; rfl
          have HN := Lib.hid (show addG s false l = out ++ addG s true (l.drop (k + 1)) by rw [HRr.out, HG3.out, hxs]; simp)
          clear HG3 HRr
          go_wp2_with fail
          go_roundw
          case rel => exact ⟨k + 1, out, true, Ao, co, by omega, rfl, rfl, by go_num, HN, by omega, HO, HB⟩
          case measure => simp [intOf]; omega
    · obtain rfl : k = l.length := by omega
      rw [List.drop_length] at HG
      cases put
      · have HN := Lib.hid (show addG s false l = out ++ [s] from HG.out)
        go_wp2_with (first | (at_builtin; refine wpList_pushm w6 w6 (by rfl) (.tmp 36) (.tmp 38) 24 (by rfl) w.heap.size 9 i0 _ 1 16 Tryz.underlying24 hi hz0 hz1 hz2 rfl (by decide) _ _ _ (by rfl) HO.out [sv s] w6.heap.size rfl (by rfl) rfl (one_sv s) h63.out hby.out hz6 (Below.refl _ _) ?_; intro A7 c7 w7 hown hbel hg hat; have HO7 := Lib.hid hown; have HB7 := Lib.hid (HB.out.trans hbel); have hszw7 := HB7.out.size; clear hown hbel hg hat) | fail)
        go_ret
        refine ⟨A7, c7, by rw [HN.out, List.length_append]; rfl, ?_, HB7.out⟩
        rw [HN.out, List.length_append, svs_app]
        exact HO7.out
      · have HN := Lib.hid (show addG s false l = out from HG.out.trans (by simp [addG]))
        go_wp2_with fail
        go_ret
        refine ⟨Ao, co, by rw [HN.out]; rfl, ?_, HB.out⟩
        rw [HN.out]
        exact HO.out
end Od
end Go.Proofs.YtgfdcmlmgeoimaaGreat
end
