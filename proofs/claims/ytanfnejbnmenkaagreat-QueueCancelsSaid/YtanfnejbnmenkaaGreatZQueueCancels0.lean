/- My texts, joined for the claim: LqF. -/
import Derived.Test.YtanfnejbnmenkaaGreatZB15

section
/- The walks of the laws QueueAgain, QueueCancels. (bel2) -/
namespace Go.Proofs.YtanfnejbnmenkaaGreat
open Go.RowKit Go.Sort
set_option linter.unusedSimpArgs false

namespace Od
theorem QIn.nil (w : World) : QIn w none 0 [] := ⟨Rd.none_, fun j hj => (by cases hj), Nat.le_refl _⟩
theorem inst_jobs {q jobs : List Jb} {mode : Int} (h : (instQ q jobs mode).2 = 0) : jobs.length ≤ 64 := (mayQ_iff.1 (okIn_iff.1 (inst_ok h).1).2.1).1
set_option maxRecDepth 100000 in
set_option maxHeartbeats 8000000 in
theorem queueAgain_any (A : Option Addr) (c : Nat) (q : List Jb) (A0 : Option Addr) (c0 : Nat) (jobs : List Jb) (mode : Int) (w : World) (hq : QIn w A c q) (hlq : q.length ≤ 140737488351232) (hj : QIn w A0 c0 jobs) (hlj : jobs.length ≤ 140737488351232) :
    Calls Tryz.prog 11 #[.slice A q.length c, .slice A0 jobs.length c0, .int .i64 mode] w fun e w' => e = .returned (.bool true) ∧ Below w.heap.size w w' := by
  have HQ := Lib.hid hq
  have HJ := Lib.hid hj
  clear hq hj
  by_cases h0 : (instQ q jobs mode).2 = 0
  · have HAg := Lib.hid (inst_again h0)
    have HNi := Lib.hid (inst_nil h0)
    have HMy := Lib.hid (inst_may h0)
    have hl1 := (inst_len q jobs mode).1
    have hl2 := inst_jobs h0
    rcases hin : instQ q jobs mode with ⟨⟨r1, r2⟩, r3⟩
    rw [hin] at HAg HMy hl1 h0
    simp only at HAg HMy hl1 h0
    subst h0
    clear HNi
    have HNi := Lib.hid (inst_nil (q := q) (jobs := jobs) (mode := mode) (by rw [hin]))
    go_enter Tryz.func11, Tryz.ntmps11
    go_wp2_with fail
    refine (shown_any w).mono ?_
    rintro e w2 ⟨rfl, hb⟩
    have HB := Lib.hid hb
    replace HQ := Lib.hid (HQ.out.at hb)
    replace HJ := Lib.hid (HJ.out.at hb)
    clear hb
    go_wp2_with fail
    refine (InstallQ_all A c q A0 c0 jobs mode w2 HQ.out HJ.out (by omega) (by omega)).mono ?_
    rw [hin]
    rintro e w3 ⟨A1, k1, A2, k2, rfl, hk1, hr1, hr2, hb⟩
    simp only at hk1 hr1
    have HR1 : Hid (QIn w3 A1 k1 r1) := ⟨hr1, mayQ.ok HMy.out, hk1⟩
    replace HQ := Lib.hid (HQ.out.at hb)
    replace HJ := Lib.hid (HJ.out.at hb)
    replace HB := Lib.hid (lift HB.out hb)
    clear hb hr1 hr2 hin
    go_wp2_with fail
    refine (InstallQ_all A1 k1 r1 A0 c0 jobs mode w3 HR1.out HJ.out (by omega) (by omega)).mono ?_
    rw [HAg.out]
    rintro e w4 ⟨A3, k3, A4, k4, rfl, hk3, hr3, hr4, hb⟩
    simp only at hk3 hr3
    have HR3 := Lib.hid hr3
    replace HQ := Lib.hid (HQ.out.at hb)
    replace HJ := Lib.hid (HJ.out.at hb)
    replace HB := Lib.hid (lift HB.out hb)
    replace HR1 := Lib.hid (HR1.out.at hb)
    clear hb hr3 hr4
    simp only [List.length_nil]
    go_wp2_with fail
    refine (InstallQ_all none 0 [] A0 c0 jobs mode w4 (QIn.nil w4) HJ.out (by simp) (by omega)).mono ?_
    rw [HNi.out]
    rintro e w5 ⟨A5, k5, A6, k6, rfl, hk5, hr5, hr6, hb⟩
    simp only at hk5 hr5
    have HR5 := Lib.hid hr5
    replace HQ := Lib.hid (HQ.out.at hb)
    replace HJ := Lib.hid (HJ.out.at hb)
    replace HB := Lib.hid (lift HB.out hb)
    replace HR1 := Lib.hid (HR1.out.at hb)
    replace HR3 := Lib.hid (HR3.out.at hb)
    clear hb hr5 hr6
    simp only [List.length_nil]
    go_wp2_with fail
    refine (SameJobs_any A1 A3 k1 k3 r1 r1 w5 HR1.out.rq HR3.out (by omega)).mono ?_
    rw [decide_eq_true rfl]
    rintro e v5 ⟨rfl, hb⟩
    replace HQ := Lib.hid (HQ.out.at hb)
    replace HJ := Lib.hid (HJ.out.at hb)
    replace HB := Lib.hid (lift HB.out hb)
    replace HR1 := Lib.hid (HR1.out.at hb)
    replace HR3 := Lib.hid (HR3.out.at hb)
    replace HR5 := Lib.hid (HR5.out.at hb)
    clear hb
    go_wp2_with fail
    refine (SameJobs_any A5 A0 k5 c0 jobs jobs v5 HR5.out HJ.out.rq (by omega)).mono ?_
    rw [decide_eq_true rfl]
    rintro e v6 ⟨rfl, hb⟩
    replace HQ := Lib.hid (HQ.out.at hb)
    replace HJ := Lib.hid (HJ.out.at hb)
    replace HB := Lib.hid (lift HB.out hb)
    replace HR1 := Lib.hid (HR1.out.at hb)
    replace HR3 := Lib.hid (HR3.out.at hb)
    replace HR5 := Lib.hid (HR5.out.at hb)
    clear hb
    go_wp2_with fail
    go_ret
    exact ⟨by simp, HB.out⟩
  · have hbad := inst_bad h0
    rcases hin : instQ q jobs mode with ⟨⟨r1, r2⟩, r3⟩
    rw [hin] at hbad h0
    simp only [Prod.mk.injEq] at hbad h0
    obtain ⟨rfl, rfl⟩ := hbad
    have h0b : (r3 != 0) = true := by simpa using h0
    go_enter Tryz.func11, Tryz.ntmps11
    go_wp2_with fail
    refine (shown_any w).mono ?_
    rintro e w2 ⟨rfl, hb⟩
    have HB := Lib.hid hb
    replace HQ := Lib.hid (HQ.out.at hb)
    replace HJ := Lib.hid (HJ.out.at hb)
    clear hb
    go_wp2_with fail
    refine (InstallQ_all A c q A0 c0 jobs mode w2 HQ.out HJ.out (by omega) (by omega)).mono ?_
    rw [hin]
    rintro e w3 ⟨A1, k1, A2, k2, rfl, hk1, hr1, hr2, hb⟩
    replace HQ := Lib.hid (HQ.out.at hb)
    replace HJ := Lib.hid (HJ.out.at hb)
    replace HB := Lib.hid (lift HB.out hb)
    clear hb hr1 hr2 hin
    simp only [List.length_nil]
    go_wp2_with fail
    go_ret
    exact ⟨by simp, HB.out⟩
theorem anyt_succ {α : Type} {p : α → Bool} {xs : List α} {k : Nat} (hk : k < xs.length) : (xs.take (k + 1)).any p = ((xs.take k).any p || p xs[k]) := by
  rw [List.take_succ_eq_append_getElem hk, List.any_append]
  simp
theorem openAt_mk (u s : Str) (t r d : Int) : openAt u (s, t, r, d) = (s == u && r != 3) := rfl
def unitB (u : Str) (y : Jb) : Bool := y.1 == u
theorem unitB_mk (u s : Str) (t r d : Int) : unitB u (s, t, r, d) = (s == u) := rfl
theorem unitB_any {u : Str} {l : List Jb} : l.any (unitB u) = true ↔ ∃ y ∈ l, y.1 = u := by simp [List.any_eq_true, unitB]
def thereB (u : Str) (y : Jb) : Bool := y.1 == u && y.2.2.1 != 3
theorem thereB_mk (u s : Str) (t r d : Int) : thereB u (s, t, r, d) = (s == u && r != 3) := rfl
def likeB (j : Jb) (y : Jb) : Bool := jbEq y j
theorem likeB_any {j : Jb} {l : List Jb} (h : j ∈ l) : l.any (likeB j) = true := List.any_eq_true.2 ⟨j, h, by simp [likeB, jbEq]⟩
set_option maxRecDepth 100000 in
set_option maxHeartbeats 16000000 in
theorem queueCancels_any (A : Option Addr) (c : Nat) (q : List Jb) (A0 : Option Addr) (c0 : Nat) (jobs : List Jb) (w : World) (hq : QIn w A c q) (hlq : q.length ≤ 140737488351232) (hj : QIn w A0 c0 jobs) (hlj : jobs.length ≤ 140737488351232) :
    Calls Tryz.prog 12 #[.slice A q.length c, .slice A0 jobs.length c0] w fun e w' => e = .returned (.bool true) ∧ Below w.heap.size w w' := by
  have HQ := Lib.hid hq
  have HJ := Lib.hid hj
  have hqe := jb_eql
  clear hq hj
  by_cases h0 : (instQ q jobs 1).2 = 0
  · have HMy := Lib.hid (inst_may h0)
    have HGw := Lib.hid (fun d (hd : d ∈ (instQ q jobs 1).1.2) => gone_was h0 hd)
    have HSt := Lib.hid (fun j (hj : j ∈ q) => inst_stand h0 hj)
    have HTh := Lib.hid (fun j (hj : j ∈ jobs) => inst_there h0 hj)
    obtain ⟨hl1, hl2⟩ := inst_len q jobs 1
    rcases hin : instQ q jobs 1 with ⟨⟨x, gone⟩, r3⟩
    rw [hin] at HGw HSt HTh HMy hl1 hl2 h0
    simp only at HGw HSt HTh HMy hl1 hl2 h0
    subst h0
    go_enter Tryz.func12, Tryz.ntmps12
    go_wp2_with fail
    refine (shown_any w).mono ?_
    rintro e w2 ⟨rfl, hb⟩
    have HB := Lib.hid hb
    replace HQ := Lib.hid (HQ.out.at hb)
    replace HJ := Lib.hid (HJ.out.at hb)
    clear hb
    go_wp2_with fail
    refine (InstallQ_all A c q A0 c0 jobs 1 w2 HQ.out HJ.out (by omega) (by omega)).mono ?_
    rw [hin]
    rintro e w3 ⟨A1, k1, A2, k2, rfl, hk1, hr1, hr2, hb⟩
    simp only at hk1 hr1 hr2
    have HR1 : Hid (QIn w3 A1 k1 x) := ⟨hr1, mayQ.ok HMy.out, hk1⟩
    have HR2 := Lib.hid hr2
    replace HQ := Lib.hid (HQ.out.at hb)
    replace HJ := Lib.hid (HJ.out.at hb)
    replace HB := Lib.hid (lift HB.out hb)
    clear hb hr1 hr2 hin
    go_wp2_with fail
    go_loopw [45] (fun i wr => ∃ m : Nat, m ≤ gone.length ∧ i = .int .i64 m ∧ Below w3.heap.size w3 wr) (fun i _ => gone.length - (intOf i).toNat)
    case atStart => exact ⟨0, Nat.zero_le _, rfl, Below.refl _ _⟩
    case round =>
      obtain ⟨m, hm, rfl, hb⟩ := hrel
      obtain ⟨w9, rfl⟩ : ∃ wo : World, wo = wr := ⟨_, rfl⟩
      have HBl := Lib.hid hb
      replace HQ := Lib.hid (HQ.out.at hb)
      replace HJ := Lib.hid (HJ.out.at hb)
      replace HB := Lib.hid (lift HB.out hb)
      replace HR1 := Lib.hid (HR1.out.at hb)
      replace HR2 := Lib.hid (HR2.out.at hb)
      clear hb
      by_cases hlt : m < gone.length
      · obtain ⟨b1, o1, hA1, hB1, y0, y1, y2⟩ := HR2.out.node hlt
        have hgw := HGw.out gone[m] (List.getElem_mem hlt)
        generalize gone[m] = d at y0 y1 y2 hgw
        obtain ⟨u, t, en⟩ := d
        simp only at y0 y1 y2 hgw
        obtain ⟨g1, rfl, g3⟩ := hgw
        have G1 := Lib.hid g1
        have G3 := Lib.hid (unitB_any.2 g3)
        clear g1 g3
        have m1 : (0 : Int) ≤ (m : Int) := by omega
        have m2 : (m : Int) < (gone.length : Int) := by omega
        subst hA1
        go_wp2_with fail
        first | (refine wp_named ?_; intro W2 hW) | (refine calls_named ?_; intro W2 hW)
        have B2 : Below w9.heap.size w9 W2 := by rw [hW]; exact (by repeat (first | exact Below.refl _ _ | assumption | refine Below.alloc ?_ (by first | omega | (simp <;> omega)) _ | refine Below.setCell ?_ (by first | omega | (simp <;> omega)) _ | refine Below.drew ?_))
        replace HQ := Lib.hid (HQ.out.at B2)
        replace HJ := Lib.hid (HJ.out.at B2)
        replace HB := Lib.hid (lift HB.out B2)
        replace HR1 := Lib.hid (HR1.out.at B2)
        replace HR2 := Lib.hid (HR2.out.at B2)
        replace HBl := Lib.hid (lift HBl.out B2)
        have p1 : w9.heap.size < W2.heap.size := by rw [hW]; simp <;> omega
        have e0 : W2.cell? ⟨w9.heap.size, 0, none⟩ = some (sv u) := by rw [hW]; go_simp
        have e1 : W2.cell? ⟨w9.heap.size, 1, none⟩ = some (.int .i64 t) := by rw [hW]; go_simp
        have e2 : W2.cell? ⟨w9.heap.size, 2, none⟩ = some (.int .i64 4) := by rw [hW]; go_simp
        clear hW
        clear B2 y0 y1 y2
        go_loopw [10, 51] (fun v1 i wr => ∃ k : Nat, k ≤ q.length ∧ v1 = .int .i64 (pickT (openAt u) 0 (q.take k)) ∧ i = .int .i64 k ∧ Below W2.heap.size W2 wr) (fun _ i _ => q.length - (intOf i).toNat)
        case atStart => exact ⟨0, Nat.zero_le _, rfl, rfl, Below.refl _ _⟩
        case round =>
          obtain ⟨k, hk, rfl, rfl, hb⟩ := hrel
          have HBk := Lib.hid hb
          replace e0 := cellAt e0 hb (by omega)
          replace e1 := cellAt e1 hb (by omega)
          replace e2 := cellAt e2 hb (by omega)
          replace HQ := Lib.hid (HQ.out.at hb)
          replace HJ := Lib.hid (HJ.out.at hb)
          replace HB := Lib.hid (lift HB.out hb)
          replace HR1 := Lib.hid (HR1.out.at hb)
          replace HR2 := Lib.hid (HR2.out.at hb)
          replace HBl := Lib.hid (lift HBl.out hb)
          replace p1 : w9.heap.size < wr.heap.size := ltAt p1 hb
          clear hb
          by_cases hlt2 : k < q.length
          · have hs := pick_succ (p := openAt u) hlt2 0
            obtain ⟨b2, o2, hA, hB2, x0, x1, x2, x3⟩ := HQ.out.rq.job hlt2
            generalize q[k] = z at x0 x1 x2 x3 hs
            generalize pickT (openAt u) 0 (q.take k) = n1 at *
            obtain ⟨s, t', r, d'⟩ := z
            simp only at x0 x1 x2 x3
            have k1 : (0 : Int) ≤ (k : Int) := by omega
            have k2 : (k : Int) < (q.length : Int) := by omega
            subst hA
            rw [openAt_mk] at hs
            simp only at hs
            cases eu : (s == u)
            · have HS := Lib.hid (hs.trans (show _ = n1 by rw [eu]; rfl))
              clear hs
              go_wp2_with fail
              go_roundw
              case rel => exact ⟨k + 1, by omega, by rw [HS.out], by go_num, by have hbk := HBk.out; have hz := hbk.size; exact (by repeat (first | exact Below.refl _ _ | assumption | refine Below.alloc ?_ (by first | omega | (simp <;> omega)) _ | refine Below.setCell ?_ (by first | omega | (simp <;> omega)) _ | refine Below.drew ?_))⟩
              case measure => simp [intOf]; omega
            · cases er : (r != 3)
              · have HS := Lib.hid (hs.trans (show _ = n1 by rw [eu, er]; rfl))
                clear hs
                go_wp2_with fail
                go_roundw
                case rel => exact ⟨k + 1, by omega, by rw [HS.out], by go_num, by have hbk := HBk.out; have hz := hbk.size; exact (by repeat (first | exact Below.refl _ _ | assumption | refine Below.alloc ?_ (by first | omega | (simp <;> omega)) _ | refine Below.setCell ?_ (by first | omega | (simp <;> omega)) _ | refine Below.drew ?_))⟩
                case measure => simp [intOf]; omega
              · have HS := Lib.hid (hs.trans (show _ = t' by rw [eu, er]; rfl))
                clear hs
                go_wp2_with fail
                go_roundw
                case rel => exact ⟨k + 1, by omega, by rw [HS.out], by go_num, by have hbk := HBk.out; have hz := hbk.size; exact (by repeat (first | exact Below.refl _ _ | assumption | refine Below.alloc ?_ (by first | omega | (simp <;> omega)) _ | refine Below.setCell ?_ (by first | omega | (simp <;> omega)) _ | refine Below.drew ?_))⟩
                case measure => simp [intOf]; omega
          · obtain rfl : k = q.length := by omega
            rw [List.take_length, G1.out]
            obtain ⟨w8, rfl⟩ : ∃ wo : World, wo = wr := ⟨_, rfl⟩
            go_wp2_with fail
            go_loopw [11, 70] (fun v1 i wr => ∃ k : Nat, k ≤ jobs.length ∧ v1 = .bool ((jobs.take k).any (unitB u)) ∧ i = .int .i64 k ∧ Below w8.heap.size w8 wr) (fun _ i _ => jobs.length - (intOf i).toNat)
            case atStart => exact ⟨0, Nat.zero_le _, rfl, rfl, Below.refl _ _⟩
            case round =>
              obtain ⟨k, hk, rfl, rfl, hb⟩ := hrel
              have HBk := Lib.hid hb
              replace e0 := cellAt e0 hb (by omega)
              replace e1 := cellAt e1 hb (by omega)
              replace e2 := cellAt e2 hb (by omega)
              replace HQ := Lib.hid (HQ.out.at hb)
              replace HJ := Lib.hid (HJ.out.at hb)
              replace HB := Lib.hid (lift HB.out hb)
              replace HR1 := Lib.hid (HR1.out.at hb)
              replace HR2 := Lib.hid (HR2.out.at hb)
              replace HBl := Lib.hid (lift HBl.out hb)
              replace p1 : w9.heap.size < wr.heap.size := ltAt p1 hb
              clear hb
              by_cases hlt2 : k < jobs.length
              · have hs := anyt_succ (p := unitB u) hlt2
                obtain ⟨b2, o2, hA, hB2, x0, x1, x2, x3⟩ := HJ.out.rq.job hlt2
                generalize jobs[k] = z at x0 x1 x2 x3 hs
                generalize (jobs.take k).any (unitB u) = n1 at *
                obtain ⟨s, t', r, d'⟩ := z
                simp only at x0 x1 x2 x3
                have k1 : (0 : Int) ≤ (k : Int) := by omega
                have k2 : (k : Int) < (jobs.length : Int) := by omega
                subst hA
                rw [unitB_mk] at hs
                cases n1
                · cases eu : (s == u)
                  · have HS := Lib.hid (hs.trans (show _ = false by rw [eu]; rfl))
                    clear hs
                    go_wp2_with fail
                    go_roundw
                    case rel => exact ⟨k + 1, by omega, by rw [HS.out], by go_num, by have hbk := HBk.out; have hz := hbk.size; exact (by repeat (first | exact Below.refl _ _ | assumption | refine Below.alloc ?_ (by first | omega | (simp <;> omega)) _ | refine Below.setCell ?_ (by first | omega | (simp <;> omega)) _ | refine Below.drew ?_))⟩
                    case measure => simp [intOf]; omega
                  · have HS := Lib.hid (hs.trans (show _ = true by rw [eu]; rfl))
                    clear hs
                    go_wp2_with fail
                    go_roundw
                    case rel => exact ⟨k + 1, by omega, by rw [HS.out], by go_num, by have hbk := HBk.out; have hz := hbk.size; exact (by repeat (first | exact Below.refl _ _ | assumption | refine Below.alloc ?_ (by first | omega | (simp <;> omega)) _ | refine Below.setCell ?_ (by first | omega | (simp <;> omega)) _ | refine Below.drew ?_))⟩
                    case measure => simp [intOf]; omega
                · have HS := Lib.hid (hs.trans (show _ = true by rfl))
                  clear hs
                  go_wp2_with fail
                  go_roundw
                  case rel => exact ⟨k + 1, by omega, by rw [HS.out], by go_num, by have hbk := HBk.out; have hz := hbk.size; exact (by repeat (first | exact Below.refl _ _ | assumption | refine Below.alloc ?_ (by first | omega | (simp <;> omega)) _ | refine Below.setCell ?_ (by first | omega | (simp <;> omega)) _ | refine Below.drew ?_))⟩
                  case measure => simp [intOf]; omega
              · obtain rfl : k = jobs.length := by omega
                rw [List.take_length, G3.out]
                go_wp2_with fail
                go_roundw
                case rel => exact ⟨m + 1, by omega, by go_num, by have hbk := HBl.out; have hz := hbk.size; exact (by repeat (first | exact Below.refl _ _ | assumption | refine Below.alloc ?_ (by first | omega | (simp <;> omega)) _ | refine Below.setCell ?_ (by first | omega | (simp <;> omega)) _ | refine Below.drew ?_))⟩
                case measure => simp [intOf]; omega
      · obtain rfl : m = gone.length := by omega
        go_wp2_with fail
        go_loopw [99] (fun i wr => ∃ m : Nat, m ≤ q.length ∧ i = .int .i64 m ∧ Below w9.heap.size w9 wr) (fun i _ => q.length - (intOf i).toNat)
        case atStart => exact ⟨0, Nat.zero_le _, rfl, Below.refl _ _⟩
        case round =>
          obtain ⟨m, hm, rfl, hb⟩ := hrel
          obtain ⟨w7, rfl⟩ : ∃ wo : World, wo = wr := ⟨_, rfl⟩
          have HBl := Lib.hid hb
          replace HQ := Lib.hid (HQ.out.at hb)
          replace HJ := Lib.hid (HJ.out.at hb)
          replace HB := Lib.hid (lift HB.out hb)
          replace HR1 := Lib.hid (HR1.out.at hb)
          replace HR2 := Lib.hid (HR2.out.at hb)
          clear hb
          by_cases hlt : m < q.length
          · obtain ⟨b1, o1, hA1, hB1, y0, y1, y2, y3⟩ := HQ.out.rq.job hlt
            have hst := HSt.out q[m] (List.getElem_mem hlt)
            generalize q[m] = d at y0 y1 y2 y3 hst
            have hor : (jobs.any (unitB d.1) || x.any (likeB d)) = true := by
              rcases hst with h | h
              · rw [unitB_any.2 h]; rfl
              · rw [likeB_any h]; simp
            obtain ⟨u, t, en, nd⟩ := d
            simp only at y0 y1 y2 y3 hor
            have HOr := Lib.hid hor
            clear hst hor
            have m1 : (0 : Int) ≤ (m : Int) := by omega
            have m2 : (m : Int) < (q.length : Int) := by omega
            subst hA1
            go_wp2_with fail
            first | (refine wp_named ?_; intro W2 hW) | (refine calls_named ?_; intro W2 hW)
            have B2 : Below w7.heap.size w7 W2 := by rw [hW]; exact (by repeat (first | exact Below.refl _ _ | assumption | refine Below.alloc ?_ (by first | omega | (simp <;> omega)) _ | refine Below.setCell ?_ (by first | omega | (simp <;> omega)) _ | refine Below.drew ?_))
            replace HQ := Lib.hid (HQ.out.at B2)
            replace HJ := Lib.hid (HJ.out.at B2)
            replace HB := Lib.hid (lift HB.out B2)
            replace HR1 := Lib.hid (HR1.out.at B2)
            replace HR2 := Lib.hid (HR2.out.at B2)
            replace HBl := Lib.hid (lift HBl.out B2)
            have p1 : w7.heap.size < W2.heap.size := by rw [hW]; simp <;> omega
            have e0 : W2.cell? ⟨w7.heap.size, 0, none⟩ = some (sv u) := by rw [hW]; go_simp
            have e1 : W2.cell? ⟨w7.heap.size, 1, none⟩ = some (.int .i64 t) := by rw [hW]; go_simp
            have e2 : W2.cell? ⟨w7.heap.size, 2, none⟩ = some (.int .i64 en) := by rw [hW]; go_simp
            have e3 : W2.cell? ⟨w7.heap.size, 3, none⟩ = some (.int .i64 nd) := by rw [hW]; go_simp
            clear hW
            clear B2 y0 y1 y2 y3
            go_loopw [18, 105] (fun v1 i wr => ∃ k : Nat, k ≤ jobs.length ∧ v1 = .bool ((jobs.take k).any (unitB u)) ∧ i = .int .i64 k ∧ Below W2.heap.size W2 wr) (fun _ i _ => jobs.length - (intOf i).toNat)
            case atStart => exact ⟨0, Nat.zero_le _, rfl, rfl, Below.refl _ _⟩
            case round =>
              obtain ⟨k, hk, rfl, rfl, hb⟩ := hrel
              have HBk := Lib.hid hb
              replace e0 := cellAt e0 hb (by omega)
              replace e1 := cellAt e1 hb (by omega)
              replace e2 := cellAt e2 hb (by omega)
              replace e3 := cellAt e3 hb (by omega)
              replace HQ := Lib.hid (HQ.out.at hb)
              replace HJ := Lib.hid (HJ.out.at hb)
              replace HB := Lib.hid (lift HB.out hb)
              replace HR1 := Lib.hid (HR1.out.at hb)
              replace HR2 := Lib.hid (HR2.out.at hb)
              replace HBl := Lib.hid (lift HBl.out hb)
              replace p1 : w7.heap.size < wr.heap.size := ltAt p1 hb
              clear hb
              by_cases hlt2 : k < jobs.length
              · have hs := anyt_succ (p := unitB u) hlt2
                obtain ⟨b2, o2, hA, hB2, x0, x1, x2, x3⟩ := HJ.out.rq.job hlt2
                generalize jobs[k] = z at x0 x1 x2 x3 hs
                generalize (jobs.take k).any (unitB u) = n1 at *
                obtain ⟨s, t', r, d'⟩ := z
                simp only at x0 x1 x2 x3
                have k1 : (0 : Int) ≤ (k : Int) := by omega
                have k2 : (k : Int) < (jobs.length : Int) := by omega
                subst hA
                rw [unitB_mk] at hs
                cases n1
                · cases eu : (s == u)
                  · have HS := Lib.hid (hs.trans (show _ = false by rw [eu]; rfl))
                    clear hs
                    go_wp2_with fail
                    go_roundw
                    case rel => exact ⟨k + 1, by omega, by rw [HS.out], by go_num, by have hbk := HBk.out; have hz := hbk.size; exact (by repeat (first | exact Below.refl _ _ | assumption | refine Below.alloc ?_ (by first | omega | (simp <;> omega)) _ | refine Below.setCell ?_ (by first | omega | (simp <;> omega)) _ | refine Below.drew ?_))⟩
                    case measure => simp [intOf]; omega
                  · have HS := Lib.hid (hs.trans (show _ = true by rw [eu]; rfl))
                    clear hs
                    go_wp2_with fail
                    go_roundw
                    case rel => exact ⟨k + 1, by omega, by rw [HS.out], by go_num, by have hbk := HBk.out; have hz := hbk.size; exact (by repeat (first | exact Below.refl _ _ | assumption | refine Below.alloc ?_ (by first | omega | (simp <;> omega)) _ | refine Below.setCell ?_ (by first | omega | (simp <;> omega)) _ | refine Below.drew ?_))⟩
                    case measure => simp [intOf]; omega
                · have HS := Lib.hid (hs.trans (show _ = true by rfl))
                  clear hs
                  go_wp2_with fail
                  go_roundw
                  case rel => exact ⟨k + 1, by omega, by rw [HS.out], by go_num, by have hbk := HBk.out; have hz := hbk.size; exact (by repeat (first | exact Below.refl _ _ | assumption | refine Below.alloc ?_ (by first | omega | (simp <;> omega)) _ | refine Below.setCell ?_ (by first | omega | (simp <;> omega)) _ | refine Below.drew ?_))⟩
                  case measure => simp [intOf]; omega
              · obtain rfl : k = jobs.length := by omega
                rw [List.take_length]
                generalize jobs.any (unitB u) = n0 at *
                obtain ⟨w8, rfl⟩ : ∃ wo : World, wo = wr := ⟨_, rfl⟩
                go_wp2_with fail
                go_loopw [19, 120] (fun v1 i wr => ∃ k : Nat, k ≤ x.length ∧ v1 = .bool ((x.take k).any (likeB (u, t, en, nd))) ∧ i = .int .i64 k ∧ Below w8.heap.size w8 wr) (fun _ i _ => x.length - (intOf i).toNat)
                case atStart => exact ⟨0, Nat.zero_le _, rfl, rfl, Below.refl _ _⟩
                case round =>
                  obtain ⟨k, hk, rfl, rfl, hb⟩ := hrel
                  have HBk := Lib.hid hb
                  replace e0 := cellAt e0 hb (by omega)
                  replace e1 := cellAt e1 hb (by omega)
                  replace e2 := cellAt e2 hb (by omega)
                  replace e3 := cellAt e3 hb (by omega)
                  replace HQ := Lib.hid (HQ.out.at hb)
                  replace HJ := Lib.hid (HJ.out.at hb)
                  replace HB := Lib.hid (lift HB.out hb)
                  replace HR1 := Lib.hid (HR1.out.at hb)
                  replace HR2 := Lib.hid (HR2.out.at hb)
                  replace HBl := Lib.hid (lift HBl.out hb)
                  replace p1 : w7.heap.size < wr.heap.size := ltAt p1 hb
                  clear hb
                  by_cases hlt2 : k < x.length
                  · have hs := anyt_succ (p := likeB (u, t, en, nd)) hlt2
                    obtain ⟨b2, o2, hA, hB2, x0, x1, x2, x3⟩ := HR1.out.rq.job hlt2
                    generalize x[k] = z at x0 x1 x2 x3 hs
                    generalize (x.take k).any (likeB (u, t, en, nd)) = n1 at *
                    obtain ⟨s, t', r, d'⟩ := z
                    simp only at x0 x1 x2 x3
                    have k1 : (0 : Int) ≤ (k : Int) := by omega
                    have k2 : (k : Int) < (x.length : Int) := by omega
                    subst hA
                    rw [show likeB (u, t, en, nd) (s, t', r, d') = jbEq (s, t', r, d') (u, t, en, nd) from rfl] at hs
                    cases n1
                    · cases eu : jbEq (s, t', r, d') (u, t, en, nd)
                      · have HS := Lib.hid (hs.trans (show _ = false by rw [eu]; rfl))
                        clear hs
                        go_wp2_with fail
                        go_roundw
                        case rel => exact ⟨k + 1, by omega, by rw [HS.out], by go_num, by have hbk := HBk.out; have hz := hbk.size; exact (by repeat (first | exact Below.refl _ _ | assumption | refine Below.alloc ?_ (by first | omega | (simp <;> omega)) _ | refine Below.setCell ?_ (by first | omega | (simp <;> omega)) _ | refine Below.drew ?_))⟩
                        case measure => simp [intOf]; omega
                      · have HS := Lib.hid (hs.trans (show _ = true by rw [eu]; rfl))
                        clear hs
                        go_wp2_with fail
                        go_roundw
                        case rel => exact ⟨k + 1, by omega, by rw [HS.out], by go_num, by have hbk := HBk.out; have hz := hbk.size; exact (by repeat (first | exact Below.refl _ _ | assumption | refine Below.alloc ?_ (by first | omega | (simp <;> omega)) _ | refine Below.setCell ?_ (by first | omega | (simp <;> omega)) _ | refine Below.drew ?_))⟩
                        case measure => simp [intOf]; omega
                    · have HS := Lib.hid (hs.trans (show _ = true by rfl))
                      clear hs
                      go_wp2_with fail
                      go_roundw
                      case rel => exact ⟨k + 1, by omega, by rw [HS.out], by go_num, by have hbk := HBk.out; have hz := hbk.size; exact (by repeat (first | exact Below.refl _ _ | assumption | refine Below.alloc ?_ (by first | omega | (simp <;> omega)) _ | refine Below.setCell ?_ (by first | omega | (simp <;> omega)) _ | refine Below.drew ?_))⟩
                      case measure => simp [intOf]; omega
                  · obtain rfl : k = x.length := by omega
                    rw [List.take_length]
                    have hor := HOr.out
                    generalize x.any (likeB (u, t, en, nd)) = n2 at *
                    cases n0
                    · cases n2
                      · cases hor
                      · go_wp2_with fail
                        go_roundw
                        case rel => exact ⟨m + 1, by omega, by go_num, by have hbk := HBl.out; have hz := hbk.size; exact (by repeat (first | exact Below.refl _ _ | assumption | refine Below.alloc ?_ (by first | omega | (simp <;> omega)) _ | refine Below.setCell ?_ (by first | omega | (simp <;> omega)) _ | refine Below.drew ?_))⟩
                        case measure => simp [intOf]; omega
                    · go_wp2_with fail
                      go_roundw
                      case rel => exact ⟨m + 1, by omega, by go_num, by have hbk := HBl.out; have hz := hbk.size; exact (by repeat (first | exact Below.refl _ _ | assumption | refine Below.alloc ?_ (by first | omega | (simp <;> omega)) _ | refine Below.setCell ?_ (by first | omega | (simp <;> omega)) _ | refine Below.drew ?_))⟩
                      case measure => simp [intOf]; omega
          · obtain rfl : m = q.length := by omega
            go_wp2_with fail
            go_loopw [140] (fun i wr => ∃ m : Nat, m ≤ jobs.length ∧ i = .int .i64 m ∧ Below w7.heap.size w7 wr) (fun i _ => jobs.length - (intOf i).toNat)
            case atStart => exact ⟨0, Nat.zero_le _, rfl, Below.refl _ _⟩
            case round =>
              obtain ⟨m, hm, rfl, hb⟩ := hrel
              obtain ⟨w6, rfl⟩ : ∃ wo : World, wo = wr := ⟨_, rfl⟩
              have HBl := Lib.hid hb
              replace HQ := Lib.hid (HQ.out.at hb)
              replace HJ := Lib.hid (HJ.out.at hb)
              replace HB := Lib.hid (lift HB.out hb)
              replace HR1 := Lib.hid (HR1.out.at hb)
              replace HR2 := Lib.hid (HR2.out.at hb)
              clear hb
              by_cases hlt : m < jobs.length
              · obtain ⟨b1, o1, hA1, hB1, y0, y1, y2, y3⟩ := HJ.out.rq.job hlt
                have hth := HTh.out jobs[m] (List.getElem_mem hlt)
                generalize jobs[m] = d at y0 y1 y2 y3 hth
                have hor : x.any (thereB d.1) = true := by
                  obtain ⟨y, hy, e1, e2⟩ := hth
                  exact List.any_eq_true.2 ⟨y, hy, by unfold thereB; rw [e1]; simpa [openB] using e2⟩
                obtain ⟨u, t, en, nd⟩ := d
                simp only at y0 y1 y2 y3 hor
                have HOr := Lib.hid hor
                clear hth hor
                have m1 : (0 : Int) ≤ (m : Int) := by omega
                have m2 : (m : Int) < (jobs.length : Int) := by omega
                subst hA1
                go_wp2_with fail
                first | (refine wp_named ?_; intro W2 hW) | (refine calls_named ?_; intro W2 hW)
                have B2 : Below w6.heap.size w6 W2 := by rw [hW]; exact (by repeat (first | exact Below.refl _ _ | assumption | refine Below.alloc ?_ (by first | omega | (simp <;> omega)) _ | refine Below.setCell ?_ (by first | omega | (simp <;> omega)) _ | refine Below.drew ?_))
                replace HQ := Lib.hid (HQ.out.at B2)
                replace HJ := Lib.hid (HJ.out.at B2)
                replace HB := Lib.hid (lift HB.out B2)
                replace HR1 := Lib.hid (HR1.out.at B2)
                replace HR2 := Lib.hid (HR2.out.at B2)
                replace HBl := Lib.hid (lift HBl.out B2)
                have p1 : w6.heap.size < W2.heap.size := by rw [hW]; simp <;> omega
                have e0 : W2.cell? ⟨w6.heap.size, 0, none⟩ = some (sv u) := by rw [hW]; go_simp
                clear hW
                clear B2 y0 y1 y2 y3
                go_loopw [26, 146] (fun v1 i wr => ∃ k : Nat, k ≤ x.length ∧ v1 = .bool ((x.take k).any (thereB u)) ∧ i = .int .i64 k ∧ Below W2.heap.size W2 wr) (fun _ i _ => x.length - (intOf i).toNat)
                case atStart => exact ⟨0, Nat.zero_le _, rfl, rfl, Below.refl _ _⟩
                case round =>
                  obtain ⟨k, hk, rfl, rfl, hb⟩ := hrel
                  have HBk := Lib.hid hb
                  replace e0 := cellAt e0 hb (by omega)
                  replace HQ := Lib.hid (HQ.out.at hb)
                  replace HJ := Lib.hid (HJ.out.at hb)
                  replace HB := Lib.hid (lift HB.out hb)
                  replace HR1 := Lib.hid (HR1.out.at hb)
                  replace HR2 := Lib.hid (HR2.out.at hb)
                  replace HBl := Lib.hid (lift HBl.out hb)
                  replace p1 : w6.heap.size < wr.heap.size := ltAt p1 hb
                  clear hb
                  by_cases hlt2 : k < x.length
                  · have hs := anyt_succ (p := thereB u) hlt2
                    obtain ⟨b2, o2, hA, hB2, x0, x1, x2, x3⟩ := HR1.out.rq.job hlt2
                    generalize x[k] = z at x0 x1 x2 x3 hs
                    generalize (x.take k).any (thereB u) = n1 at *
                    obtain ⟨s, t', r, d'⟩ := z
                    simp only at x0 x1 x2 x3
                    have k1 : (0 : Int) ≤ (k : Int) := by omega
                    have k2 : (k : Int) < (x.length : Int) := by omega
                    subst hA
                    rw [thereB_mk] at hs
                    cases n1
                    · cases eu : (s == u)
                      · have HS := Lib.hid (hs.trans (show _ = false by rw [eu]; rfl))
                        clear hs
                        go_wp2_with fail
                        go_roundw
                        case rel => exact ⟨k + 1, by omega, by rw [HS.out], by go_num, by have hbk := HBk.out; have hz := hbk.size; exact (by repeat (first | exact Below.refl _ _ | assumption | refine Below.alloc ?_ (by first | omega | (simp <;> omega)) _ | refine Below.setCell ?_ (by first | omega | (simp <;> omega)) _ | refine Below.drew ?_))⟩
                        case measure => simp [intOf]; omega
                      · cases er : (r != 3)
                        · have HS := Lib.hid (hs.trans (show _ = false by rw [eu, er]; rfl))
                          clear hs
                          go_wp2_with fail
                          go_roundw
                          case rel => exact ⟨k + 1, by omega, by rw [HS.out], by go_num, by have hbk := HBk.out; have hz := hbk.size; exact (by repeat (first | exact Below.refl _ _ | assumption | refine Below.alloc ?_ (by first | omega | (simp <;> omega)) _ | refine Below.setCell ?_ (by first | omega | (simp <;> omega)) _ | refine Below.drew ?_))⟩
                          case measure => simp [intOf]; omega
                        · have HS := Lib.hid (hs.trans (show _ = true by rw [eu, er]; rfl))
                          clear hs
                          go_wp2_with fail
                          go_roundw
                          case rel => exact ⟨k + 1, by omega, by rw [HS.out], by go_num, by have hbk := HBk.out; have hz := hbk.size; exact (by repeat (first | exact Below.refl _ _ | assumption | refine Below.alloc ?_ (by first | omega | (simp <;> omega)) _ | refine Below.setCell ?_ (by first | omega | (simp <;> omega)) _ | refine Below.drew ?_))⟩
                          case measure => simp [intOf]; omega
                    · have HS := Lib.hid (hs.trans (show _ = true by rfl))
                      clear hs
                      go_wp2_with fail
                      go_roundw
                      case rel => exact ⟨k + 1, by omega, by rw [HS.out], by go_num, by have hbk := HBk.out; have hz := hbk.size; exact (by repeat (first | exact Below.refl _ _ | assumption | refine Below.alloc ?_ (by first | omega | (simp <;> omega)) _ | refine Below.setCell ?_ (by first | omega | (simp <;> omega)) _ | refine Below.drew ?_))⟩
                      case measure => simp [intOf]; omega
                  · obtain rfl : k = x.length := by omega
                    rw [List.take_length, HOr.out]
                    go_wp2_with fail
                    go_roundw
                    case rel => exact ⟨m + 1, by omega, by go_num, by have hbk := HBl.out; have hz := hbk.size; exact (by repeat (first | exact Below.refl _ _ | assumption | refine Below.alloc ?_ (by first | omega | (simp <;> omega)) _ | refine Below.setCell ?_ (by first | omega | (simp <;> omega)) _ | refine Below.drew ?_))⟩
                    case measure => simp [intOf]; omega
              · obtain rfl : m = jobs.length := by omega
                go_wp2_with fail
                refine (MayQ_any A1 k1 x w6 HR1.out.rq (by omega) HR1.out.ok).mono ?_
                rw [HMy.out]
                rintro e v6 ⟨rfl, hb⟩
                replace HQ := Lib.hid (HQ.out.at hb)
                replace HJ := Lib.hid (HJ.out.at hb)
                replace HB := Lib.hid (lift HB.out hb)
                replace HR1 := Lib.hid (HR1.out.at hb)
                replace HR2 := Lib.hid (HR2.out.at hb)
                replace HBl := Lib.hid (lift HBl.out hb)
                clear hb
                go_wp2_with fail
                go_ret
                exact ⟨rfl, HB.out⟩
  · have hbad := inst_bad h0
    rcases hin : instQ q jobs 1 with ⟨⟨r1, r2⟩, r3⟩
    rw [hin] at hbad h0
    simp only [Prod.mk.injEq] at hbad h0
    obtain ⟨rfl, rfl⟩ := hbad
    have h0b : (r3 != 0) = true := by simpa using h0
    go_enter Tryz.func12, Tryz.ntmps12
    go_wp2_with fail
    refine (shown_any w).mono ?_
    rintro e w2 ⟨rfl, hb⟩
    have HB := Lib.hid hb
    replace HQ := Lib.hid (HQ.out.at hb)
    replace HJ := Lib.hid (HJ.out.at hb)
    clear hb
    go_wp2_with fail
    refine (InstallQ_all A c q A0 c0 jobs 1 w2 HQ.out HJ.out (by omega) (by omega)).mono ?_
    rw [hin]
    rintro e w3 ⟨A1, k1, A2, k2, rfl, hk1, hr1, hr2, hb⟩
    replace HQ := Lib.hid (HQ.out.at hb)
    replace HJ := Lib.hid (HJ.out.at hb)
    replace HB := Lib.hid (lift HB.out hb)
    clear hb hr1 hr2 hin
    simp only [List.length_nil]
    go_wp2_with fail
    go_ret
    exact ⟨by simp, HB.out⟩
end Od
end Go.Proofs.YtanfnejbnmenkaaGreat
end
