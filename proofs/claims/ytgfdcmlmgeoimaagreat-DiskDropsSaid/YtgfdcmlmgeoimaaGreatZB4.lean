/- My texts, joined for the claim: DChars DSplit DPathM DPath. -/
import Derived.Test.YtgfdcmlmgeoimaaGreatZB1
import Derived.Test.YtgfdcmlmgeoimaaGreatZB2
import Derived.Test.YtgfdcmlmgeoimaaGreatZB3
import Derived.Test.YtgfdcmlmgeoimaaGreatZB0

section
/- Kinds of bytes: letters, digits, those of a text; a text of some length, all of them so. (bel2) -/
namespace Go.Proofs.YtgfdcmlmgeoimaaGreat
open Go.RowKit
set_option linter.unusedSimpArgs false
namespace Od
/-- One of a letter, a digit, a text's. -/
def okT (t : Str) (c : Int) : Bool := letterB c || (digitB c || inB t c)
def okKt (t : Str) (c : Int) : Nat → Bool
  | 0 => false
  | 1 => letterB c
  | 2 => letterB c || digitB c
  | _ => okT t c
set_option maxRecDepth 100000 in
set_option maxHeartbeats 4000000 in
theorem Any1t_any (t : Str) (c : Int) (pl b pi : Nat) (w : World) (h0 : w.cell? ⟨pl, 0, none⟩ = some (.slice (some ⟨b, 0, none⟩) 3 3)) (hf0 : w.cell? ⟨b, 0, none⟩ = some (.func (.func 64) #[] #[])) (hf1 : w.cell? ⟨b, 1, none⟩ = some (.func (.func 65) #[] #[]))
    (hf2 : w.cell? ⟨b, 2, none⟩ = some (.func (.func 83) #[] #[.pointer (some ⟨pi, 0, none⟩)])) (hpi : w.cell? ⟨pi, 0, none⟩ = some (sv t)) :
    Calls Tryz.prog 82 #[.int .u8 c, .pointer (some ⟨pl, 0, none⟩)] w fun e w' => e = .returned (.bool (okT t c)) ∧ Below w.heap.size w w' := by
  have hb0 : b < w.heap.size := cell_blk hf0
  have hpl : pl < w.heap.size := cell_blk h0
  have hstep : ∀ k : Nat, k < 3 → ∃ (g : Nat) (caps : Array Value) (p : Int → Bool), w.cell? ⟨b, k, none⟩ = some (.func (.func g) #[] caps) ∧ SaysB g caps p w ∧ okKt t c (k + 1) = (okKt t c k || p c) := by
    intro k hk
    rcases (show k = 0 ∨ k = 1 ∨ k = 2 by omega) with rfl | rfl | rfl
    · exact ⟨_, _, _, hf0, says_letter w, rfl⟩
    · exact ⟨_, _, _, hf1, says_digit w, rfl⟩
    · exact ⟨_, _, _, hf2, says_in pi t w hpi, by simp [okKt, okT, Bool.or_assoc]⟩
  have HSt := Lib.hid hstep
  clear hstep hf0 hf1 hf2 hpi
  go_enter Tryz.func82, Tryz.ntmps82
  go_wp2_with fail
  go_loopw [8] (fun i wr => ∃ k : Nat, k ≤ 3 ∧ i = .int .i64 k ∧ Hid (okKt t c k = false) ∧ Below w.heap.size w wr) (fun i _ => 3 - (intOf i).toNat)
  case atStart => exact ⟨0, by omega, rfl, rfl, Below.refl _ _⟩
  case round =>
    obtain ⟨k, hk, rfl, hall, hb⟩ := hrel
    have HB := Lib.hid hb
    clear hb
    by_cases hlt : k < 3
    · have hdk : decide ((k : Int) < 3) = true := by simp; omega
      obtain ⟨g, caps, p, hc, hs, ho⟩ := HSt.out k hlt
      have hcr := cellAt hc HB.out hb0
      have Hs := Lib.hid hs
      have Ho := Lib.hid ho
      have eg := hs.enters
      clear hc hs ho
      go_wp2_with fail
      refine (Hs.out.says wr c HB.out).mono ?_
      rintro e w2 ⟨rfl, hb2⟩
      have HB2 := Lib.hid (HB.out.trans (hb2.mono HB.out.size))
      clear hb2
      cases hp : p c
      · have HP := Lib.hid hp
        go_wp2_with fail
        go_roundw
        case rel => exact ⟨k + 1, by omega, by go_num, by show _ = false; rw [Ho.out, hall.out, HP.out]; rfl, HB2.out⟩
        case measure => simp [intOf]; omega
      · have HP := Lib.hid hp
        go_wp2_with fail
        go_ret
        refine ⟨ret_bool ?_, HB2.out⟩
        have h1 : okKt t c (k + 1) = true := by rw [Ho.out, HP.out, Bool.or_true]
        rcases (show k = 0 ∨ k = 1 ∨ k = 2 by omega) with rfl | rfl | rfl
        · simp only [okKt] at h1; simp [okT, h1]
        · simp only [okKt] at h1; unfold okT; rw [← Bool.or_assoc, h1]; rfl
        · exact h1.symm
    · have hk3 : k = 3 := by omega
      have hdk : decide ((k : Int) < 3) = false := by simp; omega
      have h3 := hall.out
      rw [hk3] at h3
      have H3 := Lib.hid h3
      clear hk3 h3
      go_wp2_with fail
      go_ret
      exact ⟨ret_bool H3.out.symm, HB.out⟩

theorem saysT_any (t : Str) (pl b pi : Nat) (w : World) (h0 : w.cell? ⟨pl, 0, none⟩ = some (.slice (some ⟨b, 0, none⟩) 3 3)) (hf0 : w.cell? ⟨b, 0, none⟩ = some (.func (.func 64) #[] #[])) (hf1 : w.cell? ⟨b, 1, none⟩ = some (.func (.func 65) #[] #[]))
    (hf2 : w.cell? ⟨b, 2, none⟩ = some (.func (.func 83) #[] #[.pointer (some ⟨pi, 0, none⟩)])) (hpi : w.cell? ⟨pi, 0, none⟩ = some (sv t)) : SaysB 82 #[.pointer (some ⟨pl, 0, none⟩)] (okT t) w where
  enters := enters_of Tryz.func82 (by kernel_rfl) rfl
  says := fun W c h => Any1t_any t c pl b pi W (cellAt h0 h (cell_blk h0)) (cellAt hf0 h (cell_blk hf0)) (cellAt hf1 h (cell_blk hf0)) (cellAt hf2 h (cell_blk hf0)) (cellAt hpi h (cell_blk hpi))
def dashS : Str := [45, 95]
theorem dropB_ok : ∀ n : Nat, n < 256 → okT dashS (n : Int) = dropB (n : Int) := by decide +kernel
theorem allB_drop (s : Str) : allB (okT dashS) s = allB dropB s := by
  unfold allB
  refine Bool.eq_iff_iff.2 ?_
  rw [List.all_eq_true, List.all_eq_true]
  have h : ∀ c : UInt8, okT dashS (c.toNat : Int) = dropB (c.toNat : Int) := fun c => dropB_ok _ c.toNat_lt
  simp only [h]
set_option maxRecDepth 100000 in
set_option maxHeartbeats 4000000 in
theorem Long_any (s : Str) (n : Nat) (g : Nat) (caps : Array Value) (p : Int → Bool) (w : World) (hl : s.length ≤ maxLen) (hp : SaysB g caps p w) :
    Calls Tryz.prog 62 #[sv s, .int .i64 n, .func (.func g) #[] caps] w fun e w' => e = .returned (.bool (!(s == ([] : Str)) && (!decide (n < s.length) && allB p s))) ∧ Below w.heap.size w w' := by
  have Hp := Lib.hid hp
  clear hp
  cases s with
  | nil =>
    go_enter Tryz.func62, Tryz.ntmps62
    go_wp2_with fail
    go_ret
    exact ⟨rfl, (by repeat (first | exact Below.refl _ _ | assumption | refine Below.alloc ?_ (by first | omega | (simp <;> omega)) _ | refine Below.setCell ?_ (by first | omega | (simp <;> omega)) _ | refine Below.drew ?_))⟩
  | cons c s =>
    by_cases hn : n < (c :: s).length
    · have d0 : decide (((c :: s).length : Int) ≤ (n : Int)) = false := by rw [decide_eq_false_iff_not]; omega
      have d2 : decide (n < (c :: s).length) = true := by rw [decide_eq_true_eq]; omega
      have d3 : decide ((c :: s).length ≤ n) = false := by rw [decide_eq_false_iff_not]; omega
      have HD := Lib.hid d2
      have hc : (c :: s).isEmpty = false := rfl
      generalize (c :: s) = s at *
      go_enter Tryz.func62, Tryz.ntmps62
      go_wp2_with fail
      go_ret
      exact ⟨ret_bool (by rw [HD.out]; simp), (by repeat (first | exact Below.refl _ _ | assumption | refine Below.alloc ?_ (by first | omega | (simp <;> omega)) _ | refine Below.setCell ?_ (by first | omega | (simp <;> omega)) _ | refine Below.drew ?_))⟩
    · have d0 : decide (((c :: s).length : Int) ≤ (n : Int)) = true := by rw [decide_eq_true_eq]; omega
      have d2 : decide (n < (c :: s).length) = false := by rw [decide_eq_false_iff_not]; omega
      have d3 : decide ((c :: s).length ≤ n) = true := by rw [decide_eq_true_eq]; omega
      have HD := Lib.hid d2
      have hc : (c :: s == ([] : Str)) = false := rfl
      have HC := Lib.hid hc
      generalize (c :: s) = s at *
      go_enter Tryz.func62, Tryz.ntmps62
      go_wp2_with fail
      refine (All_any s g caps p _ hl Hp.out).mono ?_
      rintro e w1 ⟨rfl, hb⟩
      go_wp2_with fail
      go_ret
      exact ⟨ret_bool (by rw [HD.out, HC.out]; simp), hb⟩
end Od
end Go.Proofs.YtgfdcmlmgeoimaaGreat
end

section
/- matinsref3.Split; places; dropName. (bel2) -/
namespace Go.Proofs.YtgfdcmlmgeoimaaGreat
open Go.RowKit Go.Sort
set_option linter.unusedSimpArgs false
namespace Od
set_option maxRecDepth 100000 in
set_option maxHeartbeats 4000000 in
theorem Split_any (s : Str) (w : World) (hl : s.length ≤ 1099511627776) : Calls Tryz.prog 39 #[sv s, .int .u8 47] w (OwnS (splitL 47 s) w) := by
  obtain ⟨i0, hi, hz0, hz1, hz2⟩ := info_parts infoS
  go_enter Tryz.func39, Tryz.ntmps39
  go_wp2_with fail
  go_loopw [5, 6, 7] (fun v fr i wr => ∃ (out : List Str) (A : Option Addr) (c a k : Nat), k ≤ s.length ∧ a ≤ s.length ∧ v = .slice A out.length c ∧ fr = .int .i64 a ∧ i = .int .i64 k ∧ Hid (SplAt s out a k) ∧ Hid (wr.ownsRow w.heap.size 9 1 (.slice A out.length c) out.length (svs out)) ∧ Hid (Below w.heap.size w wr)) (fun _ _ i _ => s.length - (intOf i).toNat)
  case atStart => exact ⟨[], none, 0, 0, 0, Nat.zero_le _, Nat.zero_le _, rfl, rfl, rfl, SplAt.start s, World.ownsRow_nil _ _ _ _, Below.refl _ _⟩
  case round =>
    obtain ⟨out, A, c, a, k, hk, ha, rfl, rfl, rfl, HS, HO, HB⟩ := hrel
    obtain ⟨w5, rfl⟩ : ∃ wo : World, wo = wr := ⟨_, rfl⟩
    have hle := HS.out.le
    have hln := HS.out.len
    have hz5 := HB.out.size
    have a0 : (0 : Int) ≤ (a : Int) := by omega
    by_cases hlt : k < s.length
    · by_cases hsl : s[k] = 47
      · have hb : ((((({ data := s.toArray } : ByteArray)[k]'hlt).toNat : Nat) : Int) == 47) = true := by show ((s[k].toNat : Int) == 47) = true; rw [hsl]; rfl
        have HS2 := Lib.hid (HS.out.hit hlt hsl)
        have hex := extract_str s a k
        have k1 : (a : Int) ≤ (k : Int) := by omega
        have k2 : (k : Int) ≤ (s.length : Int) := by omega
        have hwk : IntKind.i64.wrap ((k : Int) + 1) = (k : Int) + 1 := IntWalk.i64_in _ (by omega)
        generalize (s.take k).drop a = x at *
        have h63 := Lib.hid (show out.length + 1 ≤ maxLen by unfold maxLen; omega)
        have hby := Lib.hid (show (out.length + 1) * 16 ≤ 140737488355328 by omega)
        clear hsl
        go_wp2_with (first | (at_builtin; refine wpList_pushm w5 w5 (by rfl) (.tmp 19) (.tmp 24) 24 (by rfl) w.heap.size 9 i0 _ 1 16 Tryz.underlying24 hi hz0 hz1 hz2 rfl (by decide) _ _ _ (by rfl) HO.out [sv x] w5.heap.size rfl (by rfl) rfl (one_sv x) h63.out hby.out hz5 (Below.refl _ _) ?_; intro A10 c10 w10 hown hbel hg hat; have HO10 := Lib.hid hown; have HBa := Lib.hid hbel; clear hown hbel hg hat) | fail)
        go_roundw
        case rel => exact ⟨out ++ [x], A10, c10, k + 1, k + 1, by omega, by omega, by rw [List.length_append]; rfl, by go_num, by go_num, HS2, by rw [List.length_append, svs_app]; exact HO10.out, HB.out.trans HBa.out⟩
        case measure => simp [intOf]; omega
      · have hb : ((((({ data := s.toArray } : ByteArray)[k]'hlt).toNat : Nat) : Int) == 47) = false := by
          show ((s[k].toNat : Int) == 47) = false
          rw [beq_eq_false_iff_ne]
          intro e
          exact hsl (UInt8.toNat_inj.1 (show s[k].toNat = (47 : UInt8).toNat by have : (47 : UInt8).toNat = 47 := rfl; omega))
        have HS2 := Lib.hid (HS.out.next hlt hsl)
        clear hsl
        go_wp2_with fail
        go_roundw
        case rel => exact ⟨out, A, c, a, k + 1, by omega, ha, rfl, rfl, by go_num, HS2, HO, HB⟩
        case measure => simp [intOf]; omega
    · obtain rfl : k = s.length := by omega
      have HE := Lib.hid HS.out.end_
      have hex := extract_str s a s.length
      rw [List.take_length] at hex
      have k2 : (a : Int) ≤ (s.length : Int) := by omega
      generalize s.drop a = x at *
      have h63 := Lib.hid (show out.length + 1 ≤ maxLen by unfold maxLen; omega)
      have hby := Lib.hid (show (out.length + 1) * 16 ≤ 140737488355328 by omega)
      go_wp2_with (first | (at_builtin; refine wpList_pushm w5 w5 (by rfl) (.tmp 28) (.tmp 32) 24 (by rfl) w.heap.size 9 i0 _ 1 16 Tryz.underlying24 hi hz0 hz1 hz2 rfl (by decide) _ _ _ (by rfl) HO.out [sv x] w5.heap.size rfl (by rfl) rfl (one_sv x) h63.out hby.out hz5 (Below.refl _ _) ?_; intro A10 c10 w10 hown hbel hg hat; have HO10 := Lib.hid hown; have HBa := Lib.hid hbel; clear hown hbel hg hat) | fail)
      go_ret
      refine ⟨A10, c10, by rw [HE.out, List.length_append]; rfl, ?_, HB.out.trans HBa.out⟩
      rw [HE.out, List.length_append, svs_app]
      exact HO10.out
theorem cells3_new (w : World) (a b c : Value) (t : TypeId) : Rd (w.alloc (.cells #[a, b, c] t)) (w.alloc (.cells #[a, b, c] t)).heap.size 1 (some ⟨w.heap.size, 0, none⟩) 3 [a, b, c] := Rd.lit w [a, b, c] t 1 3 rfl
/-- A call hands back a slice that reads as these texts. -/
def ReadS (ss : List Str) (w : World) (e : Ending) (w' : World) : Prop := ∃ A c, e = .returned (.slice A ss.length c) ∧ ss.length ≤ c ∧ Rd w' w'.heap.size 1 A ss.length (svs ss) ∧ Below w.heap.size w w'
set_option maxHeartbeats 1000000 in
theorem places_any (w : World) : Calls Tryz.prog 40 #[] w (ReadS placesL w) := by
  go_enter Tryz.func40, Tryz.ntmps40
  go_wp2_with fail
  go_ret
  exact ⟨_, _, rfl, Nat.le_refl _, cells3_new w _ _ _ _, (by repeat (first | exact Below.refl _ _ | assumption | refine Below.alloc ?_ (by first | omega | (simp <;> omega)) _ | refine Below.setCell ?_ (by first | omega | (simp <;> omega)) _ | refine Below.drew ?_))⟩
set_option maxHeartbeats 1000000 in
theorem Places_any (w : World) : Calls Tryz.prog 22 #[] w (ReadS placesL w) := by
  go_enter Tryz.func22, Tryz.ntmps22
  go_wp2_with fail
  go_ret
  exact ⟨_, _, rfl, Nat.le_refl _, cells3_new w _ _ _ _, (by repeat (first | exact Below.refl _ _ | assumption | refine Below.alloc ?_ (by first | omega | (simp <;> omega)) _ | refine Below.setCell ?_ (by first | omega | (simp <;> omega)) _ | refine Below.drew ?_))⟩
theorem allB_take {p : Int → Bool} {s : Str} {k : Nat} (hk : k < s.length) : allB p (s.take (k + 1)) = (allB p (s.take k) && p (s[k].toNat : Int)) := by
  unfold allB
  rw [List.take_succ_eq_append_getElem hk, List.all_append]
  simp
theorem allB_false {p : Int → Bool} {s : Str} {k : Nat} (hk : k < s.length) (h : p (s[k].toNat : Int) = false) : allB p s = false := by
  unfold allB
  rw [List.all_eq_false]
  exact ⟨s[k], List.getElem_mem hk, by simp [h]⟩
set_option maxRecDepth 100000 in
set_option maxHeartbeats 4000000 in
theorem dropName_any (x : Str) (w : World) (hl : x.length ≤ 140737488355328) : Calls Tryz.prog 42 #[sv x] w fun e w' => e = .returned (.bool (dropN x)) ∧ w = w' := by
  have hN : dropN x = (!(x == ([] : Str)) && (!decide (20 < x.length) && allB dropB x)) := rfl
  by_cases h0 : x.length < 1
  · have d0 : decide ((x.length : Int) < 1) = true := by rw [decide_eq_true_eq]; omega
    have hx : x = [] := List.length_eq_zero_iff.1 (by omega)
    have HN := Lib.hid (show dropN x = false by rw [hN, hx]; rfl)
    clear h0 hx hN
    go_enter Tryz.func42, Tryz.ntmps42
    go_wp2_with fail
    go_ret
    exact ⟨ret_bool (by rw [HN.out]), rfl⟩
  · have d0 : decide ((x.length : Int) < 1) = false := by rw [decide_eq_false_iff_not]; omega
    have hx : (x == ([] : Str)) = false := by cases x with | nil => simp at h0 | cons a b => rfl
    by_cases h20 : 20 < x.length
    · have d1 : decide ((20 : Int) < (x.length : Int)) = true := by rw [decide_eq_true_eq]; omega
      have d2 : decide (20 < x.length) = true := by rw [decide_eq_true_eq]; omega
      have HN := Lib.hid (show dropN x = false by rw [hN, d2]; simp)
      clear h0 hx hN h20
      go_enter Tryz.func42, Tryz.ntmps42
      go_wp2_with fail
      go_ret
      exact ⟨ret_bool (by rw [HN.out]), rfl⟩
    · have d1 : decide ((20 : Int) < (x.length : Int)) = false := by rw [decide_eq_false_iff_not]; omega
      have d2 : decide (20 < x.length) = false := by rw [decide_eq_false_iff_not]; omega
      have HN := Lib.hid (show dropN x = allB dropB x by rw [hN, d2, hx]; simp)
      clear h0 hx hN h20
      go_enter Tryz.func42, Tryz.ntmps42
      go_wp2_with fail
      go_loop [3] (fun i => ∃ k : Nat, k ≤ x.length ∧ i = .int .i64 k ∧ Hid (allB dropB (x.take k) = true)) (fun i => x.length - (intOf i).toNat)
      case atStart => exact ⟨0, Nat.zero_le _, rfl, rfl⟩
      case round =>
        obtain ⟨k, hk, rfl, HA⟩ := hrel
        by_cases hlt : k < x.length
        · have hT := allB_take (p := dropB) hlt
          have hF := fun h => allB_false (p := dropB) (s := x) hlt h
          rw [HA.out, Bool.true_and] at hT
          have hD : dropB (x[k].toNat : Int) = (letterB (x[k].toNat : Int) || (digitB (x[k].toNat : Int) || ((x[k].toNat : Int) == 45 || (x[k].toNat : Int) == 95))) := rfl
          have e0 : (((({ data := x.toArray } : ByteArray)[k]'hlt).toNat : Nat) : Int) = (x[k].toNat : Int) := rfl
          generalize (x[k].toNat : Int) = c at *
          have HT := Lib.hid hT
          have HF := Lib.hid hF
          have HD := Lib.hid hD
          clear hT hF hD
          cases h1 : letterB c
          · cases h2 : digitB c
            · cases h3 : (c == 45)
              · have n3 : (c != 45) = true := by rw [bne, h3]; rfl
                cases h4 : (c == 95)
                · have n4 : (c != 95) = true := by rw [bne, h4]; rfl
                  go_wp2_with fail
                  refine (Letter1_any c w).mono ?_
                  rintro e w1 ⟨rfl, rfl⟩
                  go_wp2_with fail
                  refine (Digit1_any c w).mono ?_
                  rintro e w1 ⟨rfl, rfl⟩
                  go_wp2_with fail
                  go_ret
                  exact ⟨ret_bool (by rw [HN.out, HF.out (by rw [HD.out, h1, h2, h3, h4]; rfl)]), rfl⟩
                · have n4 : (c != 95) = false := by rw [bne, h4]; rfl
                  go_wp2_with fail
                  refine (Letter1_any c w).mono ?_
                  rintro e w1 ⟨rfl, rfl⟩
                  go_wp2_with fail
                  refine (Digit1_any c w).mono ?_
                  rintro e w1 ⟨rfl, rfl⟩
                  go_wp2_with fail
                  go_round
                  case rel => exact ⟨k + 1, by omega, by go_num, by show _ = true; rw [HT.out, HD.out]; simp [*]⟩
                  case measure => simp [intOf]; omega
              · have n3 : (c != 45) = false := by rw [bne, h3]; rfl
                go_wp2_with fail
                refine (Letter1_any c w).mono ?_
                rintro e w1 ⟨rfl, rfl⟩
                go_wp2_with fail
                refine (Digit1_any c w).mono ?_
                rintro e w1 ⟨rfl, rfl⟩
                go_wp2_with fail
                go_round
                case rel => exact ⟨k + 1, by omega, by go_num, by show _ = true; rw [HT.out, HD.out]; simp [*]⟩
                case measure => simp [intOf]; omega
            · go_wp2_with fail
              refine (Letter1_any c w).mono ?_
              rintro e w1 ⟨rfl, rfl⟩
              go_wp2_with fail
              refine (Digit1_any c w).mono ?_
              rintro e w1 ⟨rfl, rfl⟩
              go_wp2_with fail
              go_round
              case rel => exact ⟨k + 1, by omega, by go_num, by show _ = true; rw [HT.out, HD.out]; simp [*]⟩
              case measure => simp [intOf]; omega
          · go_wp2_with fail
            refine (Letter1_any c w).mono ?_
            rintro e w1 ⟨rfl, rfl⟩
            go_wp2_with fail
            go_round
            case rel => exact ⟨k + 1, by omega, by go_num, by show _ = true; rw [HT.out, HD.out]; simp [*]⟩
            case measure => simp [intOf]; omega
        · obtain rfl : k = x.length := by omega
          have hA := HA.out
          rw [List.take_length] at hA
          have HA2 := Lib.hid hA
          clear hA
          go_wp2_with fail
          go_ret
          exact ⟨ret_bool (by rw [HN.out, HA2.out]), rfl⟩
end Od
end Go.Proofs.YtgfdcmlmgeoimaaGreat
end

section
/- What the reference's Path keeps in memory, and the shape of what it splits. (bel2) -/
namespace Go.Proofs.YtgfdcmlmgeoimaaGreat
open Go.RowKit Go.Sort
set_option linter.unusedSimpArgs false
namespace Od
abbrev wyV (x : Wy) : Value := .agg #[.int .i64 x.1, sv x.2.1, sv x.2.2.1, sv x.2.2.2]
theorem dropB_slash : dropB (((47 : UInt8).toNat : Nat) : Int) = false := by decide
theorem wayF_slash {k : Nat} {p u f : Str} (h : (47 : UInt8) ∈ f) : wayF k p u f = way0 := by
  unfold wayF
  by_cases hk : k = 1
  · rw [if_pos hk]
    cases he : endsW f confS with
    | none => rfl
    | some x =>
      simp only
      rw [if_neg]
      intro hd
      obtain ⟨e, _⟩ := endsW_some.1 he
      rw [e] at h
      rcases List.mem_append.1 h with h | h
      · unfold dropN at hd
        simp only [Bool.and_eq_true] at hd
        exact allB_no hd.2.2 dropB_slash h
      · revert h; decide
  · rw [if_neg hk, if_neg]
    intro hd
    rw [Bool.and_eq_true] at hd
    exact name_slash (by simpa using hd.1) h
def foldW (p h f : Str) : Wy := match foldS h with
  | none => way0
  | some (k, u) => wayF k p u f
/-- The pieces of a path: too few or too many; two; three. -/
theorem split_shape (s : Str) : (((splitL 47 s).length < 2 ∨ 3 < (splitL 47 s).length) ∧ wayS s = way0) ∨
    (∃ p r, splitL 47 s = [p, r] ∧ wayS s = if hasB placesL p = true then (if kindS r != 0 then (1, p, r, []) else way0) else way0) ∨
    (∃ p h f, splitL 47 s = [p, h, f] ∧ wayS s = if hasB placesL p = true then foldW p h f else way0) := by
  cases h1 : cutR 47 s with
  | none =>
    left
    rw [splitL_one (cutR_none.1 h1)]
    exact ⟨.inl (by simp), by unfold wayS; rw [h1]⟩
  | some q =>
    obtain ⟨p, r⟩ := q
    obtain ⟨e1, n1⟩ := cutR_some.1 h1
    have hs : splitL 47 s = p :: splitL 47 r := by rw [e1]; exact splitL_cut n1
    cases h2 : cutR 47 r with
    | none =>
      right; left
      refine ⟨p, r, by rw [hs, splitL_one (cutR_none.1 h2)], ?_⟩
      unfold wayS
      rw [h1]
      simp only
      rw [h2]
      simp only [hasB_iff]
    | some q2 =>
      obtain ⟨h, f⟩ := q2
      obtain ⟨e2, n2⟩ := cutR_some.1 h2
      have hs2 : splitL 47 s = p :: h :: splitL 47 f := by rw [hs]; congr 1; rw [e2]; exact splitL_cut n2
      have hw : wayS s = if hasB placesL p = true then foldW p h f else way0 := by
        unfold wayS
        rw [h1]
        simp only
        rw [h2]
        simp only
        by_cases hp : p ∈ placesL
        · rw [if_pos hp, if_pos ((hasB_iff _ _).2 hp)]
          unfold foldW
          cases foldS h <;> rfl
        · rw [if_neg hp, if_neg (fun x => hp ((hasB_iff _ _).1 x))]
      by_cases hf : (47 : UInt8) ∈ f
      · left
        constructor
        · right
          rw [hs2]
          have : 2 ≤ (splitL 47 f).length := by
            cases h3 : cutR 47 f with
            | none => exact absurd hf (cutR_none.1 h3)
            | some q3 =>
              obtain ⟨a, b⟩ := q3
              obtain ⟨e3, n3⟩ := cutR_some.1 h3
              rw [e3, splitL_cut n3]
              have := List.length_pos_iff.2 (splitL_ne 47 b)
              simp only [List.length_cons]
              omega
          simp only [List.length_cons]
          omega
        · rw [hw]
          split
          · unfold foldW
            cases foldS h with
            | none => rfl
            | some q => exact wayF_slash hf
          · rfl
      · right; right
        exact ⟨p, h, f, by rw [hs2, splitL_one hf], hw⟩
def endsL : List Str := [dropsS, wantsS, reqsS]
def endE (k : Nat) : Str := foldE (k + 1)
/-- One round over the folders' ends. -/
def stepW (h f : Str) (k : Nat) (st : Nat × Str × Str) : Nat × Str × Str :=
  match okU (endsW h (endE k)) with
  | none => st
  | some u =>
    if k = 0 then (match endsW f confS with
      | some x => if dropN x then (2, u, x) else (st.1, u, st.2.2)
      | none => (st.1, u, st.2.2))
    else if kindS f != 0 && !tmplS f then (k + 2, u, f) else (st.1, u, st.2.2)
def stW (h f : Str) : Nat → Nat × Str × Str
  | 0 => (0, [], [])
  | k + 1 => stepW h f k (stW h f k)
theorem okU_some {o : Option Str} {v : Str} (h : okU o = some v) : o = some v ∧ kindS v ≠ 0 := by
  unfold okU at h
  obtain ⟨h1, h2⟩ := Option.filter_eq_some_iff.1 h
  exact ⟨h1, by simpa using h2⟩
theorem ends_apart {h e e' u v : Str} (he : endsW h e = some u) (he' : endsW h e' = some v) (hn : ∀ n, n ≤ e.length → n ≤ e'.length → n = 2 → e.drop (e.length - n) ≠ e'.drop (e'.length - n)) (hl : 2 ≤ e.length) (hl' : 2 ≤ e'.length) : False := by
  obtain ⟨h1, _⟩ := endsW_some.1 he
  obtain ⟨h2, _⟩ := endsW_some.1 he'
  have key : ∀ (a b : Str), 2 ≤ b.length → (a ++ b).drop ((a ++ b).length - 2) = b.drop (b.length - 2) := fun a b hb => by
    rw [List.drop_append, List.length_append]
    have : a.length + b.length - 2 - a.length = b.length - 2 := by omega
    rw [this, List.drop_eq_nil_of_le (by omega), List.nil_append]
  have k1 := key u e hl
  have k2 := key v e' hl'
  rw [← h1] at k1
  rw [← h2] at k2
  exact hn 2 hl hl' rfl (k1.symm.trans k2)
theorem fold_apart {h u v : Str} {j k : Nat} (hj : j < 3) (hk : k < 3) (hjk : j ≠ k) (h1 : okU (endsW h (endE j)) = some u) (h2 : okU (endsW h (endE k)) = some v) : False := by
  have a := (okU_some h1).1
  have b := (okU_some h2).1
  by_cases h12 : (j = 1 ∧ k = 2) ∨ (j = 2 ∧ k = 1)
  · -- '.wants' and '.requires': the last three differ
    obtain ⟨e1, _⟩ := endsW_some.1 a
    obtain ⟨e2, _⟩ := endsW_some.1 b
    have key : ∀ (x y : Str), 3 ≤ y.length → (x ++ y).drop ((x ++ y).length - 3) = y.drop (y.length - 3) := fun x y hy => by
      rw [List.drop_append, List.length_append]
      have : x.length + y.length - 3 - x.length = y.length - 3 := by omega
      rw [this, List.drop_eq_nil_of_le (by omega), List.nil_append]
    rcases h12 with ⟨rfl, rfl⟩ | ⟨rfl, rfl⟩
    · have k1 := key u (endE 1) (by decide)
      have k2 := key v (endE 2) (by decide)
      rw [← e1] at k1
      rw [← e2] at k2
      exact absurd (k1.symm.trans k2) (by decide)
    · have k1 := key u (endE 2) (by decide)
      have k2 := key v (endE 1) (by decide)
      rw [← e1] at k1
      rw [← e2] at k2
      exact absurd (k1.symm.trans k2) (by decide)
  · refine ends_apart a b ?_ ?_ ?_
    · rintro n _ _ rfl
      have : (j = 0 ∧ k = 1) ∨ (j = 0 ∧ k = 2) ∨ (j = 1 ∧ k = 0) ∨ (j = 2 ∧ k = 0) := by omega
      rcases this with ⟨rfl, rfl⟩ | ⟨rfl, rfl⟩ | ⟨rfl, rfl⟩ | ⟨rfl, rfl⟩ <;> decide
    · have : j = 0 ∨ j = 1 ∨ j = 2 := by omega
      rcases this with rfl | rfl | rfl <;> decide
    · have : k = 0 ∨ k = 1 ∨ k = 2 := by omega
      rcases this with rfl | rfl | rfl <;> decide
theorem stepW_none {h f : Str} {k : Nat} {st : Nat × Str × Str} (e : okU (endsW h (endE k)) = none) : stepW h f k st = st := by unfold stepW; rw [e]
/-- What the rounds come to. -/
theorem stW_way (p h f : Str) : (if (stW h f 3).1 = 0 then way0 else ((stW h f 3).1, p, (stW h f 3).2.1, (stW h f 3).2.2)) = foldW p h f := by
  have hf : foldS h = match okU (endsW h (endE 0)) with | some u => some (1, u) | none => match okU (endsW h (endE 1)) with | some u => some (2, u) | none => (okU (endsW h (endE 2))).map fun u => (3, u) := rfl
  unfold foldW
  rw [hf]
  cases h0 : okU (endsW h (endE 0)) with
  | some u =>
    have n1 : okU (endsW h (endE 1)) = none := by
      cases hx : okU (endsW h (endE 1)) with
      | none => rfl
      | some v => exact (fold_apart (by decide) (by decide) (by decide) h0 hx).elim
    have n2 : okU (endsW h (endE 2)) = none := by
      cases hx : okU (endsW h (endE 2)) with
      | none => rfl
      | some v => exact (fold_apart (by decide) (by decide) (by decide) h0 hx).elim
    have e : stW h f 3 = stepW h f 0 (0, [], []) := by
      show stepW h f 2 (stepW h f 1 (stepW h f 0 (0, [], []))) = _
      rw [stepW_none n2, stepW_none n1]
    rw [e]
    simp only
    unfold stepW wayF
    rw [h0]
    simp only [if_true]
    cases endsW f confS with
    | none => rfl
    | some x =>
      simp only
      by_cases hd : dropN x = true
      · rw [if_pos hd, if_pos hd]; rfl
      · rw [if_neg hd, if_neg hd]; rfl
  | none =>
    simp only
    cases h1 : okU (endsW h (endE 1)) with
    | some u =>
      have n2 : okU (endsW h (endE 2)) = none := by
        cases hx : okU (endsW h (endE 2)) with
        | none => rfl
        | some v => exact (fold_apart (by decide) (by decide) (by decide) h1 hx).elim
      have e : stW h f 3 = stepW h f 1 (0, [], []) := by
        show stepW h f 2 (stepW h f 1 (stepW h f 0 (0, [], []))) = _
        rw [stepW_none n2, stepW_none h0]
      rw [e]
      simp only
      unfold stepW wayF
      rw [h1]
      simp only [if_neg (show ¬ (1 : Nat) = 0 by decide), if_neg (show ¬ (2 : Nat) = 1 by decide)]
      by_cases hd : (kindS f != 0 && !tmplS f) = true
      · rw [if_pos hd, if_pos hd]; rfl
      · rw [if_neg hd, if_neg hd]; rfl
    | none =>
      simp only
      cases h2 : okU (endsW h (endE 2)) with
      | some u =>
        have e : stW h f 3 = stepW h f 2 (0, [], []) := by
          show stepW h f 2 (stepW h f 1 (stepW h f 0 (0, [], []))) = _
          rw [stepW_none h0, stepW_none h1]
        rw [e]
        simp only [Option.map_some]
        unfold stepW wayF
        rw [h2]
        simp only [if_neg (show ¬ (2 : Nat) = 0 by decide), if_neg (show ¬ (3 : Nat) = 1 by decide)]
        by_cases hd : (kindS f != 0 && !tmplS f) = true
        · rw [if_pos hd, if_pos hd]; rfl
        · rw [if_neg hd, if_neg hd]; rfl
      | none =>
        have e : stW h f 3 = (0, [], []) := by
          show stepW h f 2 (stepW h f 1 (stepW h f 0 (0, [], []))) = _
          rw [stepW_none h0, stepW_none h1, stepW_none h2]
        rw [e]
        rfl
/-- A way in a block. -/
structure WyC (w : World) (b : Nat) (k : Int) (p u o : Str) : Prop where
  c0 : w.cell? ⟨b, 0, none⟩ = some (.int .i64 k)
  c1 : w.cell? ⟨b, 1, none⟩ = some (sv p)
  c2 : w.cell? ⟨b, 2, none⟩ = some (sv u)
  c3 : w.cell? ⟨b, 3, none⟩ = some (sv o)
  f0 : w.frozen? ⟨b, 0, none⟩ = false
  f1 : w.frozen? ⟨b, 1, none⟩ = false
  f2 : w.frozen? ⟨b, 2, none⟩ = false
  f3 : w.frozen? ⟨b, 3, none⟩ = false
section
variable {w w' : World} {b : Nat} {k : Int} {p u o : Str}
theorem WyC.lt (h : WyC w b k p u o) : b < w.heap.size := cell_blk h.c0
theorem WyC.bel {B : Nat} (h : WyC w b k p u o) (hb : Below B w w') (hB : b < B) : WyC w' b k p u o :=
  ⟨(hb.cell (p := ⟨b, 0, none⟩) hB).trans h.c0, (hb.cell (p := ⟨b, 1, none⟩) hB).trans h.c1, (hb.cell (p := ⟨b, 2, none⟩) hB).trans h.c2, (hb.cell (p := ⟨b, 3, none⟩) hB).trans h.c3,
   (hb.frozen (p := ⟨b, 0, none⟩) hB).trans h.f0, (hb.frozen (p := ⟨b, 1, none⟩) hB).trans h.f1, (hb.frozen (p := ⟨b, 2, none⟩) hB).trans h.f2, (hb.frozen (p := ⟨b, 3, none⟩) hB).trans h.f3⟩
theorem WyC.on (h : WyC w b k p u o) (hb : Below w.heap.size w w') : WyC w' b k p u o := h.bel hb h.lt
theorem adr_ne {b o o' : Nat} (h : o ≠ o') : (⟨b, o, none⟩ : Addr) ≠ ⟨b, o', none⟩ := fun e => h (by injection e)
theorem WyC.set0 (h : WyC w b k p u o) (k' : Int) : WyC (w.setCell ⟨b, 0, none⟩ (.int .i64 k')) b k' p u o :=
  ⟨World.cell?_setCell_same _ _ _ h.c0, (World.cell?_setCell_other _ _ _ _ (adr_ne (by decide))).trans h.c1, (World.cell?_setCell_other _ _ _ _ (adr_ne (by decide))).trans h.c2, (World.cell?_setCell_other _ _ _ _ (adr_ne (by decide))).trans h.c3,
   by rw [World.frozen?_setCell]; exact h.f0, by rw [World.frozen?_setCell]; exact h.f1, by rw [World.frozen?_setCell]; exact h.f2, by rw [World.frozen?_setCell]; exact h.f3⟩
theorem WyC.set2 (h : WyC w b k p u o) (u' : Str) : WyC (w.setCell ⟨b, 2, none⟩ (sv u')) b k p u' o :=
  ⟨(World.cell?_setCell_other _ _ _ _ (adr_ne (by decide))).trans h.c0, (World.cell?_setCell_other _ _ _ _ (adr_ne (by decide))).trans h.c1, World.cell?_setCell_same _ _ _ h.c2, (World.cell?_setCell_other _ _ _ _ (adr_ne (by decide))).trans h.c3,
   by rw [World.frozen?_setCell]; exact h.f0, by rw [World.frozen?_setCell]; exact h.f1, by rw [World.frozen?_setCell]; exact h.f2, by rw [World.frozen?_setCell]; exact h.f3⟩
theorem WyC.set3 (h : WyC w b k p u o) (o' : Str) : WyC (w.setCell ⟨b, 3, none⟩ (sv o')) b k p u o' :=
  ⟨(World.cell?_setCell_other _ _ _ _ (adr_ne (by decide))).trans h.c0, (World.cell?_setCell_other _ _ _ _ (adr_ne (by decide))).trans h.c1, (World.cell?_setCell_other _ _ _ _ (adr_ne (by decide))).trans h.c2, World.cell?_setCell_same _ _ _ h.c3,
   by rw [World.frozen?_setCell]; exact h.f0, by rw [World.frozen?_setCell]; exact h.f1, by rw [World.frozen?_setCell]; exact h.f2, by rw [World.frozen?_setCell]; exact h.f3⟩
end
/-- A row in one block reads as before where another block is turned. -/
theorem rd_other {w : World} {B k n g o : Nat} {xs : List Value} {p : Addr} {v : Value} (h : Rd w B k (some ⟨g, o, none⟩) n xs) (hg : g ≠ p.block) : Rd (w.setCell p v) B k (some ⟨g, o, none⟩) n xs :=
  ⟨h.1, fun hn => by
    obtain ⟨ad, e, hb, hs, hc⟩ := h.2 hn
    injection e with e
    subst e
    exact ⟨_, rfl, hb, rfl, fun j hj => (World.cell?_setCell_other _ _ _ _ (fun e => hg (by have e2 := congrArg Addr.block e; first | exact e2 | exact e2.symm))).trans (hc j hj)⟩⟩
theorem read_own {ss : List Str} {w w' : World} {e : Ending} (h : OwnS ss w e w') : ReadS ss w e w' := by
  obtain ⟨A, c, rfl, ho, hb⟩ := h
  exact ⟨A, c, rfl, (own_cap ho).1, own_rd' ho, hb⟩
end Od
end Go.Proofs.YtgfdcmlmgeoimaaGreat
end

section
/- The walk of the reference's Path. (bel2) -/
namespace Go.Proofs.YtgfdcmlmgeoimaaGreat
open Go.RowKit Go.Sort
set_option linter.unusedSimpArgs false
namespace Od
theorem splitL_le {c : UInt8} : ∀ {s x : Str}, x ∈ splitL c s → x.length ≤ s.length
  | [], x, h => by simp [splitL] at h; simp [h]
  | a :: s, x, h => by
    unfold splitL at h
    by_cases hc : a = c
    · rw [if_pos hc] at h
      rcases List.mem_cons.1 h with h | h
      · rw [h]; simp
      · have := splitL_le h
        simp only [List.length_cons]; omega
    · rw [if_neg hc] at h
      cases hs : splitL c s with
      | nil => exact absurd hs (splitL_ne c s)
      | cons y t =>
        rw [hs] at h
        simp only at h
        rcases List.mem_cons.1 h with h | h
        · have := splitL_le (c := c) (s := s) (x := y) (by rw [hs]; exact .head _)
          rw [h]; simp only [List.length_cons]; omega
        · have := splitL_le (c := c) (s := s) (x := x) (by rw [hs]; exact .tail _ h)
          simp only [List.length_cons]; omega
theorem endsV_eq (s e : Str) : endsV s e = .tuple #[sv ((endsW s e).getD []), .bool (endsW s e).isSome] := by
  unfold endsV; cases endsW s e <;> rfl
set_option maxRecDepth 100000 in
set_option maxHeartbeats 16000000 in
theorem Path_none (s : Str) (w : World) (hl : s.length ≤ 1099511627776) (hn : (splitL 47 s).length < 2 ∨ 3 < (splitL 47 s).length) (hw : wayS s = way0) : Calls Tryz.prog 19 #[sv s] w fun e w' => e = .returned (wyV (wayS s)) ∧ Below w.heap.size w w' := by
  have HW := Lib.hid hw
  have HSp := Lib.hid (fun W => (Split_any s W hl).mono fun _ _ h => read_own h)
  have hll : (splitL 47 s).length ≤ 1099511627777 := by
    have key : ∀ s : Str, (splitL 47 s).length ≤ s.length + 1 := fun s => by
      induction s with
      | nil => simp [splitL]
      | cons a s ih =>
        unfold splitL
        split
        · simp only [List.length_cons]; omega
        · split
          · simp
          · rename_i x y e; rw [e] at ih; simp only [List.length_cons] at ih ⊢; omega
    have := key s
    omega
  clear hw
  generalize splitL 47 s = L at *
  by_cases h2 : L.length < 2
  · have d1 : decide ((L.length : Int) < 2) = true := by rw [decide_eq_true_eq]; omega
    have d2 : decide (L.length < 2) = true := by rw [decide_eq_true_eq]; omega
    clear hn h2
    go_enter Tryz.func19, Tryz.ntmps19
    go_wp2_with fail
    first | (refine wp_named ?_; intro W1 hW) | (refine calls_named ?_; intro W1 hW) | (refine exit_named ?_; intro W1 hW)
    have B1 : Below w.heap.size w W1 := by rw [hW]; exact (by repeat (first | exact Below.refl _ _ | assumption | refine Below.alloc ?_ (by first | omega | (simp <;> omega)) _ | refine Below.setCell ?_ (by first | omega | (simp <;> omega)) _ | refine Below.drew ?_))
    have n0 : w.heap.size < W1.heap.size := by rw [hW]; simp <;> omega
    have r0 : W1.cell? ⟨w.heap.size, 0, none⟩ = some (.int .i64 0) := by rw [hW]; go_simp
    have r1 : W1.cell? ⟨w.heap.size, 1, none⟩ = some (.string ⟨#[]⟩) := by rw [hW]; go_simp
    have r2 : W1.cell? ⟨w.heap.size, 2, none⟩ = some (.string ⟨#[]⟩) := by rw [hW]; go_simp
    have r3 : W1.cell? ⟨w.heap.size, 3, none⟩ = some (.string ⟨#[]⟩) := by rw [hW]; go_simp
    have z0 : W1.frozen? ⟨w.heap.size, 0, none⟩ = false := by rw [hW]; go_simp
    have z1 : W1.frozen? ⟨w.heap.size, 1, none⟩ = false := by rw [hW]; go_simp
    have z2 : W1.frozen? ⟨w.heap.size, 2, none⟩ = false := by rw [hW]; go_simp
    have z3 : W1.frozen? ⟨w.heap.size, 3, none⟩ = false := by rw [hW]; go_simp
    clear hW
    have HB1 := Lib.hid B1
    clear B1
    refine (HSp.out W1).mono ?_
    rintro e w2 ⟨A, c, rfl, hcc, hrd, hb⟩
    have HB2 := Lib.hid (lift HB1.out hb)
    replace r0 := cellAt r0 hb (by omega)
    replace r1 := cellAt r1 hb (by omega)
    replace r2 := cellAt r2 hb (by omega)
    replace r3 := cellAt r3 hb (by omega)
    replace z0 := froAt z0 hb (by omega)
    replace z1 := froAt z1 hb (by omega)
    replace z2 := froAt z2 hb (by omega)
    replace z3 := froAt z3 hb (by omega)
    replace n0 : w.heap.size < w2.heap.size := ltAt n0 hb
    clear hb HSp
    go_upto_region 2 with fail
    try go_wp2_with fail
    refine wp_region_held_drew (S := fun w' => Below w2.heap.size w2 w') (by kernel_rfl) (Below.drew (Below.refl _ _)) (fun hHeld => ?_)
    refine tY (i := 0) (v := ?_) rfl ?_ hHeld ?_; rotate_left 1; focus (intro w' hSw; clear hSw; go_simp; try with_reducible rfl)
    (try simp only [Act.put, zn1, zn2, zn3])
    refine tY (i := 1) (v := ?_) rfl ?_ hHeld ?_; rotate_left 1; focus (intro w' hSw; clear hSw; go_simp; try with_reducible rfl)
    (try simp only [Act.put, zn1, zn2, zn3])
    refine tY (i := 2) (v := ?_) rfl ?_ hHeld ?_; rotate_left 1; focus (intro w' hSw; clear hSw; go_simp; try with_reducible rfl)
    (try simp only [Act.put, zn1, zn2, zn3])
    refine tY (i := 3) (v := ?_) rfl ?_ hHeld ?_; rotate_left 1; focus (intro w' hSw; clear hSw; go_simp; try with_reducible rfl)
    (try simp only [Act.put, zn1, zn2, zn3])
    refine tS (i := 4) rfl hHeld ?_; (try simp only [Act.put, zn1, zn2, zn3])
    refine tS (i := 5) rfl hHeld ?_; (try simp only [Act.put, zn1, zn2, zn3])
    refine tS (i := 6) rfl hHeld ?_; (try simp only [Act.put, zn1, zn2, zn3])
    refine tY (i := 7) (v := ?_) rfl ?_ hHeld ?_; rotate_left 1; focus (intro w' hSw; clear hSw; go_simp; try with_reducible rfl)
    (try simp only [Act.put, zn1, zn2, zn3])
    refine tY (i := 8) (v := ?_) rfl ?_ hHeld ?_; rotate_left 1; focus (intro w' hSw; clear hSw; go_simp; try with_reducible rfl)
    (try simp only [Act.put, zn1, zn2, zn3])
    refine tS (i := 9) rfl hHeld ?_; (try simp only [Act.put, zn1, zn2, zn3])
    refine tS (i := 10) rfl hHeld ?_; (try simp only [Act.put, zn1, zn2, zn3])
    refine tS (i := 11) rfl hHeld ?_; (try simp only [Act.put, zn1, zn2, zn3])
    refine tS (i := 12) rfl hHeld ?_; (try simp only [Act.put, zn1, zn2, zn3])
    refine tS (i := 13) rfl hHeld ?_; (try simp only [Act.put, zn1, zn2, zn3])
    refine tS (i := 14) rfl hHeld ?_; (try simp only [Act.put, zn1, zn2, zn3])
    refine tY (i := 15) (v := ?_) rfl ?_ hHeld ?_; rotate_left 1; focus (intro w' hSw; clear hSw; go_simp; try with_reducible rfl)
    (try simp only [Act.put, zn1, zn2, zn3])
    refine wpAnyH_done (by kernel_rfl) ?_ _
    clear hHeld
    go_wp2_with fail
    have hB0 := HB2.out
    refine bodyPost_ret (v := .agg #[.int .i64 0, sv [], sv [], sv []]) (by simp only [results, Tryz.results19]; go_simp) rfl ⟨by rw [HW.out]; rfl, ?_⟩
    repeat (first | (with_reducible exact hB0) | (with_reducible refine Below.drew ?_) | (with_reducible refine Below.alloc ?_ ?zs _; case zs => first | omega | (simp <;> omega)) | (with_reducible refine Below.setCell ?_ ?zs _; case zs => first | omega | (simp <;> omega)))
  · have h3 : 3 < L.length := hn.resolve_left h2
    have d1 : decide ((L.length : Int) < 2) = false := by rw [decide_eq_false_iff_not]; omega
    have d2 : decide (L.length < 2) = false := by rw [decide_eq_false_iff_not]; omega
    have d3 : decide ((3 : Int) < (L.length : Int)) = true := by rw [decide_eq_true_eq]; omega
    have d4 : decide (3 < L.length) = true := by rw [decide_eq_true_eq]; omega
    clear hn h2 h3
    go_enter Tryz.func19, Tryz.ntmps19
    go_wp2_with fail
    first | (refine wp_named ?_; intro W1 hW) | (refine calls_named ?_; intro W1 hW) | (refine exit_named ?_; intro W1 hW)
    have B1 : Below w.heap.size w W1 := by rw [hW]; exact (by repeat (first | exact Below.refl _ _ | assumption | refine Below.alloc ?_ (by first | omega | (simp <;> omega)) _ | refine Below.setCell ?_ (by first | omega | (simp <;> omega)) _ | refine Below.drew ?_))
    have n0 : w.heap.size < W1.heap.size := by rw [hW]; simp <;> omega
    have r0 : W1.cell? ⟨w.heap.size, 0, none⟩ = some (.int .i64 0) := by rw [hW]; go_simp
    have r1 : W1.cell? ⟨w.heap.size, 1, none⟩ = some (.string ⟨#[]⟩) := by rw [hW]; go_simp
    have r2 : W1.cell? ⟨w.heap.size, 2, none⟩ = some (.string ⟨#[]⟩) := by rw [hW]; go_simp
    have r3 : W1.cell? ⟨w.heap.size, 3, none⟩ = some (.string ⟨#[]⟩) := by rw [hW]; go_simp
    have z0 : W1.frozen? ⟨w.heap.size, 0, none⟩ = false := by rw [hW]; go_simp
    have z1 : W1.frozen? ⟨w.heap.size, 1, none⟩ = false := by rw [hW]; go_simp
    have z2 : W1.frozen? ⟨w.heap.size, 2, none⟩ = false := by rw [hW]; go_simp
    have z3 : W1.frozen? ⟨w.heap.size, 3, none⟩ = false := by rw [hW]; go_simp
    clear hW
    have HB1 := Lib.hid B1
    clear B1
    refine (HSp.out W1).mono ?_
    rintro e w2 ⟨A, c, rfl, hcc, hrd, hb⟩
    have HB2 := Lib.hid (lift HB1.out hb)
    replace r0 := cellAt r0 hb (by omega)
    replace r1 := cellAt r1 hb (by omega)
    replace r2 := cellAt r2 hb (by omega)
    replace r3 := cellAt r3 hb (by omega)
    replace z0 := froAt z0 hb (by omega)
    replace z1 := froAt z1 hb (by omega)
    replace z2 := froAt z2 hb (by omega)
    replace z3 := froAt z3 hb (by omega)
    replace n0 : w.heap.size < w2.heap.size := ltAt n0 hb
    clear hb HSp
    go_upto_region 2 with fail
    try go_wp2_with fail
    refine wp_region_held_drew (S := fun w' => Below w2.heap.size w2 w') (by kernel_rfl) (Below.drew (Below.refl _ _)) (fun hHeld => ?_)
    refine tY (i := 0) (v := ?_) rfl ?_ hHeld ?_; rotate_left 1; focus (intro w' hSw; clear hSw; go_simp; try with_reducible rfl)
    (try simp only [Act.put, zn1, zn2, zn3])
    refine tY (i := 1) (v := ?_) rfl ?_ hHeld ?_; rotate_left 1; focus (intro w' hSw; clear hSw; go_simp; try with_reducible rfl)
    (try simp only [Act.put, zn1, zn2, zn3])
    refine tY (i := 2) (v := ?_) rfl ?_ hHeld ?_; rotate_left 1; focus (intro w' hSw; clear hSw; go_simp; try with_reducible rfl)
    (try simp only [Act.put, zn1, zn2, zn3])
    refine tY (i := 3) (v := ?_) rfl ?_ hHeld ?_; rotate_left 1; focus (intro w' hSw; clear hSw; go_simp; try with_reducible rfl)
    (try simp only [Act.put, zn1, zn2, zn3])
    refine tY (i := 4) (v := ?_) rfl ?_ hHeld ?_; rotate_left 1; focus (intro w' hSw; clear hSw; go_simp; try with_reducible rfl)
    (try simp only [Act.put, zn1, zn2, zn3])
    refine tY (i := 5) (v := ?_) rfl ?_ hHeld ?_; rotate_left 1; focus (intro w' hSw; clear hSw; go_simp; try with_reducible rfl)
    (try simp only [Act.put, zn1, zn2, zn3])
    refine tY (i := 6) (v := ?_) rfl ?_ hHeld ?_; rotate_left 1; focus (intro w' hSw; clear hSw; go_simp; try with_reducible rfl)
    (try simp only [Act.put, zn1, zn2, zn3])
    refine tY (i := 7) (v := ?_) rfl ?_ hHeld ?_; rotate_left 1; focus (intro w' hSw; clear hSw; go_simp; try with_reducible rfl)
    (try simp only [Act.put, zn1, zn2, zn3])
    refine tY (i := 8) (v := ?_) rfl ?_ hHeld ?_; rotate_left 1; focus (intro w' hSw; clear hSw; go_simp; try with_reducible rfl)
    (try simp only [Act.put, zn1, zn2, zn3])
    refine tS (i := 9) rfl hHeld ?_; (try simp only [Act.put, zn1, zn2, zn3])
    refine tS (i := 10) rfl hHeld ?_; (try simp only [Act.put, zn1, zn2, zn3])
    refine tS (i := 11) rfl hHeld ?_; (try simp only [Act.put, zn1, zn2, zn3])
    refine tS (i := 12) rfl hHeld ?_; (try simp only [Act.put, zn1, zn2, zn3])
    refine tS (i := 13) rfl hHeld ?_; (try simp only [Act.put, zn1, zn2, zn3])
    refine tS (i := 14) rfl hHeld ?_; (try simp only [Act.put, zn1, zn2, zn3])
    refine tY (i := 15) (v := ?_) rfl ?_ hHeld ?_; rotate_left 1; focus (intro w' hSw; clear hSw; go_simp; try with_reducible rfl)
    (try simp only [Act.put, zn1, zn2, zn3])
    refine wpAnyH_done (by kernel_rfl) ?_ _
    clear hHeld
    go_wp2_with fail
    have hB0 := HB2.out
    refine bodyPost_ret (v := .agg #[.int .i64 0, sv [], sv [], sv []]) (by simp only [results, Tryz.results19]; go_simp) rfl ⟨by rw [HW.out]; rfl, ?_⟩
    repeat (first | (with_reducible exact hB0) | (with_reducible refine Below.drew ?_) | (with_reducible refine Below.alloc ?_ ?zs _; case zs => first | omega | (simp <;> omega)) | (with_reducible refine Below.setCell ?_ ?zs _; case zs => first | omega | (simp <;> omega)))
set_option maxRecDepth 100000 in
set_option maxHeartbeats 16000000 in
theorem Path_two (s p r : Str) (w : World) (hl : s.length ≤ 1099511627776) (hL : splitL 47 s = [p, r]) (hw : wayS s = if hasB placesL p = true then (if kindS r != 0 then (1, p, r, []) else way0) else way0) : Calls Tryz.prog 19 #[sv s] w fun e w' => e = .returned (wyV (wayS s)) ∧ Below w.heap.size w w' := by
  have hrl : r.length ≤ 140737488355328 := Nat.le_trans (splitL_le (c := 47) (s := s) (by rw [hL]; simp)) (by omega)
  have HSp : Hid (∀ W, Calls Tryz.prog 39 #[sv s, .int .u8 47] W fun e w' => ∃ A c, e = .returned (.slice A 2 c) ∧ 2 ≤ c ∧ Rd w' w'.heap.size 1 A 2 [sv p, sv r] ∧ Below W.heap.size W w') := Lib.hid fun W => by
    have h := Split_any s W hl
    rw [hL] at h
    exact h.mono fun _ _ h => read_own h
  clear hL
  cases hp : hasB placesL p
  · have HW := Lib.hid (show wayS s = way0 by rw [hw, hp]; rfl)
    clear hw
    go_enter Tryz.func19, Tryz.ntmps19
    go_wp2_with fail
    first | (refine wp_named ?_; intro W1 hW) | (refine calls_named ?_; intro W1 hW) | (refine exit_named ?_; intro W1 hW)
    have B1 : Below w.heap.size w W1 := by rw [hW]; exact (by repeat (first | exact Below.refl _ _ | assumption | refine Below.alloc ?_ (by first | omega | (simp <;> omega)) _ | refine Below.setCell ?_ (by first | omega | (simp <;> omega)) _ | refine Below.drew ?_))
    have n0 : w.heap.size < W1.heap.size := by rw [hW]; simp <;> omega
    have r0 : W1.cell? ⟨w.heap.size, 0, none⟩ = some (.int .i64 0) := by rw [hW]; go_simp
    have r1 : W1.cell? ⟨w.heap.size, 1, none⟩ = some (.string ⟨#[]⟩) := by rw [hW]; go_simp
    have r2 : W1.cell? ⟨w.heap.size, 2, none⟩ = some (.string ⟨#[]⟩) := by rw [hW]; go_simp
    have r3 : W1.cell? ⟨w.heap.size, 3, none⟩ = some (.string ⟨#[]⟩) := by rw [hW]; go_simp
    have z0 : W1.frozen? ⟨w.heap.size, 0, none⟩ = false := by rw [hW]; go_simp
    have z1 : W1.frozen? ⟨w.heap.size, 1, none⟩ = false := by rw [hW]; go_simp
    have z2 : W1.frozen? ⟨w.heap.size, 2, none⟩ = false := by rw [hW]; go_simp
    have z3 : W1.frozen? ⟨w.heap.size, 3, none⟩ = false := by rw [hW]; go_simp
    clear hW
    have HB1 := Lib.hid B1
    clear B1
    refine (HSp.out W1).mono ?_
    rintro e w2 ⟨A, c, rfl, hcc, hrd, hb⟩
    have HB2 := Lib.hid (lift HB1.out hb)
    replace r0 := cellAt r0 hb (by omega)
    replace r1 := cellAt r1 hb (by omega)
    replace r2 := cellAt r2 hb (by omega)
    replace r3 := cellAt r3 hb (by omega)
    replace z0 := froAt z0 hb (by omega)
    replace z1 := froAt z1 hb (by omega)
    replace z2 := froAt z2 hb (by omega)
    replace z3 := froAt z3 hb (by omega)
    replace n0 : w.heap.size < w2.heap.size := ltAt n0 hb
    clear hb HSp
    obtain ⟨b, o, rfl, hB, hc⟩ := hrd.open (by decide)
    have x0 : w2.cell? ⟨b, o, none⟩ = some (sv p) := hc 0 (by decide)
    have x1 : w2.cell? ⟨b, o + 1, none⟩ = some (sv r) := hc 1 (by decide)
    clear hc hrd
    go_upto_region 2 with fail
    try go_wp2_with fail
    refine wp_region_held_drew (S := fun w' => Below w2.heap.size w2 w') (by kernel_rfl) (Below.drew (Below.refl _ _)) (fun hHeld => ?_)
    refine tY (i := 0) (v := ?_) rfl ?_ hHeld ?_; rotate_left 1; focus (intro w' hSw; clear hSw; go_simp; try with_reducible rfl)
    (try simp only [Act.put, zn1, zn2, zn3])
    refine tY (i := 1) (v := ?_) rfl ?_ hHeld ?_; rotate_left 1; focus (intro w' hSw; clear hSw; go_simp; try with_reducible rfl)
    (try simp only [Act.put, zn1, zn2, zn3])
    refine tY (i := 2) (v := ?_) rfl ?_ hHeld ?_; rotate_left 1; focus (intro w' hSw; clear hSw; go_simp; try with_reducible rfl)
    (try simp only [Act.put, zn1, zn2, zn3])
    refine tY (i := 3) (v := ?_) rfl ?_ hHeld ?_; rotate_left 1; focus (intro w' hSw; clear hSw; go_simp; try with_reducible rfl)
    (try simp only [Act.put, zn1, zn2, zn3])
    refine tY (i := 4) (v := ?_) rfl ?_ hHeld ?_; rotate_left 1; focus (intro w' hSw; clear hSw; go_simp; try with_reducible rfl)
    (try simp only [Act.put, zn1, zn2, zn3])
    refine tY (i := 5) (v := ?_) rfl ?_ hHeld ?_; rotate_left 1; focus (intro w' hSw; clear hSw; go_simp; try with_reducible rfl)
    (try simp only [Act.put, zn1, zn2, zn3])
    refine tY (i := 6) (v := ?_) rfl ?_ hHeld ?_; rotate_left 1; focus (intro w' hSw; clear hSw; go_simp; try with_reducible rfl)
    (try simp only [Act.put, zn1, zn2, zn3])
    refine tY (i := 7) (v := ?_) rfl ?_ hHeld ?_; rotate_left 1; focus (intro w' hSw; clear hSw; go_simp; try with_reducible rfl)
    (try simp only [Act.put, zn1, zn2, zn3])
    refine tY (i := 8) (v := ?_) rfl ?_ hHeld ?_; rotate_left 1; focus (intro w' hSw; clear hSw; go_simp; try with_reducible rfl)
    (try simp only [Act.put, zn1, zn2, zn3])
    refine tY (i := 10) (v := ?_) rfl ?_ hHeld ?_; rotate_left 1; focus (intro w' hSw; clear hSw; go_simp; try with_reducible rfl)
    (try simp only [Act.put, zn1, zn2, zn3])
    refine tY (i := 11) (v := ?_) rfl ?_ hHeld ?_; rotate_left 1; focus (intro w' hSw; clear hSw; go_simp; try with_reducible rfl)
    (try simp only [Act.put, zn1, zn2, zn3])
    refine tY (i := 12) (v := ?_) rfl ?_ hHeld ?_; rotate_left 1; focus (intro w' hSw; have hCell := fun (b o : Nat) (h : b < w2.heap.size) => hSw.cell (p := ⟨b, o, none⟩) h; clear hSw; go_simp; try with_reducible rfl)
    (try simp only [Act.put, zn1, zn2, zn3])
    refine ready_one (i := 9) rfl (by kernel_rfl) (fun K hK => ?_)
    go_simp
    refine (places_any _).mono ?_
    rintro e y1 ⟨A1, c1, rfl, hc1, hr1, hb⟩
    have HR1 := Lib.hid hr1
    clear hr1
    refine hK.out _ _ ?_ (fun hHeld2 => ?_)
    · (try dsimp only); first | exact Below.trans hHeld (Below.mono hb hHeld.size) | exact hHeld | exact Below.drew hHeld | exact (by repeat (first | exact Below.refl _ _ | assumption | refine Below.alloc ?_ (by first | omega | (simp <;> omega)) _ | refine Below.setCell ?_ (by first | omega | (simp <;> omega)) _ | refine Below.drew ?_))
    clear hK K hHeld; have hHeld := hHeld2; clear hHeld2; (try simp only [Act.put, zn1, zn2, zn3])
    refine ready_one (i := 13) rfl (by kernel_rfl) (fun K hK => ?_)
    go_simp
    refine (HasS_any A1 c1 placesL p _ HR1.out (by decide)).mono ?_
    rintro e y2 ⟨rfl, rfl⟩
    clear HR1
    refine hK.out _ _ ?_ (fun hHeld2 => ?_)
    · (try dsimp only); first | exact Below.trans hHeld (Below.mono hb hHeld.size) | exact hHeld | exact Below.drew hHeld | exact (by repeat (first | exact Below.refl _ _ | assumption | refine Below.alloc ?_ (by first | omega | (simp <;> omega)) _ | refine Below.setCell ?_ (by first | omega | (simp <;> omega)) _ | refine Below.drew ?_))
    clear hK K hHeld; have hHeld := hHeld2; clear hHeld2; (try simp only [Act.put, zn1, zn2, zn3])
    refine tY (i := 14) (v := ?_) rfl ?_ hHeld ?_; rotate_left 1; focus (intro w' hSw; clear hSw; go_simp; try with_reducible rfl)
    (try simp only [Act.put, zn1, zn2, zn3])
    refine tY (i := 15) (v := ?_) rfl ?_ hHeld ?_; rotate_left 1; focus (intro w' hSw; clear hSw; go_simp; try with_reducible rfl)
    (try simp only [Act.put, zn1, zn2, zn3])
    refine wpAnyH_done (by kernel_rfl) ?_ _
    first | (refine wp_named ?_; intro W3 hW) | (refine calls_named ?_; intro W3 hW) | (refine exit_named ?_; intro W3 hW)
    have B3 : Below w2.heap.size w2 W3 := by rw [hW]; exact (by repeat (first | exact Below.refl _ _ | assumption | refine Below.alloc ?_ (by first | omega | (simp <;> omega)) _ | refine Below.setCell ?_ (by first | omega | (simp <;> omega)) _ | refine Below.drew ?_))
    replace r0 := cellAt r0 B3 (by omega)
    replace r1 := cellAt r1 B3 (by omega)
    replace r2 := cellAt r2 B3 (by omega)
    replace r3 := cellAt r3 B3 (by omega)
    replace z0 := froAt z0 B3 (by omega)
    replace z1 := froAt z1 B3 (by omega)
    replace z2 := froAt z2 B3 (by omega)
    replace z3 := froAt z3 B3 (by omega)
    replace x0 := cellAt x0 B3 (by omega)
    replace x1 := cellAt x1 B3 (by omega)
    replace n0 : w.heap.size < W3.heap.size := ltAt n0 B3
    replace hB : b < W3.heap.size := ltAt hB B3
    clear hW
    have HB3 := Lib.hid (lift HB2.out B3)
    have hbw : ¬ b = W3.heap.size := by omega
    have hqw : ¬ w.heap.size = W3.heap.size := by omega
    have hwq : ¬ W3.heap.size = w.heap.size := by omega
    have hlw : w.heap.size ≤ W3.heap.size := by omega
    clear hHeld B3
    go_wp2_with fail
    have hB0 := HB3.out
    refine bodyPost_ret (v := .agg #[.int .i64 0, sv [], sv [], sv []]) (by simp only [results, Tryz.results19]; go_simp) rfl ⟨by rw [HW.out]; rfl, ?_⟩
    repeat (first | (with_reducible exact hB0) | (with_reducible refine Below.drew ?_) | (with_reducible refine Below.alloc ?_ ?zs _; case zs => first | omega | (simp <;> omega)) | (with_reducible refine Below.setCell ?_ ?zs _; case zs => first | omega | (simp <;> omega)))
  · rw [hp, if_pos rfl] at hw
    cases hk : (kindS r != 0)
    · rw [hk] at hw
      have HW := Lib.hid (show wayS s = way0 from hw)
      clear hw
      go_enter Tryz.func19, Tryz.ntmps19
      go_wp2_with fail
      first | (refine wp_named ?_; intro W1 hW) | (refine calls_named ?_; intro W1 hW) | (refine exit_named ?_; intro W1 hW)
      have B1 : Below w.heap.size w W1 := by rw [hW]; exact (by repeat (first | exact Below.refl _ _ | assumption | refine Below.alloc ?_ (by first | omega | (simp <;> omega)) _ | refine Below.setCell ?_ (by first | omega | (simp <;> omega)) _ | refine Below.drew ?_))
      have n0 : w.heap.size < W1.heap.size := by rw [hW]; simp <;> omega
      have r0 : W1.cell? ⟨w.heap.size, 0, none⟩ = some (.int .i64 0) := by rw [hW]; go_simp
      have r1 : W1.cell? ⟨w.heap.size, 1, none⟩ = some (.string ⟨#[]⟩) := by rw [hW]; go_simp
      have r2 : W1.cell? ⟨w.heap.size, 2, none⟩ = some (.string ⟨#[]⟩) := by rw [hW]; go_simp
      have r3 : W1.cell? ⟨w.heap.size, 3, none⟩ = some (.string ⟨#[]⟩) := by rw [hW]; go_simp
      have z0 : W1.frozen? ⟨w.heap.size, 0, none⟩ = false := by rw [hW]; go_simp
      have z1 : W1.frozen? ⟨w.heap.size, 1, none⟩ = false := by rw [hW]; go_simp
      have z2 : W1.frozen? ⟨w.heap.size, 2, none⟩ = false := by rw [hW]; go_simp
      have z3 : W1.frozen? ⟨w.heap.size, 3, none⟩ = false := by rw [hW]; go_simp
      clear hW
      have HB1 := Lib.hid B1
      clear B1
      refine (HSp.out W1).mono ?_
      rintro e w2 ⟨A, c, rfl, hcc, hrd, hb⟩
      have HB2 := Lib.hid (lift HB1.out hb)
      replace r0 := cellAt r0 hb (by omega)
      replace r1 := cellAt r1 hb (by omega)
      replace r2 := cellAt r2 hb (by omega)
      replace r3 := cellAt r3 hb (by omega)
      replace z0 := froAt z0 hb (by omega)
      replace z1 := froAt z1 hb (by omega)
      replace z2 := froAt z2 hb (by omega)
      replace z3 := froAt z3 hb (by omega)
      replace n0 : w.heap.size < w2.heap.size := ltAt n0 hb
      clear hb HSp
      obtain ⟨b, o, rfl, hB, hc⟩ := hrd.open (by decide)
      have x0 : w2.cell? ⟨b, o, none⟩ = some (sv p) := hc 0 (by decide)
      have x1 : w2.cell? ⟨b, o + 1, none⟩ = some (sv r) := hc 1 (by decide)
      clear hc hrd
      go_upto_region 2 with fail
      try go_wp2_with fail
      refine wp_region_held_drew (S := fun w' => Below w2.heap.size w2 w') (by kernel_rfl) (Below.drew (Below.refl _ _)) (fun hHeld => ?_)
      refine tY (i := 0) (v := ?_) rfl ?_ hHeld ?_; rotate_left 1; focus (intro w' hSw; clear hSw; go_simp; try with_reducible rfl)
      (try simp only [Act.put, zn1, zn2, zn3])
      refine tY (i := 1) (v := ?_) rfl ?_ hHeld ?_; rotate_left 1; focus (intro w' hSw; clear hSw; go_simp; try with_reducible rfl)
      (try simp only [Act.put, zn1, zn2, zn3])
      refine tY (i := 2) (v := ?_) rfl ?_ hHeld ?_; rotate_left 1; focus (intro w' hSw; clear hSw; go_simp; try with_reducible rfl)
      (try simp only [Act.put, zn1, zn2, zn3])
      refine tY (i := 3) (v := ?_) rfl ?_ hHeld ?_; rotate_left 1; focus (intro w' hSw; clear hSw; go_simp; try with_reducible rfl)
      (try simp only [Act.put, zn1, zn2, zn3])
      refine tY (i := 4) (v := ?_) rfl ?_ hHeld ?_; rotate_left 1; focus (intro w' hSw; clear hSw; go_simp; try with_reducible rfl)
      (try simp only [Act.put, zn1, zn2, zn3])
      refine tY (i := 5) (v := ?_) rfl ?_ hHeld ?_; rotate_left 1; focus (intro w' hSw; clear hSw; go_simp; try with_reducible rfl)
      (try simp only [Act.put, zn1, zn2, zn3])
      refine tY (i := 6) (v := ?_) rfl ?_ hHeld ?_; rotate_left 1; focus (intro w' hSw; clear hSw; go_simp; try with_reducible rfl)
      (try simp only [Act.put, zn1, zn2, zn3])
      refine tY (i := 7) (v := ?_) rfl ?_ hHeld ?_; rotate_left 1; focus (intro w' hSw; clear hSw; go_simp; try with_reducible rfl)
      (try simp only [Act.put, zn1, zn2, zn3])
      refine tY (i := 8) (v := ?_) rfl ?_ hHeld ?_; rotate_left 1; focus (intro w' hSw; clear hSw; go_simp; try with_reducible rfl)
      (try simp only [Act.put, zn1, zn2, zn3])
      refine tY (i := 10) (v := ?_) rfl ?_ hHeld ?_; rotate_left 1; focus (intro w' hSw; clear hSw; go_simp; try with_reducible rfl)
      (try simp only [Act.put, zn1, zn2, zn3])
      refine tY (i := 11) (v := ?_) rfl ?_ hHeld ?_; rotate_left 1; focus (intro w' hSw; clear hSw; go_simp; try with_reducible rfl)
      (try simp only [Act.put, zn1, zn2, zn3])
      refine tY (i := 12) (v := ?_) rfl ?_ hHeld ?_; rotate_left 1; focus (intro w' hSw; have hCell := fun (b o : Nat) (h : b < w2.heap.size) => hSw.cell (p := ⟨b, o, none⟩) h; clear hSw; go_simp; try with_reducible rfl)
      (try simp only [Act.put, zn1, zn2, zn3])
      refine ready_one (i := 9) rfl (by kernel_rfl) (fun K hK => ?_)
      go_simp
      refine (places_any _).mono ?_
      rintro e y1 ⟨A1, c1, rfl, hc1, hr1, hb⟩
      have HR1 := Lib.hid hr1
      clear hr1
      refine hK.out _ _ ?_ (fun hHeld2 => ?_)
      · (try dsimp only); first | exact Below.trans hHeld (Below.mono hb hHeld.size) | exact hHeld | exact Below.drew hHeld | exact (by repeat (first | exact Below.refl _ _ | assumption | refine Below.alloc ?_ (by first | omega | (simp <;> omega)) _ | refine Below.setCell ?_ (by first | omega | (simp <;> omega)) _ | refine Below.drew ?_))
      clear hK K hHeld; have hHeld := hHeld2; clear hHeld2; (try simp only [Act.put, zn1, zn2, zn3])
      refine ready_one (i := 13) rfl (by kernel_rfl) (fun K hK => ?_)
      go_simp
      refine (HasS_any A1 c1 placesL p _ HR1.out (by decide)).mono ?_
      rintro e y2 ⟨rfl, rfl⟩
      clear HR1
      refine hK.out _ _ ?_ (fun hHeld2 => ?_)
      · (try dsimp only); first | exact Below.trans hHeld (Below.mono hb hHeld.size) | exact hHeld | exact Below.drew hHeld | exact (by repeat (first | exact Below.refl _ _ | assumption | refine Below.alloc ?_ (by first | omega | (simp <;> omega)) _ | refine Below.setCell ?_ (by first | omega | (simp <;> omega)) _ | refine Below.drew ?_))
      clear hK K hHeld; have hHeld := hHeld2; clear hHeld2; (try simp only [Act.put, zn1, zn2, zn3])
      refine tY (i := 14) (v := ?_) rfl ?_ hHeld ?_; rotate_left 1; focus (intro w' hSw; clear hSw; go_simp; try with_reducible rfl)
      (try simp only [Act.put, zn1, zn2, zn3])
      refine tY (i := 15) (v := ?_) rfl ?_ hHeld ?_; rotate_left 1; focus (intro w' hSw; clear hSw; go_simp; try with_reducible rfl)
      (try simp only [Act.put, zn1, zn2, zn3])
      refine wpAnyH_done (by kernel_rfl) ?_ _
      first | (refine wp_named ?_; intro W3 hW) | (refine calls_named ?_; intro W3 hW) | (refine exit_named ?_; intro W3 hW)
      have B3 : Below w2.heap.size w2 W3 := by rw [hW]; exact (by repeat (first | exact Below.refl _ _ | assumption | refine Below.alloc ?_ (by first | omega | (simp <;> omega)) _ | refine Below.setCell ?_ (by first | omega | (simp <;> omega)) _ | refine Below.drew ?_))
      replace r0 := cellAt r0 B3 (by omega)
      replace r1 := cellAt r1 B3 (by omega)
      replace r2 := cellAt r2 B3 (by omega)
      replace r3 := cellAt r3 B3 (by omega)
      replace z0 := froAt z0 B3 (by omega)
      replace z1 := froAt z1 B3 (by omega)
      replace z2 := froAt z2 B3 (by omega)
      replace z3 := froAt z3 B3 (by omega)
      replace x0 := cellAt x0 B3 (by omega)
      replace x1 := cellAt x1 B3 (by omega)
      replace n0 : w.heap.size < W3.heap.size := ltAt n0 B3
      replace hB : b < W3.heap.size := ltAt hB B3
      clear hW
      have HB3 := Lib.hid (lift HB2.out B3)
      have hbw : ¬ b = W3.heap.size := by omega
      have hqw : ¬ w.heap.size = W3.heap.size := by omega
      have hwq : ¬ W3.heap.size = w.heap.size := by omega
      have hlw : w.heap.size ≤ W3.heap.size := by omega
      clear hHeld B3
      go_wp2_with fail
      first | (refine wp_named ?_; intro W5 hW) | (refine calls_named ?_; intro W5 hW) | (refine exit_named ?_; intro W5 hW)
      have B5 : Below W3.heap.size W3 W5 := by rw [hW]; exact (by repeat (first | exact Below.refl _ _ | assumption | refine Below.alloc ?_ (by first | omega | (simp <;> omega)) _ | refine Below.setCell ?_ (by first | omega | (simp <;> omega)) _ | refine Below.drew ?_))
      replace r0 := cellAt r0 B5 (by omega)
      replace r1 := cellAt r1 B5 (by omega)
      replace r2 := cellAt r2 B5 (by omega)
      replace r3 := cellAt r3 B5 (by omega)
      replace z0 := froAt z0 B5 (by omega)
      replace z1 := froAt z1 B5 (by omega)
      replace z2 := froAt z2 B5 (by omega)
      replace z3 := froAt z3 B5 (by omega)
      replace x0 := cellAt x0 B5 (by omega)
      replace x1 := cellAt x1 B5 (by omega)
      replace n0 : w.heap.size < W5.heap.size := ltAt n0 B5
      replace hB : b < W5.heap.size := ltAt hB B5
      clear hW
      have HB5 := Lib.hid (lift HB3.out B5)
      clear B5
      refine (May1_any r W5 hrl).mono ?_
      rintro e w6 ⟨rfl, hb⟩
      rw [hk]
      replace r0 := cellAt r0 hb (by omega)
      replace r1 := cellAt r1 hb (by omega)
      replace r2 := cellAt r2 hb (by omega)
      replace r3 := cellAt r3 hb (by omega)
      replace z0 := froAt z0 hb (by omega)
      replace z1 := froAt z1 hb (by omega)
      replace z2 := froAt z2 hb (by omega)
      replace z3 := froAt z3 hb (by omega)
      replace x0 := cellAt x0 hb (by omega)
      replace x1 := cellAt x1 hb (by omega)
      replace n0 : w.heap.size < w6.heap.size := ltAt n0 hb
      replace hB : b < w6.heap.size := ltAt hB hb
      have HB6 := Lib.hid (lift HB5.out hb)
      clear hb
      go_wp2_with fail
      have hB0 := HB6.out
      refine bodyPost_ret (v := .agg #[.int .i64 0, sv [], sv [], sv []]) (by simp only [results, Tryz.results19]; go_simp) rfl ⟨by rw [HW.out]; rfl, ?_⟩
      repeat (first | (with_reducible exact hB0) | (with_reducible refine Below.drew ?_) | (with_reducible refine Below.alloc ?_ ?zs _; case zs => first | omega | (simp <;> omega)) | (with_reducible refine Below.setCell ?_ ?zs _; case zs => first | omega | (simp <;> omega)))
    · rw [hk] at hw
      have HW := Lib.hid (show wayS s = (1, p, r, []) from hw)
      clear hw
      go_enter Tryz.func19, Tryz.ntmps19
      go_wp2_with fail
      first | (refine wp_named ?_; intro W1 hW) | (refine calls_named ?_; intro W1 hW) | (refine exit_named ?_; intro W1 hW)
      have B1 : Below w.heap.size w W1 := by rw [hW]; exact (by repeat (first | exact Below.refl _ _ | assumption | refine Below.alloc ?_ (by first | omega | (simp <;> omega)) _ | refine Below.setCell ?_ (by first | omega | (simp <;> omega)) _ | refine Below.drew ?_))
      have n0 : w.heap.size < W1.heap.size := by rw [hW]; simp <;> omega
      have r0 : W1.cell? ⟨w.heap.size, 0, none⟩ = some (.int .i64 0) := by rw [hW]; go_simp
      have r1 : W1.cell? ⟨w.heap.size, 1, none⟩ = some (.string ⟨#[]⟩) := by rw [hW]; go_simp
      have r2 : W1.cell? ⟨w.heap.size, 2, none⟩ = some (.string ⟨#[]⟩) := by rw [hW]; go_simp
      have r3 : W1.cell? ⟨w.heap.size, 3, none⟩ = some (.string ⟨#[]⟩) := by rw [hW]; go_simp
      have z0 : W1.frozen? ⟨w.heap.size, 0, none⟩ = false := by rw [hW]; go_simp
      have z1 : W1.frozen? ⟨w.heap.size, 1, none⟩ = false := by rw [hW]; go_simp
      have z2 : W1.frozen? ⟨w.heap.size, 2, none⟩ = false := by rw [hW]; go_simp
      have z3 : W1.frozen? ⟨w.heap.size, 3, none⟩ = false := by rw [hW]; go_simp
      clear hW
      have HB1 := Lib.hid B1
      clear B1
      refine (HSp.out W1).mono ?_
      rintro e w2 ⟨A, c, rfl, hcc, hrd, hb⟩
      have HB2 := Lib.hid (lift HB1.out hb)
      replace r0 := cellAt r0 hb (by omega)
      replace r1 := cellAt r1 hb (by omega)
      replace r2 := cellAt r2 hb (by omega)
      replace r3 := cellAt r3 hb (by omega)
      replace z0 := froAt z0 hb (by omega)
      replace z1 := froAt z1 hb (by omega)
      replace z2 := froAt z2 hb (by omega)
      replace z3 := froAt z3 hb (by omega)
      replace n0 : w.heap.size < w2.heap.size := ltAt n0 hb
      clear hb HSp
      obtain ⟨b, o, rfl, hB, hc⟩ := hrd.open (by decide)
      have x0 : w2.cell? ⟨b, o, none⟩ = some (sv p) := hc 0 (by decide)
      have x1 : w2.cell? ⟨b, o + 1, none⟩ = some (sv r) := hc 1 (by decide)
      clear hc hrd
      go_upto_region 2 with fail
      try go_wp2_with fail
      refine wp_region_held_drew (S := fun w' => Below w2.heap.size w2 w') (by kernel_rfl) (Below.drew (Below.refl _ _)) (fun hHeld => ?_)
      refine tY (i := 0) (v := ?_) rfl ?_ hHeld ?_; rotate_left 1; focus (intro w' hSw; clear hSw; go_simp; try with_reducible rfl)
      (try simp only [Act.put, zn1, zn2, zn3])
      refine tY (i := 1) (v := ?_) rfl ?_ hHeld ?_; rotate_left 1; focus (intro w' hSw; clear hSw; go_simp; try with_reducible rfl)
      (try simp only [Act.put, zn1, zn2, zn3])
      refine tY (i := 2) (v := ?_) rfl ?_ hHeld ?_; rotate_left 1; focus (intro w' hSw; clear hSw; go_simp; try with_reducible rfl)
      (try simp only [Act.put, zn1, zn2, zn3])
      refine tY (i := 3) (v := ?_) rfl ?_ hHeld ?_; rotate_left 1; focus (intro w' hSw; clear hSw; go_simp; try with_reducible rfl)
      (try simp only [Act.put, zn1, zn2, zn3])
      refine tY (i := 4) (v := ?_) rfl ?_ hHeld ?_; rotate_left 1; focus (intro w' hSw; clear hSw; go_simp; try with_reducible rfl)
      (try simp only [Act.put, zn1, zn2, zn3])
      refine tY (i := 5) (v := ?_) rfl ?_ hHeld ?_; rotate_left 1; focus (intro w' hSw; clear hSw; go_simp; try with_reducible rfl)
      (try simp only [Act.put, zn1, zn2, zn3])
      refine tY (i := 6) (v := ?_) rfl ?_ hHeld ?_; rotate_left 1; focus (intro w' hSw; clear hSw; go_simp; try with_reducible rfl)
      (try simp only [Act.put, zn1, zn2, zn3])
      refine tY (i := 7) (v := ?_) rfl ?_ hHeld ?_; rotate_left 1; focus (intro w' hSw; clear hSw; go_simp; try with_reducible rfl)
      (try simp only [Act.put, zn1, zn2, zn3])
      refine tY (i := 8) (v := ?_) rfl ?_ hHeld ?_; rotate_left 1; focus (intro w' hSw; clear hSw; go_simp; try with_reducible rfl)
      (try simp only [Act.put, zn1, zn2, zn3])
      refine tY (i := 10) (v := ?_) rfl ?_ hHeld ?_; rotate_left 1; focus (intro w' hSw; clear hSw; go_simp; try with_reducible rfl)
      (try simp only [Act.put, zn1, zn2, zn3])
      refine tY (i := 11) (v := ?_) rfl ?_ hHeld ?_; rotate_left 1; focus (intro w' hSw; clear hSw; go_simp; try with_reducible rfl)
      (try simp only [Act.put, zn1, zn2, zn3])
      refine tY (i := 12) (v := ?_) rfl ?_ hHeld ?_; rotate_left 1; focus (intro w' hSw; have hCell := fun (b o : Nat) (h : b < w2.heap.size) => hSw.cell (p := ⟨b, o, none⟩) h; clear hSw; go_simp; try with_reducible rfl)
      (try simp only [Act.put, zn1, zn2, zn3])
      refine ready_one (i := 9) rfl (by kernel_rfl) (fun K hK => ?_)
      go_simp
      refine (places_any _).mono ?_
      rintro e y1 ⟨A1, c1, rfl, hc1, hr1, hb⟩
      have HR1 := Lib.hid hr1
      clear hr1
      refine hK.out _ _ ?_ (fun hHeld2 => ?_)
      · (try dsimp only); first | exact Below.trans hHeld (Below.mono hb hHeld.size) | exact hHeld | exact Below.drew hHeld | exact (by repeat (first | exact Below.refl _ _ | assumption | refine Below.alloc ?_ (by first | omega | (simp <;> omega)) _ | refine Below.setCell ?_ (by first | omega | (simp <;> omega)) _ | refine Below.drew ?_))
      clear hK K hHeld; have hHeld := hHeld2; clear hHeld2; (try simp only [Act.put, zn1, zn2, zn3])
      refine ready_one (i := 13) rfl (by kernel_rfl) (fun K hK => ?_)
      go_simp
      refine (HasS_any A1 c1 placesL p _ HR1.out (by decide)).mono ?_
      rintro e y2 ⟨rfl, rfl⟩
      clear HR1
      refine hK.out _ _ ?_ (fun hHeld2 => ?_)
      · (try dsimp only); first | exact Below.trans hHeld (Below.mono hb hHeld.size) | exact hHeld | exact Below.drew hHeld | exact (by repeat (first | exact Below.refl _ _ | assumption | refine Below.alloc ?_ (by first | omega | (simp <;> omega)) _ | refine Below.setCell ?_ (by first | omega | (simp <;> omega)) _ | refine Below.drew ?_))
      clear hK K hHeld; have hHeld := hHeld2; clear hHeld2; (try simp only [Act.put, zn1, zn2, zn3])
      refine tY (i := 14) (v := ?_) rfl ?_ hHeld ?_; rotate_left 1; focus (intro w' hSw; clear hSw; go_simp; try with_reducible rfl)
      (try simp only [Act.put, zn1, zn2, zn3])
      refine tY (i := 15) (v := ?_) rfl ?_ hHeld ?_; rotate_left 1; focus (intro w' hSw; clear hSw; go_simp; try with_reducible rfl)
      (try simp only [Act.put, zn1, zn2, zn3])
      refine wpAnyH_done (by kernel_rfl) ?_ _
      first | (refine wp_named ?_; intro W3 hW) | (refine calls_named ?_; intro W3 hW) | (refine exit_named ?_; intro W3 hW)
      have B3 : Below w2.heap.size w2 W3 := by rw [hW]; exact (by repeat (first | exact Below.refl _ _ | assumption | refine Below.alloc ?_ (by first | omega | (simp <;> omega)) _ | refine Below.setCell ?_ (by first | omega | (simp <;> omega)) _ | refine Below.drew ?_))
      replace r0 := cellAt r0 B3 (by omega)
      replace r1 := cellAt r1 B3 (by omega)
      replace r2 := cellAt r2 B3 (by omega)
      replace r3 := cellAt r3 B3 (by omega)
      replace z0 := froAt z0 B3 (by omega)
      replace z1 := froAt z1 B3 (by omega)
      replace z2 := froAt z2 B3 (by omega)
      replace z3 := froAt z3 B3 (by omega)
      replace x0 := cellAt x0 B3 (by omega)
      replace x1 := cellAt x1 B3 (by omega)
      replace n0 : w.heap.size < W3.heap.size := ltAt n0 B3
      replace hB : b < W3.heap.size := ltAt hB B3
      clear hW
      have HB3 := Lib.hid (lift HB2.out B3)
      have hbw : ¬ b = W3.heap.size := by omega
      have hqw : ¬ w.heap.size = W3.heap.size := by omega
      have hwq : ¬ W3.heap.size = w.heap.size := by omega
      have hlw : w.heap.size ≤ W3.heap.size := by omega
      clear hHeld B3
      go_wp2_with fail
      first | (refine wp_named ?_; intro W5 hW) | (refine calls_named ?_; intro W5 hW) | (refine exit_named ?_; intro W5 hW)
      have B5 : Below W3.heap.size W3 W5 := by rw [hW]; exact (by repeat (first | exact Below.refl _ _ | assumption | refine Below.alloc ?_ (by first | omega | (simp <;> omega)) _ | refine Below.setCell ?_ (by first | omega | (simp <;> omega)) _ | refine Below.drew ?_))
      replace r0 := cellAt r0 B5 (by omega)
      replace r1 := cellAt r1 B5 (by omega)
      replace r2 := cellAt r2 B5 (by omega)
      replace r3 := cellAt r3 B5 (by omega)
      replace z0 := froAt z0 B5 (by omega)
      replace z1 := froAt z1 B5 (by omega)
      replace z2 := froAt z2 B5 (by omega)
      replace z3 := froAt z3 B5 (by omega)
      replace x0 := cellAt x0 B5 (by omega)
      replace x1 := cellAt x1 B5 (by omega)
      replace n0 : w.heap.size < W5.heap.size := ltAt n0 B5
      replace hB : b < W5.heap.size := ltAt hB B5
      have m0 : W3.heap.size < W5.heap.size := by rw [hW]; simp <;> omega
      have y0 : W5.cell? ⟨W3.heap.size, 0, none⟩ = some (.int .i64 0) := by rw [hW]; go_simp
      have y1 : W5.cell? ⟨W3.heap.size, 1, none⟩ = some (sv p) := by rw [hW]; go_simp
      have y2 : W5.cell? ⟨W3.heap.size, 2, none⟩ = some (.string ⟨#[]⟩) := by rw [hW]; go_simp
      have y3 : W5.cell? ⟨W3.heap.size, 3, none⟩ = some (.string ⟨#[]⟩) := by rw [hW]; go_simp
      have q0 : W5.frozen? ⟨W3.heap.size, 0, none⟩ = false := by rw [hW]; go_simp
      have q1 : W5.frozen? ⟨W3.heap.size, 1, none⟩ = false := by rw [hW]; go_simp
      have q2 : W5.frozen? ⟨W3.heap.size, 2, none⟩ = false := by rw [hW]; go_simp
      have q3 : W5.frozen? ⟨W3.heap.size, 3, none⟩ = false := by rw [hW]; go_simp
      clear hW
      have HB5 := Lib.hid (lift HB3.out B5)
      clear B5
      refine (May1_any r W5 hrl).mono ?_
      rintro e w6 ⟨rfl, hb⟩
      rw [hk]
      replace r0 := cellAt r0 hb (by omega)
      replace r1 := cellAt r1 hb (by omega)
      replace r2 := cellAt r2 hb (by omega)
      replace r3 := cellAt r3 hb (by omega)
      replace z0 := froAt z0 hb (by omega)
      replace z1 := froAt z1 hb (by omega)
      replace z2 := froAt z2 hb (by omega)
      replace z3 := froAt z3 hb (by omega)
      replace x0 := cellAt x0 hb (by omega)
      replace x1 := cellAt x1 hb (by omega)
      replace y0 := cellAt y0 hb (by omega)
      replace y1 := cellAt y1 hb (by omega)
      replace y2 := cellAt y2 hb (by omega)
      replace y3 := cellAt y3 hb (by omega)
      replace q0 := froAt q0 hb (by omega)
      replace q1 := froAt q1 hb (by omega)
      replace q2 := froAt q2 hb (by omega)
      replace q3 := froAt q3 hb (by omega)
      replace n0 : w.heap.size < w6.heap.size := ltAt n0 hb
      replace hB : b < w6.heap.size := ltAt hB hb
      replace m0 : W3.heap.size < w6.heap.size := ltAt m0 hb
      have HB6 := Lib.hid (lift HB5.out hb)
      clear hb
      go_wp2_with fail
      go_region
      go_wp2_with fail
      have hB0 := HB6.out
      refine bodyPost_ret (v := wyV (1, p, r, [])) (by simp only [results, Tryz.results19]; go_simp) rfl ⟨by rw [HW.out], ?_⟩
      repeat (first | (with_reducible exact hB0) | (with_reducible refine Below.drew ?_) | (with_reducible refine Below.alloc ?_ ?zs _; case zs => first | omega | (simp <;> omega)) | (with_reducible refine Below.setCell ?_ ?zs _; case zs => first | omega | (simp <;> omega)))
end Od
end Go.Proofs.YtgfdcmlmgeoimaaGreat
end
