/- The walks of the laws on package limit: what the law's first lines ask (shown), LimitAll, LimitFree. -/
import Derived.Test.YtdcbapheoagelaaLimFree3
namespace Go.Proofs.Ytdcbapheoagelaa
open Go.RowKit

namespace Lm
theorem free159 : FreeIs [1, 5, 9] 10 5 1 14 true := by
  refine ⟨by decide, fun _ => ⟨fun _ => ⟨by decide, by decide, by decide, fun t h1 h2 => ?_⟩, fun h => by cases h⟩⟩
  rcases (show t = 10 ∨ t = 11 ∨ t = 12 ∨ t = 13 from by omega) with rfl | rfl | rfl | rfl <;> decide

set_option maxHeartbeats 1000000 in
theorem shown_any (w : World) :
    Calls Try.prog 15 #[] w fun e w' => e = .returned (.bool true) ∧ Below w.heap.size w w' := by
  have e1 : keepL [1, 5, 9] 10 5 = [9] := by decide
  have e2 : mayB [1, 5, 9] 10 5 1 = false := by decide
  have e3 : mayB [1, 5, 9] 10 5 2 = true := by decide
  have E1 := Lib.hid e1
  have E2 := Lib.hid e2
  have E3 := Lib.hid e3
  clear e1 e2 e3
  go_enter Try.func15, Try.ntmps15
  go_wp2_with fail
  refine (keep_any _ 3 [1, 5, 9] 10 5 _ (Rd.lit w (ints [1, 5, 9]) 3 1 3 rfl) (by decide)).mono ?_
  rintro e w1 ⟨v, rfl, hown, hb1⟩
  rw [E1.out] at hown
  obtain ⟨A1, c1, rfl, hr1⟩ := own_rd hown
  have hb1' := below_alloc (Nat.le_refl _) hb1
  have Hb1 := Lib.hid hb1'
  have Hr1 := Lib.hid hr1
  clear hown hb1 hr1 hb1'
  go_wp2_with fail
  refine (free_any _ 3 [1, 5, 9] 10 5 1 _ (Rd.lit w1 (ints [1, 5, 9]) 3 1 3 rfl) (by decide)).mono ?_
  rintro e w2 ⟨r, ok, rfl, hf, hb2⟩
  obtain ⟨rfl, rfl⟩ := hf.one free159
  have hb2' := below_alloc (Nat.le_refl _) hb2
  obtain ⟨b, o, rfl, hB, hc⟩ := (Hr1.out.on (Nat.le_refl _) hb2').open (by decide)
  have hcell : w2.cell? ⟨b, o, none⟩ = some (.int .i64 9) := by simpa using hc 0 (by decide)
  have Hb2 := Lib.hid hb2'
  clear hf hb2 hb2' hc
  go_wp2_with fail
  refine (may_any _ 3 [1, 5, 9] 10 5 1 _ (Rd.lit w2 (ints [1, 5, 9]) 3 1 3 rfl) (by decide)).mono ?_
  rintro e w3 ⟨rfl, hb3⟩
  rw [E2.out]
  have Hb3 := Lib.hid (below_alloc (Nat.le_refl _) hb3)
  clear hb3
  go_wp2_with fail
  refine (may_any _ 3 [1, 5, 9] 10 5 2 _ (Rd.lit w3 (ints [1, 5, 9]) 3 1 3 rfl) (by decide)).mono ?_
  rintro e w4 ⟨rfl, hb4⟩
  rw [E3.out]
  have Hb4 := Lib.hid (below_alloc (Nat.le_refl _) hb4)
  clear hb4
  go_wp2_with fail
  go_ret
  have h12 := Hb1.out.trans (Hb2.out.mono Hb1.out.size)
  have h13 := h12.trans (Hb3.out.mono h12.size)
  exact ⟨rfl, h13.trans (Hb4.out.mono h13.size)⟩
end Lm
end Go.Proofs.Ytdcbapheoagelaa
