/- The walk of limit.Free. -/
import Derived.Test.YtdcbapheoagelaaLimFree
namespace Go.Proofs.Ytdcbapheoagelaa
open Go.RowKit

namespace Lm
def srt (zs : List Int) : List Int := zs.mergeSort fun x y => decide (x ≤ y)
theorem srt_len (zs : List Int) : (srt zs).length = zs.length := by unfold srt; simp
theorem srt_mem (zs : List Int) (x : Int) : x ∈ srt zs ↔ x ∈ zs := by unfold srt; simp
theorem srt_sorted (zs : List Int) : (srt zs).Pairwise (· ≤ ·) := by
  have := List.pairwise_mergeSort (le := fun x y : Int => decide (x ≤ y)) (by intro a b c; simp; omega) (by intro a b; simp; omega) zs
  unfold srt
  simpa using this

theorem sort_any (A : Option Addr) (c : Nat) (zs : List Int) (base : Nat) (w : World) (hown : w.ownsRow base 3 1 (.slice A zs.length c) zs.length (ints zs)) (hl : zs.length < 4611686018427387904) :
    Calls Try.prog 28 #[.slice A zs.length c] w fun e w' => e = .returned (.tuple #[]) ∧ w'.ownsRow base 3 1 (.slice A zs.length c) zs.length (ints (srt zs)) ∧ w.grownBy w' (Value.slice A zs.length c).ownBlock := by
  have hown0 := hown
  rcases hown with ⟨h1, ⟨hv, hn⟩ | ⟨g, cap, cur, hv, hb, hh, h2, h3, h4, h5⟩⟩
  · have : zs = [] := List.eq_nil_of_length_eq_zero hn
    subst this
    refine (Try.slices_Sort_int_none A c w).mono ?_
    rintro e w' ⟨rfl, rfl⟩
    exact ⟨rfl, by simpa [srt] using hown0, World.grownBy.refl _ _⟩
  · injection hv with hA _ hc
    subst hA
    subst hc
    refine (Try.slices_Sort_int g 0 c zs w (holds_of_blockI hh (by simpa using h5)) (Array.getElem?_eq_some_iff.1 hh).1 hl).mono ?_
    rintro e w' ⟨rfl, n, os, rfl⟩
    refine ⟨rfl, ?_, grownBy_sortedI _⟩
    have := ownsRow_sortedI (w := w) (base := base) (n := n) (os := os) (ts := srt zs) (srt_len zs) hb hh h2 h3 h4
    exact this

def cand (now every : Int) (b : Int) : Option Int := if now < sumS b every ∧ sumS b every < 6311433600 then some (sumS b every) else none

theorem cands_succ {now every : Int} {xs : List Int} {k : Nat} (hk : k < xs.length) : (xs.take (k + 1)).filterMap (cand now every) = (xs.take k).filterMap (cand now every) ++ (cand now every xs[k]).toList := by
  rw [List.take_succ_eq_append_getElem hk, List.filterMap_append]
  cases h : cand now every xs[k] <;> simp [h]

theorem free_found {xs : List Int} {now every burst : Int} (hR : rightB xs now every = true) {j : Nat} (hj : j < (srt (now :: xs.filterMap (cand now every))).length)
    (hbefore : ∀ i (hi : i < (srt (now :: xs.filterMap (cand now every))).length), i < j → mayB xs (srt (now :: xs.filterMap (cand now every)))[i] every burst = false)
    (hm : mayB xs (srt (now :: xs.filterMap (cand now every)))[j] every burst = true) : FreeIs xs now every burst (srt (now :: xs.filterMap (cand now every)))[j] true := by
  have hb := right_bounds hR
  have hmem : ∀ t ∈ srt (now :: xs.filterMap (cand now every)), now ≤ t ∧ t < 6311433600 := by
    intro t ht
    rw [srt_mem, List.mem_cons, List.mem_filterMap] at ht
    rcases ht with rfl | ⟨b, hbx, hc⟩
    · omega
    · unfold cand at hc
      split at hc
      · injection hc with hc; omega
      · cases hc
  have hs := srt_sorted (now :: xs.filterMap (cand now every))
  have hjm := hmem _ (List.getElem_mem hj)
  refine ⟨fun h => (by rw [hR] at h; cases h), fun _ => ⟨fun _ => ⟨hjm.1, hjm.2, hm, ?_⟩, fun h => (by cases h)⟩⟩
  have hlow : ∀ t ∈ srt (now :: xs.filterMap (cand now every)), t < (srt (now :: xs.filterMap (cand now every)))[j] → mayB xs t every burst = false := by
    intro t ht hlt
    obtain ⟨i, hi, rfl⟩ := List.getElem_of_mem ht
    rcases Nat.lt_or_ge i j with h | h
    · exact hbefore i hi h
    · rcases Nat.lt_or_ge j i with h' | h'
      · have := (List.pairwise_iff_getElem.1 hs) j i hj hi h'
        omega
      · have : i = j := by omega
        subst this
        omega
  refine none_ahead hR (by omega) (fun h => hlow _ ((srt_mem _ _).2 (by simp)) h) ?_
  intro b hbx he h1 h2
  have hbb := hb.2.2 b hbx
  have hsum : sumS b every = b + every := sumS_le (by omega)
  refine hlow _ ((srt_mem _ _).2 (List.mem_cons_of_mem _ (List.mem_filterMap.2 ⟨b, hbx, ?_⟩))) h2
  unfold cand
  rw [hsum, if_pos (by omega)]

theorem free_none {xs : List Int} {now every burst : Int} (hR : rightB xs now every = true)
    (hall : ∀ t ∈ srt (now :: xs.filterMap (cand now every)), mayB xs t every burst = false) : FreeIs xs now every burst 0 false := by
  have hb := right_bounds hR
  refine ⟨fun h => (by rw [hR] at h; cases h), fun _ => ⟨fun h => (by cases h), fun _ => ⟨rfl, ?_⟩⟩⟩
  refine none_ahead hR (Int.le_refl _) (fun _ => hall _ ((srt_mem _ _).2 (by simp))) ?_
  intro b hbx he h1 h2
  have hbb := hb.2.2 b hbx
  have hsum : sumS b every = b + every := sumS_le (by omega)
  refine hall _ ((srt_mem _ _).2 (List.mem_cons_of_mem _ (List.mem_filterMap.2 ⟨b, hbx, ?_⟩)))
  unfold cand
  rw [hsum, if_pos (by omega)]

theorem free_found' {xs T : List Int} {now every burst : Int} (hT : T = now :: xs.filterMap (cand now every)) (hR : rightB xs now every = true) {j : Nat} (hj : j < (srt T).length)
    (hbefore : ∀ i (hi : i < (srt T).length), i < j → mayB xs (srt T)[i] every burst = false) (hm : mayB xs (srt T)[j] every burst = true) : FreeIs xs now every burst (srt T)[j] true := by
  subst hT
  exact free_found hR hj hbefore hm

theorem free_none' {xs T : List Int} {now every burst : Int} (hT : T = now :: xs.filterMap (cand now every)) (hR : rightB xs now every = true)
    (h : ∀ i (hi : i < (srt T).length), mayB xs (srt T)[i] every burst = false) : FreeIs xs now every burst 0 false := by
  subst hT
  refine free_none hR fun t ht => ?_
  obtain ⟨i, hi, rfl⟩ := List.getElem_of_mem ht
  exact h i hi

def SomeFree (xs : List Int) (now every burst : Int) (w : World) (e : Ending) (w' : World) : Prop :=
  ∃ r ok, e = .returned (.tuple #[.int .i64 r, .bool ok]) ∧ FreeIs xs now every burst r ok ∧ Below w.heap.size w w'

theorem free_wrong {xs : List Int} {now every burst : Int} (hR : rightB xs now every = false) : FreeIs xs now every burst 0 false :=
  ⟨fun _ => ⟨rfl, rfl⟩, fun h => (by rw [hR] at h; cases h)⟩

set_option maxHeartbeats 1000000 in
theorem free_any (A : Option Addr) (c : Nat) (xs : List Int) (now every burst : Int) (w : World) (hr : Rd w w.heap.size 1 A xs.length (ints xs)) (hb : xs.length ≤ 1000) :
    Calls Try.prog 16 #[.slice A xs.length c, .int .i64 now, .int .i64 every, .int .i64 burst] w (SomeFree xs now every burst w) := by
  obtain ⟨i0, hi, hz0, hz1, hz2⟩ := info_parts Try.info3
  have Hr := Lib.hid hr
  have hb8 : xs.length * 8 ≤ 140737488351232 := by omega
  clear hr
  cases hR : rightB xs now every
  · go_enter Try.func16, Try.ntmps16
    go_wp2_with ((go_at_call 26; refine (right_any A c xs _ _ _ Hr.out hb8).mono ?_; rintro e w' ⟨rfl, rfl⟩))
    go_ret2
    exact ⟨_, _, rfl, free_wrong hR, Below.refl _ _⟩
  · have hbd := right_bounds hR
    obtain ⟨hn, he, hx⟩ := hbd
    have Hx := Lib.hid hx
    have HR := Lib.hid hR
    have hn1 := hn.1
    have hn2 := hn.2
    have He := Lib.hid he
    have he1 : 0 ≤ every := by omega
    have he4 : every ≤ 6311433600 ∨ every = 1099511627776 := by omega
    have He4 := Lib.hid he4
    clear hx he hn he4
    go_enter Try.func16, Try.ntmps16
    go_wp2_with ((go_at_call 26; refine (right_any A c xs _ _ _ Hr.out hb8).mono ?_; rintro e w' ⟨rfl, rfl⟩))
    clear hR
    go_loopw [10, 25] (fun v i wr => ∃ (k : Nat) (T : List Int), k ≤ xs.length ∧ i = .int .i64 k ∧ Hid (T = now :: (xs.take k).filterMap (cand now every)) ∧ T.length ≤ k + 1 ∧ wr.ownsRow w.heap.size 3 1 v T.length (ints T) ∧ Below w.heap.size w wr) (fun _ i _ => xs.length - (intOf i).toNat)
    case atStart =>
      exact ⟨0, [now], Nat.zero_le _, rfl, by simp [Hid], by simp, World.ownsRow_lit w #[.int .i64 now] 1 (Nat.le_refl _) (by decide) rfl, (Below.refl _ _).alloc (Nat.le_refl _) _⟩
    case round =>
      obtain ⟨k, T, hk, rfl, HT, hTl, hown, hbel⟩ := hrel
      by_cases hlt : k < xs.length
      · obtain ⟨b, o, rfl, hB, hc⟩ := (Hr.out.on (Nat.le_refl _) hbel).open (by omega)
        have hcell : wr.cell? ⟨b, o + k, none⟩ = some (.int .i64 xs[k]) := by rw [hc k (by omega), ints_at hlt]
        have Hown := Lib.hid hown
        have Hbel := Lib.hid hbel
        have hsz := hbel.size
        have hx := Hx.out xs[k] (List.getElem_mem hlt)
        have hx1 := hx.1
        have hx2 := hx.2
        have hsu := cands_succ (now := now) (every := every) hlt
        clear hc hown hbel hx
        by_cases hcn : now < sumS xs[k] every ∧ sumS xs[k] every < 6311433600
        · have hcd : cand now every xs[k] = some (sumS xs[k] every) := by unfold cand; rw [if_pos hcn]
          rw [hcd] at hsu
          have Hsu := Lib.hid hsu
          obtain ⟨hc1, hc2⟩ := hcn
          have h63 : T.length + 1 ≤ maxLen := by unfold maxLen; omega
          have hby : (T.length + 1) * 8 ≤ 140737488355328 := by omega
          clear hsu hcd
          go_wp2_with (first | (go_at_call 27; refine (sum_any _ _ _ hx1 hx2 he1 He4.out).mono ?_; rintro e w' ⟨rfl, rfl⟩) | (at_builtin; refine wpList_push w wr (by rfl) _ _ 29 (by rfl) w.heap.size 3 i0 (.int .i64 0) 1 8 Try.underlying29 hi hz0 hz1 hz2 rfl (by decide) _ _ _ (by rfl) Hown.out [.int .i64 (sumS xs[k] every)] (by rfl) rfl (by simp [Value.oneCell']) h63 hby hsz Hbel.out ?_; intro A1 c1 w1 hown1 hbel1 hg1 hat1))
          go_roundw
          case rel => exact ⟨k + 1, T ++ [sumS xs[k] every], by omega, by go_num, by show _ = _; rw [HT.out, Hsu.out]; simp, by simp; omega, by simpa using hown1, hbel1⟩
          case measure => simp [intOf]; omega
        · have hcd : cand now every xs[k] = none := by unfold cand; rw [if_neg hcn]
          rw [hcd] at hsu
          have Hsu := Lib.hid hsu
          clear hsu hcd
          rcases (show ¬ now < sumS xs[k] every ∨ (now < sumS xs[k] every ∧ ¬ sumS xs[k] every < 6311433600) from by omega) with h1 | ⟨h1, h2⟩
          all_goals
            clear hcn
            go_wp2_with ((go_at_call 27; refine (sum_any _ _ _ hx1 hx2 he1 He4.out).mono ?_; rintro e w' ⟨rfl, rfl⟩))
            go_roundw
            case rel => exact ⟨k + 1, T, by omega, by go_num, by show _ = _; rw [HT.out, Hsu.out]; simp, by omega, Hown.out, Hbel.out⟩
            case measure => simp [intOf]; omega
      · obtain ⟨A1, c1, rfl, _⟩ := own_rd hown
        have hkl : k = xs.length := by omega
        have hT : T = now :: xs.filterMap (cand now every) := by have := HT.out; rwa [List.take_of_length_le (by omega)] at this
        have HT' := Lib.hid hT
        have Hown := Lib.hid hown
        have Hbel := Lib.hid hbel
        have hsz := hbel.size
        have hlt0 := hown.lt
        have Hlt0 := Lib.hid hlt0
        clear hown hbel HT hT hkl hlt0
        go_wp2_with ((go_at_call 28; refine (sort_any A1 c1 T _ _ Hown.out (by omega)).mono ?_; rintro e w2 ⟨rfl, hown2, hg2⟩))
        have hbel2 : Below w.heap.size w w2 := Hbel.out.grown hg2 hsz (fun k hk => (Hlt0.out k hk).1)
        have hs2 := own_rd' hown2
        have hsl := srt_len T
        have Hs2 := Lib.hid hs2
        have Hbel2 := Lib.hid hbel2
        have Hsl := Lib.hid hsl
        have hsz2 := hbel2.size
        clear hown2 hg2 hs2 hbel2 hsl
        go_loopw [48] (fun i wr => ∃ k : Nat, k ≤ T.length ∧ i = .int .i64 k ∧ Hid (∀ j (hj : j < (srt T).length), j < k → mayB xs (srt T)[j] every burst = false) ∧ Below w.heap.size w wr ∧ Below w2.heap.size w2 wr) (fun i _ => T.length - (intOf i).toNat)
        case atStart => exact ⟨0, Nat.zero_le _, rfl, fun _ _ h => absurd h (by omega), Hbel2.out, Below.refl _ _⟩
        case round =>
          obtain ⟨k, hk, rfl, hall, hbel, hbel'⟩ := hrel
          by_cases hlt : k < T.length
          · have hlt' : k < (srt T).length := by rw [Hsl.out]; exact hlt
            obtain ⟨b, o, rfl, hB, hc⟩ := (Hs2.out.on (Nat.le_refl _) hbel').open (by omega)
            have hcell : wr.cell? ⟨b, o + k, none⟩ = some (.int .i64 (srt T)[k]) := by rw [hc k (by omega), ints_at hlt']
            have Hbelk := Lib.hid hbel
            have Hbelk' := Lib.hid hbel'
            have hr1 := (Hr.out.on (Nat.le_refl _) hbel).more hbel.size
            have Hr1 := Lib.hid hr1
            clear hc hbel hbel' hr1
            cases hm : mayB xs (srt T)[k] every burst
            · have Hm := Lib.hid hm
              go_wp2_with ((go_at_call 21; refine (may_any A c xs _ _ _ _ Hr1.out hb8).mono ?_; rintro e w3 ⟨rfl, hb3⟩))
              go_roundw
              case rel => exact ⟨k + 1, by omega, by go_num, fun j h1 h2 => by
                rcases Nat.lt_or_ge j k with h | h
                · exact hall.out j h1 h
                · obtain rfl : j = k := by omega
                  exact Hm.out, Hbelk.out.trans (hb3.mono Hbelk.out.size), Hbelk'.out.trans (hb3.mono Hbelk'.out.size)⟩
              case measure => simp [intOf]; omega
            · have Hm := Lib.hid hm
              go_wp2_with ((go_at_call 21; refine (may_any A c xs _ _ _ _ Hr1.out hb8).mono ?_; rintro e w3 ⟨rfl, hb3⟩))
              go_ret2
              refine ⟨_, _, rfl, ?_, Hbelk.out.trans (hb3.mono Hbelk.out.size)⟩
              exact free_found' HT'.out HR.out hlt' hall.out Hm.out
          · go_wp2
            go_ret2
            refine ⟨_, _, rfl, ?_, hbel⟩
            exact free_none' HT'.out HR.out fun i hi => hall.out i hi (by have := Hsl.out; omega)
end Lm
end Go.Proofs.Ytdcbapheoagelaa
