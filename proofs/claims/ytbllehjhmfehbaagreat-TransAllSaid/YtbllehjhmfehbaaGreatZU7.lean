/- My texts, joined for the claim: TWords TMiss TMk Ready2 TDrop TClash TStep. -/
import Derived.Test.YtbllehjhmfehbaaGreatZU1
import Derived.Test.YtbllehjhmfehbaaGreatZU6

section
/- The words of package trans: starts, lack, jobs. (bel2) -/
namespace Go.Proofs.YtbllehjhmfehbaaGreat
open Go.RowKit Go.Sort
set_option linter.unusedSimpArgs false
namespace Od
abbrev plV (p : Pl) : Value := .agg #[sv p.1, .int .i64 p.2.1, .bool p.2.2.1, sv p.2.2.2]
set_option maxHeartbeats 1000000 in
theorem starts_any (s : Str) (t : Int) (n : Bool) (b : Str) (w : World) :
  Calls Tryz.prog 145 #[.agg #[sv s, .int .i64 t, .bool n, sv b]] w fun e w' => e = .returned (.bool (beginsP (s, t, n, b))) ∧ Below w.heap.size w w' := by
 have HB := Lib.hid (show beginsP (s, t, n, b) = (t == 1 || t == 3) from rfl)
 go_enter Tryz.func145, Tryz.ntmps145
 cases h1 : (t == 1)
 ·cases h3 : (t == 3)
  ·go_wp2_with fail
   go_ret
   exact ⟨ret_bool (by rw [HB.out, h1, h3]; rfl), bq2⟩
  ·go_wp2_with fail
   go_ret
   exact ⟨ret_bool (by rw [HB.out, h1, h3]; rfl), bq2⟩
 ·go_wp2_with fail
  go_ret
  exact ⟨ret_bool (by rw [HB.out, h1]; rfl), bq2⟩
def lackE (ns : List Nd) (u : Str) : Int := if stN ns u = 1 then 0 else sickE ns u
set_option maxRecDepth 100000 in
set_option maxHeartbeats 1000000 in
theorem lack_any (An Ae : Option Addr) (ne cn ce mb : Nat) (ns : List Nd) (u : Str) (w : World) (h0 : w.cell? ⟨mb, 0, none⟩ = some (.slice An ns.length cn)) (h1 : w.cell? ⟨mb, 1, none⟩ = some (.slice Ae ne ce)) (hr : Rd w w.heap.size 3 An ns.length (ndsC ns)) (hl : ns.length ≤ 1000000) :
  Calls Tryz.prog 144 #[.pointer (some ⟨mb, 0, none⟩), sv u] w fun e w' => e = .returned (.int .i64 (lackE ns u)) ∧ Below w.heap.size w w' := by
 have Hr := Lib.hid hr
 have hmb := cell_blk h0
 simp only at hmb
 clear hr
 go_enter Tryz.func144, Tryz.ntmps144
 go_wp2_with fail
 first | (refine wp_named ?_; intro W1 hW) | (refine calls_named ?_; intro W1 hW)
 have B1 : Below w.heap.size w W1 := by rw [hW]; exact bq2
 replace Hr := Lib.hid (Hr.out.at B1)
 clear hW
 have HB1 := Lib.hid B1
 clear B1
 refine (Node_any An Ae ne cn ce ns u W1 Hr.out hl).mono ?_
 rintro e w2 ⟨rfl, hb⟩
 have HB2 := Lib.hid (lift HB1.out hb)
 clear hb
 have hst : stN ns u = ((nodeOf ns u).getD ([], 0, 0)).2.2 := by unfold stN; cases nodeOf ns u <;> rfl
 have hle : lackE ns u = if stN ns u = 1 then 0 else if stN ns u = 2 then 6 else if stN ns u = 3 then 15 else 16 := rfl
 unfold nodeV
 generalize (nodeOf ns u).isSome = is at *
 generalize (nodeOf ns u).getD ([], 0, 0) = nd at *
 obtain ⟨s1, k1, r1⟩ := nd
 simp only at hst
 rw [hst] at hle
 have HLe := Lib.hid hle
 clear hle hst
 have hz2 := HB2.out.size
 by_cases e1 : r1 = 1
 ·subst e1
  go_wp2_with fail
  go_ret
  rw [HLe.out]
  exact ⟨rfl, HB2.out.alloc hz2 _⟩
 by_cases e2 : r1 = 2
 ·subst e2
  go_wp2_with fail
  go_ret
  rw [HLe.out]
  exact ⟨rfl, HB2.out.alloc hz2 _⟩
 by_cases e3 : r1 = 3
 ·subst e3
  go_wp2_with fail
  go_ret
  rw [HLe.out]
  exact ⟨rfl, HB2.out.alloc hz2 _⟩
 have b1 : (r1 == 1) = false := by simpa using e1
 have b2 : (r1 == 2) = false := by simpa using e2
 have b3 : (r1 == 3) = false := by simpa using e3
 have hle := HLe.out
 rw [if_neg e1, if_neg e2, if_neg e3] at hle
 replace HLe := Lib.hid hle
 clear hle e1 e2 e3
 go_wp2_with fail
 go_ret
 rw [HLe.out]
 exact ⟨rfl, HB2.out.alloc hz2 _⟩
theorem startL_take {l : List Pl} {u : Str} {k : Nat} (h : k < l.length) : startL (l.take (k + 1)) u = (startL (l.take k) u || (l[k].1 == u && beginsP l[k])) := by
 unfold startL; exact any_take_succ h
theorem stopL_take {l : List Pl} {u : Str} {k : Nat} (h : k < l.length) : stopL (l.take (k + 1)) u = (stopL (l.take k) u || (l[k].1 == u && l[k].2.1 == 2)) := by
 unfold stopL; exact any_take_succ h
set_option maxRecDepth 100000 in
set_option maxHeartbeats 4000000 in
theorem jobs_any (A : Option Addr) (c : Nat) (l : List Pl) (u : Str) (w : World) (hr : Rd w w.heap.size 4 A l.length (plsC l)) (hl : l.length ≤ 1000000) :
  Calls Tryz.prog 193 #[.slice A l.length c, sv u] w fun e w' => e = .returned (.tuple #[.bool (startL l u), .bool (stopL l u)]) ∧ Below w.heap.size w w' := by
 have Hr := Lib.hid hr
 clear hr
 go_enter Tryz.func193, Tryz.ntmps193
 go_wp2_with fail
 go_loopw [4, 5, 10] (fun a b i wr => ∃ k : Nat, k ≤ l.length ∧ i = .int .i64 k ∧ a = .bool (startL (l.take k) u) ∧ b = .bool (stopL (l.take k) u) ∧ Hid (Below w.heap.size w wr)) (fun _ _ i _ => l.length - (intOf i).toNat)
 case atStart => exact ⟨0, Nat.zero_le _, rfl, rfl, rfl, Below.refl _ _⟩
 case round =>
  obtain ⟨k, hk, rfl, rfl, rfl, HB⟩ := hrel
  by_cases hlt : k < l.length
  ·obtain ⟨b2, o2, hA, hB2, x0, x1, x2, x3⟩ := (Hr.out.at HB.out).pl hlt
   subst hA
   have ha := startL_take (u := u) hlt
   have hb := stopL_take (u := u) hlt
   generalize l[k] = p at x0 x1 x2 x3 ha hb
   obtain ⟨s, t, n, b⟩ := p
   simp only at x0 x1 x2 x3 ha hb
   have HA := Lib.hid ha
   have HBs := Lib.hid hb
   have i1 : (0 : Int) ≤ (k : Int) := by omega
   have i2 : (k : Int) < (l.length : Int) := by omega
   have hz := HB.out.size
   clear ha hb
   generalize startL (l.take k) u = va at *
   generalize stopL (l.take k) u = vb at *
   cases hsu : (s == u)
   ·go_wp2_with fail
    go_roundw
    case rel => exact ⟨k + 1, by omega, by go_num, by rw [HA.out, hsu]; simp, by rw [HBs.out, hsu]; simp, HB.out.alloc hz _⟩
    case measure => simp [intOf]; omega
   ·cases va
    ·cases vb
     ·skip
      go_wp2_with fail
      first | (refine wp_named ?_; intro W4 hW) | (refine calls_named ?_; intro W4 hW)
      have B4 : Below wr.heap.size wr W4 := by rw [hW]; exact bq2
      have n4 : wr.heap.size < W4.heap.size := by rw [hW]; simp <;> omega
      have y0 : W4.cell? ⟨wr.heap.size, 0, none⟩ = some (sv s) := by rw [hW]; go_simp
      have y1 : W4.cell? ⟨wr.heap.size, 1, none⟩ = some (.int .i64 t) := by rw [hW]; go_simp
      have y2 : W4.cell? ⟨wr.heap.size, 2, none⟩ = some (.bool n) := by rw [hW]; go_simp
      have y3 : W4.cell? ⟨wr.heap.size, 3, none⟩ = some (sv b) := by rw [hW]; go_simp
      clear hW
      have HB4 := Lib.hid (lift HB.out B4)
      clear B4 x0 x1 x2 x3
      try go_wp2_with fail
      refine wp_region_held_drew (S := fun w' => Below W4.heap.size W4 w') (by kernel_rfl) (Below.drew (Below.refl _ _)) (fun hHeld => ?_)
      refine tV 0 ?_ ?zq ?_; (case zq => rintro _ -; go_simp; try with_reducible rfl); try simp only [Act.put, zn1, zn2, zn3]
      refine tV 1 ?_ ?zq ?_; (case zq => rintro _ -; go_simp; try with_reducible rfl); try simp only [Act.put, zn1, zn2, zn3]
      refine tV 2 ?_ ?zq ?_; (case zq => intro w' hSw; have hCell := fun (b o : Nat) (h : b < W4.heap.size) => hSw.cell (p := ⟨b, o, none⟩) h; clear hSw; go_simp; try with_reducible rfl); try simp only [Act.put, zn1, zn2, zn3]
      refine tV 5 ?_ ?zq ?_; (case zq => rintro _ -; go_simp; try with_reducible rfl); try simp only [Act.put, zn1, zn2, zn3]
      refine ready_one (i := 3) rfl (by kernel_rfl) (fun K hK => ?_)
      go_simp
      refine (starts_any s t n b _).mono ?_
      rintro e y4 ⟨rfl, hb⟩
      refine hK.out _ _ ?_ (fun hHeld2 => ?_)
      ·(try dsimp only); first | exact Below.trans hHeld (Below.mono hb hHeld.size) | exact hHeld | exact Below.drew hHeld | exact bq2
      clear hK K hHeld; have hHeld := hHeld2; clear hHeld2; (try simp only [Act.put, zn1, zn2, zn3])
      refine tV 4 ?_ ?zq ?_; (case zq => rintro _ -; go_simp; try with_reducible rfl); try simp only [Act.put, zn1, zn2, zn3]
      refine tV 6 ?_ ?zq ?_; (case zq => rintro _ -; go_simp; try with_reducible rfl); try simp only [Act.put, zn1, zn2, zn3]
      refine tV 7 ?_ ?zq ?_; (case zq => rintro _ -; go_simp; try with_reducible rfl); try simp only [Act.put, zn1, zn2, zn3]
      refine tV 8 ?_ ?zq ?_; (case zq => intro w' hSw; have hCell := fun (b o : Nat) (h : b < W4.heap.size) => hSw.cell (p := ⟨b, o, none⟩) h; clear hSw; go_simp; try with_reducible rfl); try simp only [Act.put, zn1, zn2, zn3]
      refine tV 9 ?_ ?zq ?_; (case zq => rintro _ -; go_simp; try with_reducible rfl); try simp only [Act.put, zn1, zn2, zn3]
      refine tV 10 ?_ ?zq ?_; (case zq => rintro _ -; go_simp; try with_reducible rfl); try simp only [Act.put, zn1, zn2, zn3]
      refine tV 11 ?_ ?zq ?_; (case zq => rintro _ -; go_simp; try with_reducible rfl); try simp only [Act.put, zn1, zn2, zn3]
      refine tV 12 ?_ ?zq ?_; (case zq => rintro _ -; go_simp; try with_reducible rfl); try simp only [Act.put, zn1, zn2, zn3]
      refine wpAnyH_done (by kernel_rfl) ?_ _
      go_wp2_with fail
      go_roundw
      case rel => exact ⟨k + 1, by omega, by go_num, by rw [HA.out]; simp [hsu], by rw [HBs.out]; simp [hsu], lift HB4.out hHeld⟩
      case measure => simp [intOf]; omega
     ·skip
      go_wp2_with fail
      first | (refine wp_named ?_; intro W4 hW) | (refine calls_named ?_; intro W4 hW)
      have B4 : Below wr.heap.size wr W4 := by rw [hW]; exact bq2
      have n4 : wr.heap.size < W4.heap.size := by rw [hW]; simp <;> omega
      have y0 : W4.cell? ⟨wr.heap.size, 0, none⟩ = some (sv s) := by rw [hW]; go_simp
      have y1 : W4.cell? ⟨wr.heap.size, 1, none⟩ = some (.int .i64 t) := by rw [hW]; go_simp
      have y2 : W4.cell? ⟨wr.heap.size, 2, none⟩ = some (.bool n) := by rw [hW]; go_simp
      have y3 : W4.cell? ⟨wr.heap.size, 3, none⟩ = some (sv b) := by rw [hW]; go_simp
      clear hW
      have HB4 := Lib.hid (lift HB.out B4)
      clear B4 x0 x1 x2 x3
      try go_wp2_with fail
      refine wp_region_held_drew (S := fun w' => Below W4.heap.size W4 w') (by kernel_rfl) (Below.drew (Below.refl _ _)) (fun hHeld => ?_)
      refine tV 0 ?_ ?zq ?_; (case zq => rintro _ -; go_simp; try with_reducible rfl); try simp only [Act.put, zn1, zn2, zn3]
      refine tV 1 ?_ ?zq ?_; (case zq => rintro _ -; go_simp; try with_reducible rfl); try simp only [Act.put, zn1, zn2, zn3]
      refine tV 2 ?_ ?zq ?_; (case zq => intro w' hSw; have hCell := fun (b o : Nat) (h : b < W4.heap.size) => hSw.cell (p := ⟨b, o, none⟩) h; clear hSw; go_simp; try with_reducible rfl); try simp only [Act.put, zn1, zn2, zn3]
      refine tV 5 ?_ ?zq ?_; (case zq => rintro _ -; go_simp; try with_reducible rfl); try simp only [Act.put, zn1, zn2, zn3]
      refine ready_one (i := 3) rfl (by kernel_rfl) (fun K hK => ?_)
      go_simp
      refine (starts_any s t n b _).mono ?_
      rintro e y4 ⟨rfl, hb⟩
      refine hK.out _ _ ?_ (fun hHeld2 => ?_)
      ·(try dsimp only); first | exact Below.trans hHeld (Below.mono hb hHeld.size) | exact hHeld | exact Below.drew hHeld | exact bq2
      clear hK K hHeld; have hHeld := hHeld2; clear hHeld2; (try simp only [Act.put, zn1, zn2, zn3])
      refine tV 4 ?_ ?zq ?_; (case zq => rintro _ -; go_simp; try with_reducible rfl); try simp only [Act.put, zn1, zn2, zn3]
      refine tV 6 ?_ ?zq ?_; (case zq => rintro _ -; go_simp; try with_reducible rfl); try simp only [Act.put, zn1, zn2, zn3]
      refine tS (i := 7) rfl hHeld ?_; (try simp only [Act.put, zn1, zn2, zn3])
      refine tS (i := 8) rfl hHeld ?_; (try simp only [Act.put, zn1, zn2, zn3])
      refine tS (i := 9) rfl hHeld ?_; (try simp only [Act.put, zn1, zn2, zn3])
      refine tV 10 ?_ ?zq ?_; (case zq => rintro _ -; go_simp; try with_reducible rfl); try simp only [Act.put, zn1, zn2, zn3]
      refine tV 11 ?_ ?zq ?_; (case zq => rintro _ -; go_simp; try with_reducible rfl); try simp only [Act.put, zn1, zn2, zn3]
      refine tV 12 ?_ ?zq ?_; (case zq => rintro _ -; go_simp; try with_reducible rfl); try simp only [Act.put, zn1, zn2, zn3]
      refine wpAnyH_done (by kernel_rfl) ?_ _
      go_wp2_with fail
      go_roundw
      case rel => exact ⟨k + 1, by omega, by go_num, by rw [HA.out]; simp [hsu], by rw [HBs.out]; simp [hsu], lift HB4.out hHeld⟩
      case measure => simp [intOf]; omega
    ·cases vb
     ·skip
      go_wp2_with fail
      first | (refine wp_named ?_; intro W4 hW) | (refine calls_named ?_; intro W4 hW)
      have B4 : Below wr.heap.size wr W4 := by rw [hW]; exact bq2
      have n4 : wr.heap.size < W4.heap.size := by rw [hW]; simp <;> omega
      have y0 : W4.cell? ⟨wr.heap.size, 0, none⟩ = some (sv s) := by rw [hW]; go_simp
      have y1 : W4.cell? ⟨wr.heap.size, 1, none⟩ = some (.int .i64 t) := by rw [hW]; go_simp
      have y2 : W4.cell? ⟨wr.heap.size, 2, none⟩ = some (.bool n) := by rw [hW]; go_simp
      have y3 : W4.cell? ⟨wr.heap.size, 3, none⟩ = some (sv b) := by rw [hW]; go_simp
      clear hW
      have HB4 := Lib.hid (lift HB.out B4)
      clear B4 x0 x1 x2 x3
      try go_wp2_with fail
      refine wp_region_held_drew (S := fun w' => Below W4.heap.size W4 w') (by kernel_rfl) (Below.drew (Below.refl _ _)) (fun hHeld => ?_)
      refine tV 0 ?_ ?zq ?_; (case zq => rintro _ -; go_simp; try with_reducible rfl); try simp only [Act.put, zn1, zn2, zn3]
      refine tV 1 ?_ ?zq ?_; (case zq => rintro _ -; go_simp; try with_reducible rfl); try simp only [Act.put, zn1, zn2, zn3]
      refine tS (i := 2) rfl hHeld ?_; (try simp only [Act.put, zn1, zn2, zn3])
      refine tS (i := 3) rfl hHeld ?_; (try simp only [Act.put, zn1, zn2, zn3])
      refine tV 4 ?_ ?zq ?_; (case zq => rintro _ -; go_simp; try with_reducible rfl); try simp only [Act.put, zn1, zn2, zn3]
      refine tV 5 ?_ ?zq ?_; (case zq => rintro _ -; go_simp; try with_reducible rfl); try simp only [Act.put, zn1, zn2, zn3]
      refine tV 6 ?_ ?zq ?_; (case zq => rintro _ -; go_simp; try with_reducible rfl); try simp only [Act.put, zn1, zn2, zn3]
      refine tV 7 ?_ ?zq ?_; (case zq => rintro _ -; go_simp; try with_reducible rfl); try simp only [Act.put, zn1, zn2, zn3]
      refine tV 8 ?_ ?zq ?_; (case zq => intro w' hSw; have hCell := fun (b o : Nat) (h : b < W4.heap.size) => hSw.cell (p := ⟨b, o, none⟩) h; clear hSw; go_simp; try with_reducible rfl); try simp only [Act.put, zn1, zn2, zn3]
      refine tV 9 ?_ ?zq ?_; (case zq => rintro _ -; go_simp; try with_reducible rfl); try simp only [Act.put, zn1, zn2, zn3]
      refine tV 10 ?_ ?zq ?_; (case zq => rintro _ -; go_simp; try with_reducible rfl); try simp only [Act.put, zn1, zn2, zn3]
      refine tV 11 ?_ ?zq ?_; (case zq => rintro _ -; go_simp; try with_reducible rfl); try simp only [Act.put, zn1, zn2, zn3]
      refine tV 12 ?_ ?zq ?_; (case zq => rintro _ -; go_simp; try with_reducible rfl); try simp only [Act.put, zn1, zn2, zn3]
      refine wpAnyH_done (by kernel_rfl) ?_ _
      go_wp2_with fail
      go_roundw
      case rel => exact ⟨k + 1, by omega, by go_num, by rw [HA.out]; simp [hsu], by rw [HBs.out]; simp [hsu], lift HB4.out hHeld⟩
      case measure => simp [intOf]; omega
     ·skip
      go_wp2_with fail
      first | (refine wp_named ?_; intro W4 hW) | (refine calls_named ?_; intro W4 hW)
      have B4 : Below wr.heap.size wr W4 := by rw [hW]; exact bq2
      have n4 : wr.heap.size < W4.heap.size := by rw [hW]; simp <;> omega
      have y0 : W4.cell? ⟨wr.heap.size, 0, none⟩ = some (sv s) := by rw [hW]; go_simp
      have y1 : W4.cell? ⟨wr.heap.size, 1, none⟩ = some (.int .i64 t) := by rw [hW]; go_simp
      have y2 : W4.cell? ⟨wr.heap.size, 2, none⟩ = some (.bool n) := by rw [hW]; go_simp
      have y3 : W4.cell? ⟨wr.heap.size, 3, none⟩ = some (sv b) := by rw [hW]; go_simp
      clear hW
      have HB4 := Lib.hid (lift HB.out B4)
      clear B4 x0 x1 x2 x3
      try go_wp2_with fail
      refine wp_region_held_drew (S := fun w' => Below W4.heap.size W4 w') (by kernel_rfl) (Below.drew (Below.refl _ _)) (fun hHeld => ?_)
      refine tV 0 ?_ ?zq ?_; (case zq => rintro _ -; go_simp; try with_reducible rfl); try simp only [Act.put, zn1, zn2, zn3]
      refine tV 1 ?_ ?zq ?_; (case zq => rintro _ -; go_simp; try with_reducible rfl); try simp only [Act.put, zn1, zn2, zn3]
      refine tS (i := 2) rfl hHeld ?_; (try simp only [Act.put, zn1, zn2, zn3])
      refine tS (i := 3) rfl hHeld ?_; (try simp only [Act.put, zn1, zn2, zn3])
      refine tV 4 ?_ ?zq ?_; (case zq => rintro _ -; go_simp; try with_reducible rfl); try simp only [Act.put, zn1, zn2, zn3]
      refine tV 5 ?_ ?zq ?_; (case zq => rintro _ -; go_simp; try with_reducible rfl); try simp only [Act.put, zn1, zn2, zn3]
      refine tV 6 ?_ ?zq ?_; (case zq => rintro _ -; go_simp; try with_reducible rfl); try simp only [Act.put, zn1, zn2, zn3]
      refine tS (i := 7) rfl hHeld ?_; (try simp only [Act.put, zn1, zn2, zn3])
      refine tS (i := 8) rfl hHeld ?_; (try simp only [Act.put, zn1, zn2, zn3])
      refine tS (i := 9) rfl hHeld ?_; (try simp only [Act.put, zn1, zn2, zn3])
      refine tV 10 ?_ ?zq ?_; (case zq => rintro _ -; go_simp; try with_reducible rfl); try simp only [Act.put, zn1, zn2, zn3]
      refine tV 11 ?_ ?zq ?_; (case zq => rintro _ -; go_simp; try with_reducible rfl); try simp only [Act.put, zn1, zn2, zn3]
      refine tV 12 ?_ ?zq ?_; (case zq => rintro _ -; go_simp; try with_reducible rfl); try simp only [Act.put, zn1, zn2, zn3]
      refine wpAnyH_done (by kernel_rfl) ?_ _
      go_wp2_with fail
      go_roundw
      case rel => exact ⟨k + 1, by omega, by go_num, by rw [HA.out]; simp [hsu], by rw [HBs.out]; simp [hsu], lift HB4.out hHeld⟩
      case measure => simp [intOf]; omega
  ·obtain rfl : k = l.length := by omega
   rw [List.take_length]
   go_wp2_with fail
   go_ret2
   exact ⟨rfl, HB.out⟩
end Od
end Go.Proofs.YtbllehjhmfehbaaGreat
end

section
/- (*maker).missing: is something not there, and does not come, that a unit asks for? (bel2) -/
namespace Go.Proofs.YtbllehjhmfehbaaGreat
open Go.RowKit Go.Sort
set_option linter.unusedSimpArgs false
namespace Od
def relsM : List Int := [3, 1, 4]
def missK (es : List Ed) (up : List Str) (l : List Pl) (u : Str) (k : Nat) : Bool := (relsM.take k).any fun r => (outS es u r).any (missU up l r)
theorem missK_end (es : List Ed) (up : List Str) (l : List Pl) (u : Str) : missK es up l u 3 = missP es up l u := by
 unfold missK relsM missP; simp
theorem missK_hit {es : List Ed} {up : List Str} {l : List Pl} {u : Str} {k j : Nat} (hk : k < relsM.length) (hj : j < (outS es u relsM[k]).length) (h : missU up l relsM[k] (outS es u relsM[k])[j] = true) : missP es up l u = true := by
 rw [← missK_end]
 unfold missK
 rw [List.any_eq_true]
 exact ⟨relsM[k], List.mem_take_iff_getElem.2 ⟨k, by unfold relsM at *; simp at hk ⊢; omega, rfl⟩, List.any_eq_true.2 ⟨_, List.getElem_mem hj, h⟩⟩
theorem missK_next {es : List Ed} {up : List Str} {l : List Pl} {u : Str} {k : Nat} (hk : k < relsM.length) (h : missK es up l u k = false) (h2 : (outS es u relsM[k]).any (missU up l relsM[k]) = false) : missK es up l u (k + 1) = false := by
 unfold missK at *
 rw [any_take_succ hk, h, h2]; rfl
def missB (start stop up : Bool) (r : Int) : Bool := (!start && !up) || (stop && (r == 3 || !start))
theorem missU_eq (up : List Str) (l : List Pl) (r : Int) (v : Str) : missU up l r v = missB (startL l v) (stopL l v) (hasB up v) r := rfl
set_option maxRecDepth 100000 in
set_option maxHeartbeats 8000000 in
theorem missing_any (An Ae Au A : Option Addr) (nn cn ce cu c mb : Nat) (es : List Ed) (up : List Str) (l : List Pl) (u : Str) (w : World) (h0 : w.cell? ⟨mb, 0, none⟩ = some (.slice An nn cn)) (h1 : w.cell? ⟨mb, 1, none⟩ = some (.slice Ae es.length ce)) (h2 : w.cell? ⟨mb, 2, none⟩ = some (.slice Au up.length cu))
  (hr : Rd w w.heap.size 3 Ae es.length (edsC es)) (hl : es.length ≤ 10000) (hu : SIn w Au up) (hp : Rd w w.heap.size 4 A l.length (plsC l)) (hpl : l.length ≤ 1000000) :
  Calls Tryz.prog 147 #[.pointer (some ⟨mb, 0, none⟩), .slice A l.length c, sv u] w fun e w' => e = .returned (.bool (missP es up l u)) ∧ Below w.heap.size w w' := by
 have Hr := Lib.hid hr
 have Hu := Lib.hid hu
 have Hp := Lib.hid hp
 have hmb := cell_blk h0
 simp only at hmb
 clear hr hu hp
 go_enter Tryz.func147, Tryz.ntmps147
 go_wp2_with fail
 first | (refine wp_named ?_; intro W1 hW) | (refine calls_named ?_; intro W1 hW)
 have B1 : Below w.heap.size w W1 := by rw [hW]; exact bq2
 replace h0 := cellAt h0 B1 (by omega)
 replace h1 := cellAt h1 B1 (by omega)
 replace h2 := cellAt h2 B1 (by omega)
 replace Hr := Lib.hid (Hr.out.at B1)
 replace Hu := Lib.hid (Hu.out.at B1)
 replace Hp := Lib.hid (Hp.out.at B1)
 replace hmb : mb < W1.heap.size := ltAt hmb B1
 have n1 : w.heap.size < W1.heap.size := by rw [hW]; simp <;> omega
 have r0 : W1.cell? ⟨w.heap.size, 0, none⟩ = some (.int .i64 3) := by rw [hW]; go_simp
 have r1 : W1.cell? ⟨w.heap.size, 1, none⟩ = some (.int .i64 1) := by rw [hW]; go_simp
 have r2 : W1.cell? ⟨w.heap.size, 2, none⟩ = some (.int .i64 4) := by rw [hW]; go_simp
 clear hW
 have HB1 := Lib.hid B1
 clear B1
 go_loopw [16] (fun i wr => ∃ k : Nat, k ≤ 3 ∧ i = .int .i64 k ∧ Hid (missK es up l u k = false) ∧ Hid (Below W1.heap.size W1 wr)) (fun i _ => 3 - (intOf i).toNat)
 case atStart => exact ⟨0, Nat.zero_le _, rfl, by simp [Hid, missK], Below.refl _ _⟩
 case round =>
  obtain ⟨k, hk, rfl, HMs, HBl⟩ := hrel
  obtain ⟨w3, rfl⟩ : ∃ wo : World, wo = wr := ⟨_, rfl⟩
  replace h0 := cellAt h0 HBl.out (by omega)
  replace h1 := cellAt h1 HBl.out (by omega)
  replace h2 := cellAt h2 HBl.out (by omega)
  replace r0 := cellAt r0 HBl.out (by omega)
  replace r1 := cellAt r1 HBl.out (by omega)
  replace r2 := cellAt r2 HBl.out (by omega)
  replace Hr := Lib.hid (Hr.out.at HBl.out)
  replace Hu := Lib.hid (Hu.out.at HBl.out)
  replace Hp := Lib.hid (Hp.out.at HBl.out)
  replace hmb : mb < w3.heap.size := ltAt hmb HBl.out
  replace n1 : w.heap.size < w3.heap.size := ltAt n1 HBl.out
  by_cases hlt : k < 3
  ·have hcell : w3.cell? ⟨w.heap.size, k, none⟩ = some (.int .i64 (relsM[k]'hlt)) := by
    have : k = 0 ∨ k = 1 ∨ k = 2 := by omega
    rcases this with e | e | e <;> subst e <;> assumption
   have HHit := Lib.hid (fun (j : Nat) (hj : j < (outS es u (relsM[k]'hlt)).length) h => missK_hit (up := up) (l := l) (k := k) hlt hj h)
   have HNx := Lib.hid (missK_next (k := k) hlt HMs.out)
   have hol := outS_len es u (relsM[k]'hlt)
   generalize relsM[k]'hlt = r at hcell HHit HNx hol
   have m1 : (0 : Int) ≤ (k : Int) := by omega
   have m2 : (k : Int) < 3 := by omega
   go_wp2_with fail
   refine (Out_any An Ae nn cn ce es u r w3 Hr.out (by omega)).mono ?_
   rintro e w4 ⟨A4, c4, rfl, ho4, hb⟩
   have HS4 := Lib.hid (own_rd' ho4)
   have HB4 := Lib.hid (lift HBl.out hb)
   clear r0 r1 r2
   replace h0 := cellAt h0 hb (by omega)
   replace h1 := cellAt h1 hb (by omega)
   replace h2 := cellAt h2 hb (by omega)
   replace hcell := cellAt hcell hb (by omega)
   replace Hr := Lib.hid (Hr.out.at hb)
   replace Hu := Lib.hid (Hu.out.at hb)
   replace Hp := Lib.hid (Hp.out.at hb)
   replace hmb : mb < w4.heap.size := ltAt hmb hb
   replace n1 : w.heap.size < w4.heap.size := ltAt n1 hb
   clear hb ho4
   generalize outS es u r = O at *
   go_wp2_with fail
   go_loopw [28] (fun i wr => ∃ j : Nat, j ≤ O.length ∧ i = .int .i64 j ∧ Hid ((O.take j).any (missU up l r) = false) ∧ Hid (Below w4.heap.size w4 wr)) (fun i _ => O.length - (intOf i).toNat)
   case atStart => exact ⟨0, Nat.zero_le _, rfl, by simp [Hid], Below.refl _ _⟩
   case round =>
    obtain ⟨j, hj, rfl, HJ, HBj⟩ := hrel
    obtain ⟨w5, rfl⟩ : ∃ wo : World, wo = wr := ⟨_, rfl⟩
    replace h0 := cellAt h0 HBj.out (by omega)
    replace h1 := cellAt h1 HBj.out (by omega)
    replace h2 := cellAt h2 HBj.out (by omega)
    replace hcell := cellAt hcell HBj.out (by omega)
    replace Hr := Lib.hid (Hr.out.at HBj.out)
    replace Hu := Lib.hid (Hu.out.at HBj.out)
    replace Hp := Lib.hid (Hp.out.at HBj.out)
    replace hmb : mb < w5.heap.size := ltAt hmb HBj.out
    replace n1 : w.heap.size < w5.heap.size := ltAt n1 HBj.out
    replace HS4 := Lib.hid (HS4.out.at HBj.out)
    by_cases hlt2 : j < O.length
    ·obtain ⟨b5, o5, hA5, hB5, y0⟩ := HS4.out.str hlt2
     subst hA5
     have hh := HHit.out j hlt2
     have hjs : (O.take (j + 1)).any (missU up l r) = missU up l r O[j] := by rw [any_take_succ hlt2, HJ.out]; rfl
     generalize O[j] = v at y0 hh hjs
     have HHh := Lib.hid hh
     have HJs := Lib.hid hjs
     have j1 : (0 : Int) ≤ (j : Int) := by omega
     have j2 : (j : Int) < (O.length : Int) := by omega
     clear hh hjs
     go_wp2_with fail
     refine (jobs_any A c l v w5 Hp.out hpl).mono ?_
     rintro e w6 ⟨rfl, hb⟩
     have HB6 := Lib.hid (lift HBj.out hb)
     replace h0 := cellAt h0 hb (by omega)
     replace h1 := cellAt h1 hb (by omega)
     replace h2 := cellAt h2 hb (by omega)
     replace hcell := cellAt hcell hb (by omega)
     replace Hr := Lib.hid (Hr.out.at hb)
     replace Hu := Lib.hid (Hu.out.at hb)
     replace Hp := Lib.hid (Hp.out.at hb)
     replace hmb : mb < w6.heap.size := ltAt hmb hb
     replace n1 : w.heap.size < w6.heap.size := ltAt n1 hb
     replace HS4 := Lib.hid (HS4.out.at hb)
     clear hb y0
     go_wp2_with fail
     refine (containsS_big _ _ _ _ w6 Hu.out.rd Hu.out.len).mono ?_
     rintro e w7 ⟨rfl, rfl⟩
     have HMu := Lib.hid (missU_eq up l r v)
     generalize startL l v = sa at *
     generalize stopL l v = so at *
     generalize hasB up v = hu at *
     cases sa
     ·cases hu
      ·skip
       go_wp2_with fail
       go_ret
       exact ⟨ret_bool (HHh.out (by rw [HMu.out]; simp [missB, hlt2])).symm, lift HB1.out (lift HB4.out HB6.out)⟩
      ·cases so
       ·skip
        go_wp2_with fail
        go_roundw
        case rel => exact ⟨j + 1, by omega, by go_num, by show _ = false; rw [HJs.out, HMu.out]; simp [missB, hlt2], HB6.out⟩
        case measure => simp [intOf]; omega
       ·cases hr3 : (r == 3)
        ·skip
         go_wp2_with fail
         go_ret
         exact ⟨ret_bool (HHh.out (by rw [HMu.out]; simp [missB, hr3])).symm, lift HB1.out (lift HB4.out HB6.out)⟩
        ·skip
         go_wp2_with fail
         go_ret
         exact ⟨ret_bool (HHh.out (by rw [HMu.out]; simp [missB, hr3])).symm, lift HB1.out (lift HB4.out HB6.out)⟩
     ·cases so
      ·skip
       go_wp2_with fail
       go_roundw
       case rel => exact ⟨j + 1, by omega, by go_num, by show _ = false; rw [HJs.out, HMu.out]; simp [missB, hlt2], HB6.out⟩
       case measure => simp [intOf]; omega
      ·cases hr3 : (r == 3)
       ·skip
        go_wp2_with fail
        go_roundw
        case rel => exact ⟨j + 1, by omega, by go_num, by show _ = false; rw [HJs.out, HMu.out]; simp [missB, hr3], HB6.out⟩
        case measure => simp [intOf]; omega
       ·skip
        go_wp2_with fail
        go_ret
        exact ⟨ret_bool (HHh.out (by rw [HMu.out]; simp [missB, hr3])).symm, lift HB1.out (lift HB4.out HB6.out)⟩
    ·obtain rfl : j = O.length := by omega
     rw [List.take_length] at HJ
     have HN9 := Lib.hid (HNx.out HJ.out)
     have HB9 := Lib.hid (lift HB4.out HBj.out)
     go_wp2_with fail
     go_roundw
     case rel => exact ⟨k + 1, by omega, by go_num, HN9.out, HB9.out⟩
     case measure => simp [intOf]; omega
  ·obtain rfl : k = 3 := by omega
   have hf := HMs.out
   rw [missK_end] at hf
   have HF := Lib.hid hf
   have HB9 := Lib.hid (lift HB1.out HBl.out)
   clear hf
   go_wp2_with fail
   go_ret
   exact ⟨ret_bool (by rw [HF.out]), HB9.out⟩
end Od
end Go.Proofs.YtbllehjhmfehbaaGreat
end

section
/- The maker of package trans: what is asked for, and the jobs that went. No program. (bel2) -/
namespace Go.Proofs.YtbllehjhmfehbaaGreat
open Go.RowKit Go.Sort Go.Maps
set_option linter.unusedSimpArgs false
namespace Od
/-- The graph, who is there, what is asked for, in block mb; all of it lies ahead of mb. -/
structure MkF (w : World) (mb : Nat) (An Ae Au Ah : Option Addr) (cn ce cu ch : Nat) (ns : List Nd) (es : List Ed) (up half : List Str) (u : Str) (t : Int) : Prop where
 c0 : w.cell? ⟨mb, 0, none⟩ = some (.slice An ns.length cn)
 c1 : w.cell? ⟨mb, 1, none⟩ = some (.slice Ae es.length ce)
 c2 : w.cell? ⟨mb, 2, none⟩ = some (.slice Au up.length cu)
 c3 : w.cell? ⟨mb, 3, none⟩ = some (.slice Ah half.length ch)
 c4 : w.cell? ⟨mb, 4, none⟩ = some (sv u)
 c5 : w.cell? ⟨mb, 5, none⟩ = some (.int .i64 t)
 rn : Rd w mb 3 An ns.length (ndsC ns)
 re : Rd w mb 3 Ae es.length (edsC es)
 ru : Rd w mb 1 Au up.length (svs up)
 rh : Rd w mb 1 Ah half.length (svs half)
 lu : up.length ≤ 140737488355328
 lh : half.length ≤ 140737488355328
 ln : ns.length ≤ 64
 le : es.length ≤ 200
 okn : OkNs ns
 oke : OkE es
 okf : okJ (u, t)
/-- The jobs that went, in cell 6. -/
structure MkG (w : World) (mb : Nat) (v : Value) (gone : List Pl) : Prop where
 c6 : w.cell? ⟨mb, 6, none⟩ = some v
 f6 : w.frozen? ⟨mb, 6, none⟩ = false
 row : w.ownsRow (mb + 1) 37 4 v gone.length (plsC gone)
section
variable {w w' : World} {mb : Nat} {An Ae Au Ah : Option Addr} {cn ce cu ch : Nat} {ns : List Nd} {es : List Ed} {up half : List Str} {u : Str} {t : Int} {v : Value} {gone : List Pl}
theorem MkF.lt (h : MkF w mb An Ae Au Ah cn ce cu ch ns es up half u t) : mb < w.heap.size := cell_blk h.c0
theorem MkF.on (h : MkF w mb An Ae Au Ah cn ce cu ch ns es up half u t) (hb : Below w.heap.size w w') : MkF w' mb An Ae Au Ah cn ce cu ch ns es up half u t := by
 have hl := h.lt
 have c : ∀ {o : Nat} {x : Value}, w.cell? ⟨mb, o, none⟩ = some x → w'.cell? ⟨mb, o, none⟩ = some x := fun c => cellAt c hb hl
 exact ⟨c h.c0, c h.c1, c h.c2, c h.c3, c h.c4, c h.c5, h.rn.on (Nat.le_of_lt hl) hb, h.re.on (Nat.le_of_lt hl) hb, h.ru.on (Nat.le_of_lt hl) hb, h.rh.on (Nat.le_of_lt hl) hb, h.lu, h.lh, h.ln, h.le, h.okn, h.oke, h.okf⟩
theorem MkG.lt (h : MkG w mb v gone) : mb < w.heap.size := cell_blk h.c6
theorem MkG.on (h : MkG w mb v gone) (hb : Below w.heap.size w w') : MkG w' mb v gone :=
 ⟨cellAt h.c6 hb h.lt, froAt h.f6 hb h.lt, own_on h.row hb⟩
theorem MkF.in (h : MkF w mb An Ae Au Ah cn ce cu ch ns es up half u t) : GIw w An Ae ns es ∧ NIn w Au Ah up half :=
 have hl := Nat.le_of_lt h.lt
 ⟨⟨h.rn.more hl, h.re.more hl, h.okn, h.oke⟩, ⟨⟨h.ru.more hl, h.lu⟩, ⟨h.rh.more hl, h.lh⟩⟩⟩
end
end Od
end Go.Proofs.YtbllehjhmfehbaaGreat
end

section
/- Two operations of a region that draws its order may come up. No program. -/
namespace Go.Proofs.YtbllehjhmfehbaaGreat
open Go.RowKit
section
variable {P : Program} {ops : Array Oper} {Q : Exit → Act → World → Prop} {md : Region.Mode} {S : World → Prop}
variable {i j : Nat} {dst dst2 : Option Tmp} {op op2 : Op} {ty ty2 : TypeId} {pos pos2 : String} {aft aft2 : Array Edge} {grd grd2 : Option (Nat × Bool)} {fuel : Nat} {listed : Array Bool} {a : Act} {w : World}
/-- Two may come up. -/
theorem ready_twoT (hi : ops[i]? = some ⟨dst, op, ty, pos, aft, grd⟩) (hj : ops[j]? = some ⟨dst2, op2, ty2, pos2, aft2, grd2⟩) (hr : Region.ready md ops listed = [i, j])
  (h : ∀ K' : Act → World → Prop, Shut (∀ a w, S w → (S w → wpAnyH P md ops Q S fuel (listed.setIfInBounds i true) a w) → K' a w) → if Region.wanted ⟨dst, op, ty, pos, aft, grd⟩ (yielded ops a.tmps) = true then Oper.wp P ⟨dst, op, ty, pos, aft, grd⟩ a w K' Q else K' (a.put dst undef) w)
  (h2 : ∀ K' : Act → World → Prop, Shut (∀ a w, S w → (S w → wpAnyH P md ops Q S fuel (listed.setIfInBounds j true) a w) → K' a w) → if Region.wanted ⟨dst2, op2, ty2, pos2, aft2, grd2⟩ (yielded ops a.tmps) = true then Oper.wp P ⟨dst2, op2, ty2, pos2, aft2, grd2⟩ a w K' Q else K' (a.put dst2 undef) w) :
  wpAnyH P md ops Q S (fuel + 1) listed a w :=
 wpAnyH_ready hr (by simp) (AllReadyH.cons hi h (AllReadyH.cons hj h2 AllReadyH.nil))
end
theorem exit_namedT {Q : Exit → Act → World → Prop} {e : Exit} {a : Act} {w : World} (h : ∀ W, W = w → Q e a W) : Q e a w := h w rfl
end Go.Proofs.YtbllehjhmfehbaaGreat
end

section
/- (*maker).drop: lets a job go. (bel2) -/
namespace Go.Proofs.YtbllehjhmfehbaaGreat
open Go.RowKit Go.Sort Go.Maps
set_option linter.unusedSimpArgs false
namespace Od
/-- All blocks but one, and but the one that v owns. -/
def OffM (w : World) (v : Value) (mb b : Nat) : Prop := b < w.heap.size ∧ v.ownBlock ≠ some b ∧ b ≠ mb
section
variable {w w' w'' : World} {v : Value} {mb : Nat}
theorem OffM.below (hb : Below w.heap.size w w') : Keeps (OffM w v mb) w w' := ⟨hb.os, hb.tape, hb.output, hb.size, fun j hj => hb.block j hj.1⟩
theorem OffM.then (h : Keeps (OffM w v mb) w w') (hb : Below w'.heap.size w' w'') : Keeps (OffM w v mb) w w'' := h.then (fun _ hj => hj.1) hb
theorem OffM.alloc (h : Keeps (OffM w v mb) w w') (o : Obj) : Keeps (OffM w v mb) w (w'.alloc o) := OffM.then h ((Below.refl _ _).alloc (Nat.le_refl _) _)
theorem OffM.grown (h : Keeps (OffM w v mb) w w') (hg : w'.grownBy w'' v.ownBlock) : Keeps (OffM w v mb) w w'' :=
 ⟨hg.os.trans h.os, hg.tape.trans h.tape, hg.output.trans h.output, Nat.le_trans h.size hg.size, fun j hj => (hg.block j (Nat.lt_of_lt_of_le hj.1 h.size) (fun e => hj.2.1 e.symm)).trans (h.block j hj)⟩
theorem OffM.set (h : Keeps (OffM w v mb) w w') (o : Nat) (u : Value) : Keeps (OffM w v mb) w (w'.setCell ⟨mb, o, none⟩ u) := by
 have hg := grownBy_setCell w' ⟨mb, o, none⟩ u
 exact ⟨hg.os.trans h.os, hg.tape.trans h.tape, hg.output.trans h.output, Nat.le_trans h.size hg.size, fun j hj => (hg.block j (Nat.lt_of_lt_of_le hj.1 h.size) (fun e => hj.2.2 (by injection e))).trans (h.block j hj)⟩
end
/-- What letting a job go comes to. -/
def DropD (w : World) (mb : Nat) (An Ae Au Ah : Option Addr) (cn ce cu ch : Nat) (ns : List Nd) (es : List Ed) (up half : List Str) (u : Str) (t : Int) (gone : List Pl) (p : Pl) (e r : Int) (w' : World) : Prop :=
 (p.2.2.1 = true ∧ r = e ∧ Below w.heap.size w w') ∨
 (p.2.2.1 = false ∧ r = 0 ∧ Below mb w w' ∧ MkF w' mb An Ae Au Ah cn ce cu ch ns es up half u t ∧ ∃ v', MkG w' mb v' (gone ++ [p]))
theorem DropD.back {w0 w w' : World} {mb : Nat} {An Ae Au Ah : Option Addr} {cn ce cu ch : Nat} {ns : List Nd} {es : List Ed} {up half : List Str} {u : Str} {t : Int} {gone : List Pl} {p : Pl} {e r : Int} (h : DropD w mb An Ae Au Ah cn ce cu ch ns es up half u t gone p e r w') (hb : Below w0.heap.size w0 w) (hm : mb ≤ w0.heap.size) : DropD w0 mb An Ae Au Ah cn ce cu ch ns es up half u t gone p e r w' := by
 rcases h with ⟨h1, h2, h3⟩ | ⟨h1, h2, h3, h4⟩
 ·exact .inl ⟨h1, h2, lift hb h3⟩
 ·exact .inr ⟨h1, h2, (hb.mono hm).trans h3, h4⟩
def Dropped (w : World) (mb : Nat) (An Ae Au Ah : Option Addr) (cn ce cu ch : Nat) (ns : List Nd) (es : List Ed) (up half : List Str) (u : Str) (t : Int) (gone : List Pl) (p : Pl) (e : Int) (en : Ending) (w' : World) : Prop :=
 ∃ r : Int, en = .returned (.int .i64 r) ∧ DropD w mb An Ae Au Ah cn ce cu ch ns es up half u t gone p e r w'
theorem heap_ad {W : World} {o : Obj} {mb : Nat} (h : mb < W.heap.size) : (W.drew.alloc o).heap[mb]? = W.heap[mb]? := ((Below.drew (Below.refl _ _)).alloc (Nat.le_refl _) o).block mb h
/-- The end of it: the row grown, the cell turned. -/
theorem dropped_end {w1 w7 : World} {mb : Nat} {An Ae Au Ah : Option Addr} {cn ce cu ch : Nat} {ns : List Nd} {es : List Ed} {up half : List Str} {u : Str} {t : Int} {v v8 : Value} {gone : List Pl} {p : Pl}
  (hF : MkF w1 mb An Ae Au Ah cn ce cu ch ns es up half u t) (hG : MkG w1 mb v gone) (ho : w7.ownsRow (mb + 1) 37 4 v8 (gone.length + 1) (plsC gone ++ plC p)) (hk : Keeps (OffM w1 v mb) w1 w7) (c7 : w7.heap[mb]? = w1.heap[mb]?) :
  Below mb w1 (w7.setCell ⟨mb, 6, none⟩ v8) ∧ MkF (w7.setCell ⟨mb, 6, none⟩ v8) mb An Ae Au Ah cn ce cu ch ns es up half u t ∧ ∃ v', MkG (w7.setCell ⟨mb, 6, none⟩ v8) mb v' (gone ++ [p]) := by
 have hl := hF.lt
 have hvlt := fun b (h : v.ownBlock = some b) => hG.row.lt b h
 have hs := OffM.set hk 6 v8
 have hb : Below mb w1 (w7.setCell ⟨mb, 6, none⟩ v8) := ⟨hs.os, hs.tape, hs.output, hs.size, fun j hj => hs.block j ⟨by omega, fun e => by have := (hvlt _ e).1; omega, by omega⟩⟩
 have c : ∀ {o : Nat} {x : Value}, o ≠ 6 → w1.cell? ⟨mb, o, none⟩ = some x → (w7.setCell ⟨mb, 6, none⟩ v8).cell? ⟨mb, o, none⟩ = some x := fun ho hc => by
  rw [World.cell?_setCell_other _ _ _ _ (fun e => ho (by injection e with _ e; exact e.symm))]
  exact (World.cell?_of_block (a := ⟨mb, _, none⟩) c7).trans hc
 have hn8 : v8.ownBlock ≠ some mb := fun e => by have := (ho.lt _ e).1; omega
 refine ⟨hb, ⟨c (by decide) hF.c0, c (by decide) hF.c1, c (by decide) hF.c2, c (by decide) hF.c3, c (by decide) hF.c4, c (by decide) hF.c5, hF.rn.below hb, hF.re.below hb, hF.ru.below hb, hF.rh.below hb, hF.lu, hF.lh, hF.ln, hF.le, hF.okn, hF.oke, hF.okf⟩, v8, ?_, ?_, ?_⟩
 ·exact World.cell?_setCell_same _ _ _ ((World.cell?_of_block (a := ⟨mb, 6, none⟩) c7).trans hG.c6)
 ·rw [World.frozen?_setCell]; exact (World.frozen?_of_block (a := ⟨mb, 6, none⟩) c7).trans hG.f6
 ·have h := ho.kept (grownBy_setCell w7 ⟨mb, 6, none⟩ v8) (.inr hn8)
  rw [List.length_append, plsC_app, plsC_one]
  exact h
set_option maxRecDepth 100000 in
set_option maxHeartbeats 4000000 in
theorem drop_any (mb : Nat) (An Ae Au Ah : Option Addr) (cn ce cu ch : Nat) (ns : List Nd) (es : List Ed) (up half : List Str) (u : Str) (t : Int) (v : Value) (gone : List Pl) (s : Str) (t' : Int) (n : Bool) (b : Str) (e : Int) (w : World)
  (hF : MkF w mb An Ae Au Ah cn ce cu ch ns es up half u t) (hG : MkG w mb v gone) (hl : gone.length ≤ 1000000) :
  Calls Tryz.prog 146 #[.pointer (some ⟨mb, 0, none⟩), .agg #[sv s, .int .i64 t', .bool n, sv b], .int .i64 e] w (Dropped w mb An Ae Au Ah cn ce cu ch ns es up half u t gone (s, t', n, b) e) := by
 obtain ⟨i0, hi, hz0, hz1, hz2⟩ := info_parts infoPl
 have HF := Lib.hid hF
 have HG := Lib.hid hG
 have c6 := hG.c6
 have f6 := hG.f6
 have hmb := hG.lt
 have hvb : v.ownBlock ≠ some mb := fun e => by have := (hG.row.lt _ e).1; omega
 have HV := Lib.hid hvb
 have HV2 := Lib.hid (fun b (e : v.ownBlock = some b) => (hG.row.lt b e).2)
 have hmb0 := hG.lt
 have h63 := Lib.hid (show gone.length + 1 ≤ maxLen by unfold maxLen; omega)
 have hby := Lib.hid (show (gone.length + 1) * 48 ≤ 140737488355328 by omega)
 clear hF hG hvb
 go_enter Tryz.func146, Tryz.ntmps146
 cases n
 ·go_wp2_with fail
  first | (refine wp_named ?_; intro W1 hW) | (refine calls_named ?_; intro W1 hW)
  have B1 : Below w.heap.size w W1 := by rw [hW]; exact bq2
  replace c6 := cellAt c6 B1 (by omega)
  replace f6 := froAt f6 B1 (by omega)
  replace HF := Lib.hid (HF.out.on B1)
  replace HG := Lib.hid (HG.out.on B1)
  replace hmb : mb < W1.heap.size := ltAt hmb B1
  have n1 : w.heap.size < W1.heap.size := by rw [hW]; simp <;> omega
  have y0 : W1.cell? ⟨w.heap.size, 0, none⟩ = some (sv s) := by rw [hW]; go_simp
  have y1 : W1.cell? ⟨w.heap.size, 1, none⟩ = some (.int .i64 t') := by rw [hW]; go_simp
  have y2 : W1.cell? ⟨w.heap.size, 2, none⟩ = some (.bool false) := by rw [hW]; go_simp
  have y3 : W1.cell? ⟨w.heap.size, 3, none⟩ = some (sv b) := by rw [hW]; go_simp
  clear hW
  have HB1 := Lib.hid B1
  clear B1
  have q1 : ¬ v.ownBlock = some w.heap.size := fun e => by have := (HV2.out _ e); omega
  have q2 : ¬ w.heap.size = mb := by omega
  have HO := Lib.hid HG.out.row
  have hz : mb + 1 ≤ W1.heap.size := by omega
  refine wp_region_held_drew (S := fun w' => Keeps (OffM W1 v mb) W1 w') (by kernel_rfl) (OffM.below (Below.drew (Below.refl _ _))) (fun hHeld => ?_)
  refine tV 0 ?_ ?zq ?_; (case zq => intro w' hSw; have hCell := fun (b o : Nat) (h : b < W1.heap.size) (h1 : ¬ v.ownBlock = some b) (h2 : ¬ b = mb) => World.cell?_of_block (a := ⟨b, o, none⟩) (hSw.block b ⟨h, h1, h2⟩); clear hSw; go_simp; try with_reducible rfl); try simp only [Act.put, zn1, zn2, zn3]
  refine tV 1 ?_ ?zq ?_; (case zq => intro w' hSw; have hCell := fun (b o : Nat) (h : b < W1.heap.size) (h1 : ¬ v.ownBlock = some b) (h2 : ¬ b = mb) => World.cell?_of_block (a := ⟨b, o, none⟩) (hSw.block b ⟨h, h1, h2⟩); clear hSw; go_simp; try with_reducible rfl); try simp only [Act.put, zn1, zn2, zn3]
  refine tV 2 ?_ ?zq ?_; (case zq => intro w' hSw; have hCell := fun (b o : Nat) (h : b < W1.heap.size) (h1 : ¬ v.ownBlock = some b) (h2 : ¬ b = mb) => World.cell?_of_block (a := ⟨b, o, none⟩) (hSw.block b ⟨h, h1, h2⟩); clear hSw; go_simp; try with_reducible rfl); try simp only [Act.put, zn1, zn2, zn3]
  refine tV 3 ?_ ?zq ?_; (case zq => intro w' hSw; have hCell := fun (b o : Nat) (h : b < W1.heap.size) (h1 : ¬ v.ownBlock = some b) (h2 : ¬ b = mb) => World.cell?_of_block (a := ⟨b, o, none⟩) (hSw.block b ⟨h, h1, h2⟩); clear hSw; go_simp; try with_reducible rfl); try simp only [Act.put, zn1, zn2, zn3]
  refine tV 5 ?_ ?zq ?_; (case zq => intro w' hSw; have hCell := fun (b o : Nat) (h : b < W1.heap.size) (h1 : ¬ v.ownBlock = some b) (h2 : ¬ b = mb) => World.cell?_of_block (a := ⟨b, o, none⟩) (hSw.block b ⟨h, h1, h2⟩); clear hSw; go_simp; try with_reducible rfl); try simp only [Act.put, zn1, zn2, zn3]
  refine ready_twoT (i := 4) (j := 6) rfl rfl (by kernel_rfl) (fun K hK => ?_) (fun K hK => ?_)
  ·go_simp
   refine hK.out _ _ ?_ (fun hHeld2 => ?_)
   ·(try dsimp only); exact hHeld
   clear hK K hHeld; have hHeld := hHeld2; clear hHeld2; (try simp only [Act.put, zn1, zn2, zn3])
   refine ready_one (i := 6) rfl (by kernel_rfl) (fun K hK => ?_)
   go_simp
   refine hK.out _ _ ?_ (fun hHeld2 => ?_)
   ·(try dsimp only); exact (OffM.alloc hHeld _)
   clear hK K hHeld; have hHeld := hHeld2; clear hHeld2; (try simp only [Act.put, zn1, zn2, zn3])
   refine ready_one (i := 7) rfl (by kernel_rfl) (fun K hK => ?_)
   refine step_append_rd _ (by rfl) (.tmp 14) (.tmp 16) 29 (by rfl) (mb + 1) 37 i0 _ 4 48 Tryz.underlying29 hi hz0 hz1 hz2 rfl (by decide) _ gone.length (plsC gone) (by rfl) (own_alloc (w := W1.drew) HO.out _) _ (some ⟨W1.heap.size, 0, none⟩) 1 1 (plC (s, t', false, b)) (by rfl) (Rd.lit W1.drew (plC (s, t', false, b)) 37 4 1 rfl) (one_plC _) h63.out hby.out (by simp; omega) ?_
   intro A7 c7 w7 ho7 hg7 hat7
   have HO7 := Lib.hid ho7
   have HG7 := Lib.hid (hg7.block mb (by simp; omega) (fun e => HV.out e.symm))
   have hS := OffM.grown hHeld hg7
   have HS7 := Lib.hid hS
   have k7 : w7.cell? ⟨mb, 6, none⟩ = some v := (World.cell?_of_block (a := ⟨mb, 6, none⟩) HG7.out).trans (by go_simp)
   have g7 : w7.frozen? ⟨mb, 6, none⟩ = false := (World.frozen?_of_block (a := ⟨mb, 6, none⟩) HG7.out).trans (by go_simp)
   clear ho7 hg7 hat7
   refine hK.out _ _ ?_ (fun hHeld2 => ?_)
   ·(try dsimp only); exact hS
   clear hK K hHeld; have hHeld := hHeld2; clear hHeld2; (try simp only [Act.put, zn1, zn2, zn3])
   refine tV 8 ?_ ?zq ?_; (case zq => intro w' hSw; have hCell := fun (b o : Nat) (h : b < W1.heap.size) (h1 : ¬ v.ownBlock = some b) (h2 : ¬ b = mb) => World.cell?_of_block (a := ⟨b, o, none⟩) (hSw.block b ⟨h, h1, h2⟩); clear hSw; go_simp; try with_reducible rfl); try simp only [Act.put, zn1, zn2, zn3]
   refine tV 9 ?_ ?zq ?_; (case zq => intro w' hSw; have hCell := fun (b o : Nat) (h : b < W1.heap.size) (h1 : ¬ v.ownBlock = some b) (h2 : ¬ b = mb) => World.cell?_of_block (a := ⟨b, o, none⟩) (hSw.block b ⟨h, h1, h2⟩); clear hSw; go_simp; try with_reducible rfl); try simp only [Act.put, zn1, zn2, zn3]
   refine ready_one (i := 10) rfl (by kernel_rfl) (fun K hK => ?_)
   go_simp
   refine hK.out _ _ ?_ (fun hHeld2 => ?_)
   ·(try dsimp only); exact (OffM.set HS7.out 6 _)
   clear hK K hHeld; have hHeld := hHeld2; clear hHeld2; (try simp only [Act.put, zn1, zn2, zn3])
   refine wpAnyH_done (by kernel_rfl) ?_ _
   go_wp2_with fail
   go_ret
   have he := dropped_end (p := (s, t', false, b)) HF.out HG.out HO7.out HS7.out (HG7.out.trans (heap_ad hmb))
   exact ⟨0, rfl, .inr ⟨rfl, rfl, (HB1.out.mono (Nat.le_of_lt hmb0)).trans he.1, he.2.1, he.2.2⟩⟩
  ·go_simp
   refine hK.out _ _ ?_ (fun hHeld2 => ?_)
   ·(try dsimp only); exact (OffM.alloc hHeld _)
   clear hK K hHeld; have hHeld := hHeld2; clear hHeld2; (try simp only [Act.put, zn1, zn2, zn3])
   refine ready_one (i := 4) rfl (by kernel_rfl) (fun K hK => ?_)
   go_simp
   refine hK.out _ _ ?_ (fun hHeld2 => ?_)
   ·(try dsimp only); exact hHeld
   clear hK K hHeld; have hHeld := hHeld2; clear hHeld2; (try simp only [Act.put, zn1, zn2, zn3])
   refine ready_one (i := 7) rfl (by kernel_rfl) (fun K hK => ?_)
   refine step_append_rd _ (by rfl) (.tmp 14) (.tmp 16) 29 (by rfl) (mb + 1) 37 i0 _ 4 48 Tryz.underlying29 hi hz0 hz1 hz2 rfl (by decide) _ gone.length (plsC gone) (by rfl) (own_alloc (w := W1.drew) HO.out _) _ (some ⟨W1.heap.size, 0, none⟩) 1 1 (plC (s, t', false, b)) (by rfl) (Rd.lit W1.drew (plC (s, t', false, b)) 37 4 1 rfl) (one_plC _) h63.out hby.out (by simp; omega) ?_
   intro A7 c7 w7 ho7 hg7 hat7
   have HO7 := Lib.hid ho7
   have HG7 := Lib.hid (hg7.block mb (by simp; omega) (fun e => HV.out e.symm))
   have hS := OffM.grown hHeld hg7
   have HS7 := Lib.hid hS
   have k7 : w7.cell? ⟨mb, 6, none⟩ = some v := (World.cell?_of_block (a := ⟨mb, 6, none⟩) HG7.out).trans (by go_simp)
   have g7 : w7.frozen? ⟨mb, 6, none⟩ = false := (World.frozen?_of_block (a := ⟨mb, 6, none⟩) HG7.out).trans (by go_simp)
   clear ho7 hg7 hat7
   refine hK.out _ _ ?_ (fun hHeld2 => ?_)
   ·(try dsimp only); exact hS
   clear hK K hHeld; have hHeld := hHeld2; clear hHeld2; (try simp only [Act.put, zn1, zn2, zn3])
   refine tV 8 ?_ ?zq ?_; (case zq => intro w' hSw; have hCell := fun (b o : Nat) (h : b < W1.heap.size) (h1 : ¬ v.ownBlock = some b) (h2 : ¬ b = mb) => World.cell?_of_block (a := ⟨b, o, none⟩) (hSw.block b ⟨h, h1, h2⟩); clear hSw; go_simp; try with_reducible rfl); try simp only [Act.put, zn1, zn2, zn3]
   refine tV 9 ?_ ?zq ?_; (case zq => intro w' hSw; have hCell := fun (b o : Nat) (h : b < W1.heap.size) (h1 : ¬ v.ownBlock = some b) (h2 : ¬ b = mb) => World.cell?_of_block (a := ⟨b, o, none⟩) (hSw.block b ⟨h, h1, h2⟩); clear hSw; go_simp; try with_reducible rfl); try simp only [Act.put, zn1, zn2, zn3]
   refine ready_one (i := 10) rfl (by kernel_rfl) (fun K hK => ?_)
   go_simp
   refine hK.out _ _ ?_ (fun hHeld2 => ?_)
   ·(try dsimp only); exact (OffM.set HS7.out 6 _)
   clear hK K hHeld; have hHeld := hHeld2; clear hHeld2; (try simp only [Act.put, zn1, zn2, zn3])
   refine wpAnyH_done (by kernel_rfl) ?_ _
   go_wp2_with fail
   go_ret
   have he := dropped_end (p := (s, t', false, b)) HF.out HG.out HO7.out HS7.out (HG7.out.trans (heap_ad hmb))
   exact ⟨0, rfl, .inr ⟨rfl, rfl, (HB1.out.mono (Nat.le_of_lt hmb0)).trans he.1, he.2.1, he.2.2⟩⟩
 ·go_wp2_with fail
  go_ret
  exact ⟨e, rfl, .inl ⟨rfl, rfl, bq2⟩⟩
end Od
end Go.Proofs.YtbllehjhmfehbaaGreat
end

section
/- clash: the job that goes of the first unit with two that can't go together. (bel2) -/
namespace Go.Proofs.YtbllehjhmfehbaaGreat
open Go.RowKit Go.Sort
set_option linter.unusedSimpArgs false
namespace Od
def pullV (o : Option Pl) : Value := .tuple #[plV (o.getD ([], 0, false, [])), .bool o.isSome]
set_option maxHeartbeats 1000000 in
theorem clash1_any (bb : Nat) (s : Str) (t : Int) (n : Bool) (b : Str) (u : Str) (w : World) (h0 : w.cell? ⟨bb, 0, none⟩ = some (sv u)) :
  Calls Tryz.prog 196 #[.agg #[sv s, .int .i64 t, .bool n, sv b], .pointer (some ⟨bb, 0, none⟩)] w fun e w' => e = .returned (.bool (!(s == u && t != 2))) ∧ Below w.heap.size w w' := by
 have hbk := cell_blk h0
 simp only at hbk
 go_enter Tryz.func196, Tryz.ntmps196
 cases h1 : (s == u)
 ·go_wp2_with fail
  go_ret
  exact ⟨rfl, bq2⟩
 ·cases h2 : (t == 2)
  ·go_wp2_with fail
   go_ret
   exact ⟨ret_bool (by simp [bne, h2]), bq2⟩
  ·go_wp2_with fail
   go_ret
   exact ⟨ret_bool (by simp [bne, h2]), bq2⟩
theorem says_clash1 (bb : Nat) (u : Str) (w0 : World) (h0 : w0.cell? ⟨bb, 0, none⟩ = some (sv u)) :
  SaysPl 196 #[.pointer (some ⟨bb, 0, none⟩)] (fun p => !(p.1 == u && p.2.1 != 2)) w0.heap.size w0 where
 enters := enters_of Tryz.func196 (by kernel_rfl) rfl
 says := fun W s t n b hW => clash1_any bb s t n b u W ((hW.cell (p := ⟨bb, 0, none⟩) (cell_blk h0)).trans h0)
set_option maxHeartbeats 1000000 in
theorem clash2_any (s : Str) (t : Int) (n : Bool) (b : Str) (w : World) :
  Calls Tryz.prog 198 #[.agg #[sv s, .int .i64 t, .bool n, sv b]] w fun e w' => e = .returned (.bool (!n)) ∧ Below w.heap.size w w' := by
 go_enter Tryz.func198, Tryz.ntmps198
 go_wp2_with fail
 go_ret
 exact ⟨rfl, bq2⟩
theorem says_clash2 (base : Nat) (w0 : World) : SaysPl 198 #[] (fun p => !p.2.2.1) base w0 where
 enters := enters_of Tryz.func198 (by kernel_rfl) rfl
 says := fun W s t n b _ => clash2_any s t n b W
theorem clash_none {l : List Pl} (h : l.any (bothP l) = false) : clashOf l = none := by
 unfold clashOf; rw [find_none_take h]
theorem clash_free {l : List Pl} {k : Nat} (hk : k < l.length) (h0 : (l.take k).any (bothP l) = false) (h1 : bothP l l[k] = true) {q : Pl} (h2 : (othersL l l[k].1).find? (fun q => !q.2.2.1) = some q) : clashOf l = some q := by
 unfold clashOf; rw [find_at hk h0 h1]; simp only; rw [h2]
theorem clash_stop' {l : List Pl} {k : Nat} (hk : k < l.length) (h0 : (l.take k).any (bothP l) = false) (h1 : bothP l l[k] = true) (h2 : (othersL l l[k].1).find? (fun q => !q.2.2.1) = none) : clashOf l = some l[k] := by
 unfold clashOf; rw [find_at hk h0 h1]; simp only; rw [h2]
theorem both_take {l : List Pl} {k : Nat} (hk : k < l.length) (h0 : (l.take k).any (bothP l) = false) (h1 : bothP l l[k] = false) : (l.take (k + 1)).any (bothP l) = false := by
 rw [any_take_succ hk, h0, h1]; rfl
theorem both_not {l : List Pl} {p : Pl} (h : (p.2.1 == 2) = false) : bothP l p = false := by unfold bothP; rw [h]; rfl
theorem both_nil {l : List Pl} {p : Pl} (h : othersL l p.1 = []) : bothP l p = false := by unfold bothP; rw [h]; simp
theorem both_is {l : List Pl} {p : Pl} (h2 : (p.2.1 == 2) = true) (h : othersL l p.1 ≠ []) : bothP l p = true := by
 unfold bothP; rw [h2]
 cases ho : othersL l p.1 with
 | nil => exact absurd ho h
 | cons a r => rfl
set_option maxRecDepth 100000 in
set_option maxHeartbeats 8000000 in
theorem clash_any (A : Option Addr) (c : Nat) (l : List Pl) (w : World) (hr : Rd w w.heap.size 4 A l.length (plsC l)) (hl : l.length ≤ 1000000) :
  Calls Tryz.prog 148 #[.slice A l.length c] w fun e w' => e = .returned (pullV (clashOf l)) ∧ Below w.heap.size w w' := by
 have Hr := Lib.hid hr
 clear hr
 go_enter Tryz.func148, Tryz.ntmps148
 go_wp2_with fail
 first | (refine wp_named ?_; intro W1 hW) | (refine calls_named ?_; intro W1 hW)
 have B1 : Below w.heap.size w W1 := by rw [hW]; exact bq2
 replace Hr := Lib.hid (Hr.out.at B1)
 have n1 : w.heap.size < W1.heap.size := by rw [hW]; simp <;> omega
 have r0 : W1.cell? ⟨w.heap.size, 0, none⟩ = some (.string ⟨#[]⟩) := by rw [hW]; go_simp
 have r1 : W1.cell? ⟨w.heap.size, 1, none⟩ = some (.int .i64 0) := by rw [hW]; go_simp
 have r2 : W1.cell? ⟨w.heap.size, 2, none⟩ = some (.bool false) := by rw [hW]; go_simp
 have r3 : W1.cell? ⟨w.heap.size, 3, none⟩ = some (.string ⟨#[]⟩) := by rw [hW]; go_simp
 have z0 : W1.frozen? ⟨w.heap.size, 0, none⟩ = false := by rw [hW]; go_simp
 have z1 : W1.frozen? ⟨w.heap.size, 1, none⟩ = false := by rw [hW]; go_simp
 have z2 : W1.frozen? ⟨w.heap.size, 2, none⟩ = false := by rw [hW]; go_simp
 have z3 : W1.frozen? ⟨w.heap.size, 3, none⟩ = false := by rw [hW]; go_simp
 clear hW
 have HB1 := Lib.hid B1
 have hzz : w.heap.size ≤ W1.heap.size := B1.size
 clear B1
 go_loopw [10] (fun i wr => ∃ k : Nat, k ≤ l.length ∧ i = .int .i64 k ∧ Hid ((l.take k).any (bothP l) = false) ∧ Hid (Below W1.heap.size W1 wr)) (fun i _ => l.length - (intOf i).toNat)
 case atStart => exact ⟨0, Nat.zero_le _, rfl, by simp [Hid], Below.refl _ _⟩
 case round =>
  obtain ⟨k, hk, rfl, HK, HBl⟩ := hrel
  obtain ⟨w3, rfl⟩ : ∃ wo : World, wo = wr := ⟨_, rfl⟩
  replace r0 := cellAt r0 HBl.out (by omega)
  replace r1 := cellAt r1 HBl.out (by omega)
  replace r2 := cellAt r2 HBl.out (by omega)
  replace r3 := cellAt r3 HBl.out (by omega)
  replace z0 := froAt z0 HBl.out (by omega)
  replace z1 := froAt z1 HBl.out (by omega)
  replace z2 := froAt z2 HBl.out (by omega)
  replace z3 := froAt z3 HBl.out (by omega)
  replace Hr := Lib.hid (Hr.out.at HBl.out)
  replace n1 : w.heap.size < w3.heap.size := ltAt n1 HBl.out
  by_cases hlt : k < l.length
  ·obtain ⟨b2, o2, hA, hB2, x0, x1, x2, x3⟩ := Hr.out.pl hlt
   subst hA
   have HStep := Lib.hid (both_take hlt HK.out)
   have HFree := Lib.hid (fun h1 (q : Pl) h2 => clash_free (q := q) hlt HK.out h1 h2)
   have HStop := Lib.hid (fun h1 h2 => clash_stop' hlt HK.out h1 h2)
   generalize l[k] = p at x0 x1 x2 x3 HStep HFree HStop
   obtain ⟨s, t, n, b⟩ := p
   simp only at x0 x1 x2 x3
   have i1 : (0 : Int) ≤ (k : Int) := by omega
   have i2 : (k : Int) < (l.length : Int) := by omega
   have hz3 := HBl.out.size
   cases ht : (t == 2)
   ·have hn : (t != 2) = true := by simp [bne, ht]
    have HN := Lib.hid (HStep.out (both_not (p := (s, t, n, b)) ht))
    go_wp2_with fail
    go_roundw
    case rel => exact ⟨k + 1, by omega, by go_num, HN.out, HBl.out.alloc hz3 _⟩
    case measure => simp [intOf]; omega
   ·have hn : (t != 2) = false := by simp [bne, ht]
    have HT2 := Lib.hid ht
    clear ht
    go_wp2_with fail
    first | (refine wp_named ?_; intro W4 hW) | (refine calls_named ?_; intro W4 hW)
    have B4 : Below w3.heap.size w3 W4 := by rw [hW]; exact bq2
    replace r0 := cellAt r0 B4 (by omega)
    replace r1 := cellAt r1 B4 (by omega)
    replace r2 := cellAt r2 B4 (by omega)
    replace r3 := cellAt r3 B4 (by omega)
    replace z0 := froAt z0 B4 (by omega)
    replace z1 := froAt z1 B4 (by omega)
    replace z2 := froAt z2 B4 (by omega)
    replace z3 := froAt z3 B4 (by omega)
    replace Hr := Lib.hid (Hr.out.at B4)
    replace n1 : w.heap.size < W4.heap.size := ltAt n1 B4
    have n4 : w3.heap.size < W4.heap.size := by rw [hW]; simp <;> omega
    have y0 : W4.cell? ⟨w3.heap.size, 0, none⟩ = some (sv s) := by rw [hW]; go_simp
    have y1 : W4.cell? ⟨w3.heap.size, 1, none⟩ = some (.int .i64 t) := by rw [hW]; go_simp
    have y2 : W4.cell? ⟨w3.heap.size, 2, none⟩ = some (.bool n) := by rw [hW]; go_simp
    have y3 : W4.cell? ⟨w3.heap.size, 3, none⟩ = some (sv b) := by rw [hW]; go_simp
    clear hW
    have HB4 := Lib.hid (lift HBl.out B4)
    clear B4 x0 x1 x2 x3 hB2 hz3
    refine (cloneP_own _ c l W4 Hr.out hl).mono ?_
    rintro e w5 ⟨A5, c5, rfl, ho5, hb5⟩
    have HO5 := Lib.hid ho5
    have HB5 := Lib.hid hb5
    have HSy := Lib.hid (says_clash1 w3.heap.size s W4 y0)
    have hof : l.filter (fun q => !(!(q.1 == s && q.2.1 != 2))) = othersL l s := by unfold othersL; simp only [Bool.not_not]
    have HOf := Lib.hid hof
    clear ho5 hb5 hof
    go_wp2_with fail
    have hdel := DeleteFuncP_own W4.heap.size c5 l.length A5 l _ _ _ W4 w5 HO5.out rfl hl HSy.out HB5.out HB5.out.size
    rw [HOf.out] at hdel
    refine hdel.mono ?_
    clear hdel
    rintro e w6 ⟨A6, c6, rfl, ho6, hb6⟩
    have HR6 := Lib.hid (own_rd' ho6)
    have HB6 := Lib.hid (lift HB4.out hb6)
    have hol : (othersL l s).length ≤ 1000000 := Nat.le_trans (List.length_filter_le _ _) hl
    replace r0 := cellAt r0 hb6 (by omega)
    replace r1 := cellAt r1 hb6 (by omega)
    replace r2 := cellAt r2 hb6 (by omega)
    replace r3 := cellAt r3 hb6 (by omega)
    replace z0 := froAt z0 hb6 (by omega)
    replace z1 := froAt z1 hb6 (by omega)
    replace z2 := froAt z2 hb6 (by omega)
    replace z3 := froAt z3 hb6 (by omega)
    replace y0 := cellAt y0 hb6 (by omega)
    replace y1 := cellAt y1 hb6 (by omega)
    replace y2 := cellAt y2 hb6 (by omega)
    replace y3 := cellAt y3 hb6 (by omega)
    replace Hr := Lib.hid (Hr.out.at hb6)
    replace n1 : w.heap.size < w6.heap.size := ltAt n1 hb6
    replace n4 : w3.heap.size < w6.heap.size := ltAt n4 hb6
    clear ho6 hb6 HO5 HB5 HSy
    have HNil := Lib.hid (fun h => HStep.out (both_nil (p := (s, t, n, b)) h))
    have HFr := Lib.hid (fun h => HFree.out (both_is (p := (s, t, n, b)) HT2.out h))
    have HSt := Lib.hid (fun h => HStop.out (both_is (p := (s, t, n, b)) HT2.out h))
    simp only at HNil HFr HSt
    clear HStep HFree HStop
    generalize othersL l s = O at *
    by_cases h0 : O.length = 0
    ·have hO := List.length_eq_zero_iff.1 h0
     have HN := Lib.hid (HNil.out hO)
     subst hO
     go_wp2_with fail
     go_roundw
     case rel => exact ⟨k + 1, by omega, by go_num, HN.out, HB6.out⟩
     case measure => simp [intOf]; omega
    ·have hne : O ≠ [] := fun e => h0 (by rw [e]; rfl)
     have HFr2 := Lib.hid (HFr.out hne)
     have HSt2 := Lib.hid (HSt.out hne)
     have hd0 : ((O.length : Int) == 0) = false := by rw [beq_eq_false_iff_ne]; omega
     clear hne HFr HSt HNil h0
     go_wp2_with fail
     refine (IndexFuncP A6 c6 O _ _ (fun p => !p.2.2.1) w6.heap.size w6 w6 HR6.out hol (says_clash2 _ _) (Below.refl _ _) (Nat.le_refl _)).mono ?_
     rintro e w7 ⟨rr, rfl, hcase, hb7⟩
     have HB7 := Lib.hid (lift HB6.out hb7)
     replace r0 := cellAt r0 hb7 (by omega)
     replace r1 := cellAt r1 hb7 (by omega)
     replace r2 := cellAt r2 hb7 (by omega)
     replace r3 := cellAt r3 hb7 (by omega)
     replace z0 := froAt z0 hb7 (by omega)
     replace z1 := froAt z1 hb7 (by omega)
     replace z2 := froAt z2 hb7 (by omega)
     replace z3 := froAt z3 hb7 (by omega)
     replace y0 := cellAt y0 hb7 (by omega)
     replace y1 := cellAt y1 hb7 (by omega)
     replace y2 := cellAt y2 hb7 (by omega)
     replace y3 := cellAt y3 hb7 (by omega)
     replace Hr := Lib.hid (Hr.out.at hb7)
     replace n1 : w.heap.size < w7.heap.size := ltAt n1 hb7
     replace n4 : w3.heap.size < w7.heap.size := ltAt n4 hb7
     replace HR6 := Lib.hid (HR6.out.at hb7)
     clear hb7
     have hz7 := HB7.out.size
     rcases hcase with ⟨rfl, hnone⟩ | ⟨j, hj, rfl, hfind, _, _⟩
     ·have HC := Lib.hid (HSt2.out hnone)
      have hbw := Lib.hid (lift HB1.out HB7.out)
      clear hnone
      go_wp2_with fail
      refine bodyPost_ret (v := .tuple #[plV (s, t, n, b), .bool true]) (by simp only [results, Tryz.results148]; go_simp) rfl ⟨by rw [HC.out]; rfl, (((hbw.out.setCell (by simp) _).setCell (by simp) _).setCell (by simp) _).setCell (by simp) _⟩
     ·obtain ⟨b8, o8, hA8, hB8, q0, q1, q2, q3⟩ := HR6.out.pl hj
      subst hA8
      have HC := Lib.hid (HFr2.out _ hfind)
      generalize O[j] = q at q0 q1 q2 q3 HC
      obtain ⟨s', t', n', b'⟩ := q
      simp only at q0 q1 q2 q3
      have hbw := Lib.hid (lift HB1.out HB7.out)
      have j1 : (0 : Int) ≤ (j : Int) := by omega
      have j2 : (j : Int) < (O.length : Int) := by omega
      have j3 : IntKind.i64.wrap (j : Int) = j := IntWalk.i64_in _ (by omega)
      clear hfind
      go_wp2_with fail
      refine bodyPost_ret (v := .tuple #[plV (s', t', n', b'), .bool true]) (by simp only [results, Tryz.results148]; go_simp) rfl ⟨by rw [HC.out]; rfl, (((hbw.out.setCell (by simp) _).setCell (by simp) _).setCell (by simp) _).setCell (by simp) _⟩
  ·obtain rfl : k = l.length := by omega
   have hf := HK.out
   rw [List.take_length] at hf
   have HC := Lib.hid (clash_none hf)
   have hbw := Lib.hid (lift HB1.out HBl.out)
   have hz3 := HBl.out.size
   clear hf
   go_wp2_with fail
   refine bodyPost_ret (v := .tuple #[plV ([], 0, false, []), .bool false]) (by simp only [results, Tryz.results148]; go_simp) rfl ⟨by rw [HC.out]; rfl, (((hbw.out.setCell (by simp) _).setCell (by simp) _).setCell (by simp) _).setCell (by simp) _⟩
end Od
end Go.Proofs.YtbllehjhmfehbaaGreat
end

section
/- (*maker).step: lets the next job go, if there is one. (bel2) -/
namespace Go.Proofs.YtbllehjhmfehbaaGreat
open Go.RowKit Go.Sort Go.Maps
set_option linter.unusedSimpArgs false
namespace Od
section
variable {ns : List Nd} {es : List Ed} {up : List Str} {l : List Pl} {k : Nat}
theorem bad_sick (hk : k < l.length) (h0 : (l.take k).any (sickP ns) = false) (h : sickP ns l[k] = true) : badP ns es up l = some (l[k], sickE ns l[k].1) := by
 unfold badP; rw [find_at hk h0 h]
theorem bad_lack (h1 : l.any (sickP ns) = false) (hk : k < l.length) (h0 : (l.take k).any (lackP es up l) = false) (h : lackP es up l l[k] = true) : badP ns es up l = some (l[k], 19) := by
 unfold badP; rw [find_none_take h1, find_at hk h0 h]
theorem bad_clash (h1 : l.any (sickP ns) = false) (h2 : l.any (lackP es up l) = false) : badP ns es up l = (clashOf l).map (fun p => (p, 18)) := by
 unfold badP; rw [find_none_take h1, find_none_take h2]; cases clashOf l <;> rfl
end
def StepD (w : World) (mb : Nat) (An Ae Au Ah : Option Addr) (cn ce cu ch : Nat) (ns : List Nd) (es : List Ed) (up half : List Str) (u : Str) (t : Int) (gone : List Pl) (bad : Option (Pl × Int)) (r : Int) (w' : World) : Prop :=
 match bad with
 | none => r = 0 ∧ Below w.heap.size w w'
 | some (p, e) => DropD w mb An Ae Au Ah cn ce cu ch ns es up half u t gone p e r w'
def Stepped (w : World) (mb : Nat) (An Ae Au Ah : Option Addr) (cn ce cu ch : Nat) (ns : List Nd) (es : List Ed) (up half : List Str) (u : Str) (t : Int) (gone : List Pl) (bad : Option (Pl × Int)) (en : Ending) (w' : World) : Prop :=
 ∃ r : Int, en = .returned (.int .i64 r) ∧ StepD w mb An Ae Au Ah cn ce cu ch ns es up half u t gone bad r w'
set_option maxRecDepth 100000 in
set_option maxHeartbeats 8000000 in
theorem step_any (mb : Nat) (An Ae Au Ah A : Option Addr) (cn ce cu ch c : Nat) (ns : List Nd) (es : List Ed) (up half : List Str) (u : Str) (t : Int) (v : Value) (gone l : List Pl) (w : World)
  (hF : MkF w mb An Ae Au Ah cn ce cu ch ns es up half u t) (hG : MkG w mb v gone) (hl : gone.length ≤ 1000000) (hr : Rd w w.heap.size 4 A l.length (plsC l)) (hll : l.length ≤ 1000000) :
  Calls Tryz.prog 107 #[.pointer (some ⟨mb, 0, none⟩), .slice A l.length c] w (Stepped w mb An Ae Au Ah cn ce cu ch ns es up half u t gone (badP ns es up l)) := by
 have HF := Lib.hid hF
 have HG := Lib.hid hG
 have Hr := Lib.hid hr
 have hmb := hG.lt
 have hmw := Nat.le_of_lt hG.lt
 have hnl := hF.ln
 have hel := hF.le
 clear hF hG hr
 go_enter Tryz.func107, Tryz.ntmps107
 go_wp2_with fail
 go_loopw [14] (fun i wr => ∃ k : Nat, k ≤ l.length ∧ i = .int .i64 k ∧ Hid ((l.take k).any (sickP ns) = false) ∧ Hid (Below w.heap.size w wr)) (fun i _ => l.length - (intOf i).toNat)
 case atStart => exact ⟨0, Nat.zero_le _, rfl, by simp [Hid], Below.refl _ _⟩
 case round =>
  obtain ⟨k, hk, rfl, HK, HBl⟩ := hrel
  obtain ⟨w3, rfl⟩ : ∃ wo : World, wo = wr := ⟨_, rfl⟩
  replace HF := Lib.hid (HF.out.on HBl.out)
  replace HG := Lib.hid (HG.out.on HBl.out)
  replace Hr := Lib.hid (Hr.out.at HBl.out)
  replace hmb : mb < w3.heap.size := ltAt hmb HBl.out
  by_cases hlt : k < l.length
  ·obtain ⟨b2, o2, hA, hB2, x0, x1, x2, x3⟩ := Hr.out.pl hlt
   subst hA
   have hst := any_take_succ (p := sickP ns) hlt
   rw [HK.out, Bool.false_or] at hst
   have HHit := Lib.hid (fun h => bad_sick (es := es) (up := up) hlt HK.out h)
   generalize l[k] = p at x0 x1 x2 x3 hst HHit
   obtain ⟨s, t', n, b⟩ := p
   simp only at x0 x1 x2 x3 HHit
   have HSt := Lib.hid hst
   have i1 : (0 : Int) ≤ (k : Int) := by omega
   have i2 : (k : Int) < (l.length : Int) := by omega
   clear hst
   go_wp2_with fail
   first | (refine wp_named ?_; intro W4 hW) | (refine calls_named ?_; intro W4 hW)
   have B4 : Below w3.heap.size w3 W4 := by rw [hW]; exact bq2
   replace HF := Lib.hid (HF.out.on B4)
   replace HG := Lib.hid (HG.out.on B4)
   replace Hr := Lib.hid (Hr.out.at B4)
   replace hmb : mb < W4.heap.size := ltAt hmb B4
   have n4 : w3.heap.size < W4.heap.size := by rw [hW]; simp <;> omega
   have y0 : W4.cell? ⟨w3.heap.size, 0, none⟩ = some (sv s) := by rw [hW]; go_simp
   have y1 : W4.cell? ⟨w3.heap.size, 1, none⟩ = some (.int .i64 t') := by rw [hW]; go_simp
   have y2 : W4.cell? ⟨w3.heap.size, 2, none⟩ = some (.bool n) := by rw [hW]; go_simp
   have y3 : W4.cell? ⟨w3.heap.size, 3, none⟩ = some (sv b) := by rw [hW]; go_simp
   clear hW
   have HB4 := Lib.hid (lift HBl.out B4)
   clear B4 x0 x1 x2 x3
   refine (lack_any An Ae es.length cn ce mb ns s W4 HF.out.c0 HF.out.c1 HF.out.in.1.rn (by omega)).mono ?_
   rintro e w5 ⟨rfl, hb⟩
   have HB5 := Lib.hid (lift HB4.out hb)
   replace y0 := cellAt y0 hb (by omega)
   replace y1 := cellAt y1 hb (by omega)
   replace y2 := cellAt y2 hb (by omega)
   replace y3 := cellAt y3 hb (by omega)
   replace HF := Lib.hid (HF.out.on hb)
   replace HG := Lib.hid (HG.out.on hb)
   replace Hr := Lib.hid (Hr.out.at hb)
   replace hmb : mb < w5.heap.size := ltAt hmb hb
   replace n4 : w3.heap.size < w5.heap.size := ltAt n4 hb
   clear hb
   have HLe := Lib.hid (show lackE ns s = if stN ns s = 1 then 0 else sickE ns s from rfl)
   generalize lackE ns s = le at *
   go_wp2_with fail
   refine (starts_any s t' n b w5).mono ?_
   rintro e w6 ⟨rfl, hb⟩
   have HB6 := Lib.hid (lift HB5.out hb)
   replace y0 := cellAt y0 hb (by omega)
   replace y1 := cellAt y1 hb (by omega)
   replace y2 := cellAt y2 hb (by omega)
   replace y3 := cellAt y3 hb (by omega)
   replace HF := Lib.hid (HF.out.on hb)
   replace HG := Lib.hid (HG.out.on hb)
   replace Hr := Lib.hid (Hr.out.at hb)
   replace hmb : mb < w6.heap.size := ltAt hmb hb
   replace n4 : w3.heap.size < w6.heap.size := ltAt n4 hb
   clear hb
   have HSk := Lib.hid (show sickP ns (s, t', n, b) = (beginsP (s, t', n, b) && stN ns s != 1) from rfl)
   generalize beginsP (s, t', n, b) = bg at *
   cases bg
   ·have HN := Lib.hid (show (l.take (k + 1)).any (sickP ns) = false by rw [HSt.out, HSk.out]; rfl)
    go_wp2_with fail
    go_roundw
    case rel => exact ⟨k + 1, by omega, by go_num, HN.out, HB6.out⟩
    case measure => simp [intOf]; omega
   ·by_cases hs1 : stN ns s = 1
    ·have HN := Lib.hid (show (l.take (k + 1)).any (sickP ns) = false by rw [HSt.out, HSk.out, hs1]; rfl)
     have hle := HLe.out
     rw [if_pos hs1] at hle
     clear hs1 HLe
     subst hle
     go_wp2_with fail
     go_roundw
     case rel => exact ⟨k + 1, by omega, by go_num, HN.out, HB6.out⟩
     case measure => simp [intOf]; omega
    ·have HBad := Lib.hid (HHit.out (by rw [HSk.out]; simp [bne, hs1]))
     have hle := HLe.out
     rw [if_neg hs1] at hle
     have hne : (le != 0) = true := by
      rw [hle]
      unfold sickE
      split
      ·rfl
      ·split <;> rfl
     have HLe2 := Lib.hid hle
     clear hs1 hle HLe
     go_wp2_with fail
     refine (drop_any mb An Ae Au Ah cn ce cu ch ns es up half u t v gone s t' n b le w6 HF.out HG.out hl).mono ?_
     rintro e w7 ⟨r, rfl, hd⟩
     have HD := Lib.hid hd
     clear hd
     go_wp2_with fail
     go_ret
     have hd := HD.out.back HB6.out hmw
     rw [HLe2.out] at hd
     refine ⟨r, rfl, ?_⟩
     rw [HBad.out]
     exact hd
  ·obtain rfl : k = l.length := by omega
   have hf := HK.out
   rw [List.take_length] at hf
   have HSick := Lib.hid hf
   have HB3 := Lib.hid HBl.out
   clear hf HK HBl
   go_wp2_with fail
   go_loopw [35] (fun i wr => ∃ k : Nat, k ≤ l.length ∧ i = .int .i64 k ∧ Hid ((l.take k).any (lackP es up l) = false) ∧ Hid (Below w3.heap.size w3 wr)) (fun i _ => l.length - (intOf i).toNat)
   case atStart => exact ⟨0, Nat.zero_le _, rfl, by simp [Hid], Below.refl _ _⟩
   case round =>
    obtain ⟨k, hk, rfl, HK, HBl⟩ := hrel
    obtain ⟨w4, rfl⟩ : ∃ wo : World, wo = wr := ⟨_, rfl⟩
    replace HF := Lib.hid (HF.out.on HBl.out)
    replace HG := Lib.hid (HG.out.on HBl.out)
    replace Hr := Lib.hid (Hr.out.at HBl.out)
    replace hmb : mb < w4.heap.size := ltAt hmb HBl.out
    by_cases hlt : k < l.length
    ·obtain ⟨b2, o2, hA, hB2, x0, x1, x2, x3⟩ := Hr.out.pl hlt
     have hst := any_take_succ (p := lackP es up l) hlt
     rw [HK.out, Bool.false_or] at hst
     have HHit := Lib.hid (fun h => bad_lack (ns := ns) HSick.out hlt HK.out h)
     subst hA
     generalize l[k] = p at x0 x1 x2 x3 hst HHit
     obtain ⟨s, t', n, b⟩ := p
     simp only at x0 x1 x2 x3 HHit
     have HSt := Lib.hid hst
     have i1 : (0 : Int) ≤ (k : Int) := by omega
     have i2 : (k : Int) < (l.length : Int) := by omega
     clear hst
     go_wp2_with fail
     first | (refine wp_named ?_; intro W5 hW) | (refine calls_named ?_; intro W5 hW)
     have B5 : Below w4.heap.size w4 W5 := by rw [hW]; exact bq2
     replace HF := Lib.hid (HF.out.on B5)
     replace HG := Lib.hid (HG.out.on B5)
     replace Hr := Lib.hid (Hr.out.at B5)
     replace hmb : mb < W5.heap.size := ltAt hmb B5
     have n5 : w4.heap.size < W5.heap.size := by rw [hW]; simp <;> omega
     have y0 : W5.cell? ⟨w4.heap.size, 0, none⟩ = some (sv s) := by rw [hW]; go_simp
     have y1 : W5.cell? ⟨w4.heap.size, 1, none⟩ = some (.int .i64 t') := by rw [hW]; go_simp
     have y2 : W5.cell? ⟨w4.heap.size, 2, none⟩ = some (.bool n) := by rw [hW]; go_simp
     have y3 : W5.cell? ⟨w4.heap.size, 3, none⟩ = some (sv b) := by rw [hW]; go_simp
     clear hW
     have HB5 := Lib.hid (lift HBl.out B5)
     clear B5 x0 x1 x2 x3
     refine (starts_any s t' n b W5).mono ?_
     rintro e w6 ⟨rfl, hb⟩
     have HB6 := Lib.hid (lift HB5.out hb)
     replace y0 := cellAt y0 hb (by omega)
     replace y1 := cellAt y1 hb (by omega)
     replace y2 := cellAt y2 hb (by omega)
     replace y3 := cellAt y3 hb (by omega)
     replace HF := Lib.hid (HF.out.on hb)
     replace HG := Lib.hid (HG.out.on hb)
     replace Hr := Lib.hid (Hr.out.at hb)
     replace hmb : mb < w6.heap.size := ltAt hmb hb
     replace n5 : w4.heap.size < w6.heap.size := ltAt n5 hb
     clear hb
     have HSk := Lib.hid (show lackP es up l (s, t', n, b) = (beginsP (s, t', n, b) && missP es up l s) from rfl)
     generalize beginsP (s, t', n, b) = bg at *
     cases bg
     ·have HN := Lib.hid (show (l.take (k + 1)).any (lackP es up l) = false by rw [HSt.out, HSk.out]; rfl)
      go_wp2_with fail
      go_roundw
      case rel => exact ⟨k + 1, by omega, by go_num, HN.out, HB6.out⟩
      case measure => simp [intOf]; omega
     ·go_wp2_with fail
      refine (missing_any An Ae Au _ ns.length cn ce cu c mb es up l s w6 HF.out.c0 HF.out.c1 HF.out.c2 HF.out.in.1.re (by omega) HF.out.in.2.u Hr.out hll).mono ?_
      rintro e w7 ⟨rfl, hb⟩
      have HB7 := Lib.hid (lift HB6.out hb)
      replace y0 := cellAt y0 hb (by omega)
      replace y1 := cellAt y1 hb (by omega)
      replace y2 := cellAt y2 hb (by omega)
      replace y3 := cellAt y3 hb (by omega)
      replace HF := Lib.hid (HF.out.on hb)
      replace HG := Lib.hid (HG.out.on hb)
      replace Hr := Lib.hid (Hr.out.at hb)
      replace hmb : mb < w7.heap.size := ltAt hmb hb
      replace n5 : w4.heap.size < w7.heap.size := ltAt n5 hb
      clear hb
      cases hm : missP es up l s
      ·have HN := Lib.hid (show (l.take (k + 1)).any (lackP es up l) = false by rw [HSt.out, HSk.out, hm]; rfl)
       go_wp2_with fail
       go_roundw
       case rel => exact ⟨k + 1, by omega, by go_num, HN.out, HB7.out⟩
       case measure => simp [intOf]; omega
      ·have HBad := Lib.hid (HHit.out (by rw [HSk.out, hm]; rfl))
       go_wp2_with fail
       refine (drop_any mb An Ae Au Ah cn ce cu ch ns es up half u t v gone s t' n b 19 w7 HF.out HG.out hl).mono ?_
       rintro e w8 ⟨r, rfl, hd⟩
       have HD := Lib.hid hd
       clear hd
       go_wp2_with fail
       go_ret
       refine ⟨r, rfl, ?_⟩
       rw [HBad.out]
       exact HD.out.back (lift HB3.out HB7.out) hmw
    ·obtain rfl : k = l.length := by omega
     have hf := HK.out
     rw [List.take_length] at hf
     have HLack := Lib.hid hf
     have HB4 := Lib.hid (lift HB3.out HBl.out)
     clear hf
     go_wp2_with fail
     refine (clash_any A c l w4 Hr.out hll).mono ?_
     rintro e w5 ⟨rfl, hb⟩
     have HB5 := Lib.hid (lift HB4.out hb)
     replace HF := Lib.hid (HF.out.on hb)
     replace HG := Lib.hid (HG.out.on hb)
     replace Hr := Lib.hid (Hr.out.at hb)
     replace hmb : mb < w5.heap.size := ltAt hmb hb
     clear hb
     have HBad := Lib.hid (bad_clash HSick.out HLack.out)
     have hz5 := HB5.out.size
     cases hc : clashOf l with
     | none =>
      unfold pullV
      go_wp2_with fail
      go_ret
      refine ⟨0, rfl, ?_⟩
      rw [HBad.out, hc]
      exact ⟨rfl, HB5.out.alloc hz5 _⟩
     | some p =>
      obtain ⟨s, t', n, b⟩ := p
      unfold pullV
      go_wp2_with fail
      first | (refine wp_named ?_; intro W6 hW) | (refine calls_named ?_; intro W6 hW)
      have B6 : Below w5.heap.size w5 W6 := by rw [hW]; exact bq2
      replace HF := Lib.hid (HF.out.on B6)
      replace HG := Lib.hid (HG.out.on B6)
      replace Hr := Lib.hid (Hr.out.at B6)
      replace hmb : mb < W6.heap.size := ltAt hmb B6
      clear hW
      have HB6 := Lib.hid (lift HB5.out B6)
      clear B6
      refine (drop_any mb An Ae Au Ah cn ce cu ch ns es up half u t v gone s t' n b 18 W6 HF.out HG.out hl).mono ?_
      rintro e w8 ⟨r, rfl, hd⟩
      have HD := Lib.hid hd
      clear hd
      go_wp2_with fail
      go_ret
      refine ⟨r, rfl, ?_⟩
      rw [HBad.out, hc]
      exact HD.out.back HB6.out hmw
end Od
end Go.Proofs.YtbllehjhmfehbaaGreat
end
