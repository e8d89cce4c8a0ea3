/- My texts, joined for the claim: TWrong TAllW TBuildM SortJob TSortJ TBuildW TSame TComp. -/
import Derived.Test.YtbllehjhmfehbaaGreatZU1
import Derived.Test.YtbllehjhmfehbaaGreatZU7
import Derived.Test.YtbllehjhmfehbaaGreatZU6
import Derived.Shelf.SlSortCmp.NoneTotal
import Derived.Ground.SlsfProg
import Derived.Test.YtbllehjhmfehbaaGreatProg
import Derived.Test.YtbllehjhmfehbaaGreatZU3
import Derived.Test.YtbllehjhmfehbaaGreatZU0
import Derived.Test.YtbllehjhmfehbaaGreatZU4
import Derived.Test.YtbllehjhmfehbaaGreatZU2

section
/- (*maker).wrong: what is wrong with what is asked for. (bel2) -/
namespace Go.Proofs.YtbllehjhmfehbaaGreat
open Go.RowKit Go.Sort Go.Maps
set_option linter.unusedSimpArgs false
namespace Od
theorem wrong_form {ns : List Nd} {es : List Ed} {up : List Str} {k : Jp} (h : mayG ns es = false) : wrongT ns es up k = 1 := by unfold wrongT; rw [if_pos h]
theorem wrong_kind {ns : List Nd} {es : List Ed} {up : List Str} {k : Jp} (h : mayG ns es = true) (h2 : ¬ (1 ≤ k.2 ∧ k.2 ≤ 4)) : wrongT ns es up k = 3 := by unfold wrongT; rw [if_neg (by rw [h]; simp), if_pos h2]
theorem wrong_none {ns : List Nd} {es : List Ed} {up : List Str} {k : Jp} (h : mayG ns es = true) (h2 : 1 ≤ k.2 ∧ k.2 ≤ 4) (h3 : (nodeOf ns k.1).isSome = false) : wrongT ns es up k = 6 := by unfold wrongT; rw [if_neg (by rw [h]; simp), if_neg (fun x => x h2), if_pos h3]
theorem wrong_idle {ns : List Nd} {es : List Ed} {up : List Str} {k : Jp} (h : mayG ns es = true) (h2 : 1 ≤ k.2 ∧ k.2 ≤ 4) (h3 : (nodeOf ns k.1).isSome = true) : wrongT ns es up k = if (k.2 == 4 && !hasB up k.1) = true then 20 else 0 := by unfold wrongT; rw [if_neg (by rw [h]; simp), if_neg (fun x => x h2), if_neg (by rw [h3]; simp)]
set_option maxRecDepth 100000 in
set_option maxHeartbeats 8000000 in
theorem wrong_any (mb : Nat) (An Ae Au Ah : Option Addr) (cn ce cu ch : Nat) (ns : List Nd) (es : List Ed) (up half : List Str) (u : Str) (t : Int) (w : World)
  (hF : MkF w mb An Ae Au Ah cn ce cu ch ns es up half u t) :
  Calls Tryz.prog 106 #[.pointer (some ⟨mb, 0, none⟩)] w fun e w' => e = .returned (.int .i64 (wrongT ns es up (u, t))) ∧ Below w.heap.size w w' := by
 have HF := Lib.hid hF
 have k0 := hF.c0
 have k1 := hF.c1
 have k2 := hF.c2
 have k4 := hF.c4
 have k5 := hF.c5
 have hmb := hF.lt
 have hnl := hF.ln
 have hel := hF.le
 clear hF
 go_enter Tryz.func106, Tryz.ntmps106
 go_wp2_with fail
 refine wp_region_held_drew (S := fun w' => Below w.heap.size w w') (by kernel_rfl) (Below.drew (Below.refl _ _)) (fun hHeld => ?_)
 refine tV 0 ?_ ?zq ?_; (case zq => intro w' hSw; have hCell := fun (b o : Nat) (h : b < w.heap.size) => hSw.cell (p := ⟨b, o, none⟩) h; clear hSw; go_simp; try with_reducible rfl); try simp only [Act.put, zn1, zn2, zn3]
 refine tV 1 ?_ ?zq ?_; (case zq => intro w' hSw; have hCell := fun (b o : Nat) (h : b < w.heap.size) => hSw.cell (p := ⟨b, o, none⟩) h; clear hSw; go_simp; try with_reducible rfl); try simp only [Act.put, zn1, zn2, zn3]
 refine tV 2 ?_ ?zq ?_; (case zq => intro w' hSw; have hCell := fun (b o : Nat) (h : b < w.heap.size) => hSw.cell (p := ⟨b, o, none⟩) h; clear hSw; go_simp; try with_reducible rfl); try simp only [Act.put, zn1, zn2, zn3]
 refine tV 3 ?_ ?zq ?_; (case zq => intro w' hSw; have hCell := fun (b o : Nat) (h : b < w.heap.size) => hSw.cell (p := ⟨b, o, none⟩) h; clear hSw; go_simp; try with_reducible rfl); try simp only [Act.put, zn1, zn2, zn3]
 refine tV 4 ?_ ?zq ?_; (case zq => intro w' hSw; have hCell := fun (b o : Nat) (h : b < w.heap.size) => hSw.cell (p := ⟨b, o, none⟩) h; clear hSw; go_simp; try with_reducible rfl); try simp only [Act.put, zn1, zn2, zn3]
 refine tV 5 ?_ ?zq ?_; (case zq => intro w' hSw; have hCell := fun (b o : Nat) (h : b < w.heap.size) => hSw.cell (p := ⟨b, o, none⟩) h; clear hSw; go_simp; try with_reducible rfl); try simp only [Act.put, zn1, zn2, zn3]
 refine tV 6 ?_ ?zq ?_; (case zq => intro w' hSw; have hCell := fun (b o : Nat) (h : b < w.heap.size) => hSw.cell (p := ⟨b, o, none⟩) h; clear hSw; go_simp; try with_reducible rfl); try simp only [Act.put, zn1, zn2, zn3]
 refine tV 7 ?_ ?zq ?_; (case zq => intro w' hSw; have hCell := fun (b o : Nat) (h : b < w.heap.size) => hSw.cell (p := ⟨b, o, none⟩) h; clear hSw; go_simp; try with_reducible rfl); try simp only [Act.put, zn1, zn2, zn3]
 refine ready_twoT (i := 8) (j := 12) rfl rfl (by kernel_rfl) (fun K hK => ?_) (fun K hK => ?_)
 ·go_simp
  refine (Node_any An Ae es.length cn ce ns u _ (HF.out.on hHeld).in.1.rn (by omega)).mono ?_
  rintro e v5 ⟨rfl, hb⟩
  have hb45 := Below.trans hHeld (Below.mono hb hHeld.size)
  have hz5 := hb45.size
  clear hb
  unfold nodeV
  refine hK.out _ _ ?_ (fun hHeld2 => ?_)
  ·(try dsimp only); exact hb45
  clear hK K hHeld; have hHeld := hHeld2; clear hHeld2; (try simp only [Act.put, zn1, zn2, zn3])
  refine tV 9 ?_ ?zq ?_; (case zq => intro w' hSw; have hCell := fun (b o : Nat) (h : b < w.heap.size) => hSw.cell (p := ⟨b, o, none⟩) h; clear hSw; go_simp; try with_reducible rfl); try simp only [Act.put, zn1, zn2, zn3]
  refine tV 10 ?_ ?zq ?_; (case zq => intro w' hSw; have hCell := fun (b o : Nat) (h : b < w.heap.size) => hSw.cell (p := ⟨b, o, none⟩) h; clear hSw; go_simp; try with_reducible rfl); try simp only [Act.put, zn1, zn2, zn3]
  refine tV 11 ?_ ?zq ?_; (case zq => intro w' hSw; have hCell := fun (b o : Nat) (h : b < w.heap.size) => hSw.cell (p := ⟨b, o, none⟩) h; clear hSw; go_simp; try with_reducible rfl); try simp only [Act.put, zn1, zn2, zn3]
  refine ready_one (i := 12) rfl (by kernel_rfl) (fun K hK => ?_)
  go_simp
  refine hK.out _ _ ?_ (fun hHeld2 => ?_)
  ·(try dsimp only); exact (hb45.alloc hz5 _)
  clear hK K hHeld; have hHeld := hHeld2; clear hHeld2; (try simp only [Act.put, zn1, zn2, zn3])
  refine ready_one (i := 13) rfl (by kernel_rfl) (fun K hK => ?_)
  go_simp
  refine hK.out _ _ ?_ (fun hHeld2 => ?_)
  ·(try dsimp only); exact (bq2)
  clear hK K hHeld; have hHeld := hHeld2; clear hHeld2; (try simp only [Act.put, zn1, zn2, zn3])
  refine tV 14 ?_ ?zq ?_; (case zq => intro w' hSw; have hCell := fun (b o : Nat) (h : b < w.heap.size) => hSw.cell (p := ⟨b, o, none⟩) h; clear hSw; go_simp; try with_reducible rfl); try simp only [Act.put, zn1, zn2, zn3]
  refine wpAnyH_done (by kernel_rfl) ?_ _
  refine exit_namedT ?_
  intro W6 hW6
  have hb6 : Below w.heap.size w W6 := by rw [hW6]; exact hHeld
  clear hW6 hHeld
  have HB6 := Lib.hid hb6
  have HF6 := Lib.hid (HF.out.on hb6)
  have d0 := cellAt k0 hb6 hmb
  have d1 := cellAt k1 hb6 hmb
  have d2 := cellAt k2 hb6 hmb
  have d4 := cellAt k4 hb6 hmb
  have d5 := cellAt k5 hb6 hmb
  have hm6 := ltAt hmb hb6
  clear hb6
  go_wp2_with fail
  refine (MayGB_any An Ae cn ce ns es W6 HF6.out.in.1 (by omega)).mono ?_
  rintro e w7 ⟨rfl, hb⟩
  have HB7 := Lib.hid (lift HB6.out hb)
  have HF7 := Lib.hid (HF6.out.on hb)
  replace d1 := cellAt d1 hb hm6
  replace d2 := cellAt d2 hb hm6
  replace d4 := cellAt d4 hb hm6
  replace d5 := cellAt d5 hb hm6
  have hm7 := ltAt hm6 hb
  clear hb d0
  cases hmay : mayG ns es
  ·have HW := Lib.hid (wrong_form (up := up) (k := (u, t)) hmay)
   go_wp2_with fail
   go_ret
   exact ⟨by rw [HW.out]; rfl, HB7.out⟩
  ·have HMay := Lib.hid hmay
   clear hmay
   by_cases h1 : t < 1
   ·have e1 : decide (t < 1) = true := by simpa using h1
    have HW := Lib.hid (wrong_kind (up := up) (k := (u, t)) HMay.out (fun h => absurd h.1 (by simp only; omega)))
    clear h1
    go_wp2_with fail
    go_ret
    exact ⟨by rw [HW.out]; rfl, HB7.out⟩
   ·have e1 : decide (t < 1) = false := by simpa using h1
    by_cases h4 : 4 < t
    ·have e4 : decide (4 < t) = true := by simpa using h4
     have HW := Lib.hid (wrong_kind (up := up) (k := (u, t)) HMay.out (fun h => absurd h.2 (by simp only; omega)))
     clear h1 h4
     go_wp2_with fail
     go_ret
     exact ⟨by rw [HW.out]; rfl, HB7.out⟩
    ·have e4 : decide (4 < t) = false := by simpa using h4
     have HT := Lib.hid (show 1 ≤ t ∧ t ≤ 4 by omega)
     clear h1 h4
     cases hno : (nodeOf ns u).isSome
     ·have HW := Lib.hid (wrong_none (up := up) (k := (u, t)) HMay.out HT.out hno)
      go_wp2_with fail
      go_ret
      exact ⟨by rw [HW.out]; rfl, HB7.out⟩
     ·have HW0 := Lib.hid (wrong_idle (up := up) (k := (u, t)) HMay.out HT.out hno)
      cases h44 : (t == 4)
      ·have HW := Lib.hid (show wrongT ns es up (u, t) = 0 by rw [HW0.out]; simp only [h44]; rfl)
       try go_wp2_with fail
       refine wp_region_held_drew (S := fun w' => Below w7.heap.size w7 w') (by kernel_rfl) (Below.drew (Below.refl _ _)) (fun hHeld => ?_)
       refine tV 0 ?_ ?zq ?_; (case zq => rintro _ -; go_simp; try with_reducible rfl); try simp only [Act.put, zn1, zn2, zn3]
       refine tV 1 ?_ ?zq ?_; (case zq => rintro _ -; go_simp; try with_reducible rfl); try simp only [Act.put, zn1, zn2, zn3]
       refine tV 2 ?_ ?zq ?_; (case zq => rintro _ -; go_simp; try with_reducible rfl); try simp only [Act.put, zn1, zn2, zn3]
       refine tV 3 ?_ ?zq ?_; (case zq => intro w' hSw; have hCell := fun (b o : Nat) (h : b < w7.heap.size) => hSw.cell (p := ⟨b, o, none⟩) h; clear hSw; go_simp; try with_reducible rfl); try simp only [Act.put, zn1, zn2, zn3]
       refine tV 4 ?_ ?zq ?_; (case zq => rintro _ -; go_simp; try with_reducible rfl); try simp only [Act.put, zn1, zn2, zn3]
       refine tV 5 ?_ ?zq ?_; (case zq => rintro _ -; go_simp; try with_reducible rfl); try simp only [Act.put, zn1, zn2, zn3]
       refine tS (i := 6) rfl hHeld ?_; (try simp only [Act.put, zn1, zn2, zn3])
       refine tS (i := 7) rfl hHeld ?_; (try simp only [Act.put, zn1, zn2, zn3])
       refine tS (i := 8) rfl hHeld ?_; (try simp only [Act.put, zn1, zn2, zn3])
       refine tS (i := 9) rfl hHeld ?_; (try simp only [Act.put, zn1, zn2, zn3])
       refine tS (i := 10) rfl hHeld ?_; (try simp only [Act.put, zn1, zn2, zn3])
       refine tS (i := 11) rfl hHeld ?_; (try simp only [Act.put, zn1, zn2, zn3])
       refine tS (i := 12) rfl hHeld ?_; (try simp only [Act.put, zn1, zn2, zn3])
       refine tS (i := 13) rfl hHeld ?_; (try simp only [Act.put, zn1, zn2, zn3])
       refine tS (i := 14) rfl hHeld ?_; (try simp only [Act.put, zn1, zn2, zn3])
       refine tS (i := 15) rfl hHeld ?_; (try simp only [Act.put, zn1, zn2, zn3])
       refine tS (i := 16) rfl hHeld ?_; (try simp only [Act.put, zn1, zn2, zn3])
       refine tV 17 ?_ ?zq ?_; (case zq => rintro _ -; go_simp; try with_reducible rfl); try simp only [Act.put, zn1, zn2, zn3]
       refine tV 18 ?_ ?zq ?_; (case zq => rintro _ -; go_simp; try with_reducible rfl); try simp only [Act.put, zn1, zn2, zn3]
       refine wpAnyH_done (by kernel_rfl) ?_ _
       go_wp2_with fail
       go_ret
       exact ⟨by rw [HW.out]; rfl, lift HB7.out hHeld⟩
      ·skip
       cases hup : hasB up u
       ·have HW := Lib.hid (show wrongT ns es up (u, t) = 20 by rw [HW0.out]; simp only [h44, hup]; rfl)
        try go_wp2_with fail
        refine wp_region_held_drew (S := fun w' => Below w7.heap.size w7 w') (by kernel_rfl) (Below.drew (Below.refl _ _)) (fun hHeld => ?_)
        refine tV 0 ?_ ?zq ?_; (case zq => rintro _ -; go_simp; try with_reducible rfl); try simp only [Act.put, zn1, zn2, zn3]
        refine tV 1 ?_ ?zq ?_; (case zq => rintro _ -; go_simp; try with_reducible rfl); try simp only [Act.put, zn1, zn2, zn3]
        refine tV 2 ?_ ?zq ?_; (case zq => rintro _ -; go_simp; try with_reducible rfl); try simp only [Act.put, zn1, zn2, zn3]
        refine tV 3 ?_ ?zq ?_; (case zq => intro w' hSw; have hCell := fun (b o : Nat) (h : b < w7.heap.size) => hSw.cell (p := ⟨b, o, none⟩) h; clear hSw; go_simp; try with_reducible rfl); try simp only [Act.put, zn1, zn2, zn3]
        refine tV 4 ?_ ?zq ?_; (case zq => rintro _ -; go_simp; try with_reducible rfl); try simp only [Act.put, zn1, zn2, zn3]
        refine tV 5 ?_ ?zq ?_; (case zq => rintro _ -; go_simp; try with_reducible rfl); try simp only [Act.put, zn1, zn2, zn3]
        refine tV 6 ?_ ?zq ?_; (case zq => rintro _ -; go_simp; try with_reducible rfl); try simp only [Act.put, zn1, zn2, zn3]
        refine tV 7 ?_ ?zq ?_; (case zq => rintro _ -; go_simp; try with_reducible rfl); try simp only [Act.put, zn1, zn2, zn3]
        refine tV 8 ?_ ?zq ?_; (case zq => rintro _ -; go_simp; try with_reducible rfl); try simp only [Act.put, zn1, zn2, zn3]
        refine tV 9 ?_ ?zq ?_; (case zq => rintro _ -; go_simp; try with_reducible rfl); try simp only [Act.put, zn1, zn2, zn3]
        refine tV 10 ?_ ?zq ?_; (case zq => intro w' hSw; have hCell := fun (b o : Nat) (h : b < w7.heap.size) => hSw.cell (p := ⟨b, o, none⟩) h; clear hSw; go_simp; try with_reducible rfl); try simp only [Act.put, zn1, zn2, zn3]
        refine tV 11 ?_ ?zq ?_; (case zq => rintro _ -; go_simp; try with_reducible rfl); try simp only [Act.put, zn1, zn2, zn3]
        refine tV 12 ?_ ?zq ?_; (case zq => rintro _ -; go_simp; try with_reducible rfl); try simp only [Act.put, zn1, zn2, zn3]
        refine tV 13 ?_ ?zq ?_; (case zq => rintro _ -; go_simp; try with_reducible rfl); try simp only [Act.put, zn1, zn2, zn3]
        refine tV 14 ?_ ?zq ?_; (case zq => intro w' hSw; have hCell := fun (b o : Nat) (h : b < w7.heap.size) => hSw.cell (p := ⟨b, o, none⟩) h; clear hSw; go_simp; try with_reducible rfl); try simp only [Act.put, zn1, zn2, zn3]
        refine ready_one (i := 15) rfl (by kernel_rfl) (fun K hK => ?_)
        go_simp
        refine (containsS_big _ _ _ _ _ (HF7.out.in.2.u.at hHeld).rd HF7.out.lu).mono ?_
        rintro e y1 ⟨rfl, rfl⟩
        rw [hup]
        refine hK.out _ _ ?_ (fun hHeld2 => ?_)
        ·(try dsimp only); first | exact Below.trans hHeld (Below.mono hb hHeld.size) | exact hHeld | exact Below.drew hHeld | exact bq2
        clear hK K hHeld; have hHeld := hHeld2; clear hHeld2; (try simp only [Act.put, zn1, zn2, zn3])
        refine tV 16 ?_ ?zq ?_; (case zq => rintro _ -; go_simp; try with_reducible rfl); try simp only [Act.put, zn1, zn2, zn3]
        refine tV 17 ?_ ?zq ?_; (case zq => rintro _ -; go_simp; try with_reducible rfl); try simp only [Act.put, zn1, zn2, zn3]
        refine tV 18 ?_ ?zq ?_; (case zq => rintro _ -; go_simp; try with_reducible rfl); try simp only [Act.put, zn1, zn2, zn3]
        refine wpAnyH_done (by kernel_rfl) ?_ _
        go_wp2_with fail
        go_ret
        exact ⟨by rw [HW.out]; rfl, lift HB7.out hHeld⟩
       ·have HW := Lib.hid (show wrongT ns es up (u, t) = 0 by rw [HW0.out]; simp only [h44, hup]; rfl)
        try go_wp2_with fail
        refine wp_region_held_drew (S := fun w' => Below w7.heap.size w7 w') (by kernel_rfl) (Below.drew (Below.refl _ _)) (fun hHeld => ?_)
        refine tV 0 ?_ ?zq ?_; (case zq => rintro _ -; go_simp; try with_reducible rfl); try simp only [Act.put, zn1, zn2, zn3]
        refine tV 1 ?_ ?zq ?_; (case zq => rintro _ -; go_simp; try with_reducible rfl); try simp only [Act.put, zn1, zn2, zn3]
        refine tV 2 ?_ ?zq ?_; (case zq => rintro _ -; go_simp; try with_reducible rfl); try simp only [Act.put, zn1, zn2, zn3]
        refine tV 3 ?_ ?zq ?_; (case zq => intro w' hSw; have hCell := fun (b o : Nat) (h : b < w7.heap.size) => hSw.cell (p := ⟨b, o, none⟩) h; clear hSw; go_simp; try with_reducible rfl); try simp only [Act.put, zn1, zn2, zn3]
        refine tV 4 ?_ ?zq ?_; (case zq => rintro _ -; go_simp; try with_reducible rfl); try simp only [Act.put, zn1, zn2, zn3]
        refine tV 5 ?_ ?zq ?_; (case zq => rintro _ -; go_simp; try with_reducible rfl); try simp only [Act.put, zn1, zn2, zn3]
        refine tV 6 ?_ ?zq ?_; (case zq => rintro _ -; go_simp; try with_reducible rfl); try simp only [Act.put, zn1, zn2, zn3]
        refine tV 7 ?_ ?zq ?_; (case zq => rintro _ -; go_simp; try with_reducible rfl); try simp only [Act.put, zn1, zn2, zn3]
        refine tV 8 ?_ ?zq ?_; (case zq => rintro _ -; go_simp; try with_reducible rfl); try simp only [Act.put, zn1, zn2, zn3]
        refine tV 9 ?_ ?zq ?_; (case zq => rintro _ -; go_simp; try with_reducible rfl); try simp only [Act.put, zn1, zn2, zn3]
        refine tV 10 ?_ ?zq ?_; (case zq => intro w' hSw; have hCell := fun (b o : Nat) (h : b < w7.heap.size) => hSw.cell (p := ⟨b, o, none⟩) h; clear hSw; go_simp; try with_reducible rfl); try simp only [Act.put, zn1, zn2, zn3]
        refine tV 11 ?_ ?zq ?_; (case zq => rintro _ -; go_simp; try with_reducible rfl); try simp only [Act.put, zn1, zn2, zn3]
        refine tV 12 ?_ ?zq ?_; (case zq => rintro _ -; go_simp; try with_reducible rfl); try simp only [Act.put, zn1, zn2, zn3]
        refine tV 13 ?_ ?zq ?_; (case zq => rintro _ -; go_simp; try with_reducible rfl); try simp only [Act.put, zn1, zn2, zn3]
        refine tV 14 ?_ ?zq ?_; (case zq => intro w' hSw; have hCell := fun (b o : Nat) (h : b < w7.heap.size) => hSw.cell (p := ⟨b, o, none⟩) h; clear hSw; go_simp; try with_reducible rfl); try simp only [Act.put, zn1, zn2, zn3]
        refine ready_one (i := 15) rfl (by kernel_rfl) (fun K hK => ?_)
        go_simp
        refine (containsS_big _ _ _ _ _ (HF7.out.in.2.u.at hHeld).rd HF7.out.lu).mono ?_
        rintro e y1 ⟨rfl, rfl⟩
        rw [hup]
        refine hK.out _ _ ?_ (fun hHeld2 => ?_)
        ·(try dsimp only); first | exact Below.trans hHeld (Below.mono hb hHeld.size) | exact hHeld | exact Below.drew hHeld | exact bq2
        clear hK K hHeld; have hHeld := hHeld2; clear hHeld2; (try simp only [Act.put, zn1, zn2, zn3])
        refine tV 16 ?_ ?zq ?_; (case zq => rintro _ -; go_simp; try with_reducible rfl); try simp only [Act.put, zn1, zn2, zn3]
        refine tV 17 ?_ ?zq ?_; (case zq => rintro _ -; go_simp; try with_reducible rfl); try simp only [Act.put, zn1, zn2, zn3]
        refine tV 18 ?_ ?zq ?_; (case zq => rintro _ -; go_simp; try with_reducible rfl); try simp only [Act.put, zn1, zn2, zn3]
        refine wpAnyH_done (by kernel_rfl) ?_ _
        go_wp2_with fail
        go_ret
        exact ⟨by rw [HW.out]; rfl, lift HB7.out hHeld⟩
 ·go_simp
  refine hK.out _ _ ?_ (fun hHeld2 => ?_)
  ·(try dsimp only); exact (bq2)
  clear hK K hHeld; have hHeld := hHeld2; clear hHeld2; (try simp only [Act.put, zn1, zn2, zn3])
  refine ready_one (i := 8) rfl (by kernel_rfl) (fun K hK => ?_)
  go_simp
  refine (Node_any An Ae es.length cn ce ns u _ (HF.out.on hHeld).in.1.rn (by omega)).mono ?_
  rintro e v5 ⟨rfl, hb⟩
  have n0 : w.heap.size < (w.drew.alloc (.cells #[.string ⟨#[]⟩, .int .i64 0, .int .i64 0] 39)).heap.size := by simp
  have c0 := cellAt (o := 0) (v := .string ⟨#[]⟩) (by go_simp) hb n0
  have c1 := cellAt (o := 1) (v := .int .i64 0) (by go_simp) hb n0
  have c2' := cellAt (o := 2) (v := .int .i64 0) (by go_simp) hb n0
  have z0 := froAt (o := 0) (by go_simp) hb n0
  have z1 := froAt (o := 1) (by go_simp) hb n0
  have z2 := froAt (o := 2) (by go_simp) hb n0
  have n1 := ltAt n0 hb
  have hb45 := Below.trans hHeld (Below.mono hb hHeld.size)
  clear hb n0
  unfold nodeV
  refine hK.out _ _ ?_ (fun hHeld2 => ?_)
  ·(try dsimp only); exact hb45
  clear hK K hHeld; have hHeld := hHeld2; clear hHeld2; (try simp only [Act.put, zn1, zn2, zn3])
  refine tV 9 ?_ ?zq ?_; (case zq => intro w' hSw; have hCell := fun (b o : Nat) (h : b < w.heap.size) => hSw.cell (p := ⟨b, o, none⟩) h; clear hSw; go_simp; try with_reducible rfl); try simp only [Act.put, zn1, zn2, zn3]
  refine tV 10 ?_ ?zq ?_; (case zq => intro w' hSw; have hCell := fun (b o : Nat) (h : b < w.heap.size) => hSw.cell (p := ⟨b, o, none⟩) h; clear hSw; go_simp; try with_reducible rfl); try simp only [Act.put, zn1, zn2, zn3]
  refine tV 11 ?_ ?zq ?_; (case zq => intro w' hSw; have hCell := fun (b o : Nat) (h : b < w.heap.size) => hSw.cell (p := ⟨b, o, none⟩) h; clear hSw; go_simp; try with_reducible rfl); try simp only [Act.put, zn1, zn2, zn3]
  refine ready_one (i := 13) rfl (by kernel_rfl) (fun K hK => ?_)
  go_simp
  refine hK.out _ _ ?_ (fun hHeld2 => ?_)
  ·(try dsimp only); exact (bq2)
  clear hK K hHeld; have hHeld := hHeld2; clear hHeld2; (try simp only [Act.put, zn1, zn2, zn3])
  refine tV 14 ?_ ?zq ?_; (case zq => intro w' hSw; have hCell := fun (b o : Nat) (h : b < w.heap.size) => hSw.cell (p := ⟨b, o, none⟩) h; clear hSw; go_simp; try with_reducible rfl); try simp only [Act.put, zn1, zn2, zn3]
  refine wpAnyH_done (by kernel_rfl) ?_ _
  refine exit_namedT ?_
  intro W6 hW6
  have hb6 : Below w.heap.size w W6 := by rw [hW6]; exact hHeld
  clear hW6 hHeld
  have HB6 := Lib.hid hb6
  have HF6 := Lib.hid (HF.out.on hb6)
  have d0 := cellAt k0 hb6 hmb
  have d1 := cellAt k1 hb6 hmb
  have d2 := cellAt k2 hb6 hmb
  have d4 := cellAt k4 hb6 hmb
  have d5 := cellAt k5 hb6 hmb
  have hm6 := ltAt hmb hb6
  clear hb6
  go_wp2_with fail
  refine (MayGB_any An Ae cn ce ns es W6 HF6.out.in.1 (by omega)).mono ?_
  rintro e w7 ⟨rfl, hb⟩
  have HB7 := Lib.hid (lift HB6.out hb)
  have HF7 := Lib.hid (HF6.out.on hb)
  replace d1 := cellAt d1 hb hm6
  replace d2 := cellAt d2 hb hm6
  replace d4 := cellAt d4 hb hm6
  replace d5 := cellAt d5 hb hm6
  have hm7 := ltAt hm6 hb
  clear hb d0
  cases hmay : mayG ns es
  ·have HW := Lib.hid (wrong_form (up := up) (k := (u, t)) hmay)
   go_wp2_with fail
   go_ret
   exact ⟨by rw [HW.out]; rfl, HB7.out⟩
  ·have HMay := Lib.hid hmay
   clear hmay
   by_cases h1 : t < 1
   ·have e1 : decide (t < 1) = true := by simpa using h1
    have HW := Lib.hid (wrong_kind (up := up) (k := (u, t)) HMay.out (fun h => absurd h.1 (by simp only; omega)))
    clear h1
    go_wp2_with fail
    go_ret
    exact ⟨by rw [HW.out]; rfl, HB7.out⟩
   ·have e1 : decide (t < 1) = false := by simpa using h1
    by_cases h4 : 4 < t
    ·have e4 : decide (4 < t) = true := by simpa using h4
     have HW := Lib.hid (wrong_kind (up := up) (k := (u, t)) HMay.out (fun h => absurd h.2 (by simp only; omega)))
     clear h1 h4
     go_wp2_with fail
     go_ret
     exact ⟨by rw [HW.out]; rfl, HB7.out⟩
    ·have e4 : decide (4 < t) = false := by simpa using h4
     have HT := Lib.hid (show 1 ≤ t ∧ t ≤ 4 by omega)
     clear h1 h4
     cases hno : (nodeOf ns u).isSome
     ·have HW := Lib.hid (wrong_none (up := up) (k := (u, t)) HMay.out HT.out hno)
      go_wp2_with fail
      go_ret
      exact ⟨by rw [HW.out]; rfl, HB7.out⟩
     ·have HW0 := Lib.hid (wrong_idle (up := up) (k := (u, t)) HMay.out HT.out hno)
      cases h44 : (t == 4)
      ·have HW := Lib.hid (show wrongT ns es up (u, t) = 0 by rw [HW0.out]; simp only [h44]; rfl)
       try go_wp2_with fail
       refine wp_region_held_drew (S := fun w' => Below w7.heap.size w7 w') (by kernel_rfl) (Below.drew (Below.refl _ _)) (fun hHeld => ?_)
       refine tV 0 ?_ ?zq ?_; (case zq => rintro _ -; go_simp; try with_reducible rfl); try simp only [Act.put, zn1, zn2, zn3]
       refine tV 1 ?_ ?zq ?_; (case zq => rintro _ -; go_simp; try with_reducible rfl); try simp only [Act.put, zn1, zn2, zn3]
       refine tV 2 ?_ ?zq ?_; (case zq => rintro _ -; go_simp; try with_reducible rfl); try simp only [Act.put, zn1, zn2, zn3]
       refine tV 3 ?_ ?zq ?_; (case zq => intro w' hSw; have hCell := fun (b o : Nat) (h : b < w7.heap.size) => hSw.cell (p := ⟨b, o, none⟩) h; clear hSw; go_simp; try with_reducible rfl); try simp only [Act.put, zn1, zn2, zn3]
       refine tV 4 ?_ ?zq ?_; (case zq => rintro _ -; go_simp; try with_reducible rfl); try simp only [Act.put, zn1, zn2, zn3]
       refine tV 5 ?_ ?zq ?_; (case zq => rintro _ -; go_simp; try with_reducible rfl); try simp only [Act.put, zn1, zn2, zn3]
       refine tS (i := 6) rfl hHeld ?_; (try simp only [Act.put, zn1, zn2, zn3])
       refine tS (i := 7) rfl hHeld ?_; (try simp only [Act.put, zn1, zn2, zn3])
       refine tS (i := 8) rfl hHeld ?_; (try simp only [Act.put, zn1, zn2, zn3])
       refine tS (i := 9) rfl hHeld ?_; (try simp only [Act.put, zn1, zn2, zn3])
       refine tS (i := 10) rfl hHeld ?_; (try simp only [Act.put, zn1, zn2, zn3])
       refine tS (i := 11) rfl hHeld ?_; (try simp only [Act.put, zn1, zn2, zn3])
       refine tS (i := 12) rfl hHeld ?_; (try simp only [Act.put, zn1, zn2, zn3])
       refine tS (i := 13) rfl hHeld ?_; (try simp only [Act.put, zn1, zn2, zn3])
       refine tS (i := 14) rfl hHeld ?_; (try simp only [Act.put, zn1, zn2, zn3])
       refine tS (i := 15) rfl hHeld ?_; (try simp only [Act.put, zn1, zn2, zn3])
       refine tS (i := 16) rfl hHeld ?_; (try simp only [Act.put, zn1, zn2, zn3])
       refine tV 17 ?_ ?zq ?_; (case zq => rintro _ -; go_simp; try with_reducible rfl); try simp only [Act.put, zn1, zn2, zn3]
       refine tV 18 ?_ ?zq ?_; (case zq => rintro _ -; go_simp; try with_reducible rfl); try simp only [Act.put, zn1, zn2, zn3]
       refine wpAnyH_done (by kernel_rfl) ?_ _
       go_wp2_with fail
       go_ret
       exact ⟨by rw [HW.out]; rfl, lift HB7.out hHeld⟩
      ·skip
       cases hup : hasB up u
       ·have HW := Lib.hid (show wrongT ns es up (u, t) = 20 by rw [HW0.out]; simp only [h44, hup]; rfl)
        try go_wp2_with fail
        refine wp_region_held_drew (S := fun w' => Below w7.heap.size w7 w') (by kernel_rfl) (Below.drew (Below.refl _ _)) (fun hHeld => ?_)
        refine tV 0 ?_ ?zq ?_; (case zq => rintro _ -; go_simp; try with_reducible rfl); try simp only [Act.put, zn1, zn2, zn3]
        refine tV 1 ?_ ?zq ?_; (case zq => rintro _ -; go_simp; try with_reducible rfl); try simp only [Act.put, zn1, zn2, zn3]
        refine tV 2 ?_ ?zq ?_; (case zq => rintro _ -; go_simp; try with_reducible rfl); try simp only [Act.put, zn1, zn2, zn3]
        refine tV 3 ?_ ?zq ?_; (case zq => intro w' hSw; have hCell := fun (b o : Nat) (h : b < w7.heap.size) => hSw.cell (p := ⟨b, o, none⟩) h; clear hSw; go_simp; try with_reducible rfl); try simp only [Act.put, zn1, zn2, zn3]
        refine tV 4 ?_ ?zq ?_; (case zq => rintro _ -; go_simp; try with_reducible rfl); try simp only [Act.put, zn1, zn2, zn3]
        refine tV 5 ?_ ?zq ?_; (case zq => rintro _ -; go_simp; try with_reducible rfl); try simp only [Act.put, zn1, zn2, zn3]
        refine tV 6 ?_ ?zq ?_; (case zq => rintro _ -; go_simp; try with_reducible rfl); try simp only [Act.put, zn1, zn2, zn3]
        refine tV 7 ?_ ?zq ?_; (case zq => rintro _ -; go_simp; try with_reducible rfl); try simp only [Act.put, zn1, zn2, zn3]
        refine tV 8 ?_ ?zq ?_; (case zq => rintro _ -; go_simp; try with_reducible rfl); try simp only [Act.put, zn1, zn2, zn3]
        refine tV 9 ?_ ?zq ?_; (case zq => rintro _ -; go_simp; try with_reducible rfl); try simp only [Act.put, zn1, zn2, zn3]
        refine tV 10 ?_ ?zq ?_; (case zq => intro w' hSw; have hCell := fun (b o : Nat) (h : b < w7.heap.size) => hSw.cell (p := ⟨b, o, none⟩) h; clear hSw; go_simp; try with_reducible rfl); try simp only [Act.put, zn1, zn2, zn3]
        refine tV 11 ?_ ?zq ?_; (case zq => rintro _ -; go_simp; try with_reducible rfl); try simp only [Act.put, zn1, zn2, zn3]
        refine tV 12 ?_ ?zq ?_; (case zq => rintro _ -; go_simp; try with_reducible rfl); try simp only [Act.put, zn1, zn2, zn3]
        refine tV 13 ?_ ?zq ?_; (case zq => rintro _ -; go_simp; try with_reducible rfl); try simp only [Act.put, zn1, zn2, zn3]
        refine tV 14 ?_ ?zq ?_; (case zq => intro w' hSw; have hCell := fun (b o : Nat) (h : b < w7.heap.size) => hSw.cell (p := ⟨b, o, none⟩) h; clear hSw; go_simp; try with_reducible rfl); try simp only [Act.put, zn1, zn2, zn3]
        refine ready_one (i := 15) rfl (by kernel_rfl) (fun K hK => ?_)
        go_simp
        refine (containsS_big _ _ _ _ _ (HF7.out.in.2.u.at hHeld).rd HF7.out.lu).mono ?_
        rintro e y1 ⟨rfl, rfl⟩
        rw [hup]
        refine hK.out _ _ ?_ (fun hHeld2 => ?_)
        ·(try dsimp only); first | exact Below.trans hHeld (Below.mono hb hHeld.size) | exact hHeld | exact Below.drew hHeld | exact bq2
        clear hK K hHeld; have hHeld := hHeld2; clear hHeld2; (try simp only [Act.put, zn1, zn2, zn3])
        refine tV 16 ?_ ?zq ?_; (case zq => rintro _ -; go_simp; try with_reducible rfl); try simp only [Act.put, zn1, zn2, zn3]
        refine tV 17 ?_ ?zq ?_; (case zq => rintro _ -; go_simp; try with_reducible rfl); try simp only [Act.put, zn1, zn2, zn3]
        refine tV 18 ?_ ?zq ?_; (case zq => rintro _ -; go_simp; try with_reducible rfl); try simp only [Act.put, zn1, zn2, zn3]
        refine wpAnyH_done (by kernel_rfl) ?_ _
        go_wp2_with fail
        go_ret
        exact ⟨by rw [HW.out]; rfl, lift HB7.out hHeld⟩
       ·have HW := Lib.hid (show wrongT ns es up (u, t) = 0 by rw [HW0.out]; simp only [h44, hup]; rfl)
        try go_wp2_with fail
        refine wp_region_held_drew (S := fun w' => Below w7.heap.size w7 w') (by kernel_rfl) (Below.drew (Below.refl _ _)) (fun hHeld => ?_)
        refine tV 0 ?_ ?zq ?_; (case zq => rintro _ -; go_simp; try with_reducible rfl); try simp only [Act.put, zn1, zn2, zn3]
        refine tV 1 ?_ ?zq ?_; (case zq => rintro _ -; go_simp; try with_reducible rfl); try simp only [Act.put, zn1, zn2, zn3]
        refine tV 2 ?_ ?zq ?_; (case zq => rintro _ -; go_simp; try with_reducible rfl); try simp only [Act.put, zn1, zn2, zn3]
        refine tV 3 ?_ ?zq ?_; (case zq => intro w' hSw; have hCell := fun (b o : Nat) (h : b < w7.heap.size) => hSw.cell (p := ⟨b, o, none⟩) h; clear hSw; go_simp; try with_reducible rfl); try simp only [Act.put, zn1, zn2, zn3]
        refine tV 4 ?_ ?zq ?_; (case zq => rintro _ -; go_simp; try with_reducible rfl); try simp only [Act.put, zn1, zn2, zn3]
        refine tV 5 ?_ ?zq ?_; (case zq => rintro _ -; go_simp; try with_reducible rfl); try simp only [Act.put, zn1, zn2, zn3]
        refine tV 6 ?_ ?zq ?_; (case zq => rintro _ -; go_simp; try with_reducible rfl); try simp only [Act.put, zn1, zn2, zn3]
        refine tV 7 ?_ ?zq ?_; (case zq => rintro _ -; go_simp; try with_reducible rfl); try simp only [Act.put, zn1, zn2, zn3]
        refine tV 8 ?_ ?zq ?_; (case zq => rintro _ -; go_simp; try with_reducible rfl); try simp only [Act.put, zn1, zn2, zn3]
        refine tV 9 ?_ ?zq ?_; (case zq => rintro _ -; go_simp; try with_reducible rfl); try simp only [Act.put, zn1, zn2, zn3]
        refine tV 10 ?_ ?zq ?_; (case zq => intro w' hSw; have hCell := fun (b o : Nat) (h : b < w7.heap.size) => hSw.cell (p := ⟨b, o, none⟩) h; clear hSw; go_simp; try with_reducible rfl); try simp only [Act.put, zn1, zn2, zn3]
        refine tV 11 ?_ ?zq ?_; (case zq => rintro _ -; go_simp; try with_reducible rfl); try simp only [Act.put, zn1, zn2, zn3]
        refine tV 12 ?_ ?zq ?_; (case zq => rintro _ -; go_simp; try with_reducible rfl); try simp only [Act.put, zn1, zn2, zn3]
        refine tV 13 ?_ ?zq ?_; (case zq => rintro _ -; go_simp; try with_reducible rfl); try simp only [Act.put, zn1, zn2, zn3]
        refine tV 14 ?_ ?zq ?_; (case zq => intro w' hSw; have hCell := fun (b o : Nat) (h : b < w7.heap.size) => hSw.cell (p := ⟨b, o, none⟩) h; clear hSw; go_simp; try with_reducible rfl); try simp only [Act.put, zn1, zn2, zn3]
        refine ready_one (i := 15) rfl (by kernel_rfl) (fun K hK => ?_)
        go_simp
        refine (containsS_big _ _ _ _ _ (HF7.out.in.2.u.at hHeld).rd HF7.out.lu).mono ?_
        rintro e y1 ⟨rfl, rfl⟩
        rw [hup]
        refine hK.out _ _ ?_ (fun hHeld2 => ?_)
        ·(try dsimp only); first | exact Below.trans hHeld (Below.mono hb hHeld.size) | exact hHeld | exact Below.drew hHeld | exact bq2
        clear hK K hHeld; have hHeld := hHeld2; clear hHeld2; (try simp only [Act.put, zn1, zn2, zn3])
        refine tV 16 ?_ ?zq ?_; (case zq => rintro _ -; go_simp; try with_reducible rfl); try simp only [Act.put, zn1, zn2, zn3]
        refine tV 17 ?_ ?zq ?_; (case zq => rintro _ -; go_simp; try with_reducible rfl); try simp only [Act.put, zn1, zn2, zn3]
        refine tV 18 ?_ ?zq ?_; (case zq => rintro _ -; go_simp; try with_reducible rfl); try simp only [Act.put, zn1, zn2, zn3]
        refine wpAnyH_done (by kernel_rfl) ?_ _
        go_wp2_with fail
        go_ret
        exact ⟨by rw [HW.out]; rfl, lift HB7.out hHeld⟩
end Od
end Go.Proofs.YtbllehjhmfehbaaGreat
end

section
/- (*maker).all: the jobs that are left when none goes any more. (bel2) -/
namespace Go.Proofs.YtbllehjhmfehbaaGreat
open Go.RowKit Go.Sort Go.Maps
set_option linter.unusedSimpArgs false
namespace Od
section
variable {ns : List Nd} {es : List Ed} {up half : List Str} {first : Jp} {gone : List Pl} {n : Nat}
theorem goT_none (h : badP ns es up (pullQ ns es up half first gone) = none) : goT ns es up half first (n + 1) gone = ⟨0, pullQ ns es up half first gone, gone⟩ := by
 show (match badP ns es up (pullQ ns es up half first gone) with | none => _ | some (p, e) => _) = _
 rw [h]
theorem goT_need {p : Pl} {e : Int} (h : badP ns es up (pullQ ns es up half first gone) = some (p, e)) (hn : p.2.2.1 = true) : goT ns es up half first (n + 1) gone = ⟨e, [], []⟩ := by
 show (match badP ns es up (pullQ ns es up half first gone) with | none => _ | some (p, e) => _) = _
 rw [h]; simp only; rw [if_pos hn]
theorem goT_next {p : Pl} {e : Int} (h : badP ns es up (pullQ ns es up half first gone) = some (p, e)) (hn : p.2.2.1 = false) : goT ns es up half first (n + 1) gone = goT ns es up half first n (gone ++ [p]) := by
 show (match badP ns es up (pullQ ns es up half first gone) with | none => _ | some (p, e) => _) = _
 rw [h]; simp only; rw [if_neg (by rw [hn]; simp)]
end
/-- What is left, and what went. -/
def AllT (w : World) (mb : Nat) (T : Tr) (en : Ending) (w' : World) : Prop :=
 ∃ A c, en = .returned (.tuple #[.slice A T.l.length c, .int .i64 T.err]) ∧ w'.ownsRow (mb + 1) 37 4 (.slice A T.l.length c) T.l.length (plsC T.l) ∧ Below mb w w' ∧ (T.err = 0 → ∃ v', MkG w' mb v' T.gone)
set_option maxRecDepth 100000 in
set_option maxHeartbeats 8000000 in
theorem tall_any (mb : Nat) (An Ae Au Ah : Option Addr) (cn ce cu ch : Nat) (ns : List Nd) (es : List Ed) (up half : List Str) (u : Str) (t : Int) (w : World)
  (hF : MkF w mb An Ae Au Ah cn ce cu ch ns es up half u t) (hG : MkG w mb (.slice none 0 0) []) :
  Calls Tryz.prog 64 #[.pointer (some ⟨mb, 0, none⟩)] w (AllT w mb (madeT ns es up half (u, t))) := by
 have HF := Lib.hid hF
 have HG := Lib.hid hG
 have hmb := hF.lt
 have hmw := Nat.le_of_lt hF.lt
 have hnl := hF.ln
 have hel := hF.le
 clear hF hG
 go_enter Tryz.func64, Tryz.ntmps64
 go_wp2_with fail
 refine (wrong_any mb An Ae Au Ah cn ce cu ch ns es up half u t w HF.out).mono ?_
 rintro e w2 ⟨rfl, hb⟩
 have HB2 := Lib.hid hb
 replace HF := Lib.hid (HF.out.on hb)
 replace HG := Lib.hid (HG.out.on hb)
 replace hmb : mb < w2.heap.size := ltAt hmb hb
 clear hb
 have HMd := Lib.hid (show madeT ns es up half (u, t) = if wrongT ns es up (u, t) = 0 then goT ns es up half (u, t) (fuelT es) [] else ⟨wrongT ns es up (u, t), [], []⟩ from rfl)
 generalize madeT ns es up half (u, t) = T at *
 generalize wrongT ns es up (u, t) = we at *
 by_cases hwe : we = 0
 ·have HM := Lib.hid (show goT ns es up half (u, t) (fuelT es) [] = T by rw [HMd.out, if_pos hwe])
  subst hwe
  clear HMd
  go_wp2_with fail
  go_loopg [] (fuelT es) (fun g wr => ∃ (gone : List Pl) (v : Value), fuelT es ≤ g + gone.length ∧ Hid (GoneOk es (u, t) gone) ∧ Hid (goT ns es up half (u, t) g gone = T) ∧ Hid (MkF wr mb An Ae Au Ah cn ce cu ch ns es up half u t) ∧ Hid (MkG wr mb v gone) ∧ Hid (Below mb w wr))
  case atStart => exact ⟨[], .slice none 0 0, by simp, GoneOk.nil _ _, HM, HF, HG, HB2.out.mono hmw⟩
  case round =>
   obtain ⟨gone, v, hfu, HOk, HT, HFr, HGr, HBr⟩ := hrel
   obtain ⟨w3, rfl⟩ : ∃ wo : World, wo = wr := ⟨_, rfl⟩
   have hgl := HOk.out.len
   have hgk : ∃ g', gk = g' + 1 := ⟨gk - 1, by unfold fuelT at hfu; omega⟩
   obtain ⟨g', hgk⟩ := hgk
   subst hgk
   have HFu := Lib.hid hfu
   clear hfu
   obtain ⟨Ag, cg, rfl, _⟩ := own_rd HGr.out.row
   have hgon : Rd w3 w3.heap.size 4 Ag gone.length (plsC gone) := own_rd' HGr.out.row
   have HGo := Lib.hid hgon
   have hm3 := HFr.out.lt
   have k0 := HFr.out.c0
   have k1 := HFr.out.c1
   have k2 := HFr.out.c2
   have k3 := HFr.out.c3
   have k4 := HFr.out.c4
   have k5 := HFr.out.c5
   have k6 := HGr.out.c6
   have HGk := Lib.hid (fun p (hp : p ∈ gone) => okJ_cand HFr.out.oke (p.1, p.2.1) (HOk.out.cand p hp))
   clear hgon HF HG
   try go_wp2_with fail
   refine wp_region_held_drew (S := fun w' => Below w3.heap.size w3 w') (by kernel_rfl) (Below.drew (Below.refl _ _)) (fun hHeld => ?_)
   refine tV 0 ?_ ?zq ?_; (case zq => rintro _ -; go_simp; try with_reducible rfl); try simp only [Act.put, zn1, zn2, zn3]
   refine tV 1 ?_ ?zq ?_; (case zq => rintro _ -; go_simp; try with_reducible rfl); try simp only [Act.put, zn1, zn2, zn3]
   refine tV 2 ?_ ?zq ?_; (case zq => rintro _ -; go_simp; try with_reducible rfl); try simp only [Act.put, zn1, zn2, zn3]
   refine tV 3 ?_ ?zq ?_; (case zq => intro w' hSw; have hCell := fun (b o : Nat) (h : b < w3.heap.size) => hSw.cell (p := ⟨b, o, none⟩) h; clear hSw; go_simp; try with_reducible rfl); try simp only [Act.put, zn1, zn2, zn3]
   refine tV 4 ?_ ?zq ?_; (case zq => rintro _ -; go_simp; try with_reducible rfl); try simp only [Act.put, zn1, zn2, zn3]
   refine tV 5 ?_ ?zq ?_; (case zq => rintro _ -; go_simp; try with_reducible rfl); try simp only [Act.put, zn1, zn2, zn3]
   refine tV 6 ?_ ?zq ?_; (case zq => rintro _ -; go_simp; try with_reducible rfl); try simp only [Act.put, zn1, zn2, zn3]
   refine tV 7 ?_ ?zq ?_; (case zq => intro w' hSw; have hCell := fun (b o : Nat) (h : b < w3.heap.size) => hSw.cell (p := ⟨b, o, none⟩) h; clear hSw; go_simp; try with_reducible rfl); try simp only [Act.put, zn1, zn2, zn3]
   refine tV 8 ?_ ?zq ?_; (case zq => rintro _ -; go_simp; try with_reducible rfl); try simp only [Act.put, zn1, zn2, zn3]
   refine tV 9 ?_ ?zq ?_; (case zq => rintro _ -; go_simp; try with_reducible rfl); try simp only [Act.put, zn1, zn2, zn3]
   refine tV 10 ?_ ?zq ?_; (case zq => rintro _ -; go_simp; try with_reducible rfl); try simp only [Act.put, zn1, zn2, zn3]
   refine tV 11 ?_ ?zq ?_; (case zq => intro w' hSw; have hCell := fun (b o : Nat) (h : b < w3.heap.size) => hSw.cell (p := ⟨b, o, none⟩) h; clear hSw; go_simp; try with_reducible rfl); try simp only [Act.put, zn1, zn2, zn3]
   refine tV 12 ?_ ?zq ?_; (case zq => rintro _ -; go_simp; try with_reducible rfl); try simp only [Act.put, zn1, zn2, zn3]
   refine tV 13 ?_ ?zq ?_; (case zq => rintro _ -; go_simp; try with_reducible rfl); try simp only [Act.put, zn1, zn2, zn3]
   refine tV 14 ?_ ?zq ?_; (case zq => rintro _ -; go_simp; try with_reducible rfl); try simp only [Act.put, zn1, zn2, zn3]
   refine tV 15 ?_ ?zq ?_; (case zq => intro w' hSw; have hCell := fun (b o : Nat) (h : b < w3.heap.size) => hSw.cell (p := ⟨b, o, none⟩) h; clear hSw; go_simp; try with_reducible rfl); try simp only [Act.put, zn1, zn2, zn3]
   refine tV 16 ?_ ?zq ?_; (case zq => rintro _ -; go_simp; try with_reducible rfl); try simp only [Act.put, zn1, zn2, zn3]
   refine tV 17 ?_ ?zq ?_; (case zq => rintro _ -; go_simp; try with_reducible rfl); try simp only [Act.put, zn1, zn2, zn3]
   refine tV 18 ?_ ?zq ?_; (case zq => rintro _ -; go_simp; try with_reducible rfl); try simp only [Act.put, zn1, zn2, zn3]
   refine tV 19 ?_ ?zq ?_; (case zq => intro w' hSw; have hCell := fun (b o : Nat) (h : b < w3.heap.size) => hSw.cell (p := ⟨b, o, none⟩) h; clear hSw; go_simp; try with_reducible rfl); try simp only [Act.put, zn1, zn2, zn3]
   refine ready_one (i := 20) rfl (by kernel_rfl) (fun K hK => ?_)
   go_simp
   refine (PAll_any An Ae Au Ah Ag cn ce cu ch cg ns es up half gone u t _ (HFr.out.on hHeld).in.1.rn (by omega) (HFr.out.on hHeld).in.1.re (by omega) (HFr.out.on hHeld).in.2.u (HFr.out.on hHeld).in.2.h (HGo.out.at hHeld) (by omega) HFr.out.oke HFr.out.okf HGk.out).mono ?_
   rintro e y1 ⟨A5, c5, rfl, ho5, hb⟩
   have HO5 := Lib.hid (ho5.mono (show mb + 1 ≤ _ by have := hHeld.size; omega))
   clear ho5
   refine hK.out _ _ ?_ (fun hHeld2 => ?_)
   ·(try dsimp only); first | exact Below.trans hHeld (Below.mono hb hHeld.size) | exact hHeld | exact Below.drew hHeld | exact bq2
   clear hK K hHeld; have hHeld := hHeld2; clear hHeld2; (try simp only [Act.put, zn1, zn2, zn3])
   refine tV 21 ?_ ?zq ?_; (case zq => rintro _ -; go_simp; try with_reducible rfl); try simp only [Act.put, zn1, zn2, zn3]
   refine wpAnyH_done (by kernel_rfl) ?_ _
   have HB5 := Lib.hid (HBr.out.trans (hHeld.mono (Nat.le_of_lt hm3)))
   replace k6 := cellAt k6 hHeld (by omega)
   replace HFr := Lib.hid (HFr.out.on hHeld)
   replace HGr := Lib.hid (HGr.out.on hHeld)
   replace hm3 : mb < y1.heap.size := ltAt hm3 hHeld
   clear hHeld k0 k1 k2 k3 k4 k5
   have hLl := pullQ_len ns es up half (u, t) gone
   have HNo := Lib.hid (fun h => goT_none (ns := ns) (es := es) (up := up) (half := half) (first := (u, t)) (gone := gone) (n := g') h)
   have HNe := Lib.hid (fun (p : Pl) (e : Int) h hn => goT_need (ns := ns) (es := es) (up := up) (half := half) (first := (u, t)) (gone := gone) (n := g') (p := p) (e := e) h hn)
   have HNx := Lib.hid (fun (p : Pl) (e : Int) h hn => goT_next (ns := ns) (es := es) (up := up) (half := half) (first := (u, t)) (gone := gone) (n := g') (p := p) (e := e) h hn)
   have HPu := Lib.hid (fun (p : Pl) hp hn => HOk.out.push (ns := ns) (up := up) (half := half) (p := p) hp hn)
   generalize pullQ ns es up half (u, t) gone = L at *
   go_wp2_with fail
   refine (step_any mb An Ae Au Ah A5 cn ce cu ch c5 ns es up half u t _ gone L y1 HFr.out HGr.out (by omega) (own_rd' HO5.out) (by omega)).mono ?_
   rintro e w5 ⟨r, rfl, hd⟩
   cases hbad : badP ns es up L with
   | none =>
    rw [hbad] at hd
    obtain ⟨rfl, hb⟩ := hd
    have HTe := Lib.hid (HT.out.symm.trans (HNo.out hbad))
    have HB6 := Lib.hid (HB5.out.trans (hb.mono (Nat.le_of_lt hm3)))
    have HO6 := Lib.hid (own_on HO5.out hb)
    replace k6 := cellAt k6 hb (by omega)
    replace HFr := Lib.hid (HFr.out.on hb)
    replace HGr := Lib.hid (HGr.out.on hb)
    replace hm3 : mb < w5.heap.size := ltAt hm3 hb
    clear hb hbad
    go_wp2_with fail
    go_ret2
    rw [HTe.out]
    exact ⟨A5, c5, rfl, HO6.out, HB6.out, fun _ => ⟨_, HGr.out⟩⟩
   | some pe =>
    obtain ⟨p, e⟩ := pe
    rw [hbad] at hd
    rcases hd with ⟨hn, rfl, hb⟩ | ⟨hn, rfl, hb, hF6, v6, hG6⟩
    ·have HTe := Lib.hid (HT.out.symm.trans (HNe.out p r hbad hn))
     have hne : (r != 0) = true := by simp [bne, bad_err hbad]
     have HB6 := Lib.hid (HB5.out.trans (hb.mono (Nat.le_of_lt hm3)))
     have HEr := Lib.hid (bad_err hbad)
     clear hb hbad hn
     go_wp2_with fail
     go_ret2
     rw [HTe.out]
     exact ⟨none, 0, rfl, World.ownsRow_nil _ _ _ _, HB6.out, fun h => absurd h HEr.out⟩
    ·have HTe := Lib.hid ((HNx.out p e hbad hn).symm.trans HT.out)
     have HP6 := Lib.hid (HPu.out p (bad_mem hbad) (by rw [hn]; simp))
     have HF6 := Lib.hid hF6
     have HG6 := Lib.hid hG6
     have HB6 := Lib.hid (HB5.out.trans hb)
     have j6 := hG6.c6
     obtain ⟨A6, c6, rfl, _⟩ := own_rd hG6.row
     have hm6 := hF6.lt
     have hll : (gone ++ [p]).length = gone.length + 1 := by simp
     rw [hll] at j6
     have hd1 : ((gone.length : Int) + 1 == gone.length) = false := by rw [beq_eq_false_iff_ne]; omega
     clear hbad hn hb hF6 hG6 hll
     go_wp2_with fail
     go_roundg g'
     case measure => omega
     case rel => exact ⟨gone ++ [p], _, by have := HFu.out; simp; omega, HP6, HTe, HF6, HG6, HB6⟩
 ·have HTe := Lib.hid (show T = ⟨we, [], []⟩ by rw [HMd.out, if_neg hwe])
  have hne : (we != 0) = true := by simp [bne, hwe]
  have HWe := Lib.hid hwe
  clear hwe HMd
  go_wp2_with fail
  go_ret2
  rw [HTe.out]
  exact ⟨none, 0, rfl, World.ownsRow_nil _ _ _ _, HB2.out.mono hmw, fun h => absurd h HWe.out⟩
end Od
end Go.Proofs.YtbllehjhmfehbaaGreat
end

section
/- What trans.Build makes of what is left, as lists. No program. -/
namespace Go.Proofs.YtbllehjhmfehbaaGreat
set_option linter.unusedSimpArgs false
namespace Od
theorem foldT_snoc (up : Bool) (a : Pl) (r : List Pl) (p : Pl) : foldT up ((a :: r) ++ [p]) = (jnT (foldT up (a :: r)) p.2.1 up).1 := by
  show (r ++ [p]).foldl (fun t q => (jnT t q.2.1 up).1) a.2.1 = _
  rw [List.foldl_append]; rfl
theorem tyU_other {up : List Str} {l : List Pl} {p : Pl} {s : Str} (h : ¬ p.1 = s) : tyU up (l ++ [p]) s = tyU up l s := by
  unfold tyU
  rw [List.filter_append, show [p].filter (fun q => q.1 == s) = [] by simp [h], List.append_nil]
theorem tyU_new {up : List Str} {l : List Pl} {p : Pl} (h : p.1 ∉ l.map (·.1)) : tyU up (l ++ [p]) p.1 = p.2.1 := by
  unfold tyU
  have h0 : l.filter (fun q => q.1 == p.1) = [] := List.filter_eq_nil_iff.2 fun q hq he => h (List.mem_map.2 ⟨q, hq, by simpa using he⟩)
  rw [List.filter_append, h0, show [p].filter (fun q => q.1 == p.1) = [p] by simp]
  rfl
theorem tyU_old {up : List Str} {l : List Pl} {p : Pl} (h : p.1 ∈ l.map (·.1)) : tyU up (l ++ [p]) p.1 = (jnT (tyU up l p.1) p.2.1 (hasB up p.1)).1 := by
  obtain ⟨q, hq, he⟩ := List.mem_map.1 h
  have hm : q ∈ l.filter (fun q => q.1 == p.1) := List.mem_filter.2 ⟨hq, by simpa using he⟩
  unfold tyU
  rw [List.filter_append, show [p].filter (fun q => q.1 == p.1) = [p] by simp]
  generalize l.filter (fun q => q.1 == p.1) = f at hm
  cases f with
  | nil => cases hm
  | cons a r => exact foldT_snoc _ a r p
theorem nodup_lenS : ∀ {l cand : List Str}, l.Nodup → (∀ j ∈ l, j ∈ cand) → l.length ≤ cand.length
  | [], _, _, _ => Nat.zero_le _
  | a :: l, cand, h, hs => by
    obtain ⟨h1, h2⟩ := List.nodup_cons.1 h
    have ha := hs a (.head _)
    have := nodup_lenS (cand := cand.erase a) h2 fun j hj => (List.mem_erase_of_ne (fun e : j = a => h1 (by rw [← e]; exact hj))).2 (hs j (.tail _ hj))
    rw [List.length_erase_of_mem ha] at this
    have := List.length_pos_of_mem ha
    simp only [List.length_cons]
    omega
def jobTOf (up half : List Str) (l : List Pl) (u : Str) : Option Jb := if setU up half l u = 0 then none else some (u, setU up half l u, 1, 0)
theorem jobsT_eq (up half : List Str) (l : List Pl) : jobsT up half l = (unitsL l).filterMap (jobTOf up half l) := rfl
theorem jobTOf_key {up half : List Str} {l : List Pl} {u : Str} {j : Jb} (h : jobTOf up half l u = some j) : j.1 = u ∧ j = (u, setU up half l u, 1, 0) := by
  unfold jobTOf at h
  split at h
  · cases h
  · injection h with h
    subst h
    exact ⟨rfl, rfl⟩
/-- Whatever the order in which the units came: sorted they are the jobs. -/
theorem jobs_sorted {up half : List Str} {l : List Pl} {L : List Str} {S : List Jb} (hnd : L.Nodup) (hm : ∀ u, u ∈ L ↔ ∃ p ∈ l, p.1 = u) (hS : S.Perm (L.filterMap (jobTOf up half l))) (hle : S.Pairwise (fun a b => ltS b.1 a.1 = false)) : S = jobsT up half l := by
  have hne : (L.filterMap (jobTOf up half l)).Pairwise (fun a b => a.1 ≠ b.1) := by
    refine List.Pairwise.filterMap _ (R := fun x y => x ≠ y) ?_ hnd
    intro a b hab x hx y hy
    rw [(jobTOf_key hx).1, (jobTOf_key hy).1]
    exact hab
  have hne2 : S.Pairwise (fun a b => a.1 ≠ b.1) := (hS.pairwise_iff (fun h e => h e.symm)).2 hne
  have hss : SS ltS (S.map (·.1)) := by
    refine List.pairwise_map.2 ((hle.and hne2).imp fun {a b} h => ?_)
    cases h3 : ltS a.1 b.1
    · exact absurd (toS.total h3 h.1) h.2
    · rfl
  have hjs : SS ltS ((jobsT up half l).map (·.1)) := List.pairwise_map.2 (jobsT_up up half l)
  have hmem : ∀ j, j ∈ S ↔ j ∈ jobsT up half l := fun j => by
    rw [hS.mem_iff, jobsT_eq, List.mem_filterMap, List.mem_filterMap]
    constructor
    · rintro ⟨u, hu, h⟩; exact ⟨u, mem_unitsL.2 ((hm u).1 hu), h⟩
    · rintro ⟨u, hu, h⟩; exact ⟨u, (hm u).2 (mem_unitsL.1 hu), h⟩
  have hk : S.map (·.1) = (jobsT up half l).map (·.1) := by
    have h1 := SS.eq_canon toS hss (l := (jobsT up half l).map (·.1)) fun x => by
      rw [List.mem_map, List.mem_map]
      constructor
      · rintro ⟨j, hj, e⟩; exact ⟨j, (hmem j).1 hj, e⟩
      · rintro ⟨j, hj, e⟩; exact ⟨j, (hmem j).2 hj, e⟩
    have h2 := SS.eq_canon toS hjs (l := (jobsT up half l).map (·.1)) fun x => Iff.rfl
    rw [h1, ← h2]
  have hg : ∀ X : List Jb, (∀ j ∈ X, j ∈ jobsT up half l) → X = (X.map (·.1)).map (fun u => (u, setU up half l u, 1, 0)) := fun X hX => by
    rw [List.map_map]
    symm
    calc X.map _ = X.map id := List.map_congr_left fun j hj => (mem_jobsT.1 (hX j hj)).2.2.symm
      _ = X := List.map_id _
  rw [hg S fun j hj => (hmem j).1 hj, hg (jobsT up half l) fun _ h => h, hk]
theorem jobsT_nil (up half : List Str) : jobsT up half [] = [] := rfl
theorem jobsT_len (up half : List Str) (l : List Pl) : (jobsT up half l).length ≤ l.length := by
  rw [jobsT_eq]
  refine Nat.le_trans (List.length_filterMap_le _ _) ?_
  refine Nat.le_trans (canon_len _) ?_
  rw [List.length_map]; exact Nat.le_refl _
end Od
end Go.Proofs.YtbllehjhmfehbaaGreat
end

section
/-
 DERIVED: THE SHELF's CONTRACTS AT THIS DUMP, IN PLAIN WORDS (tools/lay-plain.mjs out of 'TryzSortJob.lean', which tools/lay-shelf.mjs wrote): THE SAME DECLARATIONS UNDER THE SAME NAMES: 'import', 'namespace', 'open', 'def', 'theorem' AND NOTHING ELSE: no command of the shelf's: FOR A HAND-IN. Each laying: the table of numbers ('.._ren') and one theorem, a field a fact of the dump's own or the kernel's comparison; each contract: ONE APPLICATION.
-/
namespace Go.Proofs.YtbllehjhmfehbaaGreat
open Go.Shelf
def Tryz.sortJob_ren : Go.Shelf.Ren := ⟨fun | 6 => 66 | 15 => 92 | 14 => 109 | 28 => 134 | 29 => 135 | 20 => 150 | 21 => 151 | 22 => 152 | 23 => 153 | 24 => 154 | 25 => 155 | 26 => 156 | 27 => 157 | 46 => 199 | 47 => 182 | 48 => 183 | 49 => 200 | 50 => 201 | 57 => 222 | n => n, fun | 22 => 50 | 24 => 60 | 25 => 116 | 3 => 3 | 39 => 150 | 0 => 0 | 53 => 185 | 55 => 187 | 4 => 4 | 46 => 179 | 45 => 178 | 50 => 63 | 5 => 5 | 9 => 9 | 66 => 222 | 70 => 226 | 76 => 247 | 77 => 248 | n => n, fun | n => n⟩
theorem Tryz.sortJob : Go.Proofs.SlLaysF0.n6 Tryz.prog Tryz.sortJob_ren := {
 mixed := by kernel_rfl
 f6 := ⟨Tryz.f66.name, by decide, Tryz.func66.trans (congrArg some (by kernel_rfl))⟩
 f14 := ⟨Tryz.f109.name, by decide, Tryz.func109.trans (congrArg some (by kernel_rfl))⟩
 f15 := Tryz.func92.trans (congrArg some (by kernel_rfl))
 f20 := ⟨Tryz.f150.name, by decide, Tryz.func150.trans (congrArg some (by kernel_rfl))⟩
 f21 := ⟨Tryz.f151.name, by decide, Tryz.func151.trans (congrArg some (by kernel_rfl))⟩
 f22 := ⟨Tryz.f152.name, by decide, Tryz.func152.trans (congrArg some (by kernel_rfl))⟩
 f23 := ⟨Tryz.f153.name, by decide, Tryz.func153.trans (congrArg some (by kernel_rfl))⟩
 f24 := ⟨Tryz.f154.name, by decide, Tryz.func154.trans (congrArg some (by kernel_rfl))⟩
 f25 := ⟨Tryz.f155.name, by decide, Tryz.func155.trans (congrArg some (by kernel_rfl))⟩
 f26 := ⟨Tryz.f156.name, by decide, Tryz.func156.trans (congrArg some (by kernel_rfl))⟩
 f27 := ⟨Tryz.f157.name, by decide, Tryz.func157.trans (congrArg some (by kernel_rfl))⟩
 f28 := Tryz.func134.trans (congrArg some (by kernel_rfl))
 f29 := Tryz.func135.trans (congrArg some (by kernel_rfl))
 f46 := ⟨Tryz.f199.name, by decide, Tryz.func199.trans (congrArg some (by kernel_rfl))⟩
 f47 := Tryz.func182.trans (congrArg some (by kernel_rfl))
 f48 := Tryz.func183.trans (congrArg some (by kernel_rfl))
 f49 := ⟨Tryz.f200.name, by decide, Tryz.func200.trans (congrArg some (by kernel_rfl))⟩
 f50 := ⟨Tryz.f201.name, by decide, Tryz.func201.trans (congrArg some (by kernel_rfl))⟩
 f57 := ⟨Tryz.f222.name, by decide, Tryz.func222.trans (congrArg some (by kernel_rfl))⟩
 t0 := Tryz.underlying0
 a0 := Tryz.isAgg0
 z0 := Tryz.sizeOf0
 v0 := Tryz.zeroValue0
 t3 := Tryz.underlying3
 a3 := Tryz.isAgg3
 z3 := Tryz.sizeOf3
 v3 := Tryz.zeroValue3
 t4 := Tryz.underlying4
 a4 := Tryz.isAgg4
 z4 := Tryz.sizeOf4
 v4 := Tryz.zeroValue4
 t5 := Tryz.underlying5
 a5 := Tryz.isAgg5
 z5 := Tryz.sizeOf5
 v5 := Tryz.zeroValue5
 t9 := Tryz.underlying9
 a9 := Tryz.isAgg9
 z9 := Tryz.sizeOf9
 v9 := Tryz.zeroValue9
 t22 := Tryz.underlying50
 a22 := Tryz.isAgg50
 z22 := Tryz.sizeOf50
 v22 := Tryz.zeroValue50
 t25 := Tryz.underlying116
 a25 := Tryz.isAgg116
 z25 := Tryz.sizeOf116
 v25 := Tryz.zeroValue116
 t39 := Tryz.underlying150
 a39 := Tryz.isAgg150
 z39 := Tryz.sizeOf150
 v39 := Tryz.zeroValue150
 t45 := Tryz.underlying178
 a45 := Tryz.isAgg178
 z45 := Tryz.sizeOf178
 v45 := Tryz.zeroValue178
 t46 := Tryz.underlying179
 a46 := Tryz.isAgg179
 z46 := Tryz.sizeOf179
 v46 := Tryz.zeroValue179
 t50 := Tryz.underlying63
 a50 := Tryz.isAgg63
 z50 := Tryz.sizeOf63
 v50 := Tryz.zeroValue63
 t53 := Tryz.underlying185
 a53 := Tryz.isAgg185
 z53 := Tryz.sizeOf185
 v53 := Tryz.zeroValue185
 t55 := Tryz.underlying187
 a55 := Tryz.isAgg187
 z55 := Tryz.sizeOf187
 v55 := Tryz.zeroValue187
 t66 := Tryz.underlying222
 a66 := Tryz.isAgg222
 z66 := Tryz.sizeOf222
 v66 := Tryz.zeroValue222
 t70 := Tryz.underlying226
 a70 := Tryz.isAgg226
 z70 := Tryz.sizeOf226
 v70 := Tryz.zeroValue226
 t76 := Tryz.underlying247
 a76 := Tryz.isAgg247
 z76 := Tryz.sizeOf247
 v76 := Tryz.zeroValue247
 t77 := Tryz.underlying248
 a77 := Tryz.isAgg248
 z77 := Tryz.sizeOf248
 v77 := Tryz.zeroValue248 }
end Go.Proofs.YtbllehjhmfehbaaGreat
end

section
/- slices.SortFunc at jobs of the call's own, by their units, as trans.Build calls it. (bel2) -/
namespace Go.Proofs.YtbllehjhmfehbaaGreat
open Go.RowKit Go.Sort Go.Lib Go.Shelf
set_option linter.unusedSimpArgs false
namespace Od
theorem infoJb : (Tryz.prog.info? 60).map (fun i => (i.zero, i.size, i.bytes)) = some (some (.agg #[.string ⟨#[]⟩, .int .i64 0, .int .i64 0, .int .i64 0]), 4, 40) := by kernel_rfl
def jbCmp (p q : Jb) : Int := cmpS p.1 q.1
set_option maxRecDepth 100000 in
set_option maxHeartbeats 1000000 in
theorem build1_any (a a' : Str) (t r d t' r' d' : Int) (w : World) :
  Calls Tryz.prog 67 #[jbV (a, t, r, d), jbV (a', t', r', d')] w (GrowInt (cmpS a a') w) := by
 go_enter Tryz.func67, Tryz.ntmps67
 go_wp2_with fail
 refine (CompareS_any a a' _).mono ?_
 rintro e w' ⟨rfl, rfl⟩
 go_wp2_with fail
 go_ret
 exact ⟨rfl, 0, _, by rw [alloc_eq_grow, alloc_eq_grow, grow_grow]; rfl⟩
theorem flatK_jbs (ps : List Jb) : flatK jbC 4 ps.toArray = (jbsC ps).toArray := by
 refine ext_get! (by simp [jbsC_len]) fun t ht => ?_
 have ht' : t < ps.length * 4 := by simpa using ht
 rw [get_flatK _ _ _ t (by simpa using ht')]
 have hi : t / 4 < ps.length := by omega
 have h := flat_at jbC 4 jbC_len ps (t / 4) (t % 4) hi (by omega)
 rw [show t / 4 * 4 + t % 4 = t by omega] at h
 have e1 : ps.toArray[t / 4]! = ps[t / 4] := by simp [hi]
 rw [e1]
 have e2 : (jbsC ps).toArray[t]! = ((jbsC ps)[t]?).getD default := by simp [List.getElem!_eq_getElem?_getD]
 rw [e2, show (jbsC ps)[t]? = (jbC ps[t / 4])[t % 4]? from h]
 simp [List.getElem!_eq_getElem?_getD]
theorem cmpS_ltT {a b : Str} : cmpS a b < 0 ↔ ltS a b = true := by
 unfold cmpS
 rw [lessS_lt]
 split
 ·simp_all
 ·split <;> simp_all
theorem ltOf_jb : ltOf jbCmp = fun p q : Jb => ltS p.1 q.1 := by
 funext p q
 unfold ltOf jbCmp
 rw [Bool.eq_iff_iff, decide_eq_true_eq]
 exact cmpS_ltT
theorem swoJb : SWO (ltOf jbCmp) where
 irrefl x := by rw [ltOf_jb]; exact toS.irrefl _
 trans x y z h1 h2 := by rw [ltOf_jb] at *; exact toS.trans h1 h2
 ntrans x y z h1 h2 := by
  rw [ltOf_jb] at *
  simp only [ltS_false] at *
  exact List.not_lt.2 (List.le_trans (List.not_lt.1 h2) (List.not_lt.1 h1))
set_option maxHeartbeats 1000000 in
theorem sortJb_own (base c : Nat) (A : Option Addr) (ps : List Jb) (w : World) (h : w.ownsRow base 60 4 (.slice A ps.length c) ps.length (jbsC ps)) (hsz : ps.length ≤ 1000000) :
  Calls Tryz.prog 66 #[.slice A ps.length c, .func (.func 67) #[] #[]] w fun e w' => e = .returned (.tuple #[]) ∧ ∃ S : List Jb, S.Perm ps ∧ S.Pairwise (fun a b => ltS b.1 a.1 = false) ∧ w'.ownsRow base 60 4 (.slice A ps.length c) ps.length (jbsC S) ∧ w.grownBy w' (Value.slice A ps.length c).ownBlock := by
 rcases h.2 with ⟨hv, hn⟩ | ⟨g, cap, cur, hv, hg, hb, h1, h2, h3, h4⟩
 ·have hnil : ps = [] := List.length_eq_zero_iff.1 hn
  subst hnil
  refine (show Calls Tryz.prog 66 _ w _ from AnyF.slices_SortFunc_none Tryz.sortJob A c _ w).mono ?_
  rintro e w' ⟨rfl, rfl⟩
  exact ⟨rfl, [], .refl _, List.Pairwise.nil, h, World.grownBy.refl _ _⟩
 ·injection hv with e1 _ e3
  subst e1 e3
  have hgl : g < w.heap.size := (Array.getElem?_eq_some_iff.1 hb).1
  have hlen := jbsC_len ps
  have eg : ∀ args w, (callFunc 67 args).run Tryz.prog w = .ok (.enter 67 args) w := enters_of Tryz.func67 (by kernel_rfl) rfl
  have hH : HoldsK jbC 4 w g 0 ps.toArray := by
   unfold HoldsK
   rw [flatK_jbs]
   exact holds_row hb (by rw [hlen]; exact h4)
  have hcon := AnyQ.slices_SortFunc (P := Tryz.prog) Tryz.sortJob 4 (by intro w; exact Tryz.isAgg60 w) (by intro w; exact Tryz.sizeOf60 w) jbC jbC_len (fun x v hv => one_jbC x v hv) jbCmp swoJb 67 #[] g 0 c ps.toArray w eg
   (fun _ _ _ _ x y => build1_any x.1 y.1 x.2.1 x.2.2.1 x.2.2.2 y.2.1 y.2.2.1 y.2.2.2 _) hH hgl (by simp; omega)
  change Calls Tryz.prog 66 _ _ _ at hcon
  simp only [List.size_toArray] at hcon
  refine hcon.mono ?_
  rintro e w' ⟨rfl, d', n, os, ⟨hs1, _, hs2⟩, hso, rfl⟩
  have hs1' : d'.size = ps.length := by simpa using hs1
  have hperm : d'.toList.Perm ps := by
   have a1 : d'.extract 0 ps.length = d' := by rw [← hs1']; exact Array.extract_size
   have a2 : (ps.toArray).extract 0 ps.length = ps.toArray := by
    simp
   rw [a1, a2] at hs2
   exact hs2
  have hup : d'.toList.Pairwise (fun a b => ltS b.1 a.1 = false) := by
   refine List.pairwise_iff_getElem.2 fun i j hi hj hij => ?_
   have hi' : i < d'.size := by simpa using hi
   have hj' : j < d'.size := by simpa using hj
   have h5 := hso i j (Nat.zero_le _) hij (by omega)
   rw [getElem!_pos d' j hj', getElem!_pos d' i hi', ltOf_jb] at h5
   exact h5
  have hd' : d' = d'.toList.toArray := by simp
  rw [hd']
  unfold sortWorldK putRowK
  rw [flatK_jbs]
  have hl2 : (jbsC d'.toList).length = ps.length * 4 := by rw [jbsC_len, hperm.length_eq]
  refine ⟨rfl, d'.toList, hperm, hup, ⟨hl2, .inr ⟨g, c, _, rfl, hg, heap_row _ hb, h1, h2, by simp [putCells, h3], ?_⟩⟩, grownBy_row _⟩
  rw [← hl2]
  exact take_putCellsI cur _ (by omega)
end Od
end Go.Proofs.YtbllehjhmfehbaaGreat
end

section
/- trans.state, trans.Build and trans.Gone. (bel2) -/
namespace Go.Proofs.YtbllehjhmfehbaaGreat
open Go.RowKit Go.Sort Go.Maps
set_option linter.unusedSimpArgs false
namespace Od
theorem zeroI (w : World) : (zeroValue 3).run Tryz.prog w = .ok (.int .i64 0) w := Tryz.zeroValue3 w
theorem jn_jnT (a b : Int) (up : Bool) : Pr.jn a b up = jnT a b up := rfl
theorem st_setT (a b : Int) : Pr.st a b = setT a b := rfl
set_option maxHeartbeats 1000000 in
theorem state_any (Au Ah : Option Addr) (cu ch : Nat) (up half : List Str) (u : Str) (w : World) (hn : NIn w Au Ah up half) :
  Calls Tryz.prog 65 #[nowV Au up.length cu Ah half.length ch, sv u] w fun e w' => e = .returned (.int .i64 (nowS up half u)) ∧ Below w.heap.size w w' := by
 have HN := Lib.hid hn
 have HS := Lib.hid (show nowS up half u = if hasB up u = true then 1 else if hasB half u = true then 2 else 0 from rfl)
 clear hn
 go_enter Tryz.func65, Tryz.ntmps65
 go_wp2_with fail
 first | (refine wp_named ?_; intro W1 hW) | (refine calls_named ?_; intro W1 hW)
 have B1 : Below w.heap.size w W1 := by rw [hW]; exact bq2
 replace HN := Lib.hid (HN.out.at B1)
 have n1 : w.heap.size < W1.heap.size := by rw [hW]; simp <;> omega
 have c0 : W1.cell? ⟨w.heap.size, 0, none⟩ = some (.slice Au up.length cu) := by rw [hW]; go_simp
 have c1 : W1.cell? ⟨w.heap.size, 1, none⟩ = some (.slice Ah half.length ch) := by rw [hW]; go_simp
 clear hW
 have HB := Lib.hid B1
 clear B1
 refine (containsS_big _ _ _ _ _ HN.out.u.rd HN.out.u.len).mono ?_
 rintro e w' ⟨rfl, rfl⟩
 cases h1 : hasB up u
 ·go_wp2_with fail
  refine (containsS_big _ _ _ _ _ HN.out.h.rd HN.out.h.len).mono ?_
  rintro e w' ⟨rfl, rfl⟩
  cases h2 : hasB half u
  ·go_wp2_with fail
   go_ret
   exact ⟨by rw [HS.out, h1, h2]; rfl, HB.out⟩
  ·go_wp2_with fail
   go_ret
   exact ⟨by rw [HS.out, h1, h2]; rfl, HB.out⟩
 ·go_wp2_with fail
  go_ret
  exact ⟨by rw [HS.out, h1]; rfl, HB.out⟩
def tyF (up : List Str) (l : List Pl) (s : Str) : Option Value := if s ∈ l.map (·.1) then some (.int .i64 (tyU up l s)) else none
theorem tyF_put {up : List Str} {l : List Pl} {p : Pl} {v : Int} (hv : tyU up (l ++ [p]) p.1 = v) : (fun y => if y = p.1 then some (Value.int .i64 v) else tyF up l y) = tyF up (l ++ [p]) := by
 funext y
 unfold tyF
 by_cases e : y = p.1
 ·subst e
  rw [if_pos rfl, hv, List.map_append, if_pos (by simp)]
 ·rw [if_neg e, tyU_other fun h => e h.symm]
  have h2 : (y ∈ (l ++ [p]).map (·.1)) ↔ y ∈ l.map (·.1) := by
   rw [List.map_append, List.mem_append]
   simp only [List.map_cons, List.map_nil, List.mem_singleton]
   exact ⟨fun h => h.elim id fun h => absurd h e, .inl⟩
  by_cases h3 : y ∈ l.map (·.1)
  ·rw [if_pos h3, if_pos (h2.2 h3)]
  ·rw [if_neg h3, if_neg fun h => h3 (h2.1 h)]
theorem tyF_nil (up : List Str) : (fun _ => none : Str → Option Value) = tyF up [] := by funext s; simp [tyF]
theorem tyF_of {up : List Str} {l : List Pl} {s : Str} {v : Value} (h : tyF up l s = some v) : v = .int .i64 (tyU up l s) ∧ s ∈ l.map (·.1) := by
 unfold tyF at h
 split at h
 ·rename_i h1
  injection h with h
  exact ⟨h.symm, h1⟩
 ·cases h
theorem tyF_none {up : List Str} {l : List Pl} {s : Str} (h : (tyF up l s).isSome = false) : s ∉ l.map (·.1) := fun hs => by
 unfold tyF at h
 rw [if_pos hs] at h
 cases h
theorem setI_if {w : World} {b n : Nat} {k : Str} {a : Option Value} {f : Str → Option Value} (h : MapIs strK w b n (fun y => @ite (Option Value) (y = k) (Classical.propDecidable _) a (f y))) : MapIs strK w b n (fun y => if y = k then a else f y) := by
 have e : (fun y => @ite (Option Value) (y = k) (Classical.propDecidable _) a (f y)) = (fun y => if y = k then a else f y) := by
  funext y
  by_cases e : y = k <;> simp [e]
 rwa [e] at h
/-- The jobs that come of it. -/
def BuildD (T : Tr) (up half : List Str) (w : World) (en : Ending) (w' : World) : Prop :=
 ∃ A c, en = .returned (.tuple #[.slice A (jobsT up half T.l).length c, .int .i64 T.err]) ∧ w'.ownsRow w.heap.size 60 4 (.slice A (jobsT up half T.l).length c) (jobsT up half T.l).length (jbsC (jobsT up half T.l)) ∧ Below w.heap.size w w'
/-- The jobs that went. -/
def GoneD (T : Tr) (w : World) (en : Ending) (w' : World) : Prop :=
 ∃ A c, en = .returned (.slice A T.gone.length c) ∧ w'.ownsRow w.heap.size 37 4 (.slice A T.gone.length c) T.gone.length (plsC T.gone) ∧ Below w.heap.size w w'
theorem madeT_keys {ns : List Nd} {es : List Ed} {up half : List Str} {k : Jp} (hok : OkE es) (hof : okJ k) : ∀ p ∈ (madeT ns es up half k).l, okS p.1 := fun p hp => by
 by_cases h : (madeT ns es up half k).err = 0
 ·rw [(made_ok h).2.1] at hp
  obtain ⟨_, h2⟩ := mem_pullQ.1 hp
  obtain ⟨h1, _, _⟩ := mem_allP.1 h2
  exact (pull_keys_ok (okJ_cand hok) hof _ (mem_pullM.2 h1)).1
 ·rw [(made_none h).1] at hp; cases hp
theorem madeT_len (ns : List Nd) (es : List Ed) (up half : List Str) (k : Jp) : (madeT ns es up half k).l.length ≤ 6 * es.length + 1 := by
 by_cases h : (madeT ns es up half k).err = 0
 ·rw [(made_ok h).2.1]; exact pullQ_len _ _ _ _ _ _
 ·rw [(made_none h).1]; simp
set_option maxRecDepth 100000 in
set_option maxHeartbeats 8000000 in
theorem Gone_any (An Ae Au Ah : Option Addr) (cn ce cu ch : Nat) (ns : List Nd) (es : List Ed) (up half : List Str) (u : Str) (t : Int) (w : World) (hg : GIw w An Ae ns es) (hn : NIn w Au Ah up half) (hnl : ns.length ≤ 64) (hel : es.length ≤ 200) (hof : okJ (u, t)) :
  Calls Tryz.prog 31 #[gV An ns.length cn Ae es.length ce, nowV Au up.length cu Ah half.length ch, sv u, .int .i64 t] w (GoneD (madeT ns es up half (u, t)) w) := by
 have HG := Lib.hid hg
 have HN := Lib.hid hn
 have HN0 := Lib.hid hn
 clear hg hn
 go_enter Tryz.func31, Tryz.ntmps31
 go_wp2_with fail
 first | (refine wp_named ?_; intro W1 hW) | (refine calls_named ?_; intro W1 hW)
 have B1 : Below w.heap.size w W1 := by rw [hW]; exact bq2
 replace HN := Lib.hid (HN.out.at B1)
 have n1 : w.heap.size < W1.heap.size := by rw [hW]; simp <;> omega
 have n2 : (w.heap.size + 1) < W1.heap.size := by rw [hW]; simp <;> omega
 have n3 : (w.heap.size + 1 + 1) < W1.heap.size := by rw [hW]; simp <;> omega
 have a0 : W1.cell? ⟨(w.heap.size + 1), 0, none⟩ = some (.slice Au up.length cu) := by rw [hW]; go_simp
 have a1 : W1.cell? ⟨(w.heap.size + 1), 1, none⟩ = some (.slice Ah half.length ch) := by rw [hW]; go_simp
 have c0 : W1.cell? ⟨(w.heap.size + 1 + 1), 0, none⟩ = some (.slice An ns.length cn) := by rw [hW]; go_simp
 have c1 : W1.cell? ⟨(w.heap.size + 1 + 1), 1, none⟩ = some (.slice Ae es.length ce) := by rw [hW]; go_simp
 have c2 : W1.cell? ⟨(w.heap.size + 1 + 1), 2, none⟩ = some (.slice Au up.length cu) := by rw [hW]; go_simp
 have c3 : W1.cell? ⟨(w.heap.size + 1 + 1), 3, none⟩ = some (.slice Ah half.length ch) := by rw [hW]; go_simp
 have c4 : W1.cell? ⟨(w.heap.size + 1 + 1), 4, none⟩ = some (sv u) := by rw [hW]; go_simp
 have c5 : W1.cell? ⟨(w.heap.size + 1 + 1), 5, none⟩ = some (.int .i64 t) := by rw [hW]; go_simp
 have c6 : W1.cell? ⟨(w.heap.size + 1 + 1), 6, none⟩ = some (.slice none 0 0) := by rw [hW]; go_simp
 have z6 : W1.frozen? ⟨(w.heap.size + 1 + 1), 6, none⟩ = false := by rw [hW]; go_simp
 clear hW
 have hmf : MkF W1 (w.heap.size + 1 + 1) An Ae Au Ah cn ce cu ch ns es up half u t :=
  ⟨c0, c1, c2, c3, c4, c5, (HG.out.rn.on (Nat.le_refl _) B1).more (by omega), (HG.out.re.on (Nat.le_refl _) B1).more (by omega), (HN0.out.u.rd.on (Nat.le_refl _) B1).more (by omega), (HN0.out.h.rd.on (Nat.le_refl _) B1).more (by omega), HN0.out.u.len, HN0.out.h.len, hnl, hel, HG.out.okn, HG.out.oke, hof⟩
 have HMf := Lib.hid hmf
 have HMg := Lib.hid (show MkG W1 (w.heap.size + 1 + 1) (.slice none 0 0) [] from ⟨c6, z6, World.ownsRow_nil _ _ _ _⟩)
 have HB1 := Lib.hid B1
 clear B1 hmf c0 c1 c2 c3 c4 c5 c6 z6
 refine (tall_any (w.heap.size + 1 + 1) An Ae Au Ah cn ce cu ch ns es up half u t W1 HMf.out HMg.out).mono ?_
 rintro e w2 ⟨A2, c2, rfl, ho2, hb2, hg2⟩
 have HO2 := Lib.hid ho2
 have HG2 := Lib.hid hg2
 have hz2 := (Nat.le_trans (show w.heap.size + 1 + 1 ≤ W1.heap.size by omega) hb2.size)
 have HB2 := Lib.hid (show Below w.heap.size w w2 from HB1.out.trans (hb2.mono (by omega)))
 have HN2 := Lib.hid (HN0.out.at HB2.out)
 replace a0 := (hb2.cell (p := ⟨w.heap.size + 1, 0, none⟩) (by simp)).trans a0
 replace a1 := (hb2.cell (p := ⟨w.heap.size + 1, 1, none⟩) (by simp)).trans a1
 have na := (Nat.lt_of_lt_of_le n2 hb2.size)
 clear ho2 hg2 hb2 HMf HMg HN n1 n2 n3
 have HNo := Lib.hid (fun h => (made_none (ns := ns) (es := es) (up := up) (half := half) (first := (u, t)) h).2)
 generalize madeT ns es up half (u, t) = T at *
 by_cases he : T.err = 0
 ·obtain ⟨v', hv'⟩ := HG2.out he
  have k6 := hv'.c6
  have hrow := hv'.row
  obtain ⟨Ag, cg, rfl, _⟩ := own_rd hrow
  have HRow := Lib.hid hrow
  have hm2 := hv'.lt
  clear hrow hv'
  go_wp2_with fail
  go_ret
  exact ⟨Ag, cg, rfl, own_base HRow.out (by omega), HB2.out⟩
 ·have hne : (T.err != 0) = true := by simp [bne, he]
  have HE := Lib.hid (HNo.out he)
  clear he
  go_wp2_with fail
  go_ret
  unfold GoneD
  rw [HE.out]
  exact ⟨none, 0, rfl, World.ownsRow_nil _ _ _ _, HB2.out⟩
set_option maxRecDepth 100000 in
set_option maxHeartbeats 16000000 in
theorem Build_any (An Ae Au Ah : Option Addr) (cn ce cu ch : Nat) (ns : List Nd) (es : List Ed) (up half : List Str) (u : Str) (t : Int) (w : World) (hg : GIw w An Ae ns es) (hn : NIn w Au Ah up half) (hnl : ns.length ≤ 64) (hel : es.length ≤ 200) (hof : okJ (u, t)) :
  Calls Tryz.prog 27 #[gV An ns.length cn Ae es.length ce, nowV Au up.length cu Ah half.length ch, sv u, .int .i64 t] w (BuildD (madeT ns es up half (u, t)) up half w) := by
 obtain ⟨i0, hi, hz0, hz1, hz2'⟩ := info_parts infoJb
 have hmm : ∀ (t : TypeId) (w : World), (Instr.makeMap t none).run Tryz.prog w = .ok (.map (some w.heap.size)) (w.alloc (.map #[] 0)) := fun _ _ => rfl
 have HG := Lib.hid hg
 have HN := Lib.hid hn
 have HN0 := Lib.hid hn
 clear hg hn
 go_enter Tryz.func27, Tryz.ntmps27
 go_wp2_with fail
 first | (refine wp_named ?_; intro W1 hW) | (refine calls_named ?_; intro W1 hW)
 have B1 : Below w.heap.size w W1 := by rw [hW]; exact bq2
 replace HN := Lib.hid (HN.out.at B1)
 have n1 : w.heap.size < W1.heap.size := by rw [hW]; simp <;> omega
 have n2 : (w.heap.size + 1) < W1.heap.size := by rw [hW]; simp <;> omega
 have n3 : (w.heap.size + 1 + 1) < W1.heap.size := by rw [hW]; simp <;> omega
 have a0 : W1.cell? ⟨(w.heap.size + 1), 0, none⟩ = some (.slice Au up.length cu) := by rw [hW]; go_simp
 have a1 : W1.cell? ⟨(w.heap.size + 1), 1, none⟩ = some (.slice Ah half.length ch) := by rw [hW]; go_simp
 have c0 : W1.cell? ⟨(w.heap.size + 1 + 1), 0, none⟩ = some (.slice An ns.length cn) := by rw [hW]; go_simp
 have c1 : W1.cell? ⟨(w.heap.size + 1 + 1), 1, none⟩ = some (.slice Ae es.length ce) := by rw [hW]; go_simp
 have c2 : W1.cell? ⟨(w.heap.size + 1 + 1), 2, none⟩ = some (.slice Au up.length cu) := by rw [hW]; go_simp
 have c3 : W1.cell? ⟨(w.heap.size + 1 + 1), 3, none⟩ = some (.slice Ah half.length ch) := by rw [hW]; go_simp
 have c4 : W1.cell? ⟨(w.heap.size + 1 + 1), 4, none⟩ = some (sv u) := by rw [hW]; go_simp
 have c5 : W1.cell? ⟨(w.heap.size + 1 + 1), 5, none⟩ = some (.int .i64 t) := by rw [hW]; go_simp
 have c6 : W1.cell? ⟨(w.heap.size + 1 + 1), 6, none⟩ = some (.slice none 0 0) := by rw [hW]; go_simp
 have z6 : W1.frozen? ⟨(w.heap.size + 1 + 1), 6, none⟩ = false := by rw [hW]; go_simp
 clear hW
 have hmf : MkF W1 (w.heap.size + 1 + 1) An Ae Au Ah cn ce cu ch ns es up half u t :=
  ⟨c0, c1, c2, c3, c4, c5, (HG.out.rn.on (Nat.le_refl _) B1).more (by omega), (HG.out.re.on (Nat.le_refl _) B1).more (by omega), (HN0.out.u.rd.on (Nat.le_refl _) B1).more (by omega), (HN0.out.h.rd.on (Nat.le_refl _) B1).more (by omega), HN0.out.u.len, HN0.out.h.len, hnl, hel, HG.out.okn, HG.out.oke, hof⟩
 have HMf := Lib.hid hmf
 have HMg := Lib.hid (show MkG W1 (w.heap.size + 1 + 1) (.slice none 0 0) [] from ⟨c6, z6, World.ownsRow_nil _ _ _ _⟩)
 have HB1 := Lib.hid B1
 clear B1 hmf c0 c1 c2 c3 c4 c5 c6 z6
 refine (tall_any (w.heap.size + 1 + 1) An Ae Au Ah cn ce cu ch ns es up half u t W1 HMf.out HMg.out).mono ?_
 rintro e w2 ⟨A2, c2, rfl, ho2, hb2, hg2⟩
 have HO2 := Lib.hid ho2
 have HG2 := Lib.hid hg2
 have hz2 := (Nat.le_trans (show w.heap.size + 1 + 1 ≤ W1.heap.size by omega) hb2.size)
 have HB2 := Lib.hid (show Below w.heap.size w w2 from HB1.out.trans (hb2.mono (by omega)))
 have HN2 := Lib.hid (HN0.out.at HB2.out)
 replace a0 := (hb2.cell (p := ⟨w.heap.size + 1, 0, none⟩) (by simp)).trans a0
 replace a1 := (hb2.cell (p := ⟨w.heap.size + 1, 1, none⟩) (by simp)).trans a1
 have na := (Nat.lt_of_lt_of_le n2 hb2.size)
 clear ho2 hg2 hb2 HMf HMg HN n1 n2 n3
 have HNo := Lib.hid (fun h => (made_none (ns := ns) (es := es) (up := up) (half := half) (first := (u, t)) h).1)
 have HOk := Lib.hid (madeT_keys (ns := ns) (up := up) (half := half) (k := (u, t)) HG.out.oke hof)
 have hlen := madeT_len ns es up half (u, t)
 generalize madeT ns es up half (u, t) = T at *
 by_cases he : T.err = 0
 ·have HL2 := Lib.hid (own_rd' HO2.out)
  have HD := Lib.hid (show ∀ en w', BuildD T up half w en w' = ∃ A c, en = .returned (.tuple #[.slice A (jobsT up half T.l).length c, .int .i64 0]) ∧ w'.ownsRow w.heap.size 60 4 (.slice A (jobsT up half T.l).length c) (jobsT up half T.l).length (jbsC (jobsT up half T.l)) ∧ Below w.heap.size w w' from fun en w' => by unfold BuildD; rw [he])
  have hbe : (T.err != 0) = false := by rw [he]; rfl
  clear HG2 HNo he
  generalize T.l = L at *
  generalize T.err = te at *
  go_wp2_with fail
  have hmp : MapIs strK (w2.alloc (.map #[] 0)) w2.heap.size 0 (tyF up []) := by
   have h := MapIs.made strK w2
   rwa [tyF_nil up] at h
  have HM0 := Lib.hid hmp
  clear hmp
  have HLm := Lib.hid (show L.length < maxLen by unfold maxLen; omega)
  go_loopw [39] (fun i wr => ∃ k : Nat, k ≤ L.length ∧ i = .int .i64 k ∧ Hid (MapIs strK wr w2.heap.size k (tyF up (L.take k))) ∧ Hid (Below w2.heap.size w2 wr)) (fun i _ => L.length - (intOf i).toNat)
  case atStart => exact ⟨0, Nat.zero_le _, rfl, HM0, (Below.refl _ _).alloc (Nat.le_refl _) _⟩
  case round =>
   obtain ⟨k, hk, rfl, HMk, HBk⟩ := hrel
   obtain ⟨w3, rfl⟩ : ∃ wo : World, wo = wr := ⟨_, rfl⟩
   have hz5 := HBk.out.size
   have hmlt := HMk.out.lt
   have e0 := cellAt a0 HBk.out na
   have e1 := cellAt a1 HBk.out na
   have ne := ltAt na HBk.out
   by_cases hlt : k < L.length
   ·obtain ⟨b2, o2, hA, hB2, x0, x1, x2, x3⟩ := (HL2.out.at HBk.out).pl hlt
    subst hA
    have htk := List.take_succ_eq_append_getElem hlt
    have hok := HOk.out _ (List.getElem_mem hlt)
    have hkm : k < maxLen := by have := HLm.out; omega
    generalize L[k] = p at x0 x1 x2 x3 htk hok
    obtain ⟨s, t', n, b⟩ := p
    simp only at x0 x1 x2 x3 hok
    have HTk := Lib.hid htk
    have HKm := Lib.hid hkm
    have i1 : (0 : Int) ≤ (k : Int) := by omega
    have i2 : (k : Int) < (L.length : Int) := by omega
    have HN3 := Lib.hid (HN2.out.at HBk.out)
    clear htk hkm
    by_cases hin : s ∈ (L.take k).map (·.1)
    ·have hv := tyU_old (up := up) (p := (s, t', n, b)) hin
     have hf : tyF up (L.take k) s = some (.int .i64 (tyU up (L.take k) s)) := by unfold tyF; rw [if_pos hin]
     simp only at hv
     have HF := Lib.hid hf
     generalize tyU up (L.take k) s = ot at *
     have HV := Lib.hid hv
     clear hv hf hin
     go_wp2_with (first
      | (at_lookup; refine wpList_lookOk_is _ (by rfl) (.tmp 46) (.tmp 48) 62 (by rfl) 3 Tryz.underlying62 (.int .i64 0) (zeroI _) w2.heap.size _ _ (by rfl) (HMk.out.alloc _) s (by rfl) hok ?_; rw [HF.out])
      | fail)
     first | (refine wp_named ?_; intro W4 hW) | (refine calls_named ?_; intro W4 hW)
     have B4 : Below w3.heap.size w3 W4 := by rw [hW]; exact bq2
     replace e0 := cellAt e0 B4 (by omega)
     replace e1 := cellAt e1 B4 (by omega)
     replace HMk := Lib.hid (HMk.out.on B4)
     replace HBk := Lib.hid (lift HBk.out B4)
     replace HN3 := Lib.hid (HN3.out.at B4)
     replace ne : (w.heap.size + 1) < W4.heap.size := ltAt ne B4
     replace hmlt : w2.heap.size < W4.heap.size := ltAt hmlt B4
     have n4 : w3.heap.size < W4.heap.size := by rw [hW]; simp <;> omega
     have y0 : W4.cell? ⟨w3.heap.size, 0, none⟩ = some (sv s) := by rw [hW]; go_simp
     clear hW
     clear B4 x0 x1 x2 x3
     refine (state_any Au Ah cu ch up half s W4 HN3.out).mono ?_
     rintro e w5 ⟨rfl, hb⟩
     replace e0 := cellAt e0 hb (by omega)
     replace e1 := cellAt e1 hb (by omega)
     replace y0 := cellAt y0 hb (by omega)
     replace HMk := Lib.hid (HMk.out.on hb)
     replace HBk := Lib.hid (lift HBk.out hb)
     replace HN3 := Lib.hid (HN3.out.at hb)
     replace ne : (w.heap.size + 1) < w5.heap.size := ltAt ne hb
     replace hmlt : w2.heap.size < w5.heap.size := ltAt hmlt hb
     replace n4 : w3.heap.size < w5.heap.size := ltAt n4 hb
     clear hb
     have hup : (nowS up half s == 1) = hasB up s := by
      unfold nowS
      cases hasB up s
      ·cases hasB half s <;> rfl
      ·rfl
     generalize nowS up half s = st at *
     go_wp2_with fail
     refine (Pr.join_any ot t' (hasB up s) w5).mono ?_
     rintro e w6 ⟨rfl, rfl⟩
     rw [jn_jnT]
     have HMq := Lib.hid HMk.out
     have HBq := Lib.hid HBk.out
     have hz6 := HBk.out.size
     go_wp2_with (first
      | (at_mapUpdate; refine wpList_update_is _ (by rfl) (.tmp 64) (.tmp 66) (.tmp 67) 62 (by rfl) 3 Tryz.underlying62 w2.heap.size _ _ (by rfl) (HMq.out) HKm.out s (.int .i64 (jnT ot t' (hasB up s)).1) (by rfl) (by rfl) hok ?_; intro w6 hm6 hg6; have HM6 := Lib.hid (setI_if hm6); have HB6 := Lib.hid (HBq.out.grown hg6 (by omega) (fun g hg => by cases hg; exact Nat.le_refl _)); clear hm6 hg6)
      | fail)
     go_roundw
     case rel =>
      have h6 := HM6.out
      rw [tyF_put (p := (s, t', n, b)) HV.out, ← HTk.out] at h6
      exact ⟨k + 1, by omega, by go_num, h6, HB6⟩
     case measure => simp [intOf]; omega
    ·have hv := tyU_new (up := up) (p := (s, t', n, b)) hin
     have hf : tyF up (L.take k) s = none := by unfold tyF; rw [if_neg hin]
     simp only at hv
     have HF := Lib.hid hf
     have HV := Lib.hid hv
     have HMq := Lib.hid (HMk.out.alloc (.cells #[sv s, .int .i64 t', .bool n, sv b] 37))
     have HBq := Lib.hid (HBk.out.alloc hz5 (.cells #[sv s, .int .i64 t', .bool n, sv b] 37))
     have hz6 : w2.heap.size ≤ (w3.alloc (.cells #[sv s, .int .i64 t', .bool n, sv b] 37)).heap.size := HBq.out.size
     clear hv hf hin
     go_wp2_with (first
      | (at_lookup; refine wpList_lookOk_is _ (by rfl) (.tmp 46) (.tmp 48) 62 (by rfl) 3 Tryz.underlying62 (.int .i64 0) (zeroI _) w2.heap.size _ _ (by rfl) (HMk.out.alloc _) s (by rfl) hok ?_; rw [HF.out])
      | (at_mapUpdate; refine wpList_update_is _ (by rfl) (.tmp 64) (.tmp 66) (.tmp 67) 62 (by rfl) 3 Tryz.underlying62 w2.heap.size _ _ (by rfl) (HMq.out) HKm.out s (.int .i64 t') (by rfl) (by rfl) hok ?_; intro w6 hm6 hg6; have HM6 := Lib.hid (setI_if hm6); have HB6 := Lib.hid (HBq.out.grown hg6 hz6 (fun g hg => by cases hg; exact Nat.le_refl _)); clear hm6 hg6)
      | fail)
     go_roundw
     case rel =>
      have h6 := HM6.out
      rw [tyF_put (p := (s, t', n, b)) HV.out, ← HTk.out] at h6
      exact ⟨k + 1, by omega, by go_num, h6, HB6⟩
     case measure => simp [intOf]; omega
   ·obtain rfl : k = L.length := by omega
    rw [List.take_length] at HMk
    have HB3 := Lib.hid (lift HB2.out HBk.out)
    have HN3 := Lib.hid (HN2.out.at HBk.out)
    have HBk0 := Lib.hid HBk.out
    clear HL2 HO2 a0 a1 HBk
    go_wp2_with (first
     | (at_range; refine wpList_range_is _ (by rfl) (.tmp 69) 62 (by rfl) 3 Tryz.underlying62 w2.heap.size _ _ (by rfl) HMk.out ?_; intro w3' cnt hr3 hg3 hs3; have HR3 := Lib.hid hr3; have HG3 := Lib.hid hg3; clear hr3 hg3)
     | fail)
    have hz3 : w2.heap.size < w3.heap.size := HMk.out.lt
    go_frame
    go_loopw [19] (fun v wr => ∃ (left : Str → Bool) (cnt : Nat) (M : List Str) (R : List Jb), RangeIs strK wr w2.heap.size w3.heap.size (List.length L) (tyF up L) left cnt ∧ Hid (R = M.filterMap (jobTOf up half L)) ∧ List.Nodup M ∧ Hid (∀ k, k ∈ M ↔ k ∈ L.map (·.1) ∧ left k = false) ∧ wr.ownsRow (w3.heap.size + 1) 60 4 v (List.length R) (jbsC R) ∧ Below w3.heap.size w3 wr ∧ w3.heap.size < wr.heap.size) (fun _ wr => wr.rangeLeft w2.heap.size w3.heap.size)
    case atStart =>
     have hb3 : Below w3.heap.size w3 w3' := (Below.refl _ _).grown HG3.out (Nat.le_refl _) (fun g hg => by cases hg)
     exact ⟨_, cnt, [], [], HR3.out, rfl, List.nodup_nil, fun k => ⟨fun h => (by cases h), fun h => absurd h.1 (tyF_none h.2)⟩, World.ownsRow_nil _ _ _ _, hb3, by omega⟩
    case round =>
     obtain ⟨left, cnt', M, R, hrg, HRL, hnd, hM, hown, hbel, hwz⟩ := hrel
     obtain ⟨A, c, rfl, _⟩ := own_rd hown
     have hmz : wr.rangeLeft w2.heap.size w3.heap.size = cnt' := hrg.left_eq
     have hMl : M.length ≤ L.length := by
      have h1 := nodup_lenS hnd (cand := L.map (·.1)) fun k hk => ((hM.out k).1 hk).1
      rwa [List.length_map] at h1
     have hRl : R.length ≤ L.length := by
      rw [HRL.out]
      exact Nat.le_trans (List.length_filterMap_le _ _) hMl
     have HML := Lib.hid (And.intro hnd hM.out)
     have HB := Lib.hid hbel
     have HM := Lib.hid hmz
     have HRg := Lib.hid hrg
     have HO3 := Lib.hid hown
     have h63 := Lib.hid (show R.length + 1 ≤ maxLen by unfold maxLen; omega)
     have hby := Lib.hid (show (R.length + 1) * 40 ≤ 140737488355328 by omega)
     clear hbel hmz hrg hnd hM hown hMl
     go_wp2_with (first
      | (at_next; refine wpList_next_is _ (by rfl) (.tmp 70) (by rfl) w2.heap.size w3.heap.size _ (tyF up L) left cnt' (by rfl) HRg.out ?_ ?_)
      | fail)
     ·intro hdone
      have hmem : ∀ k, k ∈ M ↔ ∃ p ∈ L, p.1 = k := fun k => by
       rw [HML.out.2, ← List.mem_map (f := fun p : Pl => p.1)]
       exact ⟨fun h => h.1, fun h => ⟨h, hdone k (by obtain ⟨p, hp, e⟩ := List.mem_map.1 h; rw [← e]; exact HOk.out p hp)⟩⟩
      have HMem := Lib.hid hmem
      clear hdone hmem
      go_wp2_with fail
      refine (sortJb_own _ c A R _ HO3.out (by omega)).mono ?_
      rintro e w6' ⟨rfl, S, hS1, hS2, ho6, hg6⟩
      have hSe : S = jobsT up half L := jobs_sorted HML.out.1 HMem.out (by rw [← HRL.out]; exact hS1) hS2
      have hSl : S.length = R.length := hS1.length_eq
      have HS := Lib.hid (And.intro hSe hSl)
      have HO6 := Lib.hid ho6
      have HG6 := Lib.hid hg6
      clear hS1 hS2 hSe hSl ho6 hg6
      go_wp2_with fail
      go_ret2
      rw [HD.out, ← HS.out.1]
      refine ⟨A, c, by rw [HS.out.2]; rfl, ?_, ?_⟩
      ·rw [HS.out.2]; exact own_base HO6.out (by have := HB3.out.size; omega)
      ·exact (lift HB3.out HB.out).grown HG6.out (by have := HB3.out.size; have := HB.out.size; omega) (fun j hj => by have := (HO3.out.lt j hj).1; have := HB3.out.size; omega)
     ·intro s v' w4 cnt3 hx hlx hfx hrg3 hlt3 hg3 hs4 hen
      obtain ⟨hv', hxm⟩ := tyF_of hfx
      subst hv'
      rw [show strK.val s = sv s from rfl] at hen ⊢
      have hb4 : Below w3.heap.size w3 w4 := HB.out.grown hg3 (by omega) (fun g hg => by cases hg; exact Nat.le_refl _)
      have ho4 : w4.ownsRow (w3.heap.size + 1) 60 4 (.slice A R.length c) R.length (jbsC R) := by
       refine HO3.out.kept hg3 ?_
       cases hv : (Value.slice A R.length c).ownBlock with
       | none => exact .inl rfl
       | some g => exact .inr (fun e => by cases e; exact absurd (HO3.out.lt _ hv).1 (by omega))
      have HR4 := Lib.hid hrg3
      have HB4 := Lib.hid hb4
      have HO4 := Lib.hid ho4
      have HX := Lib.hid (And.intro hlx hxm)
      have HLt := Lib.hid hlt3
      have hz4 : w3.heap.size < w4.heap.size := by omega
      have f0 := cellAt e0 hb4 ne
      have f1 := cellAt e1 hb4 ne
      have nf := ltAt ne hb4
      have HN4 := Lib.hid (HN3.out.at hb4)
      have HJo := Lib.hid (show jobTOf up half L s = if setT (tyU up L s) (nowS up half s) = 0 then none else some (s, setT (tyU up L s) (nowS up half s), 1, 0) from rfl)
      generalize tyU up L s = ty at *
      clear hrg3 hb4 ho4 hg3 hlx hfx hxm hlt3 hs4
      go_wp2_with fail
      refine (state_any Au Ah cu ch up half s w4 HN4.out).mono ?_
      rintro e w5 ⟨rfl, hb⟩
      replace HB4 := Lib.hid (lift HB4.out hb)
      replace HR4 := Lib.hid (RangeIs.on HR4.out hb)
      replace HO4 := Lib.hid (own_on HO4.out hb)
      replace hz4 : w3.heap.size < w5.heap.size := ltAt hz4 hb
      clear hb
      generalize nowS up half s = sn at *
      go_wp2_with fail
      refine (Pr.settle_any ty sn w5).mono ?_
      rintro e w6 ⟨rfl, rfl⟩
      rw [st_setT]
      generalize setT ty sn = sy at *
      have hxL : ¬ s ∈ M := fun h => by have := ((HML.out.2 _).1 h).2; rw [HX.out.1] at this; cases this
      have HxL := Lib.hid hxL
      clear hxL hen
      by_cases h0 : sy = 0
      ·have HJ := Lib.hid (show jobTOf up half L s = none by rw [HJo.out, if_pos h0])
       subst h0
       clear HJo
       go_wp2_with fail
       refine ⟨⟨_, cnt3, M ++ [s], R, HR4.out, ?_, ?_, ?_, HO4.out, HB4.out, hz4⟩, ?_⟩
       ·show R = _
        rw [List.filterMap_append, ← HRL.out]
        simp [HJ.out]
       ·exact List.nodup_append.2 ⟨HML.out.1, List.pairwise_singleton _ _, fun a ha b hb e => by
         have : b = s := by simpa using hb
         subst this; subst e; exact HxL.out ha⟩
       ·intro k
        rw [List.mem_append, List.mem_singleton, HML.out.2]
        constructor
        ·rintro (⟨h1, h2⟩ | rfl)
         ·exact ⟨h1, by simp [h2]⟩
         ·exact ⟨HX.out.2, by simp⟩
        ·rintro ⟨h1, h2⟩
         by_cases e : k = s
         ·exact .inr e
         ·exact .inl ⟨h1, by simpa [e] using h2⟩
       ·rw [HM.out, HR4.out.left_eq]
        exact HLt.out
      ·have HJ := Lib.hid (show jobTOf up half L s = some (s, sy, 1, 0) by rw [HJo.out, if_neg h0])
       have hn0 : (sy != 0) = true := by simp [bne, h0]
       have hz9 : w3.heap.size + 1 ≤ w5.heap.size := by omega
       have hz8 := Nat.le_refl w5.heap.size
       clear HJo h0
       go_wp2_with (first | (at_builtin; refine wpList_pushm w5 w5 (by rfl) (.tmp 83) (.tmp 87) 50 (by rfl) (w3.heap.size + 1) 60 i0 _ 4 40 Tryz.underlying50 hi hz0 hz1 hz2' rfl (by decide) _ _ _ (by rfl) HO4.out (jbC (s, sy, 1, 0)) (w5.heap.size) rfl (by rfl) rfl (one_jbC (s, sy, 1, 0)) h63.out hby.out hz9 (Below.refl _ _) ?_; intro A7 c7 w7 hown7 hbel7 hg7 hat7; have HO7 := Lib.hid hown7; have HG7 := Lib.hid (And.intro hbel7 hg7); clear hown7 hbel7 hg7 hat7) | fail)
       have hrw : ∀ b, (Value.slice A R.length c).ownBlock = some b → w3.heap.size + 1 ≤ b := fun b hb => (HO4.out.lt b hb).1
       have HR7 := Lib.hid (HR4.out.kept HG7.out.2 (fun e => by have := hrw _ e.symm; have := HMk.out.lt; omega) (fun e => by have := hrw _ e.symm; omega))
       refine ⟨⟨_, cnt3, M ++ [s], R ++ [(s, sy, 1, 0)], HR7.out, ?_, ?_, ?_, ?_, HB4.out.grown HG7.out.2 (by omega) (fun j hj => by have := hrw j hj; omega), by have := HG7.out.2.size; omega⟩, ?_⟩
       ·show R ++ _ = _
        rw [List.filterMap_append, ← HRL.out]
        simp [HJ.out]
       ·exact List.nodup_append.2 ⟨HML.out.1, List.pairwise_singleton _ _, fun a ha b hb e => by
         have : b = s := by simpa using hb
         subst this; subst e; exact HxL.out ha⟩
       ·intro k
        rw [List.mem_append, List.mem_singleton, HML.out.2]
        constructor
        ·rintro (⟨h1, h2⟩ | rfl)
         ·exact ⟨h1, by simp [h2]⟩
         ·exact ⟨HX.out.2, by simp⟩
        ·rintro ⟨h1, h2⟩
         by_cases e : k = s
         ·exact .inr e
         ·exact .inl ⟨h1, by simpa [e] using h2⟩
       ·rw [List.length_append, jbsC_app, jbsC_one]
        exact HO7.out
       ·rw [HM.out, HR7.out.left_eq]
        exact HLt.out
 ·have hne : (T.err != 0) = true := by simp [bne, he]
  have HE := Lib.hid (HNo.out he)
  clear he
  go_wp2_with fail
  go_ret2
  unfold BuildD
  rw [HE.out, jobsT_nil]
  exact ⟨none, 0, rfl, World.ownsRow_nil _ _ _ _, HB2.out⟩
end Od
end Go.Proofs.YtbllehjhmfehbaaGreat
end

section
/- The walk of matinsref20.SameJobs; two jobs compared. (bel2) -/
namespace Go.Proofs.YtbllehjhmfehbaaGreat
open Go.RowKit
set_option linter.unusedSimpArgs false
namespace Od
def jbEq (a b : Jb) : Bool := a == b
set_option maxRecDepth 100000 in
theorem jb_eq (s s' : Str) (t r d t' r' d' : Int) (w : World) : (Op.equalIn 10000 60 (jbV (s, t, r, d)) (jbV (s', t', r', d'))).run Tryz.prog w = .ok (jbEq (s, t, r, d) (s', t', r', d')) w := by
 show (Op.equalIn (9999 + 1) _ _ _).run _ w = _
 go_simp
 unfold jbEq
 by_cases h1 : s = s' <;> by_cases h2 : t = t' <;> by_cases h3 : r = r' <;> by_cases h4 : d = d' <;> simp [h1, h2, h3, h4]
theorem jb_eql (s s' : Str) (t r d t' r' d' : Int) (w : World) : (binOp .eql 60 (jbV (s, t, r, d)) (jbV (s', t', r', d'))).run Tryz.prog w = .ok (.bool (jbEq (s, t, r, d) (s', t', r', d'))) w := by
 rw [run_eql_struct, jb_eq]; rfl
theorem jb_neq (s s' : Str) (t r d t' r' d' : Int) (w : World) : (binOp .neq 60 (jbV (s, t, r, d)) (jbV (s', t', r', d'))).run Tryz.prog w = .ok (.bool (!jbEq (s, t, r, d) (s', t', r', d'))) w := by
 rw [run_neq_struct, jb_eq]; rfl
set_option maxRecDepth 100000 in
set_option maxHeartbeats 4000000 in
theorem SameJobs_any (A A' : Option Addr) (c c' : Nat) (xs ys : List Jb) (w : World) (hr : Rd w w.heap.size 4 A xs.length (jbsC xs)) (hr' : Rd w w.heap.size 4 A' ys.length (jbsC ys)) (hb : xs.length ≤ 1000000) :
  Calls Tryz.prog 30 #[.slice A xs.length c, .slice A' ys.length c'] w fun e w' => e = .returned (.bool (decide (xs = ys))) ∧ Below w.heap.size w w' := by
 have Hr := Lib.hid hr
 have Hr' := Lib.hid hr'
 have hq := jb_neq
 clear hr hr'
 by_cases hl : xs.length = ys.length
 ·have Hl := Lib.hid hl
  have hl1 : ((xs.length : Int) != (ys.length : Int)) = false := by simp [hl]
  clear hl
  go_enter Tryz.func30, Tryz.ntmps30
  go_wp2_with fail
  go_loopw [13] (fun i wr => ∃ k : Nat, k ≤ xs.length ∧ i = .int .i64 k ∧ Hid (∀ j (h1 : j < xs.length) (h2 : j < ys.length), j < k → xs[j] = ys[j]) ∧ Below w.heap.size w wr) (fun i _ => xs.length - (intOf i).toNat)
  case atStart => exact ⟨0, Nat.zero_le _, rfl, fun _ _ _ h => absurd h (by omega), Below.refl _ _⟩
  case round =>
   obtain ⟨k, hk, rfl, hall, hb⟩ := hrel
   have HB := Lib.hid hb
   replace Hr := Lib.hid (Hr.out.at hb)
   replace Hr' := Lib.hid (Hr'.out.at hb)
   clear hb
   by_cases hlt : k < xs.length
   ·have hlt' : k < ys.length := by have := Hl.out; omega
    obtain ⟨b, o, rfl, hB, x0, x1, x2, x3⟩ := Hr.out.job hlt
    obtain ⟨b', o', rfl, hB', y0, y1, y2, y3⟩ := Hr'.out.job hlt'
    generalize hx : xs[k] = x at x0 x1 x2 x3
    generalize hy : ys[k] = y at y0 y1 y2 y3
    obtain ⟨s, t, r, d⟩ := x
    obtain ⟨s', t', r', d'⟩ := y
    have Hx := Lib.hid hx
    have Hy := Lib.hid hy
    simp only at x0 x1 x2 x3 y0 y1 y2 y3
    clear hx hy
    have hk0 : (0 : Int) ≤ (k : Int) := by omega
    have hk1 : (k : Int) < (xs.length : Int) := by omega
    have hk2 : (k : Int) < (ys.length : Int) := by omega
    cases hne : jbEq (s, t, r, d) (s', t', r', d')
    ·have Hne := Lib.hid (show (s, t, r, d) ≠ (s', t', r', d') by simpa [jbEq] using hne)
     go_wp2_with fail
     try go_wp2_with fail
     refine wp_region_held_drew (S := fun w' => Below wr.heap.size wr w') (by kernel_rfl) (Below.drew (Below.refl _ _)) (fun hHeld => ?_)
     refine tV 0 ?_ ?zq ?_; (case zq => rintro _ -; go_simp; try with_reducible rfl); try simp only [Act.put, zn1, zn2, zn3]
     refine tV 1 ?_ ?zq ?_; (case zq => rintro _ -; go_simp; try with_reducible rfl); try simp only [Act.put, zn1, zn2, zn3]
     refine tV 2 ?_ ?zq ?_; (case zq => rintro _ -; go_simp; try with_reducible rfl); try simp only [Act.put, zn1, zn2, zn3]
     refine tV 3 ?_ ?zq ?_; (case zq => intro w' hSw; have hCell := fun (b o : Nat) (h : b < wr.heap.size) => hSw.cell (p := ⟨b, o, none⟩) h; clear hSw; go_simp; try with_reducible rfl); try simp only [Act.put, zn1, zn2, zn3]
     refine tV 4 ?_ ?zq ?_; (case zq => rintro _ -; go_simp; try with_reducible rfl); try simp only [Act.put, zn1, zn2, zn3]
     refine tV 5 ?_ ?zq ?_; (case zq => rintro _ -; go_simp; try with_reducible rfl); try simp only [Act.put, zn1, zn2, zn3]
     refine tV 6 ?_ ?zq ?_; (case zq => rintro _ -; go_simp; try with_reducible rfl); try simp only [Act.put, zn1, zn2, zn3]
     refine tV 7 ?_ ?zq ?_; (case zq => intro w' hSw; have hCell := fun (b o : Nat) (h : b < wr.heap.size) => hSw.cell (p := ⟨b, o, none⟩) h; clear hSw; go_simp; try with_reducible rfl); try simp only [Act.put, zn1, zn2, zn3]
     refine tV 8 ?_ ?zq ?_; (case zq => rintro _ -; go_simp; try with_reducible rfl); try simp only [Act.put, zn1, zn2, zn3]
     refine wpAnyH_done (by kernel_rfl) ?_ _
     go_wp2_with fail
     go_ret
     exact ⟨ret_bool (by
      have hd : xs[k] ≠ ys[k] := by rw [Hx.out, Hy.out]; exact Hne.out
      simp [at_ne hlt hlt' hd]), lift HB.out hHeld⟩
    ·have Hne := Lib.hid (show (s, t, r, d) = (s', t', r', d') by simpa [jbEq] using hne)
     go_wp2_with fail
     try go_wp2_with fail
     refine wp_region_held_drew (S := fun w' => Below wr.heap.size wr w') (by kernel_rfl) (Below.drew (Below.refl _ _)) (fun hHeld => ?_)
     refine tV 0 ?_ ?zq ?_; (case zq => rintro _ -; go_simp; try with_reducible rfl); try simp only [Act.put, zn1, zn2, zn3]
     refine tV 1 ?_ ?zq ?_; (case zq => rintro _ -; go_simp; try with_reducible rfl); try simp only [Act.put, zn1, zn2, zn3]
     refine tV 2 ?_ ?zq ?_; (case zq => rintro _ -; go_simp; try with_reducible rfl); try simp only [Act.put, zn1, zn2, zn3]
     refine tV 3 ?_ ?zq ?_; (case zq => intro w' hSw; have hCell := fun (b o : Nat) (h : b < wr.heap.size) => hSw.cell (p := ⟨b, o, none⟩) h; clear hSw; go_simp; try with_reducible rfl); try simp only [Act.put, zn1, zn2, zn3]
     refine tV 4 ?_ ?zq ?_; (case zq => rintro _ -; go_simp; try with_reducible rfl); try simp only [Act.put, zn1, zn2, zn3]
     refine tV 5 ?_ ?zq ?_; (case zq => rintro _ -; go_simp; try with_reducible rfl); try simp only [Act.put, zn1, zn2, zn3]
     refine tV 6 ?_ ?zq ?_; (case zq => rintro _ -; go_simp; try with_reducible rfl); try simp only [Act.put, zn1, zn2, zn3]
     refine tV 7 ?_ ?zq ?_; (case zq => intro w' hSw; have hCell := fun (b o : Nat) (h : b < wr.heap.size) => hSw.cell (p := ⟨b, o, none⟩) h; clear hSw; go_simp; try with_reducible rfl); try simp only [Act.put, zn1, zn2, zn3]
     refine tV 8 ?_ ?zq ?_; (case zq => rintro _ -; go_simp; try with_reducible rfl); try simp only [Act.put, zn1, zn2, zn3]
     refine wpAnyH_done (by kernel_rfl) ?_ _
     go_wp2_with fail
     go_roundw
     case rel => exact ⟨k + 1, by omega, by go_num, fun j h1 h2 h3 => by
      by_cases h : j < k
      ·exact hall.out j h1 h2 h
      ·obtain rfl : j = k := by omega
       rw [Hx.out, Hy.out]; exact Hne.out, lift HB.out hHeld⟩
     case measure => simp [intOf]; omega
   ·go_wp2_with fail
    go_ret
    exact ⟨ret_bool (by
     have : xs = ys := eq_of_at Hl.out fun j h1 h2 => hall.out j h1 h2 (by omega)
     simp [this]), HB.out⟩
 ·have hl1 : ((xs.length : Int) != (ys.length : Int)) = true := by rw [bne_iff_ne]; omega
  have Hl := Lib.hid hl
  clear hl
  go_enter Tryz.func30, Tryz.ntmps30
  go_wp2
  go_ret
  exact ⟨ret_bool (by
   have : ¬ xs = ys := fun e => Hl.out (by rw [e])
   simp [this]), Below.refl _ _⟩
end Od
end Go.Proofs.YtbllehjhmfehbaaGreat
end

section
/- A transaction, as the kernel can compute it: rows sorted by putting in. No program. -/
namespace Go.Proofs.YtbllehjhmfehbaaGreat
set_option linter.unusedSimpArgs false
namespace Od
def outC (es : List Ed) (u : Str) (r : Int) : List Str := canon ltS (outRaw es u r)
def inwC (es : List Ed) (u : Str) (r : Int) : List Str := canon ltS (inwRaw es u r)
theorem outS_C (es : List Ed) (u : Str) (r : Int) : outS es u r = outC es u r := onceS_canon _
theorem inwS_C (es : List Ed) (u : Str) (r : Int) : inwS es u r = inwC es u r := onceS_canon _
def startC (es : List Ed) (u : Str) : List Bg := eachB (outC es u 1) 1 true ++ (eachB (outC es u 4) 1 true ++ (eachB (outC es u 2) 1 false ++ (eachB (outC es u 6) 2 true ++ eachB (inwC es u 6) 2 true)))
def backC (es : List Ed) (up half : List Str) (u : Str) (t : Int) : List Bg := (eachB (inwC es u 1) t true ++ (eachB (inwC es u 4) t true ++ eachB (inwC es u 5) t true)).filter (fun b => upB up half b.1.1)
def bringC (es : List Ed) (up half : List Str) (j : Jp) : List Bg :=
 if j.2 = 1 then startC es j.1 else if j.2 = 2 then backC es up half j.1 2 else if j.2 = 3 then startC es j.1 ++ backC es up half j.1 3 else []
theorem bring_C (es : List Ed) (up half : List Str) : bringB es up half = bringC es up half := by
 funext j
 unfold bringB bringC startB startC backB backA backC
 simp only [outS_C, inwS_C]
def pullC (ns : List Nd) (es : List Ed) (up half : List Str) (first : Jp) (wo : List Pl) : List Pl :=
 if asksB ns first = true then (canon ltJ (keysP (layP (bringC es up half) (outB wo) (6 * es.length + 1) [(first, [])] [first]))).map (plOf (layP (bringC es up half) (outB wo) (6 * es.length + 1) [(first, [])] [first]) (layP (needJ (bringC es up half)) (outB wo) (6 * es.length + 1) [(first, [])] [first])) else []
theorem pull_C (ns : List Nd) (es : List Ed) (up half : List Str) (first : Jp) : pullQ ns es up half first = pullC ns es up half first := by
 funext wo
 unfold pullQ allP pullM needM pullC
 rw [bring_C]
def missC (es : List Ed) (up : List Str) (l : List Pl) (u : Str) : Bool := (outC es u 3).any (missU up l 3) || ((outC es u 1).any (missU up l 1) || (outC es u 4).any (missU up l 4))
def lackC (es : List Ed) (up : List Str) (l : List Pl) (p : Pl) : Bool := beginsP p && missC es up l p.1
theorem lack_C (es : List Ed) (up : List Str) (l : List Pl) : lackP es up l = lackC es up l := by
 funext p
 unfold lackP lackC missP missC
 simp only [outS_C]
def badC (ns : List Nd) (es : List Ed) (up : List Str) (l : List Pl) : Option (Pl × Int) := match l.find? (sickP ns) with
 | some p => some (p, sickE ns p.1)
 | none => match l.find? (lackC es up l) with
  | some p => some (p, 19)
  | none => match clashOf l with
   | some p => some (p, 18)
   | none => none
theorem bad_C (ns : List Nd) (es : List Ed) (up : List Str) : badP ns es up = badC ns es up := by
 funext l
 unfold badP badC
 rw [lack_C]
 cases l.find? (sickP ns) <;> cases l.find? (lackC es up l) <;> cases clashOf l <;> rfl
def goG (Q : List Pl → List Pl) (B : List Pl → Option (Pl × Int)) : Nat → List Pl → Tr
 | 0, gone => ⟨0, [], gone⟩
 | n + 1, gone => match B (Q gone) with
  | none => ⟨0, Q gone, gone⟩
  | some (p, e) => if p.2.2.1 = true then ⟨e, [], []⟩ else goG Q B n (gone ++ [p])
theorem go_G (ns : List Nd) (es : List Ed) (up half : List Str) (first : Jp) : ∀ (n : Nat) (gone : List Pl), goT ns es up half first n gone = goG (pullQ ns es up half first) (badP ns es up) n gone
 | 0, _ => rfl
 | n + 1, gone => by
  show (match badP ns es up (pullQ ns es up half first gone) with | none => _ | some (p, e) => _) = (match badP ns es up (pullQ ns es up half first gone) with | none => _ | some (p, e) => _)
  cases badP ns es up (pullQ ns es up half first gone) with
  | none => rfl
  | some pe =>
   obtain ⟨p, e⟩ := pe
   simp only
   rw [go_G ns es up half first n (gone ++ [p])]
def madeC (ns : List Nd) (es : List Ed) (up half : List Str) (first : Jp) : Tr := if wrongT ns es up first = 0 then goG (pullC ns es up half first) (badC ns es up) (fuelT es) [] else ⟨wrongT ns es up first, [], []⟩
theorem made_C (ns : List Nd) (es : List Ed) (up half : List Str) (first : Jp) : madeT ns es up half first = madeC ns es up half first := by
 unfold madeT madeC
 rw [go_G, pull_C, bad_C]
end Od
end Go.Proofs.YtbllehjhmfehbaaGreat
end
